/-
  Contracts of package turns: lists, possible, rank, hands, valid.
-/
import Derived.Test.YtkdfbbkonbgfmaaLib
import Derived.Deep.LoopGhost
namespace Go.Proofs.Ytkdfbbkonbgfmaa
open Go.RowKit

def rowAt (xss : List (List Int)) (i : Int) : List Int := xss.getD i.toNat []
def possB (p : PlanD) (h s : Int) : Bool := hasI (rowAt p.hands h) s && hasI (rowAt p.shifts s) h

/-- A row of a slice of slices, found and read, in every later world. -/
theorem Rows2.at {w : World} {ao : Option Addr} {n cap : Nat} {xss : List (List Int)} (h : Rows2 w (.slice ao n cap) xss) (i : Int) (h0 : 0 ≤ i) (h1 : i < xss.length) :
    ∃ b off ar cr, ao = some ⟨b, off, none⟩ ∧ (∀ w', Ext w w' → w'.cell? ⟨b, off + i.toNat, none⟩ = some (.slice ar (rowAt xss i).length cr)) ∧ Ints w (.slice ar (rowAt xss i).length cr) (rowAt xss i) := by
  obtain ⟨hl, ao', cap', he, hcap, hc⟩ := h
  simp only [Value.slice.injEq] at he
  obtain ⟨rfl, rfl, rfl⟩ := he
  obtain ⟨b, off, u, ha, hcell, hu⟩ := hc i.toNat (by omega)
  have hr : xss[i.toNat]'(by omega) = rowAt xss i := by unfold rowAt; rw [List.getD_eq_getElem?_getD, List.getElem?_eq_getElem (by omega)]; rfl
  rw [hr] at hu
  obtain ⟨hl', ar, cr, rfl, r⟩ := hu
  exact ⟨b, off, ar, cr, ha, fun w' e => e.cell hcell, hl', ar, cr, rfl, r⟩

set_option maxHeartbeats 400000 in
theorem possible_any (vh vs vp : Value) (p : PlanD) (h s : Int) (w : World) (hp : PlanR w vh vs vp p) (h0 : 0 ≤ h) (h1 : h < p.hands.length) (s0 : 0 ≤ s) (s1 : s < p.shifts.length) :
    Calls Try.prog 100 #[.agg #[vh, vs, vp], .int .i64 h, .int .i64 s] w fun e w' => e = .returned (.bool (possB p h s)) ∧ Ext w w' := by
  obtain ⟨hh, hs, hpp⟩ := hp
  obtain ⟨hlh, aoh, caph, rfl, hch, hhc⟩ := id hh
  obtain ⟨hls, aos, caps, rfl, hcs, hsc⟩ := id hs
  obtain ⟨bh, oh, arh, crh, rfl, cellh, inth⟩ := hh.at h h0 h1
  obtain ⟨bs, os, ars, crs, rfl, cells, ints⟩ := hs.at s s0 s1
  have ch := cellh _ (Ext.refl w)
  have cs := cells _ (Ext.refl w)
  have hbh := World.block_lt_of_cell? _ _ ch
  have hbs := World.block_lt_of_cell? _ _ cs
  have Inth := hid inth
  have Ints := hid ints
  clear hhc hsc hh hs cellh cells inth ints hpp hch hcs
  cases hb : hasI (rowAt p.hands h) s
  · have hf : possB p h s = false := by unfold possB; rw [hb]; rfl
    have Hf := hid hf
    clear hf
    go_enter Try.func100, Try.ntmps100
    go_wp2_with (go_at_call 90; go_must (refine (Contains_any _ _ s _ (Inth.out.ext (Ext.ofAlloc _ _))).mono ?_); rintro e w' ⟨rfl, rfl⟩)
    go_ret
    exact ⟨ret_bool Hf.out.symm, Ext.ofAlloc _ _⟩
  · have hf : possB p h s = hasI (rowAt p.shifts s) h := by unfold possB; rw [hb]; rfl
    have Hf := hid hf
    clear hf
    go_enter Try.func100, Try.ntmps100
    go_wp2_with (fail)
    refine (Contains_any _ (rowAt p.hands h) s _ (Inth.out.ext (Ext.ofAlloc _ _))).mono ?_
    rintro e w' ⟨rfl, rfl⟩
    go_wp2_with (fail)
    refine (Contains_any _ (rowAt p.shifts s) h _ (Ints.out.ext (Ext.ofAlloc _ _))).mono ?_
    rintro e w' ⟨rfl, rfl⟩
    go_wp2
    go_ret
    exact ⟨ret_bool Hf.out.symm, Ext.ofAlloc _ _⟩

/-- A list of different numbers from 0 to n - 1. -/
def rowOk (n : Int) (r : List Int) : Bool := decide ((∀ x ∈ r, 0 ≤ x ∧ x < n) ∧ r.Nodup)
def listsOk (xss : List (List Int)) (n : Int) : Bool := xss.all (rowOk n)

theorem rowOk_iff {n : Int} {r : List Int} : rowOk n r = true ↔ (∀ x ∈ r, 0 ≤ x ∧ x < n) ∧ r.Nodup := by unfold rowOk; exact decide_eq_true_iff
theorem rowOk_take {n : Int} {r : List Int} {k : Nat} (h : rowOk n r = true) : rowOk n (r.take k) = true := by
  rw [rowOk_iff] at *
  exact ⟨fun x hx => h.1 x (List.mem_of_mem_take hx), h.2.sublist (List.take_sublist k r)⟩
theorem rowOk_succ {n : Int} {r : List Int} {k : Nat} (hk : k < r.length) (h : rowOk n (r.take k) = true) (h0 : 0 ≤ r[k]) (h1 : r[k] < n) (hn : hasI (r.take k) r[k] = false) : rowOk n (r.take (k + 1)) = true := by
  rw [rowOk_iff] at *
  rw [List.take_succ_eq_append_getElem hk]
  refine ⟨fun x hx => ?_, ?_⟩
  · rcases List.mem_append.1 hx with hx | hx
    · exact h.1 x hx
    · rw [List.mem_singleton.1 hx]; exact ⟨h0, h1⟩
  · rw [List.nodup_append]
    refine ⟨h.2, by simp, fun a ha b hb => ?_⟩
    rw [List.mem_singleton.1 hb]
    rintro rfl
    unfold hasI at hn
    have := List.contains_iff_mem.2 ha
    rw [hn] at this; simp at this
theorem rowOk_bad_lo {n : Int} {r : List Int} {k : Nat} (hk : k < r.length) (h0 : r[k] < 0) : rowOk n r = false := by
  cases h : rowOk n r
  · rfl
  · have := (rowOk_iff.1 h).1 _ (List.getElem_mem hk); omega
theorem rowOk_bad_hi {n : Int} {r : List Int} {k : Nat} (hk : k < r.length) (h0 : n ≤ r[k]) : rowOk n r = false := by
  cases h : rowOk n r
  · rfl
  · have := (rowOk_iff.1 h).1 _ (List.getElem_mem hk); omega
theorem rowOk_bad_dup {n : Int} {r : List Int} {k : Nat} (hk : k < r.length) (h0 : hasI (r.take k) r[k] = true) : rowOk n r = false := by
  cases h : rowOk n r
  · rfl
  · have hm : r[k] ∈ r.take k := List.contains_iff_mem.1 h0
    have hs : rowOk n (r.take (k + 1)) = true := rowOk_take h
    rw [rowOk_iff, List.take_succ_eq_append_getElem hk, List.nodup_append] at hs
    exact absurd rfl (hs.2.2.2 _ hm _ (List.mem_singleton.2 rfl))
theorem listsOk_bad {xss : List (List Int)} {n : Int} {k : Nat} (hk : k < xss.length) (h : rowOk n xss[k] = false) : listsOk xss n = false := by
  cases hb : listsOk xss n
  · rfl
  · unfold listsOk at hb; rw [List.all_eq_true] at hb; have := hb _ (List.getElem_mem hk); rw [h] at this; simp at this
theorem all_succ {xss : List (List Int)} {n : Int} {k : Nat} (hk : k < xss.length) (h : listsOk (xss.take k) n = true) (hr : rowOk n xss[k] = true) : listsOk (xss.take (k + 1)) n = true := by
  unfold listsOk at *
  rw [List.take_succ_eq_append_getElem hk, List.all_append, h]; simp [hr]

set_option maxHeartbeats 1000000 in
theorem lists_any (v : Value) (xss : List (List Int)) (n : Int) (w : World) (hv : Rows2 w v xss) :
    Calls Try.prog 98 #[v, .int .i64 n] w fun e w' => e = .returned (.bool (listsOk xss n)) ∧ w = w' := by
  obtain ⟨hl, ao, cap, rfl, hcap, hc⟩ := hv
  go_enter Try.func98, Try.ntmps98
  go_wp2
  go_loopg [11] xss.length (fun g i wr => ∃ k : Nat, k + g = xss.length ∧ i = .int .i64 k ∧ w = wr ∧ listsOk (xss.take k) n = true)
  case atStart => exact ⟨0, by omega, rfl, rfl, rfl⟩
  case round =>
    obtain ⟨k, hk, rfl, rfl, hok⟩ := hrel
    have Hok := hid hok
    have hkl : k ≤ xss.length := by omega
    have Hk := hid hk
    clear hok hk
    by_cases hlt : k < xss.length
    · obtain ⟨b, off, u, rfl, hcell, hu⟩ := hc k hlt
      obtain ⟨r, hr⟩ : ∃ r, r = xss[k] := ⟨_, rfl⟩
      rw [← hr] at hu
      have Hr := hid hr
      clear hr
      obtain ⟨hlr, ar, cr, rfl, hcr, hcellr⟩ := id hu
      have Hu := hid hu
      clear hu
      go_wp2
      go_loopg [17] r.length (fun g i wr => ∃ j : Nat, j + g = r.length ∧ i = .int .i64 j ∧ w = wr ∧ rowOk n (r.take j) = true)
      case atStart => exact ⟨0, by omega, rfl, rfl, by simp [rowOk]⟩
      case round =>
        obtain ⟨j, hj, rfl, rfl, hrow⟩ := hrel
        have Hrow := hid hrow
        have hjl : j ≤ r.length := by omega
        have Hj := hid hj
        clear hrow hj
        by_cases hjlt : j < r.length
        · obtain ⟨br, offr, rfl, hcr2⟩ := hcellr j hjlt
          by_cases h0 : r[j] < 0
          · have Hf := hid (listsOk_bad hlt (by rw [← Hr.out]; exact rowOk_bad_lo (n := n) hjlt h0))
            go_wp2
            go_ret
            exact ⟨ret_bool Hf.out.symm, rfl⟩
          · by_cases h1 : n ≤ r[j]
            · have Hf := hid (listsOk_bad hlt (by rw [← Hr.out]; exact rowOk_bad_hi (n := n) hjlt h1))
              go_wp2
              go_ret
              exact ⟨ret_bool Hf.out.symm, rfl⟩
            · cases hb : hasI (r.take j) r[j]
              · have Hs := hid (rowOk_succ (n := n) hjlt Hrow.out (by omega) (by omega) hb)
                go_wp2_with (go_at_call 90; refine (Contains_any _ (r.take j) r[j] _ (Hu.out.take hjl)).mono ?_; rintro e w' ⟨rfl, rfl⟩)
                go_roundg (gk - 1)
                case rel => exact ⟨j + 1, by have := Hj.out; omega, by go_num, rfl, Hs.out⟩
                case measure => have := Hj.out; omega
              · have Hf := hid (listsOk_bad hlt (by rw [← Hr.out]; exact rowOk_bad_dup (n := n) hjlt hb))
                go_wp2_with (go_at_call 90; refine (Contains_any _ (r.take j) r[j] _ (Hu.out.take hjl)).mono ?_; rintro e w' ⟨rfl, rfl⟩)
                go_ret
                exact ⟨ret_bool Hf.out.symm, rfl⟩
        · have Hs := hid (all_succ (n := n) hlt Hok.out (by rw [← Hr.out]; have := Hrow.out; rwa [List.take_of_length_le (by omega)] at this))
          go_wp2
          go_roundg (xss.length - (k + 1))
          case rel => exact ⟨k + 1, by omega, by go_num, rfl, Hs.out⟩
          case measure => have := Hk.out; omega
    · have Hf := hid (show listsOk xss n = true by have := Hok.out; rwa [List.take_of_length_le (by omega)] at this)
      go_wp2
      go_ret
      exact ⟨ret_bool Hf.out.symm, rfl⟩

/-- The place of x in l; the length: it is not there. -/
def rankP (l : List Int) (x : Int) : Int := if x ∈ l then (l.idxOf x : Int) else l.length
theorem rankP_yes {l : List Int} {x : Int} (h : 0 ≤ rankI l x) : rankP l x = rankI l x := by unfold rankP rankI at *; split <;> simp_all
theorem rankP_no {l : List Int} {x : Int} (h : ¬ 0 ≤ rankI l x) : rankP l x = l.length := by
  unfold rankP rankI at *
  by_cases hx : x ∈ l <;> simp_all

set_option maxHeartbeats 400000 in
theorem rank_any (v : Value) (l : List Int) (x : Int) (w : World) (hv : Ints w v l) :
    Calls Try.prog 80 #[v, .int .i64 x] w fun e w' => e = .returned (.int .i64 (rankP l x)) ∧ w = w' := by
  obtain ⟨hl, ao, cap, rfl, hcap, hc⟩ := id hv
  have Hv := hid hv
  clear hv hc
  by_cases h : 0 ≤ rankI l x
  · have Hr := hid (rankP_yes h)
    go_enter Try.func80, Try.ntmps80
    go_wp2_with (go_at_call 56; refine (Index_any _ l x _ Hv.out).mono ?_; rintro e w' ⟨rfl, rfl⟩)
    go_ret
    exact ⟨ret_int Hr.out.symm, rfl⟩
  · have Hr := hid (rankP_no h)
    go_enter Try.func80, Try.ntmps80
    go_wp2_with (go_at_call 56; refine (Index_any _ l x _ Hv.out).mono ?_; rintro e w' ⟨rfl, rfl⟩)
    go_ret
    exact ⟨ret_int Hr.out.symm, rfl⟩

/-- The hands of a shift, the best first. -/
def intAt (m : List Int) (i : Int) : Int := m.getD i.toNat (-2)
def handsI (l : List Int) (m : List Int) (s : Int) : List Int := l.filter (fun h => intAt m h == s)

theorem Ints.at {w : World} {ao : Option Addr} {n cap : Nat} {xs : List Int} (h : Ints w (.slice ao n cap) xs) (i : Int) (h0 : 0 ≤ i) (h1 : i < xs.length) :
    ∃ b off, ao = some ⟨b, off, none⟩ ∧ (∀ w', Ext w w' → w'.cell? ⟨b, off + i.toNat, none⟩ = some (.int .i64 (intAt xs i))) := by
  obtain ⟨hl, ao', cap', he, hcap, hc⟩ := h
  simp only [Value.slice.injEq] at he
  obtain ⟨rfl, rfl, rfl⟩ := he
  obtain ⟨b, off, ha, hcell⟩ := hc i.toNat (by omega)
  have hr : xs[i.toNat]'(by omega) = intAt xs i := by unfold intAt; rw [List.getD_eq_getElem?_getD, List.getElem?_eq_getElem (by omega)]; rfl
  rw [hr] at hcell
  exact ⟨b, off, ha, fun w' e => e.cell hcell⟩

theorem handsI_hit {l m : List Int} {s : Int} {k : Nat} (hk : k < l.length) (h : intAt m l[k] = s) : handsI (l.take (k + 1)) m s = handsI (l.take k) m s ++ [l[k]] := by
  unfold handsI
  rw [List.take_succ_eq_append_getElem hk, List.filter_append]; simp [h]
theorem handsI_miss {l m : List Int} {s : Int} {k : Nat} (hk : k < l.length) (h : ¬ intAt m l[k] = s) : handsI (l.take (k + 1)) m s = handsI (l.take k) m s := by
  unfold handsI
  rw [List.take_succ_eq_append_getElem hk, List.filter_append]; simp [h]
theorem handsI_le (l m : List Int) (s : Int) (k : Nat) : (handsI (l.take k) m s).length ≤ k := by
  unfold handsI
  exact Nat.le_trans (List.length_filter_le _ _) (List.length_take_le _ _)

set_option maxHeartbeats 1000000 in
theorem hands_any (vh vs vp vm : Value) (p : PlanD) (m : List Int) (s : Int) (w : World) (hp : PlanR w vh vs vp p) (hm : Ints w vm m) (s0 : 0 ≤ s) (s1 : s < p.shifts.length)
    (hrow : ∀ x ∈ rowAt p.shifts s, 0 ≤ x ∧ x < m.length) :
    Calls Try.prog 82 #[.agg #[vh, vs, vp], vm, .int .i64 s] w fun e w' => ∃ u, e = .returned u ∧ OwnI w.heap.size w' u (handsI (rowAt p.shifts s) m s) ∧ Ext w w' := by
  obtain ⟨-, hs, -⟩ := hp
  obtain ⟨hls, aos, caps, rfl, hcs, hsc⟩ := id hs
  obtain ⟨bs, os, ars, crs, rfl, cells, ints⟩ := hs.at s s0 s1
  obtain ⟨hlm, am, cm, rfl, hcm, hmc⟩ := id hm
  have cs := cells _ (Ext.refl w)
  have hbs := World.block_lt_of_cell? _ _ cs
  obtain ⟨hlr, ars', crs', hee, hcr, hrc⟩ := id ints
  simp only [Value.slice.injEq, true_and] at hee
  obtain ⟨rfl, rfl⟩ := hee
  clear hsc hs cells hcs
  generalize rowAt p.shifts s = l at *
  obtain ⟨i0, hi, hz0, hz1, hz2⟩ := info_parts info_int
  have e0 : Ext w (w.alloc (.cells #[vh, .slice (some ⟨bs, os, none⟩) p.shifts.length caps, vp] 29)) := Ext.ofAlloc _ _
  go_enter Try.func82, Try.ntmps82
  go_wp2
  go_loopg [16, 7] l.length (fun g i v wr => ∃ k : Nat, k + g = l.length ∧ i = .int .i64 k ∧ OwnI (w.heap.size + 1) wr v (handsI (l.take k) m s) ∧ Ext (w.alloc (.cells #[vh, .slice (some ⟨bs, os, none⟩) p.shifts.length caps, vp] 29)) wr)
  case atStart => exact ⟨0, by omega, rfl, World.ownsRow_nil _ _ _ _, Ext.refl _⟩
  case round =>
    obtain ⟨k, hk, rfl, hown, hex⟩ := hrel
    have Hk := hid hk
    have hkl : k ≤ l.length := by omega
    have Hown := hid hown
    have Hex := hid hex
    have hsz := hex.size
    simp only [World.size_alloc] at hsz
    clear hown hex hk
    by_cases hlt : k < l.length
    · obtain ⟨br, offr, rfl, hcr2⟩ := hrc k hlt
      have hx := hrow _ (List.getElem_mem hlt)
      obtain ⟨bm, om, hAm, hcm2⟩ := hm.at l[k] hx.1 hx.2
      subst hAm
      have hx1 := hx.1
      have hx2 := hx.2
      have c1 := (e0.trans Hex.out).cell hcr2
      have c2 := hcm2 _ (e0.trans Hex.out)
      have hle := handsI_le l m s k
      by_cases he : intAt m l[k] = s
      · have he' : (intAt m l[k] == s) = true := by simpa using he
        have Hs := hid (handsI_hit hlt he)
        clear he
        go_wp2_with (at_builtin; refine wpList_append_own _ rfl _ _ 23 rfl (w.heap.size + 1) 3 i0 (.int .i64 0) 1 8 Try.underlying23 hi hz0 hz1 hz2 rfl (by decide) _ _ _ rfl (Hown.out.alloc _) ⟨wr.heap.size, 0, none⟩ 1 1 [.int .i64 l[k]] rfl rfl ?c1 ?c2 ?c3 ?c4 ?c5 ?_)
        case c1 => exact cell_one_new _ _ _
        case c2 => intro u hu; simp at hu; subst hu; rfl
        case c3 => unfold maxLen; omega
        case c4 => omega
        case c5 => simp; omega
        intro v' w' hown' hg _
        have hR := OwnI.push rfl hown'
        rw [← Hs.out] at hR
        have hE := Ext.push Hex.out Hown.out (by simp) hg
        have HR := hid hR
        have HE := hid hE
        clear hown' hg hR hE
        go_wp2
        go_roundg (gk - 1)
        case rel => exact ⟨k + 1, by have := Hk.out; omega, by go_num, HR.out, HE.out⟩
        case measure => have := Hk.out; omega
      · have he' : (intAt m l[k] == s) = false := by simpa using he
        have Hs := hid (handsI_miss hlt he)
        clear he
        go_wp2
        go_roundg (gk - 1)
        case rel => exact ⟨k + 1, by have := Hk.out; omega, by go_num, by rw [Hs.out]; exact Hown.out, Hex.out⟩
        case measure => have := Hk.out; omega
    · have Hs := hid (show handsI (l.take k) m s = handsI l m s by rw [List.take_of_length_le (by omega)])
      go_wp2
      go_ret
      exact ⟨_, rfl, by rw [← Hs.out]; exact ownsRow_base Hown.out (Nat.le_succ _), e0.trans Hex.out⟩

end Go.Proofs.Ytkdfbbkonbgfmaa
