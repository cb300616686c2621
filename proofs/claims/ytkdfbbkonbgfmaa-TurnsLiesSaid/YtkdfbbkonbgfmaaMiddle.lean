/-
  Contracts of turns.Middle.
-/
import Derived.Test.YtkdfbbkonbgfmaaStableTop
import Derived.Test.YtkdfbbkonbgfmaaSortBy
import Derived.Maps.AppendAt
namespace Go.Proofs.Ytkdfbbkonbgfmaa
open Go.RowKit
open Mkt (Stable)

/-- Two rows of the call's own lie apart. -/
def Away (v u : Value) : Prop := ∀ g, v.ownBlock = some g → u.ownBlock ≠ some g
theorem Away.symm {v u : Value} (h : Away v u) : Away u v := fun g hu hv => h g hv hu
theorem kept_away {B e sz n : Nat} {w w' : World} {v u : Value} {xs : List Value} (h : w.ownsRow B e sz u n xs) (ha : Away v u) (hg : w.grownBy w' v.ownBlock) : w'.ownsRow B e sz u n xs := by
  refine World.ownsRow.kept h hg ?_
  cases hu : u.ownBlock with
  | none => exact .inl rfl
  | some g => exact .inr (fun e => ha g e.symm hu)
theorem away_push {B e sz n : Nat} {w : World} {v v' u : Value} {xs : List Value} (h : w.ownsRow B e sz u n xs) (ha : Away v u) (hat : v'.ownBlock = v.ownBlock ∨ v'.ownBlock = some (w.heap.size + 1)) : Away v' u := by
  intro g hv hu
  rcases hat with e | e
  · exact ha g (e ▸ hv) hu
  · rw [e] at hv
    have := (h.lt g hu).2
    simp only [Option.some.injEq] at hv
    omega

/-- What a hand has in some matchings. -/
def colTo (L : List (List Int)) (h k : Nat) : List Int := (L.take k).map (fun q => fn q h)
theorem colTo_succ {L : List (List Int)} {h k : Nat} (hk : k < L.length) : colTo L h (k + 1) = colTo L h k ++ [fn (rowAt L k) h] := by
  have e : rowAt L k = L[k] := by unfold rowAt; rw [Int.toNat_natCast, List.getD_eq_getElem?_getD, List.getElem?_eq_getElem hk]; rfl
  unfold colTo; rw [List.take_succ_eq_append_getElem hk, List.map_append, e]; rfl
theorem colTo_len {L : List (List Int)} {h k : Nat} : (colTo L h k).length ≤ k := by unfold colTo; rw [List.length_map, List.length_take]; omega
theorem colTo_all {L : List (List Int)} {h : Nat} : colTo L h L.length = L.map (fun q => fn q h) := by unfold colTo; rw [List.take_of_length_le (Nat.le_refl _)]

/-- For a hand: the j-th best of what they have in the matchings of a list. -/
def MidV (p : PlanD) (L : List (List Int)) (j h : Nat) (x : Int) : Prop :=
  (∃ q ∈ L, x = fn q h) ∧ rankP (rowAt p.hands h) x = nth (srt (L.map (fun q => rankP (rowAt p.hands h) (fn q h)))) j
/-- For all hands. -/
structure MidL (p : PlanD) (L : List (List Int)) (j : Nat) (m : List Int) : Prop where
  len : m.length = p.hands.length
  val : ∀ h, h < p.hands.length → MidV p L j h (fn m h)

theorem MidL.unique {p : PlanD} {hp : PlanOk p} {j : Nat} {a b : List Int} (ha : MidL p (stAll p hp) j a) (hb : MidL p (stAll p hp) j b) : a = b := by
  refine fn_ext (by rw [ha.len, hb.len]) fun x hx => ?_
  have hx' : x < p.hands.length := by rw [← ha.len]; exact hx
  obtain ⟨⟨q, hq, e1⟩, r1⟩ := ha.val x hx'
  obtain ⟨⟨q', hq', e2⟩, r2⟩ := hb.val x hx'
  rw [e1, e2]
  refine Mkt.Matching.inj (M := mkt p hp) (mem_stAll.1 hq).2.m.ok (mem_stAll.1 hq').2.m.ok hx' ?_
  show rankP _ _ = rankP _ _
  rw [← e1, ← e2, r1, r2]
theorem MidL.mem {p : PlanD} {hp : PlanOk p} {j : Nat} {m : List Int} (hm : MidL p (stAll p hp) j m) (hj : j < (stAll p hp).length) : m ∈ stAll p hp :=
  mid_mem hj hm.len (fun h hh => (hm.val h hh).1) (fun h hh => (hm.val h hh).2)

/-- The j-th of a list that is sorted by ranks. -/
theorem midV_of {p : PlanD} {L : List (List Int)} {h j : Nat} {ys : List Int} (hp : ys.Perm (L.map (fun q => fn q h))) (hs : ys.Pairwise (fun x y => rankP (rowAt p.hands h) x ≤ rankP (rowAt p.hands h) y)) (hj : j < L.length) : MidV p L j h (fn ys j) := by
  have hl : ys.length = L.length := by rw [hp.length_eq, List.length_map]
  have hjy : j < ys.length := by omega
  rw [fn_get hjy]
  refine ⟨?_, ?_⟩
  · have := hp.mem_iff.1 (List.getElem_mem hjy)
    obtain ⟨q, hq, e⟩ := List.mem_map.1 this
    exact ⟨q, hq, e.symm⟩
  · have h1 : (ys.map (rankP (rowAt p.hands h))) = srt (L.map (fun q => rankP (rowAt p.hands h) (fn q h))) := by
      refine srt_unique ?_ ?_
      · rw [List.pairwise_map]; exact hs
      · have := hp.map (rankP (rowAt p.hands h))
        rwa [List.map_map] at this
    rw [← h1, nth_get (by rw [List.length_map]; exact hjy), List.getElem_map]

set_option maxHeartbeats 1000000 in
theorem Middle_bad (vh vs vp : Value) (p : PlanD) (k : Int) (w : World) (hp : PlanR w vh vs vp p) (hb : planOk p = false) :
    Calls Try.prog 46 #[.agg #[vh, vs, vp], .int .i64 k] w fun e w' => e = .returned (.tuple #[.slice none 0 0, .int .i64 2]) ∧ Ext w w' := by
  obtain ⟨aoh, caph, aos, caps, aop, capp, rfl, rfl, rfl⟩ := planR_shape hp
  have HP := hid hp
  clear hp
  go_enter Try.func46, Try.ntmps46
  go_wp2_with (fail)
  refine (valid_any _ _ _ p _ (HP.out.ext (Ext.ofAlloc _ _))).mono ?_
  rw [hb]
  rintro e w1 ⟨rfl, he⟩
  have HE := hid ((Ext.ofAlloc w _).trans he)
  clear he
  go_wp2
  go_ret2
  exact ⟨rfl, HE.out⟩

set_option maxHeartbeats 1000000 in
theorem Middle_arg (vh vs vp : Value) (p : PlanD) (hok : PlanOk p) (k : Int) (w : World) (hp : PlanR w vh vs vp p) (hk : k < 1 ∨ ((stAll p hok).length : Int) < k) :
    Calls Try.prog 46 #[.agg #[vh, vs, vp], .int .i64 k] w fun e w' => e = .returned (.tuple #[.slice none 0 0, .int .i64 2]) ∧ Ext w w' := by
  obtain ⟨aoh, caph, aos, caps, aop, capp, rfl, rfl, rfl⟩ := planR_shape hp
  have HP := hid hp
  have hb : planOk p = true := planOk_iff.2 hok
  have X0 := hid (Box3.alloc w 29 (.slice aoh p.hands.length caph) (.slice aos p.shifts.length caps) (.slice aop p.places.length capp))
  clear hp
  go_enter Try.func46, Try.ntmps46
  go_wp2_with (fail)
  refine (valid_any _ _ _ p _ (HP.out.ext (Ext.ofAlloc _ _))).mono ?_
  rw [hb]
  rintro e w1 ⟨rfl, he⟩
  have HE := hid ((Ext.ofAlloc w _).trans he)
  obtain ⟨c0, c1, c2⟩ := (X0.out.ext he).cells
  clear he hb
  go_wp2_with (fail)
  refine (stable_any _ _ _ p hok _ (HP.out.ext HE.out)).mono ?_
  rintro e w2 ⟨ul, rfl, hul, he2⟩
  have HE2 := hid (HE.out.trans he2)
  have hr := hul.rows2 (Nat.le_trans stAll_le (by decide))
  obtain ⟨-, aol, capl, rfl, -⟩ := id hr
  clear he2 hul hr c0 c1 c2
  generalize (stAll p hok).length = N at *
  by_cases h1 : k < 1
  · clear hk
    go_wp2
    go_ret2
    exact ⟨rfl, HE2.out⟩
  · have h2 : (N : Int) < k := by omega
    clear hk
    go_wp2
    go_ret2
    exact ⟨rfl, HE2.out⟩

set_option maxRecDepth 20000 in
set_option maxHeartbeats 4000000 in
theorem Middle_ok (vh vs vp : Value) (p : PlanD) (hok : PlanOk p) (k : Int) (w : World) (hp : PlanR w vh vs vp p) (hk1 : 1 ≤ k) (hk2 : k ≤ ((stAll p hok).length : Int)) :
    Calls Try.prog 46 #[.agg #[vh, vs, vp], .int .i64 k] w fun e w' => ∃ u m, e = .returned (.tuple #[u, .int .i64 0]) ∧ OwnI w.heap.size w' u m ∧ MidL p (stAll p hok) (k - 1).toNat m ∧ Ext w w' := by
  obtain ⟨aoh, caph, aos, caps, aop, capp, rfl, rfl, rfl⟩ := planR_shape hp
  have HP := hid hp
  have hb : planOk p = true := planOk_iff.2 hok
  have hn1 := hok.h1
  have hn6 := hok.h6
  have hs4 := hok.s4
  have Hok := hid hok
  obtain ⟨bh, oh, -, -, rfl, -, -⟩ := hp.1.at 0 (by omega) (by omega)
  have X0 := hid (Box3.alloc w 29 (.slice (some ⟨bh, oh, none⟩) p.hands.length caph) (.slice aos p.shifts.length caps) (.slice aop p.places.length capp))
  have hmf : ∀ (fn : Fn) (first cap : Array Value) (w : World), (Instr.makeFunc fn first cap).run Try.prog w = .ok (.func fn first cap) w := fun _ _ _ _ => rfl
  obtain ⟨i0, hi, hz0, hz1, hz2⟩ := info_parts info_int
  clear hp
  go_enter Try.func46, Try.ntmps46
  go_wp2_with (fail)
  refine (valid_any _ _ _ p _ (HP.out.ext (Ext.ofAlloc _ _))).mono ?_
  rw [hb]
  rintro e w1 ⟨rfl, he⟩
  have HE := hid ((Ext.ofAlloc w _).trans he)
  have X1 := hid (X0.out.ext he)
  obtain ⟨c0, c1, c2⟩ := X1.out.cells
  clear he hb
  go_wp2_with (fail)
  refine (stable_any _ _ _ p hok _ (HP.out.ext HE.out)).mono ?_
  rintro e W ⟨ul, rfl, hul, he2⟩
  obtain ⟨L, hL⟩ : ∃ L, L = stAll p hok := ⟨_, rfl⟩
  rw [← hL] at hul hk2
  have HL := hid hL
  have hL1 : 0 < L.length := by rw [hL]; exact stAll_pos
  have hL2 : L.length ≤ 15625 := by rw [hL]; exact stAll_le
  have hLs : Hid (∀ k : Nat, k < L.length → StL p hok (rowAt L k)) := fun k hk => mem_stAll.1 (show rowAt L k ∈ stAll p hok by rw [← hL]; exact rowAt_mem (Int.natCast_nonneg k) (by exact_mod_cast hk))
  have hr := hul.rows2 (by omega)
  obtain ⟨-, aol, capl, rfl, -⟩ := id hr
  obtain ⟨bL, oL, -, -, rfl, -, -⟩ := hr.at 0 (by omega) (by omega)
  have HRW := hid hr
  have HEW := hid (HE.out.trans he2)
  have XW := hid (X1.out.ext he2)
  have hszW := HEW.out.size
  clear hul he2 hr hL c0 c1 c2
  obtain ⟨c0, c1, c2⟩ := XW.out.cells
  go_wp2
  clear c0 c1 c2
  go_loopg [29, 7] p.hands.length (fun g i v wr => ∃ (h : Nat) (m : List Int), h + g = p.hands.length ∧ i = .int .i64 h ∧ Hid (m.length = h) ∧ Hid (∀ x, x < h → MidV p L (k - 1).toNat x (fn m x)) ∧ Hid (OwnI W.heap.size wr v m) ∧ Hid (Ext W wr))
  case atStart => exact ⟨0, [], by omega, rfl, rfl, fun x hx => by omega, World.ownsRow_nil _ _ _ _, Ext.refl _⟩
  case round =>
    obtain ⟨h, m, hh, rfl, Hml, Hmv, OUT, E⟩ := hrel
    have hhl : h ≤ p.hands.length := by omega
    have Hh := hid hh
    clear hh
    by_cases hlt : h < p.hands.length
    · obtain ⟨-, ar, cr, hrow, hri⟩ := HP.out.1.row h hlt
      have dr := hrow _ (HEW.out.trans E.out)
      have Hri := hid (hri.ext (HEW.out.trans E.out))
      have hrl : (rowAt p.hands h).length ≤ 4 := by have := rowOk_short (rowAt_ok Hok.out.hs (i := h) (by omega)); omega
      have E1 := hid (E.out.alloc (.cells #[.slice ar (rowAt p.hands h).length cr] 23))
      have O1 := hid (World.ownsRow.alloc OUT.out (.cells #[.slice ar (rowAt p.hands h).length cr] 23))
      have C1 := hid (cell_of_one (heap_alloc_new wr (.cells #[.slice ar (rowAt p.hands h).length cr] 23)))
      have R1 := hid (Hri.out.ext (Ext.ofAlloc wr (.cells #[.slice ar (rowAt p.hands h).length cr] 23)))
      have hsz := E.out.size
      clear hrow hri
      go_wp2
      clear dr
      have hsz1 : (wr.alloc (.cells #[.slice ar (rowAt p.hands h).length cr] 23)).heap.size = wr.heap.size + 1 := by simp
      generalize wr.alloc (.cells #[.slice ar (rowAt p.hands h).length cr] 23) = V at *
      clear hsz1 hsz OUT E
      generalize wr.heap.size = bc at *
      go_loopg [36, 10] L.length (fun g i2 vh wj => ∃ j : Nat, j + g = L.length ∧ i2 = .int .i64 j ∧ Hid (OwnI V.heap.size wj vh (colTo L h j)) ∧ Hid (OwnI W.heap.size wj u7 m) ∧ Hid (Away vh u7) ∧ Hid (Ext V wj))
      case atStart => exact ⟨0, by omega, rfl, World.ownsRow_nil _ _ _ _, O1, fun g h => by simp [Value.ownBlock] at h, Ext.refl _⟩
      case round =>
        obtain ⟨j, hj, rfl, HAS, O2, AW, E2⟩ := hrel
        have hjl : j ≤ L.length := by omega
        have Hj := hid hj
        clear hj
        by_cases hjlt : j < L.length
        · obtain ⟨-, arj, crj, hrowj, hrij⟩ := HRW.out.row j hjlt
          have dj := hrowj _ (E1.out.trans E2.out)
          have hjm := (hLs.out j hjlt).1
          obtain ⟨bj, oj, hbj, -, hcj⟩ := hrij.get h (by omega)
          subst hbj
          have dx := hcj _ (E1.out.trans E2.out)
          have hh2 : (h : Int) < (rowAt L j).length := by omega
          have Hs := hid (colTo_succ (h := h) hjlt)
          have hcl := colTo_len (L := L) (h := h) (k := j)
          have hsz2 := E2.out.size
          clear hrowj hrij hjm hcj
          go_wp2_with (at_builtin; go_must (refine wpList_append_own_at _ rfl _ _ 23 rfl V.heap.size 3 i0 (.int .i64 0) 1 8 Try.underlying23 hi hz0 hz1 hz2 rfl (by decide) _ _ _ rfl (HAS.out.alloc _) ⟨wr.heap.size, 0, none⟩ 1 1 [.int .i64 (fn (rowAt L j) h)] rfl rfl (cell_one_new _ _ _) (by intro u hu; simp at hu; subst hu; rfl) (by unfold maxLen; omega) (by omega) (by simp; omega) ?_))
          intro vx w5 hown' hg _ hat
          have hN := OwnI.push rfl hown'
          rw [← Hs.out] at hN
          have hE := Ext.push E2.out HAS.out (Nat.le_refl _) hg
          have hK := kept_away (World.ownsRow.alloc O2.out (.cells #[.int .i64 (fn (rowAt L j) h)] 3)) AW.out hg
          have hP := away_push O2.out AW.out hat
          have HN := hid hN
          have HE5 := hid hE
          have HK := hid hK
          have HPP := hid hP
          clear hown' hg hat hN hE hK hP dj dx
          go_wp2
          go_roundg (gk - 1)
          case rel => exact ⟨j + 1, by have := Hj.out; omega, by go_num, HN.out, HK.out, HPP.out, HE5.out⟩
          case measure => have := Hj.out; omega
        · have hO := HAS.out
          have ej : j = L.length := by omega
          rw [ej, colTo_all] at hO
          have HAS2 := hid hO
          clear hO ej
          go_wp2_with (fail)
          have hlm : (L.map (fun q => fn q h)).length = L.length := by simp
          refine (SortFunc_own V.heap.size _ _ _ _ (rowAt p.hands h) V wr HAS2.out (by rw [hlm]; exact hL1) (by rw [hlm]; omega) E2.out (Nat.le_refl _) C1.out R1.out (by omega)).mono ?_
          rintro e w6 ⟨rfl, ys, hys, hperm, hsort, hg6⟩
          have hyl : ys.length = L.length := by rw [hperm.length_eq, hlm]
          have hK := kept_away O2.out AW.out hg6
          have hE6 : Ext V w6 := Below.grown E2.out hg6 E2.out.size (fun k hk => by have := (HAS2.out.lt k hk).1; exact this)
          have O6 := hid hK
          have E6 := hid (E1.out.trans hE6)
          have hyi := hys.ints (by omega)
          have hkn : (k - 1).toNat < L.length := by omega
          have Hmid := hid (midV_of (p := p) (j := (k - 1).toNat) hperm hsort hkn)
          obtain ⟨-, aoy, cpy, rfl, -⟩ := id hyi
          obtain ⟨by_, oy, rfl, -, hcy⟩ := hyi.get (k - 1).toNat (by omega)
          have dy : w6.cell? ⟨by_, oy + (k.toNat - 1), none⟩ = some (.int .i64 (fn ys (k - 1).toNat)) := by rw [show k.toNat - 1 = (k - 1).toNat by omega]; exact hcy _ (Ext.refl _)
          generalize fn ys (k - 1).toNat = z at *
          have Hyl := hid hyl
          have hk3 : k - 1 < ys.length := by omega
          have hk4 : 0 ≤ k - 1 := by omega
          have hmlen : m.length ≤ 6 := by have := Hml.out; omega
          have hsz6 := E6.out.size
          clear hlm hys hperm hsort hg6 hK hE6 hyi hcy hyl
          go_wp2_with (at_builtin; go_must (refine wpList_append_own _ rfl _ _ 23 rfl W.heap.size 3 i0 (.int .i64 0) 1 8 Try.underlying23 hi hz0 hz1 hz2 rfl (by decide) _ _ _ rfl (O6.out.alloc _) ⟨w6.heap.size, 0, none⟩ 1 1 [.int .i64 (z)] rfl rfl (cell_one_new _ _ _) (by intro u hu; simp at hu; subst hu; rfl) (by unfold maxLen; omega) (by omega) (by simp; omega) ?_))
          intro vz w7 hown' hg _
          have hN := OwnI.push rfl hown'
          have hE := Ext.push E6.out O6.out (Nat.le_refl _) hg
          have HN := hid hN
          have HE7 := hid hE
          have Hmv2 : Hid (∀ x, x < h + 1 → MidV p L (k - 1).toNat x (fn (m ++ [z]) x)) := fun x hx => by
            rcases Nat.lt_or_ge x h with h' | h'
            · have e1 : fn (m ++ [z]) x = fn m x := by
                rw [fn_get (by rw [List.length_append]; have := Hml.out; omega), fn_get (by have := Hml.out; omega), List.getElem_append_left]
              rw [e1]; exact Hmv.out x h'
            · obtain rfl : x = h := by omega
              have e1 : fn (m ++ [z]) x = z := by
                rw [fn_get (by rw [List.length_append, List.length_singleton]; have := Hml.out; omega), List.getElem_append_right (by have := Hml.out; omega)]; simp
              rw [e1]; exact Hmid.out
          clear hown' hg hN hE dy
          go_wp2
          go_roundg (p.hands.length - (h + 1))
          case rel => exact ⟨h + 1, _, by omega, by go_num, by show List.length _ = _; rw [List.length_append, Hml.out]; rfl, Hmv2, HN.out, HE7.out⟩
          case measure => have := Hh.out; omega
    · have eh : h = p.hands.length := by omega
      have HM : Hid (MidL p (stAll p hok) (k - 1).toNat m) := ⟨by rw [Hml.out, eh], fun x hx => by rw [← HL.out]; exact Hmv.out x (by omega)⟩
      clear eh
      go_wp2
      go_ret2
      exact ⟨_, m, rfl, ownsRow_base OUT.out hszW, HM.out, HEW.out.trans E.out⟩

end Go.Proofs.Ytkdfbbkonbgfmaa
