/-
  Contracts of the reference's small functions: Rank, listed, Valid, possible.
-/
import Derived.Test.YtkdfbbkonbgfmaaLawA
namespace Go.Proofs.Ytkdfbbkonbgfmaa
open Go.RowKit

set_option maxHeartbeats 400000 in
theorem Rank_any (v : Value) (l : List Int) (x : Int) (w : World) (hv : Ints w v l) :
    Calls Try.prog 101 #[v, .int .i64 x] w fun e w' => e = .returned (.int .i64 (rankI l x)) ∧ w = w' := by
  obtain ⟨hl, ao, cap, rfl, hcap, hc⟩ := hv
  go_enter Try.func101, Try.ntmps101
  go_wp2
  go_loopg [9] l.length (fun g i wr => ∃ k : Nat, k + g = l.length ∧ i = .int .i64 k ∧ w = wr ∧ Hid (x ∉ l.take k))
  case atStart => exact ⟨0, by omega, rfl, rfl, fun h => by simp at h⟩
  case round =>
    obtain ⟨k, hk, rfl, rfl, Hnot⟩ := hrel
    have hkl : k ≤ l.length := by omega
    have Hk := hid hk
    clear hk
    by_cases hlt : k < l.length
    · obtain ⟨b, off, hA, hcell⟩ := hc k hlt
      by_cases he : x = l[k]
      · have he' : (x == l[k]) = true := by simpa using he
        go_wp2
        go_ret
        exact ⟨ret_int (by rw [he, rankI_hit hlt (he ▸ Hnot.out)]), rfl⟩
      · have he' : (x == l[k]) = false := by simpa using he
        go_wp2
        go_roundg (gk - 1)
        case rel => exact ⟨k + 1, by have := Hk.out; omega, by go_num, rfl, notin_succ hlt he Hnot.out⟩
        case measure => have := Hk.out; omega
    · go_wp2
      go_ret
      exact ⟨ret_int (rankI_miss (notin_all hlt Hnot.out)).symm, rfl⟩

theorem rankI_ne {r : List Int} {j : Nat} (hj : j < r.length) (h : hasI (r.take j) r[j] = true) : (rankI r r[j] != (j : Int)) = true := by
  have hm : r[j] ∈ r.take j := List.contains_iff_mem.1 h
  unfold rankI
  rw [if_pos (List.getElem_mem hj)]
  have h1 : r.idxOf r[j] < j := by
    have e : r.idxOf r[j] = (r.take j ++ r.drop j).idxOf r[j] := by rw [List.take_append_drop]
    rw [e, List.idxOf_append, if_pos hm]
    have := List.idxOf_lt_length_of_mem hm
    have h2 := List.length_take_le j r
    omega
  simp; omega
theorem rankI_eq {r : List Int} {j : Nat} (hj : j < r.length) (h : hasI (r.take j) r[j] = false) : (rankI r r[j] != (j : Int)) = false := by
  rw [rankI_hit hj (fun hm => by have := List.contains_iff_mem.2 hm; unfold hasI at h; rw [h] at this; simp at this)]
  simp

set_option maxHeartbeats 1000000 in
theorem listed_any (v : Value) (xss : List (List Int)) (n : Int) (w : World) (hv : Rows2 w v xss) :
    Calls Try.prog 57 #[v, .int .i64 n] w fun e w' => e = .returned (.bool (listsOk xss n)) ∧ w = w' := by
  obtain ⟨hl, ao, cap, rfl, hcap, hc⟩ := hv
  go_enter Try.func57, Try.ntmps57
  go_wp2
  go_loopg [11] xss.length (fun g i wr => ∃ k : Nat, k + g = xss.length ∧ i = .int .i64 k ∧ w = wr ∧ listsOk (xss.take k) n = true)
  case atStart => exact ⟨0, by omega, rfl, rfl, rfl⟩
  case round =>
    obtain ⟨k, hk, rfl, rfl, hok⟩ := hrel
    have Hok := hid hok
    have hkl : k ≤ xss.length := by omega
    have Hk := hid hk
    clear hok hk
    by_cases hlt : k < xss.length
    · obtain ⟨b, off, u, rfl, hcell, hu⟩ := hc k hlt
      obtain ⟨r, hr⟩ : ∃ r, r = xss[k] := ⟨_, rfl⟩
      rw [← hr] at hu
      have Hr := hid hr
      clear hr
      obtain ⟨hlr, ar, cr, rfl, hcr, hcellr⟩ := id hu
      have Hu := hid hu
      clear hu
      go_wp2
      go_loopg [17] r.length (fun g i wr => ∃ j : Nat, j + g = r.length ∧ i = .int .i64 j ∧ w = wr ∧ rowOk n (r.take j) = true)
      case atStart => exact ⟨0, by omega, rfl, rfl, by simp [rowOk]⟩
      case round =>
        obtain ⟨j, hj, rfl, rfl, hrow⟩ := hrel
        have Hrow := hid hrow
        have hjl : j ≤ r.length := by omega
        have Hj := hid hj
        clear hrow hj
        by_cases hjlt : j < r.length
        · obtain ⟨br, offr, rfl, hcr2⟩ := hcellr j hjlt
          by_cases h0 : r[j] < 0
          · have Hf := hid (listsOk_bad hlt (by rw [← Hr.out]; exact rowOk_bad_lo (n := n) hjlt h0))
            go_wp2
            go_ret
            exact ⟨ret_bool Hf.out.symm, rfl⟩
          · by_cases h1 : n ≤ r[j]
            · have Hf := hid (listsOk_bad hlt (by rw [← Hr.out]; exact rowOk_bad_hi (n := n) hjlt h1))
              go_wp2
              go_ret
              exact ⟨ret_bool Hf.out.symm, rfl⟩
            · cases hb : hasI (r.take j) r[j]
              · have Hs := hid (rowOk_succ (n := n) hjlt Hrow.out (by omega) (by omega) hb)
                have hri := rankI_eq hjlt hb
                go_wp2_with (go_at_call 101; refine (Rank_any _ r r[j] _ Hu.out).mono ?_; rintro e w' ⟨rfl, rfl⟩)
                go_roundg (gk - 1)
                case rel => exact ⟨j + 1, by have := Hj.out; omega, by go_num, rfl, Hs.out⟩
                case measure => have := Hj.out; omega
              · have Hf := hid (listsOk_bad hlt (by rw [← Hr.out]; exact rowOk_bad_dup (n := n) hjlt hb))
                have hri := rankI_ne hjlt hb
                go_wp2_with (go_at_call 101; refine (Rank_any _ r r[j] _ Hu.out).mono ?_; rintro e w' ⟨rfl, rfl⟩)
                go_ret
                exact ⟨ret_bool Hf.out.symm, rfl⟩
        · have Hs := hid (all_succ (n := n) hlt Hok.out (by rw [← Hr.out]; have := Hrow.out; rwa [List.take_of_length_le (by omega)] at this))
          go_wp2
          go_roundg (xss.length - (k + 1))
          case rel => exact ⟨k + 1, by omega, by go_num, rfl, Hs.out⟩
          case measure => have := Hk.out; omega
    · have Hf := hid (show listsOk xss n = true by have := Hok.out; rwa [List.take_of_length_le (by omega)] at this)
      go_wp2
      go_ret
      exact ⟨ret_bool Hf.out.symm, rfl⟩

theorem places_succ {l : List Int} {k : Nat} (hk : k < l.length) (h : ∀ x ∈ l.take k, 1 ≤ x ∧ x ≤ 3) (h1 : 1 ≤ l[k]) (h3 : l[k] ≤ 3) : ∀ x ∈ l.take (k + 1), 1 ≤ x ∧ x ≤ 3 := by
  rw [List.take_succ_eq_append_getElem hk]
  intro x hx
  rcases List.mem_append.1 hx with hx | hx
  · exact h x hx
  · rw [List.mem_singleton.1 hx]; exact ⟨h1, h3⟩

set_option maxRecDepth 20000 in
set_option maxHeartbeats 2000000 in
theorem RValid_any (vh vs vp : Value) (p : PlanD) (w : World) (hp : PlanR w vh vs vp p) :
    Calls Try.prog 22 #[.agg #[vh, vs, vp]] w fun e w' => e = .returned (.bool (planOk p)) ∧ Ext w w' := by
  obtain ⟨hh, hs, hpp⟩ := hp
  obtain ⟨hlh, aoh, caph, rfl, hch, hhc⟩ := id hh
  obtain ⟨hls, aos, caps, rfl, hcs, hsc⟩ := id hs
  obtain ⟨hlp, aop, capp, rfl, hcp, hpc⟩ := id hpp
  have Hh := hid hh
  have Hs := hid hs
  have Hp := hid hpp
  clear hhc hsc hh hs hpp hch hcs hcp
  have hE := Ext.ofAlloc w (.cells #[.slice aoh p.hands.length caph, .slice aos p.shifts.length caps, .slice aop p.places.length capp] 25)
  have HE := hid hE
  clear hE
  go_enter Try.func22, Try.ntmps22
  go_wp2
  obtain ⟨c0, c1, c2⟩ := (Box3.alloc w 25 (.slice aoh p.hands.length caph) (.slice aos p.shifts.length caps) (.slice aop p.places.length capp)).cells
  generalize w.alloc (.cells #[.slice aoh p.hands.length caph, .slice aos p.shifts.length caps, .slice aop p.places.length capp] 25) = W at *
  go_loopg [8] p.places.length (fun g i wr => ∃ k : Nat, k + g = p.places.length ∧ i = .int .i64 k ∧ W = wr ∧ Hid (∀ x ∈ p.places.take k, 1 ≤ x ∧ x ≤ 3))
  case atStart => exact ⟨0, by omega, rfl, rfl, fun x h => by simp at h⟩
  case round =>
    obtain ⟨k, hk, rfl, rfl, Hall⟩ := hrel
    have hkl : k ≤ p.places.length := by omega
    have Hk := hid hk
    clear hk
    by_cases hlt : k < p.places.length
    · obtain ⟨b, off, rfl, hcell0⟩ := hpc k hlt
      have hcell := HE.out.cell hcell0
      by_cases h1 : p.places[k] < 1
      · have Hf := hid (planOk_no (p := p) (fun h => by have := (h.2.2.2.2.2 _ (List.getElem_mem hlt)).1; omega))
        clear hcell0
        go_wp2
        go_ret
        exact ⟨ret_bool Hf.out.symm, HE.out⟩
      · by_cases h3 : 3 < p.places[k]
        · have Hf := hid (planOk_no (p := p) (fun h => by have := (h.2.2.2.2.2 _ (List.getElem_mem hlt)).2; omega))
          clear hcell0
          go_wp2
          go_ret
          exact ⟨ret_bool Hf.out.symm, HE.out⟩
        · have Hs := hid (places_succ hlt Hall.out (by omega) (by omega))
          clear hcell0
          go_wp2
          go_roundg (gk - 1)
          case rel => exact ⟨k + 1, by have := Hk.out; omega, by go_num, rfl, Hs.out⟩
          case measure => have := Hk.out; omega
    · have Hpl := hid (show ∀ x ∈ p.places, 1 ≤ x ∧ x ≤ 3 by have := Hall.out; rwa [List.take_of_length_le (by omega)] at this)
      clear hpc Hall Hk
      by_cases h1 : ¬ (1 ≤ p.hands.length ∧ p.hands.length ≤ 6 ∧ 1 ≤ p.shifts.length ∧ p.shifts.length ≤ 4 ∧ p.places.length = p.shifts.length)
      · have Hf := hid (planOk_no (p := p) (fun h => h1 ⟨h.1, h.2.1, h.2.2.1, h.2.2.2.1, h.2.2.2.2.1⟩))
        by_cases a1 : 1 ≤ p.hands.length
        · by_cases a2 : p.hands.length ≤ 6
          · by_cases a3 : 1 ≤ p.shifts.length
            · by_cases a4 : p.shifts.length ≤ 4
              · have a5 : ((p.places.length : Int) == (p.shifts.length : Int)) = false := by simp; omega
                clear h1
                go_wp2
                go_ret
                exact ⟨ret_bool Hf.out.symm, HE.out⟩
              all_goals (clear h1; go_wp2; go_ret; exact ⟨ret_bool Hf.out.symm, HE.out⟩)
            all_goals (clear h1; go_wp2; go_ret; exact ⟨ret_bool Hf.out.symm, HE.out⟩)
          all_goals (clear h1; go_wp2; go_ret; exact ⟨ret_bool Hf.out.symm, HE.out⟩)
        all_goals (clear h1; go_wp2; go_ret; exact ⟨ret_bool Hf.out.symm, HE.out⟩)
      · have h1 := Classical.not_not.1 h1
        obtain ⟨a1, a2, a3, a4, a5⟩ := id h1
        have a6 : ((p.places.length : Int) == (p.shifts.length : Int)) = true := by simp; omega
        have A5 := hid a5
        clear a5 h1
        cases b3 : listsOk p.hands p.shifts.length
        · have Hf := hid (planOk_noH (p := p) b3)
          go_wp2_with (fail)
          refine (listed_any _ p.hands _ _ (Hh.out.ext HE.out)).mono ?_
          rintro e w' ⟨rfl, rfl⟩
          rw [b3]
          go_wp2
          go_ret
          exact ⟨ret_bool Hf.out.symm, HE.out⟩
        · have Hf := hid (planOk_yes (p := p) ⟨a1, a2, a3, a4, A5.out, Hpl.out⟩ b3)
          go_wp2_with (fail)
          refine (listed_any _ p.hands _ _ (Hh.out.ext HE.out)).mono ?_
          rintro e w' ⟨rfl, rfl⟩
          rw [b3]
          go_wp2_with (fail)
          refine (listed_any _ p.shifts _ _ (Hs.out.ext HE.out)).mono ?_
          rintro e w' ⟨rfl, rfl⟩
          go_wp2
          go_ret
          exact ⟨ret_bool Hf.out.symm, HE.out⟩

end Go.Proofs.Ytkdfbbkonbgfmaa
