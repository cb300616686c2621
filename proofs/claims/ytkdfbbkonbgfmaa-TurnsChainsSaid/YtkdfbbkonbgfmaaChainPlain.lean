/-
  From the first stable matching all others are reached by neighbours. Plain Lean.
-/
import Derived.Test.YtkdfbbkonbgfmaaCovers
import Derived.Test.YtkdfbbkonbgfmaaRefE
import Derived.Test.YtkdfbbkonbgfmaaLieX
namespace Go.Proofs.Ytkdfbbkonbgfmaa
open Go.RowKit

theorem prTo_mem {P : Nat → Nat → Bool} {n : Nat} {q : Int × Int} : q ∈ prTo P n n ↔ ∃ i j : Nat, i < n ∧ j < n ∧ P i j = true ∧ q = ((i : Int), (j : Int)) := by
  unfold prTo
  rw [List.mem_flatMap]
  constructor
  · rintro ⟨i, hi, h⟩
    unfold prRow at h
    obtain ⟨j, hj, rfl⟩ := List.mem_map.1 h
    rw [List.mem_filter, List.mem_range] at hj
    exact ⟨i, j, List.mem_range.1 hi, hj.1, hj.2, rfl⟩
  · rintro ⟨i, j, hi, hj, h, rfl⟩
    refine ⟨i, List.mem_range.2 hi, ?_⟩
    unfold prRow
    exact List.mem_map.2 ⟨j, by rw [List.mem_filter, List.mem_range]; exact ⟨hj, h⟩, rfl⟩
theorem overL_iff {p : PlanD} {L : List (List Int)} {i j : Nat} : overL p L i j = true ↔ i ≠ j ∧ LeM p (rowAt L i) (rowAt L j) := by
  unfold overL
  rw [Bool.and_eq_true, decide_eq_true_iff, leB_iff]
theorem over_anti {p : PlanD} {hp : PlanOk p} {i j : Nat} (hi : i < (stAll p hp).length) (hj : j < (stAll p hp).length) (h1 : LeM p (rowAt (stAll p hp) i) (rowAt (stAll p hp) j)) (h2 : LeM p (rowAt (stAll p hp) j) (rowAt (stAll p hp) i)) : i = j := by
  have e1 := rowAt_nat hi
  have e2 := rowAt_nat hj
  rw [e1, e2] at h1 h2
  have s1 := mem_stAll.1 (List.getElem_mem hi)
  have s2 := mem_stAll.1 (List.getElem_mem hj)
  have := LeM.antisymm s1 s2 h1 h2
  exact (List.getElem_inj stAll_nodup).1 this
theorem over_trans {p : PlanD} {hp : PlanOk p} {i j k : Nat} (hi : i < (stAll p hp).length) (hj : j < (stAll p hp).length) (h1 : overL p (stAll p hp) i j = true) (h2 : overL p (stAll p hp) j k = true) : overL p (stAll p hp) i k = true := by
  rw [overL_iff] at *
  refine ⟨fun e => ?_, h1.2.trans h2.2⟩
  subst e
  exact h1.1 (over_anti hi hj h1.2 h2.2)
theorem over_irrefl {p : PlanD} {L : List (List Int)} {i : Nat} : overL p L i i = false := by
  cases h : overL p L i i
  · rfl
  · exact absurd rfl (overL_iff.1 h).1
/-- How many are over it. -/
noncomputable def ovN (p : PlanD) (L : List (List Int)) (i : Nat) : Nat := (List.range L.length).countP (fun k => overL p L k i)
theorem ovN_le {p : PlanD} {L : List (List Int)} {i : Nat} : ovN p L i ≤ L.length := by
  unfold ovN
  have := List.countP_le_length (p := fun k => overL p L k i) (l := List.range L.length)
  rwa [List.length_range] at this
theorem ovN_lt {p : PlanD} {hp : PlanOk p} {i j : Nat} (hi : i < (stAll p hp).length) (h : overL p (stAll p hp) i j = true) : ovN p (stAll p hp) i < ovN p (stAll p hp) j := by
  apply Classical.byContradiction
  intro hn
  have hback := Mkt.countP_back (p := fun k => overL p (stAll p hp) k i) (q := fun k => overL p (stAll p hp) k j) (List.range (stAll p hp).length) (fun x hx hxi => over_trans (List.mem_range.1 hx) hi hxi h) (by unfold ovN at hn; omega) i (List.mem_range.2 hi) h
  simp only [over_irrefl] at hback
  simp at hback
theorem ovN_zero {p : PlanD} {hp : PlanOk p} {f : List Int} (hf : IsFirst p hp f) {i : Nat} (hi : i < (stAll p hp).length) (h : ovN p (stAll p hp) i = 0) : rowAt (stAll p hp) i = f := by
  obtain ⟨i0, hi0, e0⟩ := List.getElem_of_mem (stAll_first hf)
  by_cases e : i0 = i
  · subst e; rw [rowAt_nat hi0]; exact e0
  · have ho : overL p (stAll p hp) i0 i = true := by
      rw [overL_iff]
      refine ⟨e, ?_⟩
      rw [rowAt_nat hi0, e0, rowAt_nat hi]
      exact best_of_first hf _ (List.getElem_mem hi)
    have := ovN_lt hi0 ho
    omega
theorem cover_ex {p : PlanD} {hp : PlanOk p} {i : Nat} : ∀ (d k : Nat), ovN p (stAll p hp) i - ovN p (stAll p hp) k ≤ d → k < (stAll p hp).length → overL p (stAll p hp) k i = true →
    ∃ m, m < (stAll p hp).length ∧ covB p (stAll p hp) m i = true ∧ ovN p (stAll p hp) m < ovN p (stAll p hp) i := by
  intro d
  induction d with
  | zero =>
    intro k hd hk ho
    have := ovN_lt hk ho
    omega
  | succ d ih =>
    intro k hd hk ho
    cases hm : midTo p (stAll p hp) k i (stAll p hp).length
    · exact ⟨k, hk, by unfold covB; rw [ho, hm]; rfl, ovN_lt hk ho⟩
    · unfold midTo at hm
      rw [List.any_eq_true] at hm
      obtain ⟨m, hm1, hm2⟩ := hm
      rw [Bool.and_eq_true] at hm2
      have hml := List.mem_range.1 hm1
      have := ovN_lt hk hm2.1
      exact ih m (by omega) hml hm2.2

/-- All that few are over are met. -/
def MetR (p : PlanD) (L : List (List Int)) (r : Nat) (met : List Bool) : Prop := met.length = L.length ∧ ∀ i, (h : i < met.length) → ovN p L i < r → met[i] = true
/-- And those to which the first pairs lead. -/
def MetP (p : PlanD) (L : List (List Int)) (c : List (Int × Int)) (r k : Nat) (met : List Bool) : Prop :=
  MetR p L r met ∧ ∀ x, (h : x < k) → (h2 : x < c.length) → ovN p L (c[x]).1.toNat < r → ∃ h3 : (c[x]).2.toNat < met.length, met[(c[x]).2.toNat] = true
theorem MetP.start {p : PlanD} {L : List (List Int)} {c : List (Int × Int)} {r : Nat} {met : List Bool} (h : MetR p L r met) : MetP p L c r 0 met := ⟨h, fun x hx => by omega⟩
theorem MetP.step {p : PlanD} {L : List (List Int)} {c : List (Int × Int)} {r k : Nat} {met : List Bool} (h : MetP p L c r k met) {i j : Nat} (hk : k < c.length) (hc : c[k] = ((i : Int), (j : Int))) (hi : i < met.length) (hj : j < met.length) :
    MetP p L c r (k + 1) (met.set j (met[j] || met[i])) := by
  obtain ⟨⟨h1, h2⟩, h3⟩ := h
  have mono : ∀ x, (hx : x < met.length) → met[x] = true → (met.set j (met[j] || met[i]))[x]'(by rw [List.length_set]; exact hx) = true := by
    intro x hx e
    rw [List.getElem_set]
    split
    · rename_i e2; subst e2; rw [e]; rfl
    · exact e
  refine ⟨⟨by rw [List.length_set]; exact h1, fun x hx hov => ?_⟩, fun x hx hx2 hov => ?_⟩
  · rw [List.length_set] at hx
    exact mono x hx (h2 x hx hov)
  · by_cases e : x = k
    · subst e
      rw [hc] at hov
      have hov' : ovN p L i < r := hov
      have hm := h2 i hi hov'
      have hjn : (c[x]).2.toNat = j := by rw [hc]; simp
      refine ⟨by rw [List.length_set, hjn]; exact hj, ?_⟩
      simp only [hjn]
      rw [List.getElem_set_self, hm]; simp
    · obtain ⟨h4, h5⟩ := h3 x (by omega) hx2 hov
      exact ⟨by rw [List.length_set]; exact h4, mono _ h4 h5⟩
theorem MetP.round {p : PlanD} {hp : PlanOk p} {r : Nat} {met : List Bool} (hr : 1 ≤ r) (h : MetP p (stAll p hp) (prTo (covB p (stAll p hp)) (stAll p hp).length (stAll p hp).length) r (prTo (covB p (stAll p hp)) (stAll p hp).length (stAll p hp).length).length met) : MetR p (stAll p hp) (r + 1) met := by
  obtain ⟨⟨h1, h2⟩, h3⟩ := h
  refine ⟨h1, fun i hi hov => ?_⟩
  by_cases e : ovN p (stAll p hp) i < r
  · exact h2 i hi e
  · have hi' : i < (stAll p hp).length := by omega
    have hpos : 0 < (List.range (stAll p hp).length).countP (fun k => overL p (stAll p hp) k i) := by
      have : 1 ≤ ovN p (stAll p hp) i := by omega
      unfold ovN at this; omega
    rw [List.countP_pos_iff] at hpos
    obtain ⟨k, hk, hko⟩ := hpos
    obtain ⟨m, hm1, hm2, hm3⟩ := cover_ex (ovN p (stAll p hp) i) k (by omega) (List.mem_range.1 hk) hko
    have hmem : ((m : Int), (i : Int)) ∈ prTo (covB p (stAll p hp)) (stAll p hp).length (stAll p hp).length := prTo_mem.2 ⟨m, i, hm1, hi', hm2, rfl⟩
    obtain ⟨x, hx, hxe⟩ := List.getElem_of_mem hmem
    obtain ⟨h4, h5⟩ := h3 x hx hx (by rw [hxe]; show ovN p (stAll p hp) m < r; omega)
    have hie : (((prTo (covB p (stAll p hp)) (stAll p hp).length (stAll p hp).length)[x]).2).toNat = i := by rw [hxe]; simp
    simp only [hie] at h5
    exact h5
theorem MetR.all {p : PlanD} {L : List (List Int)} {met : List Bool} (h : MetR p L (L.length + 1) met) : ∀ b ∈ met, b = true := by
  intro b hb
  obtain ⟨i, hi, rfl⟩ := List.getElem_of_mem hb
  exact h.2 i hi (by have := ovN_le (p := p) (L := L) (i := i); omega)
theorem MetR.start {p : PlanD} {hp : PlanOk p} {f : List Int} (hf : IsFirst p hp f) : MetR p (stAll p hp) 1 ((stAll p hp).map (fun m => eqI m f)) := by
  refine ⟨by simp, fun i hi hov => ?_⟩
  have hi' : i < (stAll p hp).length := by simpa using hi
  rw [List.getElem_map]
  have := ovN_zero hf hi' (by omega)
  rw [rowAt_nat hi'] at this
  unfold eqI
  exact decide_eq_true this
/-- A pair of neighbours. -/
theorem cov_pair {p : PlanD} {hp : PlanOk p} {x : Nat} (hx : x < (prTo (covB p (stAll p hp)) (stAll p hp).length (stAll p hp).length).length) :
    ∃ i j : Nat, i < (stAll p hp).length ∧ j < (stAll p hp).length ∧ (prTo (covB p (stAll p hp)) (stAll p hp).length (stAll p hp).length)[x] = ((i : Int), (j : Int)) ∧ leB p (rowAt (stAll p hp) i) (rowAt (stAll p hp) j) = true ∧ leB p (rowAt (stAll p hp) j) (rowAt (stAll p hp) i) = false := by
  obtain ⟨i, j, hi, hj, hc, he⟩ := prTo_mem.1 (List.getElem_mem hx)
  unfold covB at hc
  rw [Bool.and_eq_true] at hc
  have ho := overL_iff.1 hc.1
  exact ⟨i, j, hi, hj, he, leB_iff.2 ho.2, leB_no (fun h => ho.1 (over_anti hi hj ho.2 h))⟩
theorem gain_other {p : PlanD} {s : Nat} {m0 l m : List Int} (hg : GainsBy p s m0 l) {hq : PlanOk (setS p s l)} (hm : IsFirst _ hq m) : m0 ≠ m := by
  intro e
  subst e
  obtain ⟨-, i, -, hlt⟩ := (GainsBy.of hq hm).1 hg
  omega

end Go.Proofs.Ytkdfbbkonbgfmaa
