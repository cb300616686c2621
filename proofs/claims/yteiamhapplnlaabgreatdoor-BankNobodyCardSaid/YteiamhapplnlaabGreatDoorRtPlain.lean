/-
  Distances, in plain Lean: the same both ways, 0 from a stop to itself alone, never longer than over a third stop.
-/
import Derived.Test.YteiamhapplnlaabGreatDoorRtDist
namespace Go.Proofs.YteiamhapplnlaabGreatDoor
open Go.RowKit

/-- A table of distances, all finite ones at most M. -/
structure Tab (N : Nat) (M : Int) (D : Nat → Nat → Int) : Prop where
  diag : ∀ i, i < N → D i i = 0
  sym : ∀ i j, i < N → j < N → D i j = D j i
  pos : ∀ i j, i < N → j < N → i ≠ j → 1 ≤ D i j
  fin : ∀ i j, i < N → j < N → D i j = far ∨ D i j ≤ M
theorem Tab.lo {N : Nat} {M : Int} {D : Nat → Nat → Int} (h : Tab N M D) {i j : Nat} (hi : i < N) (hj : j < N) : 0 ≤ D i j := by
  by_cases e : i = j
  · subst e; rw [h.diag i hi]; omega
  · have := h.pos i j hi hj e; omega
theorem Tab.good {N : Nat} {M : Int} {D : Nat → Nat → Int} (h : Tab N M D) (hM : M ≤ far) : Good N D :=
  ⟨h.diag, fun _ _ hi hj => h.lo hi hj, fun i j hi hj => by rcases h.fin i j hi hj with e | e <;> omega⟩
theorem cost0_tab (N : Nat) : Tab N 50 cost0 := by
  refine ⟨fun i _ => by simp [cost0], fun i j _ _ => ?_, fun i j _ _ e => ?_, fun i j _ _ => ?_⟩
  · unfold cost0
    by_cases e : i = j
    · subst e; rfl
    · rw [if_neg (fun h => e h.symm), if_neg e]
  · unfold cost0 far; rw [if_neg (fun h => e h.symm)]; omega
  · unfold cost0 far
    by_cases e : j = i
    · rw [if_pos e]; omega
    · rw [if_neg e]; exact .inl rfl
theorem costStep_val {D : Nat → Nat → Int} {r : RoadD} (hne : r.a.toNat ≠ r.b.toNat) (i j : Nat) :
    costStep D r i j = if (i = r.b.toNat ∧ j = r.a.toNat) ∨ (i = r.a.toNat ∧ j = r.b.toNat) then mn (D r.a.toNat r.b.toNat) r.cost else D i j := by
  unfold costStep updM updF
  generalize mn (D r.a.toNat r.b.toNat) r.cost = x
  generalize r.a.toNat = a at *
  generalize r.b.toNat = b at *
  by_cases e1 : i = b
  · subst e1
    by_cases e2 : j = a
    · simp [e2]
    · have e3 : ¬ i = a := fun h => hne h.symm
      simp [e2, e3]
  · by_cases e3 : i = a
    · subst e3
      by_cases e4 : j = b
      · simp [e1, e4]
      · simp [e1, e4]
    · simp [e1, e3]
theorem Tab.cost {N : Nat} {D : Nat → Nat → Int} (h : Tab N 50 D) {r : RoadD} (hr : roadOk N r = true) : Tab N 50 (costStep D r) := by
  obtain ⟨p1, p2, p3, p4, p5, p6, p7⟩ := roadOk_iff.1 hr
  have hne : r.a.toNat ≠ r.b.toNat := by omega
  have ha : r.a.toNat < N := by omega
  have hb : r.b.toNat < N := by omega
  have hx := mn_or (D r.a.toNat r.b.toNat) r.cost
  have hx2 := (mn_le (D r.a.toNat r.b.toNat) r.cost).2
  have hp := h.pos _ _ ha hb hne
  refine ⟨fun i hi => ?_, fun i j hi hj => ?_, fun i j hi hj e => ?_, fun i j hi hj => ?_⟩
  · rw [costStep_val hne, if_neg (by omega)]; exact h.diag i hi
  · rw [costStep_val hne, costStep_val hne]
    by_cases c : (i = r.b.toNat ∧ j = r.a.toNat) ∨ (i = r.a.toNat ∧ j = r.b.toNat)
    · rw [if_pos c, if_pos (by omega)]
    · rw [if_neg c, if_neg (by omega)]; exact h.sym i j hi hj
  · rw [costStep_val hne]
    split
    · omega
    · exact h.pos i j hi hj e
  · rw [costStep_val hne]
    split
    · right; omega
    · exact h.fin i j hi hj
theorem costTo_tab {N : Nat} : ∀ (rs : List RoadD) (D : Nat → Nat → Int), Tab N 50 D → (∀ r ∈ rs, roadOk N r = true) → Tab N 50 (rs.foldl costStep D)
  | [], _, h, _ => h
  | r :: rs, D, h, hr => costTo_tab rs (costStep D r) (h.cost (hr r (List.mem_cons_self ..))) (fun x hx => hr x (List.mem_cons_of_mem _ hx))
theorem costs_tab {N : Nat} {rs : List RoadD} (hr : ∀ r ∈ rs, roadOk N r = true) : Tab N 50 (costTo rs) := costTo_tab rs cost0 (cost0_tab N) hr

theorem Tab.step {N : Nat} {M : Int} {D : Nat → Nat → Int} (h : Tab N M D) {k : Nat} (hk : k < N) (hM : 0 ≤ M) : Tab N (2 * M) (fwStep D k) := by
  refine ⟨fun i hi => ?_, fun i j hi hj => ?_, fun i j hi hj e => ?_, fun i j hi hj => ?_⟩
  · show mn _ _ = 0
    have := h.lo hi hk; have := h.lo hk hi; have := h.diag i hi
    rw [mn_left (by omega)]; exact this
  · show mn _ _ = mn _ _
    rw [h.sym i j hi hj, h.sym i k hi hk, h.sym k j hk hj, Int.add_comm]
  · show 1 ≤ mn _ _
    have a := h.pos i j hi hj e
    have b := h.lo hi hk
    have c := h.lo hk hj
    have d : 1 ≤ D i k + D k j := by
      by_cases e2 : i = k
      · subst e2; have := h.pos i j hi hj e; omega
      · have := h.pos i k hi hk e2; omega
    rcases mn_or (D i j) (D i k + D k j) with e | e <;> rw [e] <;> omega
  · show mn _ _ = far ∨ mn _ _ ≤ 2 * M
    have b := h.lo hi hk
    have c := h.lo hk hj
    have m1 := mn_le (D i j) (D i k + D k j)
    rcases h.fin i j hi hj with e | e
    · rcases h.fin i k hi hk with e1 | e1
      · left; rw [mn_left (by omega)]; exact e
      · rcases h.fin k j hk hj with e2 | e2
        · left; rw [mn_left (by omega)]; exact e
        · right; omega
    · right; omega
theorem Tab.fw {N : Nat} {D : Nat → Nat → Int} (h : Tab N 50 D) : ∀ k, k ≤ N → Tab N (50 * 2 ^ k) (fw D k)
  | 0, _ => by
    show Tab N (50 * 2 ^ 0) D
    rw [show (50 : Int) * 2 ^ 0 = 50 from rfl]; exact h
  | k + 1, hk => by
    have h2 := (Tab.fw h k (by omega)).step (k := k) (by omega) (Int.mul_nonneg (by omega) (Int.le_of_lt (Int.pow_pos (by omega))))
    have e : (50 : Int) * 2 ^ (k + 1) = 2 * (50 * 2 ^ k) := by rw [Int.pow_succ]; omega
    rw [e]; exact h2
theorem two_pow_le {k : Nat} (h : k ≤ 8) : (2 : Int) ^ k ≤ 256 := by
  have : k = 0 ∨ k = 1 ∨ k = 2 ∨ k = 3 ∨ k = 4 ∨ k = 5 ∨ k = 6 ∨ k = 7 ∨ k = 8 := by omega
  rcases this with rfl | rfl | rfl | rfl | rfl | rfl | rfl | rfl | rfl <;> decide

/-- Never longer than over a stop that has been. -/
theorem tri {N : Nat} {D : Nat → Nat → Int} (h : Tab N 50 D) : ∀ k, k ≤ N → ∀ i j m, i < N → j < N → m < k → fw D k i j ≤ fw D k i m + fw D k m j
  | 0, _, _, _, _, _, _, hm => by omega
  | k + 1, hk, i, j, m, hi, hj, hm => by
    have T := h.fw k (by omega)
    have IH := tri h k (by omega)
    have hkN : k < N := by omega
    show mn (fw D k i j) (fw D k i k + fw D k k j) ≤ mn (fw D k i m) (fw D k i k + fw D k k m) + mn (fw D k m j) (fw D k m k + fw D k k j)
    have hmN : m < N := by omega
    have r := mn_le (fw D k i j) (fw D k i k + fw D k k j)
    by_cases e : m = k
    · subst e
      have d := T.diag m hmN
      rw [mn_left (a := fw D m i m) (by omega), mn_left (a := fw D m m j) (by omega)]
      exact r.2
    · have hmk : m < k := by omega
      have a1 := IH i j m hi hj hmk
      have a2 := IH i k m hi hkN hmk
      have a3 := IH k j m hkN hj hmk
      have l1 := T.lo hkN hmN
      have l2 := T.lo hmN hkN
      rcases mn_or (fw D k i m) (fw D k i k + fw D k k m) with p | p <;> rcases mn_or (fw D k m j) (fw D k m k + fw D k k j) with q | q <;> rw [p, q] <;> omega

end Go.Proofs.YteiamhapplnlaabGreatDoor
