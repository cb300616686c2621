/-
  Ways that potentials prove, in plain Lean.
-/
import Derived.Test.YtkbkgkmogbkabaaRtCostPlain
import Derived.Test.YtkbkgkmogbkabaaRtPot
namespace Go.Proofs.Ytkbkgkmogbkabaa
open Go.RowKit

/-- How far potentials differ along a road. -/
def pd (pot : List Int) (r : RoadD) : Int := intAt pot r.a - intAt pot r.b
def potB (pot : List Int) (r : RoadD) : Prop := pd pot r ≤ r.cost ∧ -(pd pot r) ≤ r.cost
instance (pot : List Int) (r : RoadD) : Decidable (potB pot r) := by unfold potB; infer_instance
def lastI (way : List Int) : Int := fn way (way.length - 1)
/-- What CheckWay answers on a valid map. -/
def shownP (rs : List RoadD) (N : Nat) (way pot : List Int) : Prop :=
  pot.length = N ∧ (∀ x ∈ pot, -1000 ≤ x ∧ x ≤ 1000) ∧ (∀ r ∈ rs, potB pot r) ∧ 0 ≤ costR rs N way ∧ intAt pot (lastI way) - intAt pot (fn way 0) = costR rs N way
instance (rs : List RoadD) (N : Nat) (way pot : List Int) : Decidable (shownP rs N way pot) := by unfold shownP; infer_instance
def shownB (rs : List RoadD) (N : Nat) (way pot : List Int) : Bool := decide (shownP rs N way pot)
theorem shown_len {rs : List RoadD} {N : Nat} {way pot : List Int} (h : pot.length ≠ N) : shownB rs N way pot = false := decide_eq_false (fun k => h k.1)
theorem shown_box {rs : List RoadD} {N : Nat} {way pot : List Int} {x : Int} (hx : x ∈ pot) (h : x < -1000 ∨ 1000 < x) : shownB rs N way pot = false := decide_eq_false (fun k => by have := k.2.1 x hx; omega)
theorem shown_road {rs : List RoadD} {N : Nat} {way pot : List Int} {r : RoadD} (hr : r ∈ rs) (h : ¬ potB pot r) : shownB rs N way pot = false := decide_eq_false (fun k => h (k.2.2.1 r hr))
theorem shown_cost {rs : List RoadD} {N : Nat} {way pot : List Int} (h : costR rs N way < 0) : shownB rs N way pot = false := decide_eq_false (fun k => by have := k.2.2.2.1; omega)
theorem shown_last {rs : List RoadD} {N : Nat} {way pot : List Int} (h : ¬ intAt pot (lastI way) - intAt pot (fn way 0) = costR rs N way) : shownB rs N way pot = false := decide_eq_false (fun k => h k.2.2.2.2)
theorem shown_yes {rs : List RoadD} {N : Nat} {way pot : List Int} (h1 : pot.length = N) (h2 : ∀ x ∈ pot, -1000 ≤ x ∧ x ≤ 1000) (h3 : ∀ r ∈ rs, potB pot r) (h4 : 0 ≤ costR rs N way) (h5 : intAt pot (lastI way) - intAt pot (fn way 0) = costR rs N way) : shownB rs N way pot = true := decide_eq_true ⟨h1, h2, h3, h4, h5⟩

/-- The stops of a way are apart. -/
theorem cst_range {rs : List RoadD} {n : Int} {way : List Int} : ∀ {k : Nat} {s : Int}, cst rs n way k = some s → k ≤ way.length → (way.take k).Nodup ∧ ∀ y ∈ way.take k, 0 ≤ y ∧ y < n
  | 0, _, _, _ => by simp
  | k + 1, s, h, hk => by
    cases e : cst rs n way k with
    | none => rw [cst_none e 1] at h; simp at h
    | some t =>
      obtain ⟨h1, h2⟩ := cst_range e (by omega)
      have hb : ¬ (fn way k < 0 ∨ n ≤ fn way k ∨ fn way k ∈ way.take k) := fun hb => by rw [cst_bad e hb] at h; simp at h
      rw [List.take_succ_eq_append_getElem (by omega), ← fn_get (by omega : k < way.length)]
      constructor
      · rw [List.nodup_append]
        refine ⟨h1, by simp, fun a ha b hb' => ?_⟩
        simp only [List.mem_singleton] at hb'
        subst hb'
        intro e2
        subst e2
        exact hb (.inr (.inr ha))
      · intro y hy
        rcases List.mem_append.1 hy with hy | hy
        · exact h2 y hy
        · simp only [List.mem_singleton] at hy
          subst hy
          omega
theorem cst_short {rs : List RoadD} {N : Nat} {way : List Int} {k : Nat} {s : Int} (h : cst rs N way k = some s) (hk : k ≤ way.length) : k ≤ N := by
  obtain ⟨h1, h2⟩ := cst_range h hk
  have := nodup_len N (way.take k) h1 h2
  rw [List.length_take] at this
  omega
theorem cst_take {rs : List RoadD} {n : Int} {way : List Int} {k : Nat} (h : k ≤ way.length) : cst rs n (way.take k) k = cst rs n way k := by
  have := cst_app (rs := rs) (n := n) (way := way.take k) (way.drop k) k (by rw [List.length_take]; omega)
  rw [List.take_append_drop] at this
  exact this.symm
theorem shown_cut {rs : List RoadD} {N : Nat} {way pot : List Int} (hN : N ≤ 8) : shownB rs N (way.take 18) (pot.take 18) = shownB rs N way pot := by
  by_cases hp : pot.length ≤ 18
  · rw [List.take_of_length_le hp]
    by_cases hw : way.length ≤ 18
    · rw [List.take_of_length_le hw]
    · have n1 : cst rs N way 18 = none := by
        cases e : cst rs N way 18 with
        | none => rfl
        | some s => have := cst_short e (by omega); omega
      rw [shown_cost (by rw [costR_none (k := 18) (by rw [List.length_take]; omega) (by rw [cst_take (by omega)]; exact n1)]; omega), shown_cost (by rw [costR_none (k := 18) (by omega) n1]; omega)]
  · rw [shown_len (by rw [List.length_take]; omega), shown_len (by omega)]

/-- In the middle of a way: what the program's sum says. -/
def Mid (rs : List RoadD) (N : Nat) (way : List Int) (k : Nat) (s : Int) : Prop := (cst rs N way k = some s ∧ s ≤ 50 * (k : Int)) ∨ (far ≤ s ∧ cst rs N way k = none)
theorem Mid.bad {rs : List RoadD} {N : Nat} {way : List Int} {k : Nat} {s : Int} (h : Mid rs N way k s) (hb : fn way k < 0 ∨ (N : Int) ≤ fn way k ∨ fn way k ∈ way.take k) (hk : k < way.length) : costR rs N way = -1 := by
  refine costR_none (k := k + 1) (by omega) ?_
  rcases h with ⟨h, -⟩ | ⟨-, h⟩
  · exact cst_bad h hb
  · exact cst_none h 1
theorem Mid.first {rs : List RoadD} {N : Nat} {way : List Int} {s : Int} (h : Mid rs N way 0 s) (hb : ¬ (fn way 0 < 0 ∨ (N : Int) ≤ fn way 0 ∨ fn way 0 ∈ way.take 0)) : Mid rs N way 1 s := by
  rcases h with ⟨h, h2⟩ | ⟨h2, h⟩
  · exact .inl ⟨cst_first h hb, by omega⟩
  · exact .inr ⟨h2, cst_none h 1⟩
theorem Mid.step {rs : List RoadD} {N : Nat} (hr : ∀ r ∈ rs, roadOk N r = true) {way : List Int} {k p x : Nat} {s : Int} (h : Mid rs N way k s) (hs : 0 ≤ s) (hk : 0 < k) (hkw : k < way.length) (hp : fn way (k - 1) = p) (hx : fn way k = x)
    (hb : ¬ (fn way k < 0 ∨ (N : Int) ≤ fn way k ∨ fn way k ∈ way.take k)) : Mid rs N way (k + 1) (s + costTo rs p x) ∧ 0 ≤ costTo rs p x ∧ costTo rs p x ≤ far := by
  have hne : p ≠ x := by
    intro e
    refine hb (.inr (.inr ?_))
    rw [hx, ← e, ← hp, fn_get (by omega)]
    have h1 : way[k - 1]'(by omega) = (way.take k)[k - 1]'(by rw [List.length_take]; omega) := by rw [List.getElem_take]
    rw [h1]; exact List.getElem_mem _
  obtain ⟨v, v1, v2⟩ := stepR_val hr hne
  have hc : 0 ≤ costTo rs p x ∧ costTo rs p x ≤ far := by rw [v]; unfold ff far; split <;> omega
  refine ⟨?_, hc⟩
  rcases h with ⟨h, h2⟩ | ⟨h2, h⟩
  · by_cases c : stepR rs p x < 0
    · right
      refine ⟨?_, cst_no h hk (by rw [hp, hx]; exact c)⟩
      rw [v]; unfold ff; rw [if_pos c]; omega
    · left
      have h3 := cst_yes h hb hk (by rw [hp, hx]; exact c)
      rw [hp, hx] at h3
      have e : costTo rs p x = stepR rs p x := by rw [v]; unfold ff; rw [if_neg c]
      rw [e]
      exact ⟨h3, by omega⟩
  · exact .inr ⟨by omega, cst_none h 1⟩
theorem Mid.end_ {rs : List RoadD} {N : Nat} {way : List Int} {s : Int} (h : Mid rs N way way.length s) (hne : way ≠ []) (hl : way.length ≤ 18) : (s < far → costR rs N way = s) ∧ (far ≤ s → costR rs N way = -1) := by
  rcases h with ⟨h, h2⟩ | ⟨h2, h⟩
  · exact ⟨fun _ => costR_some hne h, fun g => by unfold far at g; omega⟩
  · exact ⟨fun g => by omega, fun _ => costR_none (Nat.le_refl _) h⟩

end Go.Proofs.Ytkbkgkmogbkabaa
