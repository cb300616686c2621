/-
  The cost of a way, and the reference's search, in plain Lean.
-/
import Derived.Test.YtkbkgkmogbkabaaRtStep
namespace Go.Proofs.Ytkbkgkmogbkabaa
open Go.RowKit

/-- The cost of the first k stops of a way; none: these are no way. -/
def cst (rs : List RoadD) (n : Int) (way : List Int) : Nat → Option Int
  | 0 => some 0
  | k + 1 => match cst rs n way k with
    | none => none
    | some s => if fn way k < 0 ∨ n ≤ fn way k ∨ fn way k ∈ way.take k then none else if k = 0 then some s else if stepR rs (fn way (k - 1)) (fn way k) < 0 then none else some (s + stepR rs (fn way (k - 1)) (fn way k))
def costR (rs : List RoadD) (n : Int) (way : List Int) : Int := if way = [] then -1 else (cst rs n way way.length).getD (-1)
theorem cst_none {rs : List RoadD} {n : Int} {way : List Int} {k : Nat} (h : cst rs n way k = none) : ∀ j, cst rs n way (k + j) = none
  | 0 => h
  | j + 1 => by
    show cst rs n way (k + j + 1) = none
    unfold cst
    rw [cst_none h j]
theorem costR_none {rs : List RoadD} {n : Int} {way : List Int} {k : Nat} (hk : k ≤ way.length) (h : cst rs n way k = none) : costR rs n way = -1 := by
  unfold costR
  split
  · rfl
  · have := cst_none h (way.length - k)
    rw [show k + (way.length - k) = way.length by omega] at this
    rw [this]; rfl
theorem cst_bad {rs : List RoadD} {n : Int} {way : List Int} {k : Nat} {s : Int} (h : cst rs n way k = some s) (hb : fn way k < 0 ∨ n ≤ fn way k ∨ fn way k ∈ way.take k) : cst rs n way (k + 1) = none := by
  unfold cst; rw [h]; show (if _ then _ else _) = _; rw [if_pos hb]
theorem cst_first {rs : List RoadD} {n : Int} {way : List Int} {s : Int} (h : cst rs n way 0 = some s) (hb : ¬ (fn way 0 < 0 ∨ n ≤ fn way 0 ∨ fn way 0 ∈ way.take 0)) : cst rs n way 1 = some s := by
  unfold cst; rw [h]; show (if _ then _ else _) = _; rw [if_neg hb, if_pos rfl]
theorem cst_no {rs : List RoadD} {n : Int} {way : List Int} {k : Nat} {s : Int} (h : cst rs n way k = some s) (hk : 0 < k) (hc : stepR rs (fn way (k - 1)) (fn way k) < 0) : cst rs n way (k + 1) = none := by
  unfold cst; rw [h]; show (if _ then _ else if _ then _ else if _ then _ else _) = _
  rw [if_neg (c := k = 0) (by omega), if_pos (c := stepR rs (fn way (k - 1)) (fn way k) < 0) hc]
  split <;> rfl
theorem cst_yes {rs : List RoadD} {n : Int} {way : List Int} {k : Nat} {s : Int} (h : cst rs n way k = some s) (hb : ¬ (fn way k < 0 ∨ n ≤ fn way k ∨ fn way k ∈ way.take k)) (hk : 0 < k) (hc : ¬ stepR rs (fn way (k - 1)) (fn way k) < 0) :
    cst rs n way (k + 1) = some (s + stepR rs (fn way (k - 1)) (fn way k)) := by
  unfold cst; rw [h]; show (if _ then _ else _) = _
  rw [if_neg hb, if_neg (by omega), if_neg hc]
theorem fn_app {xs ys : List Int} {k : Nat} (h : k < xs.length) : fn (xs ++ ys) k = fn xs k := by
  rw [fn_get h, fn_get (by rw [List.length_append]; omega), List.getElem_append_left h]
theorem cst_app {rs : List RoadD} {n : Int} {way : List Int} (ys : List Int) : ∀ k, k ≤ way.length → cst rs n (way ++ ys) k = cst rs n way k
  | 0, _ => rfl
  | k + 1, hk => by
    unfold cst
    rw [cst_app ys k (by omega)]
    rw [fn_app (by omega : k < way.length), fn_app (by omega : k - 1 < way.length), List.take_append_of_le_length (by omega : k ≤ way.length)]
theorem costR_some {rs : List RoadD} {n : Int} {way : List Int} {s : Int} (hne : way ≠ []) (h : cst rs n way way.length = some s) : costR rs n way = s := by
  unfold costR; rw [if_neg hne, h]; rfl
/-- One stop more. -/
theorem costR_push {rs : List RoadD} {n : Int} {way : List Int} {x s : Int} (hne : way ≠ []) (h : cst rs n way way.length = some s) :
    (¬ (x < 0 ∨ n ≤ x ∨ x ∈ way) ∧ 0 ≤ stepR rs (fn way (way.length - 1)) x ∧ cst rs n (way ++ [x]) (way ++ [x]).length = some (s + stepR rs (fn way (way.length - 1)) x) ∧ costR rs n (way ++ [x]) = s + stepR rs (fn way (way.length - 1)) x) ∨
    ((x < 0 ∨ n ≤ x ∨ x ∈ way ∨ stepR rs (fn way (way.length - 1)) x < 0) ∧ costR rs n (way ++ [x]) = -1) := by
  have hl : (way ++ [x]).length = way.length + 1 := by simp
  have hpos : 0 < way.length := List.length_pos_iff.2 hne
  have h0 : cst rs n (way ++ [x]) way.length = some s := by rw [cst_app _ _ (Nat.le_refl _)]; exact h
  have hx : fn (way ++ [x]) way.length = x := by rw [fn_get (by omega)]; simp
  have hp : fn (way ++ [x]) (way.length - 1) = fn way (way.length - 1) := fn_app (by omega)
  have ht : (way ++ [x]).take way.length = way := by simp
  by_cases hb : x < 0 ∨ n ≤ x ∨ x ∈ way
  · right
    refine ⟨by rcases hb with h | h | h <;> simp [h], costR_none (k := way.length + 1) (by omega) (cst_bad h0 (by rw [hx, ht]; exact hb))⟩
  · by_cases hc : stepR rs (fn way (way.length - 1)) x < 0
    · right
      exact ⟨.inr (.inr (.inr hc)), costR_none (k := way.length + 1) (by omega) (cst_no h0 hpos (by rw [hx, hp]; exact hc))⟩
    · left
      have h1 := cst_yes h0 (by rw [hx, ht]; exact hb) hpos (by rw [hx, hp]; exact hc)
      rw [hx, hp] at h1
      rw [hl]
      exact ⟨hb, by omega, h1, costR_some (by simp) (by rw [hl]; exact h1)⟩

/-- The reference's search. -/
def waysR (rs : List RoadD) (N : Nat) (b : Nat) (tot : Int) : Nat → List Int → Option (List Int)
  | 0, way => if fn way (way.length - 1) = b ∧ costR rs N way = tot then some way else none
  | f + 1, way => (List.range N).findSome? fun (x : Nat) => if 0 ≤ costR rs N (way ++ [(x : Int)]) ∧ costR rs N (way ++ [(x : Int)]) ≤ tot then waysR rs N b tot f (way ++ [(x : Int)]) else none
def waysF (rs : List RoadD) (N : Nat) (b : Nat) (tot : Int) (f : Nat) (way : List Int) (x : Nat) : Option (List Int) :=
  if 0 ≤ costR rs N (way ++ [(x : Int)]) ∧ costR rs N (way ++ [(x : Int)]) ≤ tot then waysR rs N b tot f (way ++ [(x : Int)]) else none
theorem waysR_succ (rs : List RoadD) (N : Nat) (b : Nat) (tot : Int) (f : Nat) (way : List Int) : waysR rs N b tot (f + 1) way = (List.range N).findSome? (waysF rs N b tot f way) := rfl

section
variable {rs : List RoadD} {N : Nat} (hr : ∀ r ∈ rs, roadOk N r = true)
include hr

theorem cost_step {i j : Nat} (hne : i ≠ j) : (0 ≤ stepR rs i j ↔ costTo rs i j < far) ∧ (0 ≤ stepR rs i j → costTo rs i j = stepR rs i j) := by
  obtain ⟨v, v1, v2⟩ := stepR_val hr hne
  rw [v]
  unfold ff far
  constructor
  · constructor
    · intro h; rw [if_neg (by omega)]; omega
    · intro h; split at h <;> omega
  · intro h; rw [if_neg (by omega)]

/-- What a success says of the cost. -/
theorem ways_sound {b : Nat} (hb : b < N) (tot : Int) : ∀ (f : Nat) (way : List Int) (last : Nat) (s : Int) (r : List Int), waysR rs N b tot f way = some r → way ≠ [] → fn way (way.length - 1) = last → last < N → 0 ≤ s → cst rs N way way.length = some s →
    s + fw (costTo rs) N last b ≤ tot
  | 0, way, last, s, r, h, hne, hl, hlN, hs, hc => by
    unfold waysR at h
    split at h
    · rename_i g
      obtain ⟨g1, g2⟩ := g
      rw [costR_some hne hc] at g2
      have e : last = b := by omega
      subst e
      rw [((costs_tab hr).fw N (Nat.le_refl _)).diag last hlN]
      omega
    · simp at h
  | f + 1, way, last, s, r, h, hne, hl, hlN, hs, hc => by
    rw [waysR_succ] at h
    obtain ⟨x, hx, hrr⟩ := List.exists_of_findSome?_eq_some h
    have hxN := List.mem_range.1 hx
    unfold waysF at hrr
    split at hrr
    · rename_i g
      rcases costR_push (x := (x : Int)) hne hc with ⟨g1, g2, g3, g4⟩ | ⟨-, g2⟩
      · rw [hl] at g2 g3 g4
        have ih := ways_sound hb tot f (way ++ [(x : Int)]) x (s + stepR rs last x) r hrr (by simp) (by rw [fn_get (by simp)]; simp) hxN (by omega) g3
        have hne2 : last ≠ x := by
          intro e
          refine g1 (.inr (.inr ?_))
          rw [← e, ← hl]
          have hp : 0 < way.length := List.length_pos_iff.2 hne
          rw [fn_get (by omega)]
          exact List.getElem_mem _
        obtain ⟨c1, c2⟩ := cost_step hr hne2
        have t := tri (costs_tab hr) N (Nat.le_refl _) last b x hlN hb hxN
        have m := fw_le (costTo rs) 0 last x N
        rw [Nat.zero_add] at m
        have m2 : fw (costTo rs) 0 last x = costTo rs last x := rfl
        have := c2 g2
        omega
      · omega
    · simp at hrr

/-- The two searches find the same. -/
theorem ways_eq {b : Nat} (hb : b < N) (tot : Int) : ∀ (f : Nat) (way : List Int) (last : Nat) (s : Int), way ≠ [] → fn way (way.length - 1) = last → last < N → 0 ≤ s → cst rs N way way.length = some s → s + fw (costTo rs) N last b = tot → fw (costTo rs) N last b < far →
    waysR rs N b tot f way = growP (costTo rs) (fw (costTo rs) N) N b tot f way last s
  | 0, way, last, s, hne, hl, hlN, hs, hc, ht, hf => by
    unfold waysR growP
    rw [costR_some hne hc, hl]
    by_cases e : last = b
    · subst e
      rw [((costs_tab hr).fw N (Nat.le_refl _)).diag last hlN] at ht
      rw [if_pos ⟨rfl, by omega⟩, if_pos rfl]
    · rw [if_neg (fun h => e (by omega)), if_neg e]
  | f + 1, way, last, s, hne, hl, hlN, hs, hc, ht, hf => by
    rw [waysR_succ, growP_succ]
    have T := (costs_tab hr).fw N (Nat.le_refl _)
    have key : ∀ x, x < N → waysF rs N b tot f way x = growF (costTo rs) (fw (costTo rs) N) N b tot f way last s x := by
      intro x hxN
      have hlw : (last : Int) ∈ way := by
        have hp : 0 < way.length := List.length_pos_iff.2 hne
        rw [← hl, fn_get (by omega)]
        exact List.getElem_mem _
      have l := T.lo hxN hb
      unfold waysF growF
      rcases costR_push (x := (x : Int)) hne hc with ⟨g1, g2, g3, g4⟩ | ⟨g1, g2⟩
      · rw [hl] at g2 g3 g4
        have hne2 : x ≠ last := fun e => g1 (.inr (.inr (by rw [e]; exact hlw)))
        obtain ⟨c1, c2⟩ := cost_step hr (fun e => hne2 e.symm : last ≠ x)
        have c3 := c2 g2
        have c4 := c1.1 g2
        have t := tri (costs_tab hr) N (Nat.le_refl _) last b x hlN hb hxN
        have m := fw_le (costTo rs) 0 last x N
        rw [Nat.zero_add] at m
        have m2 : fw (costTo rs) 0 last x = costTo rs last x := rfl
        rw [g4]
        by_cases hq : s + stepR rs last x + fw (costTo rs) N x b = tot
        · rw [if_pos ⟨by omega, by omega⟩, if_pos ⟨hne2, c4, by omega, fun h => g1 (.inr (.inr h))⟩, c3]
          exact ways_eq hb tot f (way ++ [(x : Int)]) x (s + stepR rs last x) (by simp) (by rw [fn_get (by simp)]; simp) hxN (by omega) g3 (by omega) (by omega)
        · rw [if_neg (c := x ≠ last ∧ _) (fun h => hq (by have := h.2.2.1; omega))]
          split
          · cases e : waysR rs N b tot f (way ++ [(x : Int)]) with
            | none => rfl
            | some r =>
              have := ways_sound hr hb tot f (way ++ [(x : Int)]) x (s + stepR rs last x) r e (by simp) (by rw [fn_get (by simp)]; simp) hxN (by omega) g3
              omega
          · rfl
      · rw [g2, if_neg (by omega), if_neg]
        rintro ⟨h1, h2, -, h4⟩
        rcases g1 with g | g | g | g
        · omega
        · omega
        · exact h4 g
        · rw [hl] at g
          obtain ⟨c1, -⟩ := cost_step hr (fun e => h1 e.symm : last ≠ x)
          have := c1.2 h2
          omega
    have hm : ∀ (l : List Nat), (∀ x ∈ l, x < N) → l.findSome? (waysF rs N b tot f way) = l.findSome? (growF (costTo rs) (fw (costTo rs) N) N b tot f way last s) := by
      intro l
      induction l with
      | nil => intro _; rfl
      | cons x l ih =>
        intro h
        rw [List.findSome?_cons, List.findSome?_cons, key x (h x (List.mem_cons_self ..)), ih (fun y hy => h y (List.mem_cons_of_mem _ hy))]
    exact hm _ (fun x hx => List.mem_range.1 hx)
omit hr in
/-- One stop. -/
theorem cst_one {a : Nat} (ha : a < N) : cst rs N [(a : Int)] 1 = some 0 := by
  refine cst_first rfl ?_
  have : fn [(a : Int)] 0 = a := rfl
  rw [this]
  simp; omega
theorem ways_way {a b : Nat} (ha : a < N) (hb : b < N) (hf : fw (costTo rs) N a b < far) (f : Nat) :
    waysR rs N b (fw (costTo rs) N a b) f [(a : Int)] = growP (costTo rs) (fw (costTo rs) N) N b (fw (costTo rs) N a b) f [(a : Int)] a 0 :=
  ways_eq hr hb _ f [(a : Int)] a 0 (by simp) rfl ha (by omega) (cst_one ha) (by omega) hf
end

end Go.Proofs.Ytkbkgkmogbkabaa
