/-
  Ways, in plain Lean: the search step by step, and that it finds one.
-/
import Derived.Test.YtkbkgkmogbkabaaDoorRtPlain
namespace Go.Proofs.YtkbkgkmogbkabaaDoor
open Go.RowKit

/-- The search for a way of a given length: f stops more. -/
def growP (c d : Nat → Nat → Int) (n b : Nat) (tot : Int) : Nat → List Int → Nat → Int → Option (List Int)
  | 0, way, last, _ => if last = b then some way else none
  | f + 1, way, last, cost => (List.range n).findSome? fun x =>
      if x ≠ last ∧ c last x < far ∧ cost + c last x + d x b = tot ∧ (x : Int) ∉ way then growP c d n b tot f (way ++ [(x : Int)]) x (cost + c last x) else none

theorem fw_le (D : Nat → Nat → Int) (k i j : Nat) : ∀ m, fw D (k + m) i j ≤ fw D k i j
  | 0 => Int.le_refl _
  | m + 1 => by
    have h1 := fw_le D k i j m
    have h2 : fw D (k + m + 1) i j ≤ fw D (k + m) i j := (mn_le _ _).1
    show fw D (k + m + 1) i j ≤ _
    omega
theorem next_stop {N : Nat} {c : Nat → Nat → Int} (h : Tab N 50 c) (hN : N ≤ 8) : ∀ k, k ≤ N → ∀ i j, i < N → j < N → i ≠ j → fw c k i j < far →
    ∃ x, x < N ∧ x ≠ i ∧ c i x < far ∧ c i x + fw c N x j ≤ fw c k i j
  | 0, _, i, j, hi, hj, hne, hf => by
    refine ⟨j, hj, fun e => hne e.symm, hf, ?_⟩
    have := (h.fw N (Nat.le_refl _)).diag j hj
    show c i j + fw c N j j ≤ c i j
    omega
  | k + 1, hk, i, j, hi, hj, hne, hf => by
    have T := h.fw k (by omega)
    have hkN : k < N := by omega
    have hv : fw c (k + 1) i j = mn (fw c k i j) (fw c k i k + fw c k k j) := rfl
    rw [hv] at hf ⊢
    rcases mn_or (fw c k i j) (fw c k i k + fw c k k j) with e | e
    · rw [e] at hf ⊢
      exact next_stop h hN k (by omega) i j hi hj hne hf
    · rw [e] at hf ⊢
      have l2 := T.lo hkN hj
      have l1 := T.lo hi hkN
      by_cases ei : i = k
      · subst ei
        have hd := T.diag i hi
        obtain ⟨x, hx, hxi, hc, hle⟩ := next_stop h hN i (by omega) i j hi hj hne (by omega)
        exact ⟨x, hx, hxi, hc, by omega⟩
      · obtain ⟨x, hx, hxi, hc, hle⟩ := next_stop h hN k (by omega) i k hi hkN ei (by omega)
        have t := tri h N (Nat.le_refl _) x j k hx hj hkN
        have m := fw_le c k k j (N - k)
        rw [show k + (N - k) = N from by omega] at m
        exact ⟨x, hx, hxi, hc, by omega⟩
theorem step_eq {N : Nat} {c : Nat → Nat → Int} (h : Tab N 50 c) (hN : N ≤ 8) {i j : Nat} (hi : i < N) (hj : j < N) (hne : i ≠ j) (hf : fw c N i j < far) :
    ∃ x, x < N ∧ x ≠ i ∧ c i x < far ∧ c i x + fw c N x j = fw c N i j ∧ fw c N x j < fw c N i j := by
  obtain ⟨x, hx, hxi, hc, hle⟩ := next_stop h hN N (Nat.le_refl _) i j hi hj hne hf
  have t := tri h N (Nat.le_refl _) i j x hi hj hx
  have m := fw_le c 0 i x N
  rw [Nat.zero_add] at m
  have m2 : fw c 0 i x = c i x := rfl
  have p := h.pos i x hi hx (fun e => hxi e.symm)
  exact ⟨x, hx, hxi, hc, by omega, by omega⟩
theorem grow_some {N : Nat} {c : Nat → Nat → Int} (h : Tab N 50 c) (hN : N ≤ 8) {b : Nat} (hb : b < N) (tot : Int) : ∀ (M : Nat) (i : Nat) (way : List Int) (cost : Int), i < N → fw c N i b < far → (fw c N i b).toNat ≤ M → cost + fw c N i b = tot →
    (∀ y : Nat, (y : Int) ∈ way → fw c N i b ≤ fw c N y b) → ∃ f r, f ≤ M ∧ growP c (fw c N) N b tot f way i cost = some r
  | M, i, way, cost, hi, hf, hM, ht, hw => by
    by_cases e : i = b
    · exact ⟨0, way, Nat.zero_le _, by simp [growP, e]⟩
    · obtain ⟨x, hx, hxi, hc, heq, hlt⟩ := step_eq h hN hi hb e hf
      have T := h.fw N (Nat.le_refl _)
      have l := T.lo hx hb
      have hxw : (x : Int) ∉ way := fun hm => by have := hw x hm; omega
      cases M with
      | zero => omega
      | succ M =>
        obtain ⟨f, r, hfM, hr⟩ := grow_some h hN hb tot M x (way ++ [(x : Int)]) (cost + c i x) hx (by omega) (by omega) (by omega) (fun y hy => by
          rcases List.mem_append.1 hy with hy | hy
          · have := hw y hy; omega
          · have hyx : y = x := Int.ofNat_inj.1 (List.mem_singleton.1 hy)
            rw [hyx]; exact Int.le_refl _)
        have hs : (growP c (fw c N) N b tot (f + 1) way i cost).isSome = true := by
          unfold growP
          rw [List.findSome?_isSome_iff]
          refine ⟨x, List.mem_range.2 hx, ?_⟩
          rw [if_pos ⟨hxi, hc, by omega, hxw⟩, hr]; rfl
        obtain ⟨r2, hr2⟩ := Option.isSome_iff_exists.1 hs
        exact ⟨f + 1, r2, by omega, hr2⟩

/-- One step of the search. -/
def growF (c d : Nat → Nat → Int) (n b : Nat) (tot : Int) (f : Nat) (way : List Int) (last : Nat) (cost : Int) (x : Nat) : Option (List Int) :=
  if x ≠ last ∧ c last x < far ∧ cost + c last x + d x b = tot ∧ (x : Int) ∉ way then growP c d n b tot f (way ++ [(x : Int)]) x (cost + c last x) else none
theorem growP_succ (c d : Nat → Nat → Int) (n b : Nat) (tot : Int) (f : Nat) (way : List Int) (last : Nat) (cost : Int) :
    growP c d n b tot (f + 1) way last cost = (List.range n).findSome? (growF c d n b tot f way last cost) := rfl
theorem find_none {F : Nat → Option (List Int)} {x : Nat} (h : (List.range x).findSome? F = none) (hx : F x = none) : (List.range (x + 1)).findSome? F = none := by
  rw [List.range_succ, List.findSome?_append, h]; simp [hx]
theorem find_first {F : Nat → Option (List Int)} {n x : Nat} {r : List Int} (hxn : x < n) (h : (List.range x).findSome? F = none) (hx : F x = some r) : (List.range n).findSome? F = some r := by
  obtain ⟨k, rfl⟩ : ∃ k, n = x + 1 + k := ⟨n - (x + 1), by omega⟩
  have h1 : (List.range (x + 1)).findSome? F = some r := by rw [List.range_succ, List.findSome?_append, h]; simp [hx]
  rw [List.range_add, List.findSome?_append, h1]; rfl

end Go.Proofs.YtkbkgkmogbkabaaDoor
