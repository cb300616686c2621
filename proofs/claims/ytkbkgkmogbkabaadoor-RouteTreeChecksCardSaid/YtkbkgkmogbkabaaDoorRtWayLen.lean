/-
  How long a way is, in plain Lean.
-/
import Derived.Test.YtkbkgkmogbkabaaDoorRtWayPlain
namespace Go.Proofs.YtkbkgkmogbkabaaDoor
open Go.RowKit

theorem growF_some {c d : Nat → Nat → Int} {n b : Nat} {tot : Int} {f : Nat} {way : List Int} {last : Nat} {cost : Int} {x : Nat} {r : List Int} (h : growF c d n b tot f way last cost x = some r) :
    (x ≠ last ∧ c last x < far ∧ cost + c last x + d x b = tot ∧ (x : Int) ∉ way) ∧ growP c d n b tot f (way ++ [(x : Int)]) x (cost + c last x) = some r := by
  unfold growF at h
  split at h
  · rename_i g; exact ⟨g, h⟩
  · simp at h
theorem grow_step {c d : Nat → Nat → Int} {n b : Nat} {tot : Int} {f : Nat} {way : List Int} {last : Nat} {cost : Int} {r : List Int} (h : growP c d n b tot (f + 1) way last cost = some r) :
    ∃ x, x < n ∧ growF c d n b tot f way last cost x = some r := by
  rw [growP_succ] at h
  obtain ⟨x, hx, hr⟩ := List.exists_of_findSome?_eq_some h
  exact ⟨x, List.mem_range.1 hx, hr⟩
theorem grow_len {c d : Nat → Nat → Int} {n b : Nat} {tot : Int} : ∀ {f : Nat} {way : List Int} {last : Nat} {cost : Int} {r : List Int}, growP c d n b tot f way last cost = some r → r.length = way.length + f
  | 0, way, last, cost, r, h => by
    unfold growP at h
    split at h
    · simp only [Option.some.injEq] at h; subst h; simp
    · simp at h
  | f + 1, way, last, cost, r, h => by
    obtain ⟨x, hx, hr⟩ := grow_step h
    have := grow_len (growF_some hr).2
    rw [this]; simp; omega
theorem grow_stops {c d : Nat → Nat → Int} {n b : Nat} {tot : Int} : ∀ {f : Nat} {way : List Int} {last : Nat} {cost : Int} {r : List Int}, growP c d n b tot f way last cost = some r →
    way.Nodup → (∀ y ∈ way, 0 ≤ y ∧ y < n) → r.Nodup ∧ ∀ y ∈ r, 0 ≤ y ∧ y < n
  | 0, way, last, cost, r, h, h1, h2 => by
    unfold growP at h
    split at h
    · simp only [Option.some.injEq] at h; subst h; exact ⟨h1, h2⟩
    · simp at h
  | f + 1, way, last, cost, r, h, h1, h2 => by
    obtain ⟨x, hx, hr⟩ := grow_step h
    obtain ⟨⟨g1, g2, g3, g4⟩, h'⟩ := growF_some hr
    refine grow_stops h' ?_ ?_
    · rw [List.nodup_append]
      refine ⟨h1, by simp, fun a ha b hb => ?_⟩
      simp only [List.mem_singleton] at hb
      subst hb
      intro e
      subst e
      exact g4 ha
    · intro y hy
      rcases List.mem_append.1 hy with hy | hy
      · exact h2 y hy
      · simp only [List.mem_singleton] at hy
        subst hy; omega
theorem nodup_len : ∀ (n : Nat) (l : List Int), l.Nodup → (∀ y ∈ l, 0 ≤ y ∧ y < n) → l.length ≤ n
  | 0, l, _, h => by
    cases l with
    | nil => simp
    | cons a l => have := h a (by simp); omega
  | n + 1, l, hn, h => by
    have h1 := nodup_len n (l.erase n) (hn.erase _) (fun y hy => by
      have h2 := h y (List.mem_of_mem_erase hy)
      have h3 : y ≠ n := fun e => by subst e; exact (hn.not_mem_erase) hy
      omega)
    rw [List.length_erase] at h1
    split at h1 <;> omega
theorem least {P : Nat → Prop} : ∀ n, P n → ∃ m, P m ∧ ∀ k, k < m → ¬ P k := by
  intro n
  induction n using Nat.strongRecOn with
  | _ n ih =>
    intro h
    by_cases e : ∃ k, k < n ∧ P k
    · obtain ⟨k, hk, hp⟩ := e
      exact ih k hk hp
    · exact ⟨n, h, fun k hk hp => e ⟨k, hk, hp⟩⟩

/-- The way that is found: the first of the shortest. -/
def IsWay (c d : Nat → Nat → Int) (n a b : Nat) (f : Nat) (r : List Int) : Prop :=
  growP c d n b (d a b) f [(a : Int)] a 0 = some r ∧ ∀ k, k < f → growP c d n b (d a b) k [(a : Int)] a 0 = none
theorem way_ex {N : Nat} {c : Nat → Nat → Int} (h : Tab N 50 c) (hN : N ≤ 8) {a b : Nat} (ha : a < N) (hb : b < N) (hf : fw c N a b < far) : ∃ f r, IsWay c (fw c N) N a b f r ∧ f < N := by
  have T := h.fw N (Nat.le_refl _)
  obtain ⟨f, r, -, hr⟩ := grow_some h hN hb (fw c N a b) _ a [(a : Int)] 0 ha hf (Nat.le_refl _) (by omega) (fun y hy => by
    simp only [List.mem_singleton] at hy
    have : y = a := by omega
    subst this; exact Int.le_refl _)
  obtain ⟨m, ⟨r', hm⟩, hl⟩ := least (P := fun f => ∃ r, growP c (fw c N) N b (fw c N a b) f [(a : Int)] a 0 = some r) f ⟨r, hr⟩
  refine ⟨m, r', ⟨hm, fun k hk => ?_⟩, ?_⟩
  · cases e : growP c (fw c N) N b (fw c N a b) k [(a : Int)] a 0 with
    | none => rfl
    | some z => exact absurd ⟨z, e⟩ (hl k hk)
  · obtain ⟨h1, h2⟩ := grow_stops hm (by simp) (fun y hy => by simp only [List.mem_singleton] at hy; subst hy; omega)
    have h3 := nodup_len N r' h1 h2
    rw [grow_len hm] at h3
    simp only [List.length_singleton] at h3
    omega

end Go.Proofs.YtkbkgkmogbkabaaDoor
