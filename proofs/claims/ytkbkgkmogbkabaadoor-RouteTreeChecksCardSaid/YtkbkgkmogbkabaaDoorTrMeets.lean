/-
  Sets of stops as numbers: the reference's closure on bits, in plain Lean.
-/
import Derived.Test.YtkbkgkmogbkabaaDoorTrPlain
namespace Go.Proofs.YtkbkgkmogbkabaaDoor
open Go.RowKit

def bothN (r : RoadD) : Nat := 2 ^ r.a.toNat ||| 2 ^ r.b.toNat
theorem both_bit (r : RoadD) (x : Nat) : (bothN r).testBit x = (x == r.a.toNat || x == r.b.toNat) := by
  unfold bothN
  rw [Nat.testBit_or, Nat.testBit_two_pow, Nat.testBit_two_pow]
  rw [Bool.eq_iff_iff]
  simp only [Bool.or_eq_true, decide_eq_true_iff, beq_iff_eq]
  constructor <;> intro h <;> omega
theorem meet_iff (m : Nat) (r : RoadD) : m &&& bothN r ≠ 0 ↔ (m.testBit r.a.toNat = true ∨ m.testBit r.b.toNat = true) := by
  constructor
  · intro h
    obtain ⟨i, hi⟩ := Nat.exists_testBit_of_ne_zero h
    rw [Nat.testBit_and, both_bit, Bool.and_eq_true, Bool.or_eq_true, beq_iff_eq, beq_iff_eq] at hi
    obtain ⟨h1, rfl | rfl⟩ := hi
    · exact .inl h1
    · exact .inr h1
  · rintro (h | h) e
    · have : (m &&& bothN r).testBit r.a.toNat = true := by rw [Nat.testBit_and, both_bit, h]; simp
      rw [e] at this; simp at this
    · have : (m &&& bothN r).testBit r.b.toNat = true := by rw [Nat.testBit_and, both_bit, h]; simp
      rw [e] at this; simp at this
/-- A number that says which stops are met. -/
def Meets (m : Nat) (f : Nat → Bool) : Prop := m < 256 ∧ ∀ x, m.testBit x = f x
def meet1 (m : Nat) (r : RoadD) : Nat := if m &&& bothN r ≠ 0 then m ||| bothN r else m
theorem both_lt {r : RoadD} (ha : r.a.toNat < 8) (hb : r.b.toNat < 8) : bothN r < 256 := by
  have e : (256 : Nat) = 2 ^ 8 := by decide
  unfold bothN
  rw [e]
  exact Nat.or_lt_two_pow (Nat.pow_lt_pow_right (by decide) ha) (Nat.pow_lt_pow_right (by decide) hb)
theorem Meets.step {m : Nat} {f : Nat → Bool} (h : Meets m f) {r : RoadD} (ha : r.a.toNat < 8) (hb : r.b.toNat < 8) : Meets (meet1 m r) (met1 f r) := by
  obtain ⟨h1, h2⟩ := h
  unfold meet1
  by_cases c : m &&& bothN r ≠ 0
  · rw [if_pos c]
    have c2 := (meet_iff m r).1 c
    rw [h2, h2] at c2
    refine ⟨?_, fun x => ?_⟩
    · have e : (256 : Nat) = 2 ^ 8 := by decide
      rw [e] at h1 ⊢
      exact Nat.or_lt_two_pow h1 (by rw [← e]; exact both_lt ha hb)
    · rw [Nat.testBit_or, h2, both_bit]
      unfold met1
      have : (f r.a.toNat || f r.b.toNat) = true := by rw [Bool.or_eq_true]; exact c2
      rw [this, Bool.true_and]
  · rw [if_neg c]
    refine ⟨h1, fun x => ?_⟩
    have c2 := fun g => c ((meet_iff m r).2 g)
    rw [h2, h2] at c2
    unfold met1
    have : (f r.a.toNat || f r.b.toNat) = false := by
      rw [Bool.eq_false_iff, ne_eq, Bool.or_eq_true]
      exact c2
    rw [this, Bool.false_and, Bool.or_false]
    exact h2 x
theorem Meets.start {s : Nat} (hs : s < 8) : Meets (2 ^ s) (fun y => y == s) := by
  refine ⟨?_, fun x => ?_⟩
  · have e : (256 : Nat) = 2 ^ 8 := by decide
    rw [e]; exact Nat.pow_lt_pow_right (by decide) hs
  · rw [Nat.testBit_two_pow, Bool.eq_iff_iff, decide_eq_true_iff, beq_iff_eq]
    constructor <;> intro h <;> exact h.symm
def meetR (E : List RoadD) (m : Nat) : Nat := E.foldl meet1 m
def meetN (E : List RoadD) (m : Nat) : Nat → Nat
  | 0 => m
  | k + 1 => meetR E (meetN E m k)
theorem Meets.round : ∀ (E : List RoadD) (m : Nat) (f : Nat → Bool), Meets m f → (∀ r ∈ E, r.a.toNat < 8 ∧ r.b.toNat < 8) → Meets (meetR E m) (metR E f)
  | [], _, _, h, _ => h
  | r :: E, m, f, h, hE => Meets.round E (meet1 m r) (met1 f r) (h.step (hE r (List.mem_cons_self ..)).1 (hE r (List.mem_cons_self ..)).2) (fun q hq => hE q (List.mem_cons_of_mem _ hq))
theorem Meets.rounds {E : List RoadD} {m : Nat} {f : Nat → Bool} (h : Meets m f) (hE : ∀ r ∈ E, r.a.toNat < 8 ∧ r.b.toNat < 8) : ∀ k, Meets (meetN E m k) (metN E f k)
  | 0 => h
  | k + 1 => Meets.round E _ _ (Meets.rounds h hE k) hE
/-- What the reference's joined tells. -/
theorem joined_bit {E : List RoadD} {N s : Nat} (hE : ∀ r ∈ E, r.a.toNat < N ∧ r.b.toNat < N) (hN : N ≤ 8) (hs : s < N) (x : Nat) : (meetN E (2 ^ s) N).testBit x = true ↔ Conn E s x := by
  have h := (Meets.start (by omega : s < 8)).rounds (E := E) (fun r hr => by have := hE r hr; omega) N
  rw [h.2 x]
  exact metN_all hE hs x

end Go.Proofs.YtkbkgkmogbkabaaDoor
