/-
  Trees, in plain Lean.
-/
import Derived.Test.YtkbkgkmogbkabaaDoorTrMeets
namespace Go.Proofs.YtkbkgkmogbkabaaDoor
open Go.RowKit

def edges (rs : List RoadD) (l : List Int) : List RoadD := l.map (fun i => roadAt rs i.toNat)
theorem edges_take (rs : List RoadD) (l : List Int) (k : Nat) : edges rs (l.take k) = (edges rs l).take k := by unfold edges; rw [List.map_take]
/-- The k-th road of a tree is one, is behind the one ahead of it, and closes no cycle. -/
def okAt (rs : List RoadD) (l : List Int) (k : Nat) : Prop :=
  (0 ≤ fn l k ∧ fn l k < rs.length ∧ (0 < k → fn l (k - 1) < fn l k)) ∧ ¬ Conn (edges rs (l.take k)) (roadAt rs (fn l k).toNat).a.toNat (roadAt rs (fn l k).toNat).b.toNat
/-- The stops that must be in one part. -/
def touch (stops : Nat) (E : List RoadD) (x : Nat) : Prop := stops.testBit x = true ∨ ∃ r ∈ E, x = r.a.toNat ∨ x = r.b.toNat
def treeP (rs : List RoadD) (stops : Nat) (l : List Int) : Prop := (∀ k, k < l.length → okAt rs l k) ∧ ∀ x y, touch stops (edges rs l) x → touch stops (edges rs l) y → Conn (edges rs l) x y
def costL (rs : List RoadD) (l : List Int) : Int := (edges rs l).foldl (fun acc r => acc + r.cost) 0

/-- One label for all that is touched: one part. -/
theorem one_label {E : List RoadD} {p : Nat → Int} (hp : Lab E p) {T : Nat → Prop} {k : Nat} (hT : ∀ x, T x → x < 8) (hk : T k) : (∀ x, T x → p x = p k) ↔ ∀ x y, T x → T y → Conn E x y := by
  constructor
  · intro h x y hx hy
    exact (hp x y (hT x hx) (hT y hy)).1 (by rw [h x hx, h y hy])
  · intro h x hx
    exact (hp x k (hT x hx) (hT k hk)).2 (h x k hx hk)
/-- All that is touched is connected with one of it. -/
theorem one_met {E : List RoadD} {T : Nat → Prop} {k : Nat} (hk : T k) : (∀ x, T x → Conn E k x) ↔ ∀ x y, T x → T y → Conn E x y := by
  constructor
  · intro h x y hx hy
    exact (h x hx).symm.trans (h y hy)
  · intro h x hx
    exact h k x hk hx
theorem touch_lt {stops : Nat} {E : List RoadD} (hs : stops < 256) (hE : ∀ r ∈ E, r.a.toNat < 8 ∧ r.b.toNat < 8) {x : Nat} (h : touch stops E x) : x < 8 := by
  rcases h with h | ⟨r, hr, h⟩
  · rcases Nat.lt_or_ge x 8 with g | g
    · exact g
    · exfalso
      have : stops < 2 ^ x := Nat.lt_of_lt_of_le (by have e : (256 : Nat) = 2 ^ 8 := by decide
                                                     rw [e] at hs; exact hs) (Nat.pow_le_pow_right (by decide) g)
      rw [Nat.testBit_lt_two_pow this] at h
      simp at h
  · have := hE r hr
    rcases h with rfl | rfl <;> omega
/-- The bits of all that is touched. -/
def touchN (stops : Nat) (E : List RoadD) : Nat := E.foldl (fun m r => m ||| bothN r) stops
theorem touchN_bit : ∀ (E : List RoadD) (stops x : Nat), (touchN stops E).testBit x = true ↔ touch stops E x
  | [], stops, x => by
    show stops.testBit x = true ↔ _
    unfold touch
    simp
  | r :: E, stops, x => by
    show (touchN (stops ||| bothN r) E).testBit x = true ↔ _
    rw [touchN_bit E (stops ||| bothN r) x]
    unfold touch
    rw [Nat.testBit_or, Bool.or_eq_true, both_bit, Bool.or_eq_true, beq_iff_eq, beq_iff_eq]
    constructor
    · rintro ((h | h) | ⟨q, hq, h⟩)
      · exact .inl h
      · exact .inr ⟨r, List.mem_cons_self .., h⟩
      · exact .inr ⟨q, List.mem_cons_of_mem _ hq, h⟩
    · rintro (h | ⟨q, hq, h⟩)
      · exact .inl (.inl h)
      · rcases List.mem_cons.1 hq with rfl | hq
        · exact .inl (.inr h)
        · exact .inr ⟨q, hq, h⟩

end Go.Proofs.YtkbkgkmogbkabaaDoor
