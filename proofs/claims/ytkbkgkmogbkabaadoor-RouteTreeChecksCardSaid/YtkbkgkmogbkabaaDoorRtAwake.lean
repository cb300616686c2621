/-
  Contract of awake, of the statements.
-/
import Derived.Test.YtkbkgkmogbkabaaDoorRtWayBad
namespace Go.Proofs.YtkbkgkmogbkabaaDoor
open Go.RowKit

def rs0 : List RoadD := [⟨1, 0, 3⟩]
theorem way0 {f : Nat} {r : List Int} (h : IsWay (costTo rs0) (fw (costTo rs0) 2) 2 0 1 f r) (hf : f < 2) : r = [0, 1] := by
  have h0 : growP (costTo rs0) (fw (costTo rs0) 2) 2 1 (fw (costTo rs0) 2 0 1) 0 [((0 : Nat) : Int)] 0 0 = none := by decide
  have h1 : growP (costTo rs0) (fw (costTo rs0) 2) 2 1 (fw (costTo rs0) 2 0 1) 1 [((0 : Nat) : Int)] 0 0 = some [0, 1] := by decide
  obtain ⟨g, -⟩ := h
  match f, hf with
  | 0, _ => rw [h0] at g; simp at g
  | 1, _ => rw [h1] at g; simp only [Option.some.injEq] at g; exact g.symm
theorem EqualE_any (va vb : Value) (xs ys : List Int) (w : World) (hx : Ints w va xs) (hy : Ints w vb ys) :
    Calls Tryd.prog 28 #[va, vb] w fun e w' => e = .returned (.bool (eqI xs ys)) ∧ Ext w w' := by
  refine (Equal_any va vb xs ys w hx hy).mono ?_
  rintro e w1 ⟨rfl, n, rfl⟩
  exact ⟨rfl, (Ext.refl _).drewN _⟩

set_option maxRecDepth 20000 in
set_option maxHeartbeats 4000000 in
theorem awake_any (w : World) : Calls Tryd.prog 16 #[] w fun e w' => e = .returned (.bool true) ∧ Ext w w' := by
  have hro : Roads (w.alloc (.cells #[.int .i64 1, .int .i64 0, .int .i64 3] 55)) (.slice (some ⟨w.heap.size, 0, none⟩) 1 1) rs0 := by
    obtain ⟨c0, c1, c2⟩ := (Box3.alloc w 55 (.int .i64 1) (.int .i64 0) (.int .i64 3)).cells
    refine ⟨by decide, _, _, rfl, by decide, fun i hi => ?_⟩
    have : i = 0 := by have : rs0.length = 1 := rfl; omega
    subst this
    exact ⟨_, _, rfl, c0, c1, c2⟩
  have HR := hid hro
  clear hro
  go_enter Tryd.func16, Tryd.ntmps16
  go_wp2_with (fail)
  refine (Way_ok _ 2 rs0 0 1 _ HR.out (by decide) (by decide) (by decide) (by decide)).mono ?_
  rintro e w1 ⟨v, f, r, rfl, hi, hway, hf, he⟩
  have hr := way0 hway hf
  subst hr
  obtain ⟨-, ao, cap, rfl, -⟩ := id hi
  have HI := hid hi
  have HE := hid ((Ext.ofAlloc w _).trans he)
  clear hi hway hf he HR
  go_wp2_with (fail)
  refine (EqualE_any _ _ [0, 1] [0, 1] _ (HI.out.ext (Ext.ofAlloc _ _)) (IntBlock.ints (xs := [0, 1]) (heap_alloc_new w1 _) rfl (by decide))).mono ?_
  rintro e w2 ⟨rfl, he⟩
  have h1 : eqI [0, 1] [0, 1] = true := by decide
  rw [h1]
  have HE2 := hid ((HE.out.alloc _).trans he)
  clear he
  go_wp2
  go_ret
  exact ⟨rfl, HE2.out⟩

end Go.Proofs.YtkbkgkmogbkabaaDoor
