/-
  Contracts of stop, of the program and of the statements.
-/
import Derived.Test.YtkbkgkmogbkabaaDoorRtDistances
namespace Go.Proofs.YtkbkgkmogbkabaaDoor
open Go.RowKit

/-- A stop of a map. -/
def stopB (n a : Int) : Bool := decide (0 ≤ a ∧ a < n)

set_option maxHeartbeats 1000000 in
theorem stop_any (vr : Value) (m : MapD) (a : Int) (w : World) (hm : MapR w vr m) :
    Calls Tryd.prog 52 #[.agg #[.int .i64 m.n, vr], .int .i64 a] w fun e w' => e = .returned (.bool (stopB m.n a)) ∧ Ext w w' := by
  obtain ⟨ao, cap, rfl⟩ := hm.shape
  go_enter Tryd.func52, Tryd.ntmps52
  go_wp2
  all_goals
    go_ret
    refine ⟨ret_bool ?_, Ext.ofAlloc _ _⟩
    unfold stopB
    rw [Bool.eq_iff_iff]
    simp only [decide_eq_true_iff, false_iff, Bool.false_eq_true, not_and]
    omega

end Go.Proofs.YtkbkgkmogbkabaaDoor
