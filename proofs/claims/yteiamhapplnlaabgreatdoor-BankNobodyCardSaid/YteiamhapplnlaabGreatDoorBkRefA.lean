/-
  Contract of the reference's Append.
-/
import Derived.Test.YteiamhapplnlaabGreatDoorBkRef
namespace Go.Proofs.YteiamhapplnlaabGreatDoor
open Go.RowKit

theorem app_over {d : DD} {ys : List Int} (h : d.size < (d.bytes.length : Int) + ys.length) : d.app ys = (d, 7) := by unfold DD.app; rw [if_pos h]
theorem app_fits {d : DD} {ys : List Int} (h : ¬ d.size < (d.bytes.length : Int) + ys.length) : d.app ys = (opDD d { d.burn with bytes := d.bytes ++ ys }, opErr d) := by
  unfold DD.app opDD opErr
  rw [if_neg h]
  split <;> rfl

end Go.Proofs.YteiamhapplnlaabGreatDoor
