/-
  Contract of the reference's Valid.
-/
import Derived.Test.YteiamhapplnlaabGreatDoorRtValid
namespace Go.Proofs.YteiamhapplnlaabGreatDoor
open Go.RowKit

theorem roadOk_iff {n : Int} {r : RoadD} : roadOk n r = true ↔ 0 ≤ r.a ∧ r.a < n ∧ 0 ≤ r.b ∧ r.b < n ∧ r.a ≠ r.b ∧ 1 ≤ r.cost ∧ r.cost ≤ 50 := by unfold roadOk; exact decide_eq_true_iff

/-- A copy is as valid as the map. -/
theorem mapOk_cut (m : MapD) : mapOk (cutM m) = mapOk m := by
  by_cases h : m.roads.length ≤ 18
  · have e : cutM m = m := by unfold cutM; rw [List.take_of_length_le h]
    rw [e]
  · rw [mapOk_no m (fun x => by omega), mapOk_no (cutM m) (fun x => by have := x.2.2; unfold cutM at this; rw [List.length_take] at this; omega)]
theorem cutM_id {m : MapD} (h : mapOk m = true) : cutM m = m := by
  unfold mapOk at h
  rw [Bool.and_eq_true, decide_eq_true_iff] at h
  unfold cutM; rw [List.take_of_length_le (by omega)]

end Go.Proofs.YteiamhapplnlaabGreatDoor
