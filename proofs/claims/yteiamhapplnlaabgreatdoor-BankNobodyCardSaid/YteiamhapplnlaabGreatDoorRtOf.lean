/-
  Contract of the statements' Of: a copy of a map, with at most eighteen roads.
-/
import Derived.Test.YteiamhapplnlaabGreatDoorRtMap
import Derived.Deep.LoopGhost
namespace Go.Proofs.YteiamhapplnlaabGreatDoor
open Go.RowKit

def cutM (m : MapD) : MapD := ⟨m.n, m.roads.take 18⟩
theorem Box2.below {B : Nat} {w w' : World} {b : Nat} {t : TypeId} {v0 v1 : Value} (h : Box2 w b t v0 v1) (e : Below B w w') (hb : b < B) : Box2 w' b t v0 v1 := by
  show w'.heap[b]? = _
  rw [e.block b hb]; exact h
def cutTo (rs : List RoadD) (k : Nat) : List RoadD := (rs.take k).take 18
theorem cutTo_hit {rs : List RoadD} {k : Nat} (hk : k < rs.length) (h : k < 18) : cutTo rs (k + 1) = cutTo rs k ++ [roadAt rs k] := by
  unfold cutTo
  rw [List.take_take, List.take_take, Nat.min_eq_right (by omega), Nat.min_eq_right (by omega), List.take_succ_eq_append_getElem hk, roadAt_get hk]
theorem cutTo_miss {rs : List RoadD} {k : Nat} (h : 18 ≤ k) : cutTo rs (k + 1) = cutTo rs k := by
  unfold cutTo
  rw [List.take_take, List.take_take, Nat.min_eq_left (by omega), Nat.min_eq_left (by omega)]
theorem cutTo_len (rs : List RoadD) (k : Nat) : (cutTo rs k).length ≤ 18 := by unfold cutTo; rw [List.length_take]; omega
theorem cutTo_all (rs : List RoadD) : cutTo rs rs.length = rs.take 18 := by unfold cutTo; rw [List.take_of_length_le (Nat.le_refl _)]

theorem Ext.trans' {a b c : World} {B : Nat} (h : Ext a b) (k : Below B b c) (hB : a.heap.size ≤ B) : Ext a c := Below.trans h (Below.mono k hB)

end Go.Proofs.YteiamhapplnlaabGreatDoor
