/-
  Contracts of the reference's Append, Sync and Cut.
-/
import Derived.Test.YteiamhapplnlaabGreatDoorBkCalls
namespace Go.Proofs.YteiamhapplnlaabGreatDoor
open Go.RowKit

theorem did_off {d : DD} (h : d.dim.dark = true) : d.did = d.dim := by unfold DD.did; rw [if_pos h]
theorem did_on {d : DD} (h : ¬ d.dim.dark = true) : d.did = d.burn := by unfold DD.did; rw [if_neg h]
theorem DiskR.setSafe {B : Nat} {w : World} {b : Nat} {v : Value} {d d' : DD} {k : Int} (h : DiskR B w b v d) (hd : d' = { d with safe := k }) (ok : DOk d') : DiskR B (w.setCell ⟨b, 2, none⟩ (.int .i64 k)) b v d' := by
  subst hd
  exact ⟨h.lo, h.box.set2 _, ownB_set h.own h.box (by decide), ok⟩
theorem DiskR.setRow {B : Nat} {w : World} {b : Nat} {v v' : Value} {d d' : DD} {xs : List Int} (h : Box5 w b 165 (.int .i64 d.size) v (.int .i64 d.safe) (.bool d.dark) (.int .i64 d.left)) (lo : B ≤ b) (hv : OwnB B w v' xs) (hd : d' = { d with bytes := xs }) (ok : DOk d') : DiskR B (w.setCell ⟨b, 1, none⟩ v') b v' d' := by
  subst hd
  exact ⟨lo, h.set1 _, ownB_set hv h (by decide), ok⟩

end Go.Proofs.YteiamhapplnlaabGreatDoor
