/-
  Contracts of the disk's Crash.
-/
import Derived.Test.YteiamhapplnlaabGreatDoorBkRead
import Derived.Test.YteiamhapplnlaabGreatDoorBkRefA
namespace Go.Proofs.YteiamhapplnlaabGreatDoor
open Go.RowKit

/-- The operations that may come up are two. -/
theorem wpAnyH_two {P : Program} {md : Region.Mode} {ops : Array Oper} {Q : Exit → Act → World → Prop} {S : World → Prop} {w : World} (i j : Nat) {o o2 : Oper} {fuel : Nat} {listed : Array Bool} {a : Act} (hi : ops.toList[i]? = some o) (hj : ops.toList[j]? = some o2)
    (hr : Region.ready md ops listed = [i, j]) (hw : Region.wanted o (yielded ops a.tmps) = true) (hw2 : Region.wanted o2 (yielded ops a.tmps) = true)
    (h : ∀ K' : Act → World → Prop, Shut (∀ a w, S w → (S w → wpAnyH P md ops Q S fuel (listed.setIfInBounds i true) a w) → K' a w) → Oper.wp P o a w K' Q)
    (h2 : ∀ K' : Act → World → Prop, Shut (∀ a w, S w → (S w → wpAnyH P md ops Q S fuel (listed.setIfInBounds j true) a w) → K' a w) → Oper.wp P o2 a w K' Q) : wpAnyH P md ops Q S (fuel + 1) listed a w :=
  wpAnyH_ready hr (by simp) (AllReadyH.cons (by rw [← Array.getElem?_toList]; exact hi) (fun K' hK => by rw [if_pos hw]; exact h K' hK) (AllReadyH.cons (by rw [← Array.getElem?_toList]; exact hj) (fun K' hK => by rw [if_pos hw2]; exact h2 K' hK) AllReadyH.nil))

theorem kept_nat {d : DD} (h : DOk d) (keep : Int) : ∃ k : Nat, d.kept keep = k ∧ k ≤ d.bytes.length ∧ (d.bytes.take k).length = k := by
  have h0 := h.f0
  have h1 := h.fl
  have hk : 0 ≤ d.kept keep ∧ d.kept keep ≤ d.bytes.length := by
    unfold DD.kept
    constructor <;> (split <;> (try split) <;> omega)
  obtain ⟨k, e⟩ := Int.eq_ofNat_of_zero_le hk.1
  refine ⟨k, e, by omega, ?_⟩
  rw [List.length_take]; omega

end Go.Proofs.YteiamhapplnlaabGreatDoor
