/-
  Moats that fit, in plain Lean.
-/
import Derived.Test.YtkbkgkmogbkabaaRtBits
namespace Go.Proofs.Ytkbkgkmogbkabaa
open Go.RowKit

/-- One moat. -/
def moatP (n stops : Int) (x : MoatD) : Prop := 0 ≤ x.set ∧ x.set < 2 ^ n.toNat ∧ bits .and .i64 x.set stops ≠ 0 ∧ bits .andNot .i64 stops x.set ≠ 0 ∧ 1 ≤ x.width ∧ x.width ≤ 1000
instance (n stops : Int) (x : MoatD) : Decidable (moatP n stops x) := by unfold moatP; infer_instance
def overF (r : RoadD) (acc : Int) (x : MoatD) : Int := if crossB r x.set then acc + x.width else acc
def overR (r : RoadD) (ms : List MoatD) : Int := ms.foldl (overF r) 0
def sumW (ms : List MoatD) : Int := ms.foldl (fun acc x => acc + x.width) 0
theorem sumW_succ {ms : List MoatD} {k : Nat} (hk : k < ms.length) : sumW (ms.take (k + 1)) = sumW (ms.take k) + (moatAt ms k).width := by
  unfold sumW; rw [List.take_succ_eq_append_getElem hk, List.foldl_append, moatAt_get hk]; rfl
theorem overR_succ {r : RoadD} {ms : List MoatD} {k : Nat} (hk : k < ms.length) : overR r (ms.take (k + 1)) = overF r (overR r (ms.take k)) (moatAt ms k) := by
  unfold overR; rw [List.take_succ_eq_append_getElem hk, List.foldl_append, moatAt_get hk]; rfl
def fitP (n : Int) (rs : List RoadD) (stops : Int) (ms : List MoatD) : Prop := (∀ x ∈ ms, moatP n stops x) ∧ ∀ r ∈ rs, overR r ms ≤ 2 * r.cost
instance (n : Int) (rs : List RoadD) (stops : Int) (ms : List MoatD) : Decidable (fitP n rs stops ms) := by unfold fitP; infer_instance
/-- What is reckoned: the sum, and whether the moats fit. -/
def fitV (n : Int) (rs : List RoadD) (stops : Int) (ms : List MoatD) : Int := if fitP n rs stops ms then sumW ms else 0
def fitB (n : Int) (rs : List RoadD) (stops : Int) (ms : List MoatD) : Bool := decide (fitP n rs stops ms)
theorem fit_bad {n : Int} {rs : List RoadD} {stops : Int} {ms : List MoatD} {x : MoatD} (hx : x ∈ ms) (h : ¬ moatP n stops x) : fitV n rs stops ms = 0 ∧ fitB n rs stops ms = false := by
  have : ¬ fitP n rs stops ms := fun k => h (k.1 x hx)
  unfold fitV fitB
  exact ⟨if_neg this, decide_eq_false this⟩
theorem fit_over {n : Int} {rs : List RoadD} {stops : Int} {ms : List MoatD} {r : RoadD} (hr : r ∈ rs) (h : ¬ overR r ms ≤ 2 * r.cost) : fitV n rs stops ms = 0 ∧ fitB n rs stops ms = false := by
  have : ¬ fitP n rs stops ms := fun k => h (k.2 r hr)
  unfold fitV fitB
  exact ⟨if_neg this, decide_eq_false this⟩
theorem fit_yes {n : Int} {rs : List RoadD} {stops : Int} {ms : List MoatD} (h1 : ∀ x ∈ ms, moatP n stops x) (h2 : ∀ r ∈ rs, overR r ms ≤ 2 * r.cost) : fitV n rs stops ms = sumW ms ∧ fitB n rs stops ms = true := by
  have : fitP n rs stops ms := ⟨h1, h2⟩
  unfold fitV fitB
  exact ⟨if_pos this, decide_eq_true this⟩
/-- What the program answers: more than two hundred do not fit. -/
def chkV (n : Int) (rs : List RoadD) (stops : Int) (ms : List MoatD) : Int := if ms.length ≤ 200 then fitV n rs stops ms else 0
def chkB (n : Int) (rs : List RoadD) (stops : Int) (ms : List MoatD) : Bool := if ms.length ≤ 200 then fitB n rs stops ms else false
theorem chk_cut (n : Int) (rs : List RoadD) (stops : Int) (ms : List MoatD) : chkV n rs stops (ms.take 202) = chkV n rs stops ms ∧ chkB n rs stops (ms.take 202) = chkB n rs stops ms := by
  by_cases h : ms.length ≤ 202
  · rw [List.take_of_length_le h]; exact ⟨rfl, rfl⟩
  · have h1 : ¬ ms.length ≤ 200 := by omega
    have h2 : ¬ (ms.take 202).length ≤ 200 := by rw [List.length_take]; omega
    unfold chkV chkB
    rw [if_neg h1, if_neg h2, if_neg h1, if_neg h2]
    exact ⟨rfl, rfl⟩

end Go.Proofs.Ytkbkgkmogbkabaa
