/-
  In a region that draws its order: all operations that bear one guard which is not met are passed over in one step. A lemma for the walks of this claim.
-/
import Derived.Test.YteiamhapplnlaabGreatDoorLib
import Derived.Deep.RegionHeld3
namespace Go.Proofs.YteiamhapplnlaabGreatDoor
open Go.RowKit

/-- The operations U, in this order, may come up one after the other; each bears the guard (g, b), and none writes the guard's own temporary t. -/
def skipOk (md : Region.Mode) (ops : Array Oper) (g : Nat) (b : Bool) (t : Tmp) : Array Bool → List Nat → List Tmp → Bool
  | _, [], [] => true
  | listed, i :: U, d :: ds =>
    (match ops[i]? with
      | some o => decide (o.guard = some (g, b)) && decide (o.dst = some d) && decide (d ≠ t)
      | none => false) && Region.free md ops listed i && (Region.ready md ops listed).contains i && skipOk md ops g b t (listed.setIfInBounds i true) U ds
  | _, _, _ => false

def listedAll (listed : Array Bool) (U : List Nat) : Array Bool := U.foldl (fun l i => l.setIfInBounds i true) listed
def putsAll (a : Act) (ds : List Tmp) : Act := ds.foldl (fun a d => a.put (some d) undef) a

theorem wpAnyH_skips {P : Program} {md : Region.Mode} {ops : Array Oper} {Q : Exit → Act → World → Prop} {S : World → Prop} {w : World} (g : Nat) (b : Bool) (t : Tmp) (fuel : Nat)
    (hsel : Region.noSelect ops = true) (hg : (ops[g]?).bind (·.dst) = some t) (hQ : ∀ c (a : Act) (d : Tmp) v w, Q (.panic c) (a.put (some d) v) w → Q (.panic c) a w) :
    ∀ (U : List Nat) (ds : List Tmp) (listed : Array Bool) (a : Act) (F : Nat), F = fuel + U.length → skipOk md ops g b t listed U ds = true → a.tmps[t]? = some (.bool (!b)) → S w →
      wpAnyH P md ops Q S fuel (listedAll listed U) (putsAll a ds) w → wpAnyH P md ops Q S F listed a w := by
  intro U
  induction U with
  | nil =>
    intro ds listed a F hF hok hv hS h
    cases ds with
    | nil => subst hF; exact h
    | cons d ds => simp [skipOk] at hok
  | cons i U ih =>
    intro ds listed a F hF hok hv hS h
    cases ds with
    | nil => simp [skipOk] at hok
    | cons d ds =>
      rw [skipOk, Bool.and_eq_true, Bool.and_eq_true, Bool.and_eq_true] at hok
      obtain ⟨⟨⟨h1, h2⟩, h3⟩, h4⟩ := hok
      cases ho : ops[i]? with
      | none => rw [ho] at h1; simp at h1
      | some o =>
        rw [ho] at h1
        simp only [Bool.and_eq_true, decide_eq_true_iff] at h1
        obtain ⟨⟨g1, g2⟩, g3⟩ := h1
        have hF' : F = (fuel + U.length) + 1 := by rw [hF, List.length_cons]; omega
        subst hF'
        refine wpAnyH_take (i := i) (oi := o) (v := undef) ho hsel h2 h3 (fun c a w => by rw [g2]; exact hQ c a _ _ w) (Or.inr ⟨?_, rfl⟩) hS ?_
        · unfold Region.wanted
          rw [g1]
          show (yielded ops a.tmps g == some b) = false
          unfold yielded
          rw [hg]
          show ((match (a.tmps[t]?) with | some (.bool b) => some b | _ => none) == some b) = false
          rw [hv]
          cases b <;> rfl
        · rw [g2]
          refine ih ds _ _ _ rfl h4 ?_ hS h
          show (a.tmps.setIfInBounds d undef)[t]? = _
          rw [Array.getElem?_setIfInBounds_ne g3]
          exact hv

/-- The same where the guard itself was passed over. -/
theorem wpAnyH_skipsU {P : Program} {md : Region.Mode} {ops : Array Oper} {Q : Exit → Act → World → Prop} {S : World → Prop} {w : World} (g : Nat) (b : Bool) (t : Tmp) (fuel : Nat)
    (hsel : Region.noSelect ops = true) (hg : (ops[g]?).bind (·.dst) = some t) (hQ : ∀ c (a : Act) (d : Tmp) v w, Q (.panic c) (a.put (some d) v) w → Q (.panic c) a w) :
    ∀ (U : List Nat) (ds : List Tmp) (listed : Array Bool) (a : Act) (F : Nat), F = fuel + U.length → skipOk md ops g b t listed U ds = true → a.tmps[t]? = some undef → S w →
      wpAnyH P md ops Q S fuel (listedAll listed U) (putsAll a ds) w → wpAnyH P md ops Q S F listed a w := by
  intro U
  induction U with
  | nil =>
    intro ds listed a F hF hok hv hS h
    cases ds with
    | nil => subst hF; exact h
    | cons d ds => simp [skipOk] at hok
  | cons i U ih =>
    intro ds listed a F hF hok hv hS h
    cases ds with
    | nil => simp [skipOk] at hok
    | cons d ds =>
      rw [skipOk, Bool.and_eq_true, Bool.and_eq_true, Bool.and_eq_true] at hok
      obtain ⟨⟨⟨h1, h2⟩, h3⟩, h4⟩ := hok
      cases ho : ops[i]? with
      | none => rw [ho] at h1; simp at h1
      | some o =>
        rw [ho] at h1
        simp only [Bool.and_eq_true, decide_eq_true_iff] at h1
        obtain ⟨⟨g1, g2⟩, g3⟩ := h1
        have hF' : F = (fuel + U.length) + 1 := by rw [hF, List.length_cons]; omega
        subst hF'
        refine wpAnyH_take (i := i) (oi := o) (v := undef) ho hsel h2 h3 (fun c a w => by rw [g2]; exact hQ c a _ _ w) (Or.inr ⟨?_, rfl⟩) hS ?_
        · unfold Region.wanted
          rw [g1]
          show (yielded ops a.tmps g == some b) = false
          unfold yielded
          rw [hg]
          show ((match (a.tmps[t]?) with | some (.bool b) => some b | _ => none) == some b) = false
          rw [hv]
          cases b <;> rfl
        · rw [g2]
          refine ih ds _ _ _ rfl h4 ?_ hS h
          show (a.tmps.setIfInBounds d undef)[t]? = _
          rw [Array.getElem?_setIfInBounds_ne g3]
          exact hv

/-- One operation is taken first ('wpAnyH_take'); it is found in the list of the region's operations, and comes out of it written out. -/
theorem wpAnyH_tk {P : Program} {md : Region.Mode} {ops : Array Oper} {Q : Exit → Act → World → Prop} {S : World → Prop} {w : World} (i : Nat) {oi : Oper} {v : Value} {fuel : Nat} {listed : Array Bool} {a : Act} (hi : ops.toList[i]? = some oi)
    (hs : Region.noSelect ops = true) (hf : Region.free md ops listed i = true) (hr : (Region.ready md ops listed).contains i = true)
    (hQ : ∀ c a w, Q (.panic c) (a.put oi.dst v) w → Q (.panic c) a w) (hw : Region.wanted oi (yielded ops a.tmps) = true) (hy : ∀ w, S w → (execOp a.eval oi).run P w = .ok (.value v) w) (hS : S w)
    (h : wpAnyH P md ops Q S fuel (listed.setIfInBounds i true) (a.put oi.dst v) w) : wpAnyH P md ops Q S (fuel + 1) listed a w :=
  wpAnyH_take (by rw [← Array.getElem?_toList]; exact hi) hs hf hr hQ (Or.inl ⟨hw, hy⟩) hS h

/-- One operation, a call, is the only one that may come up. -/
theorem wpAnyH_one {P : Program} {md : Region.Mode} {ops : Array Oper} {Q : Exit → Act → World → Prop} {S : World → Prop} {w : World} (i : Nat) {o : Oper} {fuel : Nat} {listed : Array Bool} {a : Act} (hi : ops.toList[i]? = some o)
    (hr : Region.ready md ops listed = [i]) (hw : Region.wanted o (yielded ops a.tmps) = true)
    (h : ∀ K' : Act → World → Prop, Shut (∀ a w, S w → (S w → wpAnyH P md ops Q S fuel (listed.setIfInBounds i true) a w) → K' a w) → Oper.wp P o a w K' Q) : wpAnyH P md ops Q S (fuel + 1) listed a w :=
  wpAnyH_ready hr (by simp) (AllReadyH.cons (by rw [← Array.getElem?_toList]; exact hi) (fun K' hK => by rw [if_pos hw]; exact h K' hK) AllReadyH.nil)

end Go.Proofs.YteiamhapplnlaabGreatDoor
