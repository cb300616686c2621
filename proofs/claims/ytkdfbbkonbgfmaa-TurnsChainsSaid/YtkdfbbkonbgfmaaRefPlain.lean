/-
  What the reference says of likes, blocking pairs, and who is at least as good, is what the market says. Plain.
-/
import Derived.Test.YtkdfbbkonbgfmaaSidesPlain
namespace Go.Proofs.Ytkdfbbkonbgfmaa
open Mkt (upd cnt Stable Matching)

/-- A hand would rather have a than b. -/
def likesB (p : PlanD) (h a b : Int) : Bool := decide (a ≠ -1 ∧ a ≠ b ∧ (b = -1 ∨ rankI (rowAt p.hands h) a < rankI (rowAt p.hands h) b))

theorem rankI_mem {l : List Int} {x : Int} (h : x ∈ l) : rankI l x = rankP l x := by rw [rankP_mem h]; unfold rankI; rw [if_pos h]
theorem rankI_ge {l : List Int} {x : Int} : 0 ≤ rankI l x ↔ x ∈ l := by
  constructor
  · intro h
    refine Classical.byContradiction fun hn => ?_
    rw [rankI_miss hn] at h; omega
  · intro h; rw [rankI_mem h]; exact rankP_nonneg _ _

theorem likes_val {p : PlanD} (hp : PlanOk p) {h : Nat} {a b : Int} (ha : a = -1 ∨ possB p h a = true) (hb : b = -1 ∨ possB p h b = true) :
    likesB p h a b = decide (rankP (rowAt p.hands h) a < rankP (rowAt p.hands h) b) := by
  have hno : (-1 : Int) ∉ rowAt p.hands h := fun hm => by have := ((hp.row (h := h) (by omega)).1 _ hm).1; omega
  unfold likesB
  rw [decide_eq_decide]
  rcases ha with rfl | ha
  · have h1 := rankP_out hno
    have h2 := rankP_le (rowAt p.hands h) b
    constructor
    · rintro ⟨h, -⟩; exact absurd rfl h
    · intro h; omega
  · have ma := (possB_iff.1 ha).1
    have h0 := ((hp.row (h := h) (by omega)).1 _ ma).1
    rcases hb with rfl | hb
    · have h1 := rankP_out hno
      have h2 := rankP_lt ma
      constructor
      · intro _; omega
      · intro _; exact ⟨by omega, by omega, .inl rfl⟩
    · have mb := (possB_iff.1 hb).1
      have h0b := ((hp.row (h := h) (by omega)).1 _ mb).1
      rw [rankI_mem ma, rankI_mem mb]
      constructor
      · rintro ⟨-, -, h | h⟩
        · omega
        · exact h
      · intro h; exact ⟨by omega, by rintro rfl; omega, .inr h⟩

/-- What a hand has in a matching is none, or possible. -/
theorem MatL.val {p : PlanD} {hp : PlanOk p} {m : List Int} (hm : MatL p hp m) {h : Nat} (hh : h < p.hands.length) : fn m h = -1 ∨ possB p h (fn m h) = true := hm.2.ok h hh

/-- How the reference looks for a blocking pair: so many of a shift's, seen so far, and nobody among them whom it likes less. -/
def worseTo (p : PlanD) (m : List Int) (h s : Nat) (k : Nat) : Prop := ∀ x, x < k → fn m x = s → ¬ rankI (rowAt p.shifts s) h < rankI (rowAt p.shifts s) x
theorem blk_ref_yes {p : PlanD} {hp : PlanOk p} {m : List Int} (hm : MatL p hp m) {h s x : Nat} (hh : h < p.hands.length) (hx : x < p.hands.length) (hps : possB p h s = true) (hl : likesB p h s (fn m h) = true) (hxs : fn m x = s)
    (hr : rankI (rowAt p.shifts s) h < rankI (rowAt p.shifts s) x) : blkB p hp m h s = true := by
  rw [likes_val hp (.inr hps) (hm.val hh), decide_eq_true_iff] at hl
  have hxm : (x : Int) ∈ rowAt p.shifts s := by
    rcases hm.val hx with e | e
    · omega
    · rw [hxs] at e; exact (possB_iff.1 e).2
  rw [rankI_mem (possB_iff.1 hps).2, rankI_mem hxm] at hr
  exact blkB_iff.2 ⟨hps, hl, .inr ⟨x, hx, hxs, by omega⟩⟩
theorem blk_ref_end {p : PlanD} {hp : PlanOk p} {m : List Int} (hm : MatL p hp m) {h s : Nat} (hh : h < p.hands.length) (hs : s < p.shifts.length) (hps : possB p h s = true) (hl : likesB p h s (fn m h) = true)
    (hw : worseTo p m h s p.hands.length) : blkB p hp m h s = decide ((cnt (mkt p hp) (fn m) s : Int) < intAt p.places s) := by
  rw [likes_val hp (.inr hps) (hm.val hh), decide_eq_true_iff] at hl
  have hpl := (planPlaces hp (s := s) (by omega) (by omega)).1
  have hq : (mkt p hp).q s = (intAt p.places s).toNat := rfl
  by_cases c : (cnt (mkt p hp) (fn m) s : Int) < intAt p.places s
  · rw [decide_eq_true c]
    exact blkB_iff.2 ⟨hps, hl, .inl (by omega)⟩
  · rw [decide_eq_false c]
    refine blkB_no fun hb => ?_
    rcases hb.2.2 with e | ⟨x, hx, hxs, hk⟩
    · omega
    · have hxm : (x : Int) ∈ rowAt p.shifts s := by
        rcases hm.val hx with e | e
        · omega
        · rw [hxs] at e; exact (possB_iff.1 e).2
      have h1 := hw x hx hxs
      rw [rankI_mem (possB_iff.1 hps).2, rankI_mem hxm] at h1
      have e := rankP_inj (possB_iff.1 hps).2 hxm (by omega)
      have : h = x := by omega
      subst this
      rw [hxs] at hl; omega
theorem blk_ref_no {p : PlanD} {hp : PlanOk p} {m : List Int} (hm : MatL p hp m) {h s : Nat} (hh : h < p.hands.length) (hl : possB p h s = false ∨ likesB p h s (fn m h) = false) : blkB p hp m h s = false := by
  refine blkB_no fun hb => ?_
  rcases hl with hl | hl
  · have := hb.1; rw [hl] at this; simp at this
  · rw [likes_val hp (.inr hb.1) (hm.val hh), decide_eq_false_iff_not] at hl
    exact hl hb.2.1

/-- At least as good, hand by hand. -/
def goodTo (p : PlanD) (a b : List Int) (k : Nat) : Prop := ∀ h : Nat, h < k → likesB p h (fn b h) (fn a h) = false
theorem good_iff {p : PlanD} {hp : PlanOk p} {a b : List Int} (ha : MatL p hp a) (hb : MatL p hp b) : goodTo p a b p.hands.length ↔ LeM p a b := by
  constructor
  · intro g h hh
    have := g h hh
    rw [likes_val hp (hb.val hh) (ha.val hh), decide_eq_false_iff_not] at this
    omega
  · intro g h hh
    have := g h hh
    rw [likes_val hp (hb.val hh) (ha.val hh), decide_eq_false_iff_not]
    omega
theorem joinI_likes {p : PlanD} {hp : PlanOk p} {a b : List Int} (ha : MatL p hp a) (hb : MatL p hp b) {h : Nat} (hh : h < p.hands.length) :
    joinI p h (fn a h) (fn b h) = (if likesB p h (fn b h) (fn a h) then fn b h else fn a h) ∧ meetI p h (fn a h) (fn b h) = (if likesB p h (fn b h) (fn a h) then fn a h else fn b h) := by
  rw [likes_val hp (hb.val hh) (ha.val hh)]
  unfold joinI meetI
  simp only [decide_eq_true_eq]
  exact ⟨trivial, trivial⟩

/-- The first, the last of all stable matchings. -/
theorem first_of_best {p : PlanD} {hp : PlanOk p} {m : List Int} (hm : m ∈ stAll p hp) (h : ∀ b ∈ stAll p hp, LeM p m b) : IsFirst p hp m := by
  obtain ⟨f, hf⟩ := exists_first p hp
  have h1 := mem_stAll.1 hm
  refine ⟨h1.1, h1.2, fun μ hμ x hx => ?_⟩
  have h2 := h f (stAll_first hf) x hx
  have h3 := hf.best μ hμ x hx
  show rankP _ _ ≤ rankP _ _
  exact Int.le_trans h2 h3
theorem best_of_first {p : PlanD} {hp : PlanOk p} {m : List Int} (hm : IsFirst p hp m) : ∀ b ∈ stAll p hp, LeM p m b := fun _ hb x hx => hm.best _ (mem_stAll.1 hb).2 x hx
theorem worst_of_last {p : PlanD} {hp : PlanOk p} {m : List Int} (hm : IsLast p hp m) : ∀ b ∈ stAll p hp, LeM p b m := fun _ hb x hx => hm.worst _ (mem_stAll.1 hb).2 x hx

end Go.Proofs.Ytkdfbbkonbgfmaa
