/-
  Where every shift has room for all that it lists, all have the best shift that lists them. Plain.
-/
import Derived.Test.YtkdfbbkonbgfmaaStableL
namespace Go.Proofs.Ytkdfbbkonbgfmaa
open Mkt (upd cnt Stable Matching)

/-- The first of a hand's first k shifts that lists them; -1: none does. -/
def bestTo (p : PlanD) (h : Int) : List Int → Int
  | [] => -1
  | s :: l => if hasI (rowAt p.shifts s) h then s else bestTo p h l

theorem bestTo_app_none {p : PlanD} {h : Int} : ∀ (l : List Int) (s : Int), (∀ x ∈ l, 0 ≤ x) → bestTo p h l = -1 → bestTo p h (l ++ [s]) = if hasI (rowAt p.shifts s) h then s else -1
  | [], s, _, _ => rfl
  | a :: l, s, h0, e => by
    rw [bestTo] at e
    rw [List.cons_append, bestTo]
    by_cases c : hasI (rowAt p.shifts a) h = true
    · rw [if_pos c] at e; have := h0 a (List.mem_cons_self ..); omega
    · rw [if_neg c] at e ⊢; exact bestTo_app_none l s (fun x hx => h0 x (List.mem_cons_of_mem _ hx)) e
theorem bestTo_app_some {p : PlanD} {h : Int} : ∀ (l : List Int) (s : Int), bestTo p h l ≠ -1 → bestTo p h (l ++ [s]) = bestTo p h l
  | [], s, e => absurd rfl e
  | a :: l, s, e => by
    rw [List.cons_append, bestTo, bestTo]
    by_cases c : hasI (rowAt p.shifts a) h = true
    · rw [if_pos c, if_pos c]
    · rw [bestTo, if_neg c] at e
      rw [if_neg c, if_neg c]; exact bestTo_app_some l s e
theorem bestTo_none {p : PlanD} {h : Int} : ∀ (l : List Int), (∀ x ∈ l, 0 ≤ x) → bestTo p h l = -1 → ∀ x ∈ l, hasI (rowAt p.shifts x) h = false
  | [], _, _, x, hx => by simp at hx
  | a :: l, h0, e, x, hx => by
    rw [bestTo] at e
    by_cases c : hasI (rowAt p.shifts a) h = true
    · rw [if_pos c] at e; have := h0 a (List.mem_cons_self ..); omega
    · rw [if_neg c] at e
      rcases List.mem_cons.1 hx with rfl | hx
      · exact eq_false_of_ne_true c
      · exact bestTo_none l (fun x hx => h0 x (List.mem_cons_of_mem _ hx)) e x hx
theorem bestTo_some {p : PlanD} {h : Int} : ∀ (l : List Int), l.Nodup → bestTo p h l ≠ -1 → bestTo p h l ∈ l ∧ hasI (rowAt p.shifts (bestTo p h l)) h = true ∧ ∀ x ∈ l, hasI (rowAt p.shifts x) h = true → l.idxOf (bestTo p h l) ≤ l.idxOf x
  | [], _, e => absurd rfl e
  | a :: l, hn, e => by
    rw [List.nodup_cons] at hn
    by_cases c : hasI (rowAt p.shifts a) h = true
    · rw [bestTo, if_pos c]
      exact ⟨List.mem_cons_self .., c, fun x _ _ => by rw [List.idxOf_cons_self]; omega⟩
    · rw [bestTo, if_neg c] at e ⊢
      obtain ⟨h1, h2, h3⟩ := bestTo_some l hn.2 e
      refine ⟨List.mem_cons_of_mem _ h1, h2, fun x hx hc => ?_⟩
      rcases List.mem_cons.1 hx with rfl | hx
      · exact absurd hc c
      · have h4 := h3 x hx hc
        have n1 : a ≠ bestTo p h l := fun e => hn.1 (e ▸ h1)
        have n2 : a ≠ x := fun e => hn.1 (e ▸ hx)
        have e1 : (a :: l).idxOf (bestTo p h l) = l.idxOf (bestTo p h l) + 1 := by rw [List.idxOf_cons, beq_eq_false_iff_ne.2 n1]; rfl
        have e2 : (a :: l).idxOf x = l.idxOf x + 1 := by rw [List.idxOf_cons, beq_eq_false_iff_ne.2 n2]; rfl
        omega

def bestI (p : PlanD) (h : Int) : Int := bestTo p h (rowAt p.hands h)

theorem best_all {p : PlanD} (hp : PlanOk p) (hroom : ∀ s : Nat, s < p.shifts.length → ((rowAt p.shifts s).length : Int) ≤ intAt p.places s) {m : List Int} (hm : StL p hp m) {h : Nat} (hh : h < p.hands.length) : fn m h = bestI p h := by
  have hrow := hp.row (h := h) (by omega)
  have hok := hm.2.m.ok h hh
  by_cases e : bestTo p h (rowAt p.hands h) = -1
  · have hn := bestTo_none _ (fun x hx => (hrow.1 x hx).1) e
    unfold bestI
    rw [e]
    rcases hok with c | c
    · exact c
    · have := hn _ (possB_iff.1 c).1
      rw [hasI_iff.2 (possB_iff.1 c).2] at this; simp at this
  · obtain ⟨h1, h2, h3⟩ := bestTo_some _ hrow.2 e
    obtain ⟨b, hb⟩ : ∃ b, b = bestTo p h (rowAt p.hands h) := ⟨_, rfl⟩
    unfold bestI
    rw [← hb] at h1 h2 h3 ⊢
    have ps : (mkt p hp).pos h b := possB_iff.2 ⟨h1, hasI_iff.1 h2⟩
    refine Classical.byContradiction fun hne => ?_
    have hlt : (mkt p hp).r h b < (mkt p hp).r h (fn m h) := by
      rcases hok with c | c
      · rw [c]; exact (mkt p hp).r_none _ _ ps
      · have h4 := h3 _ (possB_iff.1 c).1 (hasI_iff.2 (possB_iff.1 c).2)
        have h5 : (mkt p hp).r h b ≤ (mkt p hp).r h (fn m h) := by
          show rankP _ _ ≤ rankP _ _
          rw [rankP_mem h1, rankP_mem (possB_iff.1 c).1]; omega
        rcases Int.lt_or_eq_of_le h5 with h6 | h6
        · exact h6
        · exact absurd ((mkt p hp).r_inj _ _ _ ps c h6).symm hne
    have hfull := hm.2.full h hh b ps hlt
    have b0 := (mkt p hp).pos_lo _ _ ps
    have b1 := (mkt p hp).pos_hi _ _ ps
    obtain ⟨s, rfl⟩ := Int.eq_ofNat_of_zero_le b0
    have hs : s < p.shifts.length := by have : (s : Int) < p.shifts.length := b1; omega
    have hr := hroom s hs
    have hmem : ∀ x, x < p.hands.length → fn m x = s → (x : Int) ∈ rowAt p.shifts s := by
      intro x hx ex
      rcases hm.2.m.ok x hx with c | c
      · omega
      · rw [ex] at c; exact (possB_iff.1 c).2
    have hc := hands_cnt hp (m := m) (s := s) (by omega) hmem
    have hq : (mkt p hp).q s = (intAt p.places s).toNat := rfl
    have hin : (h : Int) ∈ rowAt p.shifts s := (possB_iff.1 ps).2
    have hlt2 : (handsI (rowAt p.shifts s) m s).length < (rowAt p.shifts s).length := by
      unfold handsI
      rw [List.length_filter_lt_length_iff_exists]
      exact ⟨h, hin, by
        have : intAt m h = fn m h := rfl
        rw [this]; simpa using hne⟩
    omega

end Go.Proofs.Ytkdfbbkonbgfmaa
