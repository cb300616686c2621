/-
  What hands like more, shifts like less, one by one. Plain.
-/
import Derived.Test.YtkdfbbkonbgfmaaOrder
namespace Go.Proofs.Ytkdfbbkonbgfmaa
open Mkt (upd cnt Stable Matching)

/-- At least as good for all hands. -/
def LeM (p : PlanD) (a b : List Int) : Prop := ∀ h : Nat, h < p.hands.length → rankP (rowAt p.hands h) (fn a h) ≤ rankP (rowAt p.hands h) (fn b h)
noncomputable def leB (p : PlanD) (a b : List Int) : Bool := @decide (LeM p a b) (Classical.propDecidable _)
theorem leB_iff {p : PlanD} {a b : List Int} : leB p a b = true ↔ LeM p a b := by unfold leB; exact @decide_eq_true_iff _ (Classical.propDecidable _)
theorem leB_no {p : PlanD} {a b : List Int} (h : ¬ LeM p a b) : leB p a b = false := by
  cases e : leB p a b
  · rfl
  · exact absurd (leB_iff.1 e) h
theorem LeM.refl (p : PlanD) (a : List Int) : LeM p a a := fun _ _ => Int.le_refl _
theorem LeM.trans {p : PlanD} {a b c : List Int} (h : LeM p a b) (k : LeM p b c) : LeM p a c := fun x hx => Int.le_trans (h x hx) (k x hx)
theorem LeM.antisymm {p : PlanD} {hp : PlanOk p} {a b : List Int} (ha : StL p hp a) (hb : StL p hp b) (h : LeM p a b) (k : LeM p b a) : a = b :=
  list_eq_of (hp := hp) ha.1 hb.1 ha.2 hb.2 (fun x hx => Int.le_antisymm (h x hx) (k x hx))

theorem countP_take_all {l : List Int} {P : Int → Bool} (h : ∀ x ∈ l, P x = true) : l.countP P = l.length := List.countP_eq_length.2 h
theorem sorted_count_ge {l : List Int} (hs : l.Pairwise (· ≤ ·)) {i : Nat} (hi : i < l.length) {t : Int} (ht : nth l i ≤ t) : i + 1 ≤ l.countP (fun x => decide (x ≤ t)) := by
  have e : l.countP (fun x => decide (x ≤ t)) = (l.take (i + 1)).countP (fun x => decide (x ≤ t)) + (l.drop (i + 1)).countP (fun x => decide (x ≤ t)) := by
    rw [← List.countP_append, List.take_append_drop]
  have h1 : (l.take (i + 1)).countP (fun x => decide (x ≤ t)) = (l.take (i + 1)).length := by
    rw [List.countP_eq_length]
    intro x hx
    obtain ⟨j, hj, rfl⟩ := List.getElem_of_mem hx
    rw [List.length_take] at hj
    rw [List.getElem_take, decide_eq_true_iff, ← nth_get]
    exact Int.le_trans (sorted_le hs (show j ≤ i by omega) hi) ht
  rw [List.length_take] at h1
  omega
theorem sorted_count_le {l : List Int} (hs : l.Pairwise (· ≤ ·)) {i : Nat} {t : Int} (ht : i < l.length → t < nth l i) : l.countP (fun x => decide (x ≤ t)) ≤ i := by
  have e : l.countP (fun x => decide (x ≤ t)) = (l.take i).countP (fun x => decide (x ≤ t)) + (l.drop i).countP (fun x => decide (x ≤ t)) := by
    rw [← List.countP_append, List.take_append_drop]
  have h1 : (l.drop i).countP (fun x => decide (x ≤ t)) = 0 := by
    rw [List.countP_eq_zero]
    intro x hx
    obtain ⟨j, hj, rfl⟩ := List.getElem_of_mem hx
    rw [List.length_drop] at hj
    rw [List.getElem_drop, decide_eq_true_iff, ← nth_get (by omega)]
    have := sorted_le hs (show i ≤ i + j by omega) (by omega)
    have := ht (by omega)
    omega
  have h2 : (l.take i).countP (fun x => decide (x ≤ t)) ≤ (l.take i).length := List.countP_le_length
  rw [List.length_take] at h2
  omega
theorem dominated {l l' : List Int} (_hl : l.length = l'.length) (h : ∀ t, l.countP (fun x => decide (x ≤ t)) ≤ l'.countP (fun x => decide (x ≤ t))) {i : Nat} (hi : i < l.length) : nth (srt l') i ≤ nth (srt l) i := by
  refine Classical.byContradiction fun hn => ?_
  have h1 := sorted_count_ge (srt_sorted l) (by rw [srt_len]; exact hi) (t := nth (srt l) i) (Int.le_refl _)
  have h2 := sorted_count_le (srt_sorted l') (i := i) (t := nth (srt l) i) (fun _ => by omega)
  rw [(srt_perm l).countP_eq] at h1
  rw [(srt_perm l').countP_eq] at h2
  have := h (nth (srt l) i)
  omega

/-- The ranks of a shift's hands, in the order of the hands. -/
def ranksTo (p : PlanD) (m : List Int) (s : Int) (k : Nat) : List Int := ((List.range k).filter (fun h => fn m h == s)).map (fun h : Nat => rankP (rowAt p.shifts s) h)
theorem ranksTo_yes {p : PlanD} {m : List Int} {s : Int} {k : Nat} (h : fn m k = s) : ranksTo p m s (k + 1) = ranksTo p m s k ++ [rankP (rowAt p.shifts s) k] := by
  unfold ranksTo; rw [List.range_succ, List.filter_append, List.map_append]; simp [h]
theorem ranksTo_no {p : PlanD} {m : List Int} {s : Int} {k : Nat} (h : fn m k ≠ s) : ranksTo p m s (k + 1) = ranksTo p m s k := by
  unfold ranksTo; rw [List.range_succ, List.filter_append, List.map_append]; simp [h]
theorem ranksTo_len {p : PlanD} {m : List Int} {s : Int} {k : Nat} : (ranksTo p m s k).length ≤ k := by
  unfold ranksTo
  rw [List.length_map]
  exact Nat.le_trans (List.length_filter_le _ _) (by simp)
theorem ranksTo_cnt {p : PlanD} {hp : PlanOk p} {m : List Int} {s : Int} : (ranksTo p m s p.hands.length).length = cnt (mkt p hp) (fn m) s := by
  unfold ranksTo cnt Mkt.cntL
  rw [List.length_map, ← List.countP_eq_length_filter]
  apply List.countP_congr
  intro x _
  simp

theorem sides {p : PlanD} {hp : PlanOk p} {a b : List Int} (ha : StL p hp a) (hb : StL p hp b) (hle : LeM p a b) {s : Nat} (hs : s < p.shifts.length) :
    (ranksTo p a s p.hands.length).length = (ranksTo p b s p.hands.length).length ∧
    ∀ i, i < (ranksTo p a s p.hands.length).length → nth (srt (ranksTo p b s p.hands.length)) i ≤ nth (srt (ranksTo p a s p.hands.length)) i := by
  have hc : (ranksTo p a s p.hands.length).length = (ranksTo p b s p.hands.length).length := by
    rw [ranksTo_cnt (hp := hp), ranksTo_cnt (hp := hp)]
    exact Mkt.cnt_all ha.2 hb.2 s (by omega) (show (s : Int) < p.shifts.length by omega)
  refine ⟨hc, fun i hi => dominated hc (fun t => ?_) hi⟩
  by_cases hx : ∃ h, h < p.hands.length ∧ fn a h = s ∧ fn b h ≠ s ∧ rankP (rowAt p.shifts s) h ≤ t
  · obtain ⟨h, hh, e1, e2, e3⟩ := hx
    have hlt : (mkt p hp).r h s < (mkt p hp).r h (fn b h) := by
      have h1 := hle h hh
      rw [e1] at h1
      rcases Int.lt_or_eq_of_le h1 with c | c
      · exact c
      · exact absurd (e1 ▸ (Mkt.Matching.inj ha.2.m.ok hb.2.m.ok hh (by rw [e1]; exact c)).symm) e2
    have ps : (mkt p hp).pos h s := by
      rcases ha.2.m.ok h hh with c | c
      · omega
      · rw [e1] at c; exact c
    have hall : ∀ x ∈ ranksTo p b s p.hands.length, decide (x ≤ t) = true := by
      intro x hx
      unfold ranksTo at hx
      rw [List.mem_map] at hx
      obtain ⟨y, hy, rfl⟩ := hx
      rw [List.mem_filter] at hy
      have h1 : rankP (rowAt p.shifts s) y < rankP (rowAt p.shifts s) h := hb.2.better h hh s ps hlt y (List.mem_range.1 hy.1) (by simpa using hy.2)
      rw [decide_eq_true_iff]; omega
    rw [List.countP_eq_length.2 hall, ← hc]
    exact List.countP_le_length
  · unfold ranksTo
    rw [List.countP_map, List.countP_map, List.countP_filter, List.countP_filter]
    refine Mkt.countP_imp _ fun x hx' hc' => ?_
    simp only [Function.comp, Bool.and_eq_true, decide_eq_true_iff, beq_iff_eq] at hc' ⊢
    refine ⟨hc'.1, Classical.byContradiction fun hn => hx ⟨x, List.mem_range.1 hx', hc'.2, hn, hc'.1⟩⟩

/-- The k-th best of all stable matchings is among them. -/
theorem mid_mem {p : PlanD} {hp : PlanOk p} {m : List Int} {j : Nat} (hj : j < (stAll p hp).length) (hl : m.length = p.hands.length) (hok : ∀ h, h < p.hands.length → ∃ q ∈ stAll p hp, fn m h = fn q h)
    (hr : ∀ h : Nat, h < p.hands.length → rankP (rowAt p.hands h) (fn m h) = nth (srt ((stAll p hp).map (fun q => rankP (rowAt p.hands h) (fn q h)))) j) : m ∈ stAll p hp := by
  obtain ⟨μ, hμ, he⟩ := kth_stable (M := mkt p hp) ((stAll p hp).map fn) (fun μ hμ => by
    obtain ⟨q, hq, rfl⟩ := List.mem_map.1 hμ
    exact (mem_stAll.1 hq).2) j (by rw [List.length_map]; exact hj)
  refine mem_stAll.2 ⟨hl, Stable.congr (fun h hh => ?_) hμ⟩
  have h1 := he h hh
  rw [List.map_map] at h1
  obtain ⟨q, hq, e⟩ := hok h hh
  have hm : fn m h = -1 ∨ (mkt p hp).pos h (fn m h) := by rw [e]; exact (mem_stAll.1 hq).2.m.ok h hh
  have h2 : (mkt p hp).r h (μ h) = (mkt p hp).r h (fn m h) := by rw [h1]; exact (hr h hh).symm
  rcases hμ.m.ok h hh with c | c <;> rcases hm with d | d
  · rw [c, d]
  · have := (mkt p hp).r_none _ _ d; rw [c] at h2; omega
  · have := (mkt p hp).r_none _ _ c; rw [d] at h2; omega
  · exact (mkt p hp).r_inj _ _ _ c d h2

end Go.Proofs.Ytkdfbbkonbgfmaa
