/-
  Contracts of package turns: valid.
-/
import Derived.Test.YtkdfbbkonbgfmaaTurnsA
namespace Go.Proofs.Ytkdfbbkonbgfmaa
open Go.RowKit

/-- A plan is valid. -/
def planOk (p : PlanD) : Bool :=
  decide (1 ≤ p.hands.length ∧ p.hands.length ≤ 6 ∧ 1 ≤ p.shifts.length ∧ p.shifts.length ≤ 4 ∧ p.places.length = p.shifts.length ∧ ∀ x ∈ p.places, 1 ≤ x ∧ x ≤ 3) &&
    listsOk p.hands p.shifts.length && listsOk p.shifts p.hands.length

theorem foldl_min_le (l : List Int) : ∀ a : Int, l.foldl min a ≤ a ∧ ∀ x ∈ l, l.foldl min a ≤ x := by
  induction l with
  | nil => intro a; simp
  | cons b l ih =>
    intro a
    obtain ⟨h1, h2⟩ := ih (min a b)
    refine ⟨by simp only [List.foldl_cons]; omega, fun x hx => ?_⟩
    simp only [List.foldl_cons]
    rcases List.mem_cons.1 hx with rfl | hx
    · omega
    · exact h2 x hx
theorem le_foldl_max (l : List Int) : ∀ a : Int, a ≤ l.foldl max a ∧ ∀ x ∈ l, x ≤ l.foldl max a := by
  induction l with
  | nil => intro a; simp
  | cons b l ih =>
    intro a
    obtain ⟨h1, h2⟩ := ih (max a b)
    refine ⟨by simp only [List.foldl_cons]; omega, fun x hx => ?_⟩
    simp only [List.foldl_cons]
    rcases List.mem_cons.1 hx with rfl | hx
    · omega
    · exact h2 x hx
theorem foldl_min_mem (l : List Int) : ∀ a : Int, l.foldl min a = a ∨ l.foldl min a ∈ l := by
  induction l with
  | nil => intro a; simp
  | cons b l ih =>
    intro a
    simp only [List.foldl_cons, List.mem_cons]
    rcases ih (min a b) with h | h
    · rcases Int.le_total a b with h' | h'
      · left; rw [h]; omega
      · right; left; rw [h]; omega
    · exact .inr (.inr h)
theorem foldl_max_mem (l : List Int) : ∀ a : Int, l.foldl max a = a ∨ l.foldl max a ∈ l := by
  induction l with
  | nil => intro a; simp
  | cons b l ih =>
    intro a
    simp only [List.foldl_cons, List.mem_cons]
    rcases ih (max a b) with h | h
    · rcases Int.le_total a b with h' | h'
      · right; left; rw [h]; omega
      · left; rw [h]; omega
    · exact .inr (.inr h)
theorem minI_le {l : List Int} {x : Int} (h : x ∈ l) : minI l ≤ x := by
  cases l with
  | nil => simp at h
  | cons a l =>
    have := foldl_min_le l a
    rcases List.mem_cons.1 h with rfl | h
    · exact this.1
    · exact this.2 x h
theorem le_maxI {l : List Int} {x : Int} (h : x ∈ l) : x ≤ maxI l := by
  cases l with
  | nil => simp at h
  | cons a l =>
    have := le_foldl_max l a
    rcases List.mem_cons.1 h with rfl | h
    · exact this.1
    · exact this.2 x h
theorem minI_mem {l : List Int} (h : 0 < l.length) : minI l ∈ l := by
  cases l with
  | nil => simp at h
  | cons a l => rcases foldl_min_mem l a with h | h <;> simp [minI, h]
theorem maxI_mem {l : List Int} (h : 0 < l.length) : maxI l ∈ l := by
  cases l with
  | nil => simp at h
  | cons a l => rcases foldl_max_mem l a with h | h <;> simp [maxI, h]

theorem planOk_no {p : PlanD} (h : ¬ (1 ≤ p.hands.length ∧ p.hands.length ≤ 6 ∧ 1 ≤ p.shifts.length ∧ p.shifts.length ≤ 4 ∧ p.places.length = p.shifts.length ∧ ∀ x ∈ p.places, 1 ≤ x ∧ x ≤ 3)) : planOk p = false := by
  unfold planOk; rw [decide_eq_false h]; rfl
theorem planOk_noH {p : PlanD} (h : listsOk p.hands p.shifts.length = false) : planOk p = false := by
  unfold planOk; rw [h]; simp
theorem planOk_yes {p : PlanD} (h : 1 ≤ p.hands.length ∧ p.hands.length ≤ 6 ∧ 1 ≤ p.shifts.length ∧ p.shifts.length ≤ 4 ∧ p.places.length = p.shifts.length ∧ ∀ x ∈ p.places, 1 ≤ x ∧ x ≤ 3)
    (hH : listsOk p.hands p.shifts.length = true) : planOk p = listsOk p.shifts p.hands.length := by
  unfold planOk; rw [hH, decide_eq_true h]; simp

set_option maxHeartbeats 2000000 in
theorem valid_any (vh vs vp : Value) (p : PlanD) (w : World) (hp : PlanR w vh vs vp p) :
    Calls Try.prog 52 #[.agg #[vh, vs, vp]] w fun e w' => e = .returned (.bool (planOk p)) ∧ Ext w w' := by
  obtain ⟨hh, hs, hpp⟩ := hp
  obtain ⟨hlh, aoh, caph, rfl, hch, hhc⟩ := id hh
  obtain ⟨hls, aos, caps, rfl, hcs, hsc⟩ := id hs
  obtain ⟨hlp, aop, capp, rfl, hcp, hpc⟩ := id hpp
  have Hh := hid hh
  have Hs := hid hs
  have Hp := hid hpp
  clear hhc hsc hpc hh hs hpp hch hcs hcp
  by_cases h1 : ¬ (1 ≤ p.hands.length ∧ p.hands.length ≤ 6 ∧ 1 ≤ p.shifts.length ∧ p.shifts.length ≤ 4 ∧ p.places.length = p.shifts.length)
  · have Hf := hid (planOk_no (p := p) (fun h => h1 ⟨h.1, h.2.1, h.2.2.1, h.2.2.2.1, h.2.2.2.2.1⟩))
    by_cases a1 : 1 ≤ p.hands.length
    · by_cases a2 : p.hands.length ≤ 6
      · by_cases a3 : 1 ≤ p.shifts.length
        · by_cases a4 : p.shifts.length ≤ 4
          · have a5 : ((p.places.length : Int) == (p.shifts.length : Int)) = false := by simp; omega
            clear h1
            go_enter Try.func52, Try.ntmps52
            go_wp2
            go_quiet (fail)
            go_wp2
            go_ret
            exact ⟨ret_bool Hf.out.symm, (Ext.ofAlloc _ _).drewN _⟩
          all_goals (clear h1; go_enter Try.func52, Try.ntmps52; go_wp2; go_quiet (fail); go_wp2; go_ret; exact ⟨ret_bool Hf.out.symm, (Ext.ofAlloc _ _).drewN _⟩)
        all_goals (clear h1; go_enter Try.func52, Try.ntmps52; go_wp2; go_quiet (fail); go_wp2; go_ret; exact ⟨ret_bool Hf.out.symm, (Ext.ofAlloc _ _).drewN _⟩)
      all_goals (clear h1; go_enter Try.func52, Try.ntmps52; go_wp2; go_quiet (fail); go_wp2; go_ret; exact ⟨ret_bool Hf.out.symm, (Ext.ofAlloc _ _).drewN _⟩)
    all_goals (clear h1; go_enter Try.func52, Try.ntmps52; go_wp2; go_quiet (fail); go_wp2; go_ret; exact ⟨ret_bool Hf.out.symm, (Ext.ofAlloc _ _).drewN _⟩)
  · have h1 := Classical.not_not.1 h1
    obtain ⟨a1, a2, a3, a4, a5⟩ := id h1
    have h0 : 0 < p.places.length := by omega
    have a6 : ((p.places.length : Int) == (p.shifts.length : Int)) = true := by simp; omega
    have A5 := hid a5
    have H1 := hid h1
    clear a5 h1
    by_cases b1 : minI p.places < 1
    · have Hf := hid (planOk_no (p := p) (fun h => by have := (h.2.2.2.2.2 _ (minI_mem h0)).1; omega))
      go_enter Try.func52, Try.ntmps52
      go_wp2
      go_quiet (fail)
      go_wp2_with (go_at_call 96; refine (Min_any _ p.places _ (Hp.out.ext ((Ext.ofAlloc _ _).drewN _)) h0).mono ?_; rintro e w' ⟨rfl, rfl⟩)
      go_ret
      exact ⟨ret_bool Hf.out.symm, (Ext.ofAlloc _ _).drewN _⟩
    · by_cases b2 : 3 < maxI p.places
      · have Hf := hid (planOk_no (p := p) (fun h => by have := (h.2.2.2.2.2 _ (maxI_mem h0)).2; omega))
        go_enter Try.func52, Try.ntmps52
        go_wp2
        go_quiet (fail)
        go_wp2_with (first | (go_at_call 96; refine (Min_any _ p.places _ (Hp.out.ext ((Ext.ofAlloc _ _).drewN _)) h0).mono ?_; rintro e w' ⟨rfl, rfl⟩) | (go_at_call 97; refine (Max_any _ p.places _ (Hp.out.ext ((Ext.ofAlloc _ _).drewN _)) h0).mono ?_; rintro e w' ⟨rfl, rfl⟩))
        go_ret
        exact ⟨ret_bool Hf.out.symm, (Ext.ofAlloc _ _).drewN _⟩
      · have hall : ∀ x ∈ p.places, 1 ≤ x ∧ x ≤ 3 := fun x hx => ⟨by have := minI_le hx; omega, by have := le_maxI hx; omega⟩
        cases b3 : listsOk p.hands p.shifts.length
        · have Hf := hid (planOk_noH (p := p) b3)
          clear hall
          go_enter Try.func52, Try.ntmps52
          go_wp2
          go_quiet (fail)
          go_wp2_with (first | (go_at_call 96; refine (Min_any _ p.places _ (Hp.out.ext ((Ext.ofAlloc _ _).drewN _)) h0).mono ?_; rintro e w' ⟨rfl, rfl⟩) | (go_at_call 97; refine (Max_any _ p.places _ (Hp.out.ext ((Ext.ofAlloc _ _).drewN _)) h0).mono ?_; rintro e w' ⟨rfl, rfl⟩) | (go_at_call 98; refine (lists_any _ p.hands _ _ (Hh.out.ext ((Ext.ofAlloc _ _).drewN _))).mono ?_; rintro e w' ⟨rfl, rfl⟩))
          go_ret
          exact ⟨ret_bool Hf.out.symm, (Ext.ofAlloc _ _).drewN _⟩
        · have Hf := hid (planOk_yes (p := p) ⟨a1, a2, a3, a4, A5.out, hall⟩ b3)
          clear hall
          go_enter Try.func52, Try.ntmps52
          go_wp2
          go_quiet (fail)
          go_wp2_with (fail)
          refine (Min_any _ p.places _ (Hp.out.ext ((Ext.ofAlloc _ _).drewN _)) h0).mono ?_
          rintro e w' ⟨rfl, rfl⟩
          go_wp2_with (fail)
          refine (Max_any _ p.places _ (Hp.out.ext ((Ext.ofAlloc _ _).drewN _)) h0).mono ?_
          rintro e w' ⟨rfl, rfl⟩
          go_wp2_with (fail)
          refine (lists_any _ p.hands _ _ (Hh.out.ext ((Ext.ofAlloc _ _).drewN _))).mono ?_
          rintro e w' ⟨rfl, rfl⟩
          go_wp2_with (fail)
          refine (lists_any _ p.shifts _ _ (Hs.out.ext ((Ext.ofAlloc _ _).drewN _))).mono ?_
          rintro e w' ⟨rfl, rfl⟩
          go_wp2
          go_ret
          exact ⟨ret_bool Hf.out.symm, (Ext.ofAlloc _ _).drewN _⟩

end Go.Proofs.Ytkdfbbkonbgfmaa
