/-
  Join, meet and the k-th best of stable matchings, on lists. Plain.
-/
import Derived.Test.YtkdfbbkonbgfmaaStableL
namespace Go.Proofs.Ytkdfbbkonbgfmaa
open Mkt (upd cnt Stable Matching)

theorem cnt_congr {M : Mkt.Mk} {μ ν : Nat → Int} (h : ∀ x, x < M.n → μ x = ν x) (s : Int) : cnt M μ s = cnt M ν s := by
  apply Nat.le_antisymm
  · exact Mkt.cnt_imp fun x hx e => by rw [← h x hx]; exact e
  · exact Mkt.cnt_imp fun x hx e => by rw [h x hx]; exact e
theorem Matching.congr {M : Mkt.Mk} {μ ν : Nat → Int} (h : ∀ x, x < M.n → μ x = ν x) (hm : Matching M μ) : Matching M ν :=
  ⟨fun x hx => by rw [← h x hx]; exact hm.ok x hx, fun s h0 h1 => by rw [← cnt_congr h]; exact hm.room s h0 h1⟩
theorem Stable.congr {M : Mkt.Mk} {μ ν : Nat → Int} (h : ∀ x, x < M.n → μ x = ν x) (hm : Stable M μ) : Stable M ν :=
  ⟨Matching.congr h hm.m, fun x hx s ps hr => by rw [← h x hx] at hr; rw [← cnt_congr h]; exact hm.full x hx s ps hr,
    fun x hx s ps hr y hy hys => by rw [← h x hx] at hr; rw [← h y hy] at hys; exact hm.better x hx s ps hr y hy hys⟩

/-- The better, the worse one of two for a hand. -/
def joinI (p : PlanD) (h x y : Int) : Int := if rankP (rowAt p.hands h) y < rankP (rowAt p.hands h) x then y else x
def meetI (p : PlanD) (h x y : Int) : Int := if rankP (rowAt p.hands h) y < rankP (rowAt p.hands h) x then x else y
def joinTo (p : PlanD) (a b : List Int) (k : Nat) : List Int := (List.range k).map (fun h : Nat => joinI p h (fn a h) (fn b h))
def meetTo (p : PlanD) (a b : List Int) (k : Nat) : List Int := (List.range k).map (fun h : Nat => meetI p h (fn a h) (fn b h))
def joinL (p : PlanD) (a b : List Int) : List Int := joinTo p a b p.hands.length
def meetL (p : PlanD) (a b : List Int) : List Int := meetTo p a b p.hands.length
theorem joinTo_succ (p : PlanD) (a b : List Int) (k : Nat) : joinTo p a b (k + 1) = joinTo p a b k ++ [joinI p k (fn a k) (fn b k)] := by
  unfold joinTo; rw [List.range_succ, List.map_append]; rfl
theorem meetTo_succ (p : PlanD) (a b : List Int) (k : Nat) : meetTo p a b (k + 1) = meetTo p a b k ++ [meetI p k (fn a k) (fn b k)] := by
  unfold meetTo; rw [List.range_succ, List.map_append]; rfl
theorem joinL_len (p : PlanD) (a b : List Int) : (joinL p a b).length = p.hands.length := by unfold joinL joinTo; simp
theorem meetL_len (p : PlanD) (a b : List Int) : (meetL p a b).length = p.hands.length := by unfold meetL meetTo; simp
theorem joinL_fn {p : PlanD} (hp : PlanOk p) (a b : List Int) {h : Nat} (hh : h < p.hands.length) : fn (joinL p a b) h = Mkt.join (mkt p hp) (fn a) (fn b) h := by
  rw [fn_get (by rw [joinL_len]; exact hh)]
  unfold joinL joinTo
  rw [List.getElem_map, List.getElem_range]
  unfold joinI Mkt.join
  show (if _ then _ else _) = if rankP _ _ ≤ rankP _ _ then _ else _
  split
  · rw [if_neg (by omega)]
  · rw [if_pos (by omega)]
theorem meetL_fn {p : PlanD} (hp : PlanOk p) (a b : List Int) {h : Nat} (hh : h < p.hands.length) : fn (meetL p a b) h = Mkt.meet (mkt p hp) (fn a) (fn b) h := by
  rw [fn_get (by rw [meetL_len]; exact hh)]
  unfold meetL meetTo
  rw [List.getElem_map, List.getElem_range]
  unfold meetI Mkt.meet
  show (if _ then _ else _) = if rankP _ _ ≤ rankP _ _ then _ else _
  split
  · rw [if_neg (by omega)]
  · rw [if_pos (by omega)]
theorem joinL_st {p : PlanD} {hp : PlanOk p} {a b : List Int} (ha : StL p hp a) (hb : StL p hp b) : StL p hp (joinL p a b) :=
  ⟨joinL_len p a b, Stable.congr (fun _ hx => (joinL_fn hp a b hx).symm) (Mkt.join_stable ha.2 hb.2)⟩
theorem meetL_st {p : PlanD} {hp : PlanOk p} {a b : List Int} (ha : StL p hp a) (hb : StL p hp b) : StL p hp (meetL p a b) :=
  ⟨meetL_len p a b, Stable.congr (fun _ hx => (meetL_fn hp a b hx).symm) (Mkt.meet_stable ha.2 hb.2)⟩
theorem joinL_first {p : PlanD} {hp : PlanOk p} {a b : List Int} (ha : IsFirst p hp a) (hb : StL p hp b) : joinL p a b = a := by
  refine list_eq_of (hp := hp) (joinL_len p a b) ha.len (joinL_st ⟨ha.len, ha.st⟩ hb).2 ha.st (fun x hx => ?_)
  rw [joinL_fn hp a b hx]
  have := ha.best _ hb.2 x hx
  unfold Mkt.join
  rw [if_pos this]
theorem meetL_last {p : PlanD} {hp : PlanOk p} {a b : List Int} (ha : IsLast p hp a) (hb : StL p hp b) : meetL p a b = a := by
  refine list_eq_of (hp := hp) (meetL_len p a b) ha.len (meetL_st ⟨ha.len, ha.st⟩ hb).2 ha.st (fun x hx => ?_)
  rw [meetL_fn hp a b hx]
  have := ha.worst _ hb.2 x hx
  rcases Mkt.meet_cases (M := mkt p hp) (fn a) (fn b) x with ⟨e, h⟩ | ⟨e, h⟩
  · rw [e]; omega
  · rw [e]

/-- The numbers of a list, rising. -/
def insS (x : Int) : List Int → List Int
  | [] => [x]
  | y :: l => if x < y then x :: y :: l else y :: insS x l
def srt : List Int → List Int
  | [] => []
  | x :: l => insS x (srt l)
theorem insS_len (x : Int) : ∀ l, (insS x l).length = l.length + 1
  | [] => rfl
  | y :: l => by rw [insS]; split <;> simp [insS_len x l]
theorem srt_len : ∀ l : List Int, (srt l).length = l.length
  | [] => rfl
  | x :: l => by rw [srt, insS_len, srt_len l]; rfl
theorem insS_perm (x : Int) : ∀ l, (insS x l).Perm (x :: l)
  | [] => List.Perm.refl _
  | y :: l => by
    rw [insS]; split
    · exact List.Perm.refl _
    · exact ((insS_perm x l).cons y).trans (List.Perm.swap x y l)
theorem srt_perm : ∀ l : List Int, (srt l).Perm l
  | [] => List.Perm.refl _
  | x :: l => (insS_perm x (srt l)).trans ((srt_perm l).cons x)
theorem insS_sorted (x : Int) : ∀ l : List Int, l.Pairwise (· ≤ ·) → (insS x l).Pairwise (· ≤ ·)
  | [], _ => by simp [insS]
  | y :: l, h => by
    rw [insS]
    have h' := List.pairwise_cons.1 h
    split
    · refine List.pairwise_cons.2 ⟨fun z hz => ?_, h⟩
      rcases List.mem_cons.1 hz with rfl | hz
      · omega
      · have := h'.1 z hz; omega
    · refine List.pairwise_cons.2 ⟨fun z hz => ?_, insS_sorted x l h'.2⟩
      rcases List.mem_cons.1 ((insS_perm x l).mem_iff.1 hz) with rfl | hz
      · omega
      · exact h'.1 z hz
theorem srt_sorted : ∀ l : List Int, (srt l).Pairwise (· ≤ ·)
  | [] => List.Pairwise.nil
  | x :: l => insS_sorted x _ (srt_sorted l)
theorem srt_unique {l l' : List Int} (hs : l'.Pairwise (· ≤ ·)) (hp : l'.Perm l) : l' = srt l :=
  List.Perm.eq_of_pairwise (le := (· ≤ ·)) (fun a b _ _ h1 h2 => by omega) hs (srt_sorted l) (hp.trans (srt_perm l).symm)

def nth (l : List Int) (j : Nat) : Int := l.getD j 0
theorem nth_zero (x : Int) (l : List Int) : nth (x :: l) 0 = x := rfl
theorem nth_succ (x : Int) (l : List Int) (j : Nat) : nth (x :: l) (j + 1) = nth l j := rfl
theorem nth_get {l : List Int} {j : Nat} (h : j < l.length) : nth l j = l[j] := by unfold nth; rw [List.getD_eq_getElem?_getD, List.getElem?_eq_getElem h]; rfl
theorem sorted_le {l : List Int} (h : l.Pairwise (· ≤ ·)) {i j : Nat} (hij : i ≤ j) (hj : j < l.length) : nth l i ≤ nth l j := by
  rw [nth_get (by omega), nth_get hj]
  rcases Nat.lt_or_eq_of_le hij with e | e
  · exact List.pairwise_iff_getElem.1 h i j (by omega) hj e
  · subst e; exact Int.le_refl _
theorem insS_nth (x : Int) : ∀ (l : List Int), l.Pairwise (· ≤ ·) → ∀ j, j ≤ l.length → nth (insS x l) j =
    if j = 0 then (if l.length = 0 then x else min x (nth l 0)) else if j < l.length then min (nth l j) (max x (nth l (j - 1))) else max x (nth l (j - 1)) := by
  intro l
  induction l with
  | nil =>
    intro _ j hj
    have : j = 0 := by simpa using hj
    subst this
    rfl
  | cons y l ih =>
    intro hs j hj
    have hs' := List.pairwise_cons.1 hs
    rw [insS]
    split
    · rename_i hxy
      cases j with
      | zero => rw [if_pos rfl, if_neg (by simp), nth_zero, nth_zero]; omega
      | succ j =>
        rw [if_neg (by omega), nth_succ, Nat.add_sub_cancel]
        have h1 : j < (y :: l).length := by simp at hj ⊢; omega
        have h0 := sorted_le hs (Nat.zero_le j) h1
        rw [nth_zero] at h0
        split
        · rename_i h2
          have h3 := sorted_le hs (Nat.le_succ j) h2
          simp only [Nat.succ_eq_add_one] at h3
          omega
        · omega
    · rename_i hxy
      cases j with
      | zero => rw [if_pos rfl, if_neg (by simp), nth_zero, nth_zero]; omega
      | succ j =>
        rw [if_neg (by omega), nth_succ, Nat.add_sub_cancel, ih hs'.2 j (by simp at hj; omega), List.length_cons]
        cases j with
        | zero =>
          rw [if_pos rfl, nth_zero, nth_succ]
          by_cases hl : l.length = 0
          · rw [if_pos hl, if_neg (by omega)]; omega
          · rw [if_neg hl, if_pos (by omega)]; omega
        | succ j =>
          rw [if_neg (by omega), nth_succ, nth_succ, Nat.add_sub_cancel]
          by_cases hl : j + 1 < l.length
          · rw [if_pos hl, if_pos (by omega)]
          · rw [if_neg hl, if_neg (by omega)]

/-- The k-th best of some stable matchings, for each hand, is a stable matching. -/
theorem kth_stable {M : Mkt.Mk} : ∀ (L : List (Nat → Int)), (∀ μ ∈ L, Stable M μ) → ∀ j, j < L.length → ∃ μ, Stable M μ ∧ ∀ h, h < M.n → M.r h (μ h) = nth (srt (L.map (fun ν => M.r h (ν h)))) j := by
  intro L
  induction L with
  | nil => intro _ j hj; simp at hj
  | cons a L ih =>
    intro hL j hj
    have ha := hL a (List.mem_cons_self ..)
    have hL' : ∀ μ ∈ L, Stable M μ := fun μ hμ => hL μ (List.mem_cons_of_mem _ hμ)
    have rj : ∀ (μ ν : Nat → Int) h, M.r h (Mkt.join M μ ν h) = min (M.r h (μ h)) (M.r h (ν h)) := by
      intro μ ν h; unfold Mkt.join; split <;> omega
    have rm : ∀ (μ ν : Nat → Int) h, M.r h (Mkt.meet M μ ν h) = max (M.r h (μ h)) (M.r h (ν h)) := by
      intro μ ν h; unfold Mkt.meet; split <;> omega
    have key : ∀ h, nth (srt ((a :: L).map (fun ν => M.r h (ν h)))) j = nth (insS (M.r h (a h)) (srt (L.map (fun ν => M.r h (ν h))))) j := fun h => rfl
    have ins := fun h => insS_nth (M.r h (a h)) (srt (L.map (fun ν => M.r h (ν h)))) (srt_sorted _) j (by rw [srt_len, List.length_map]; simp at hj; omega)
    by_cases h0 : j = 0
    · by_cases hl : L.length = 0
      · refine ⟨a, ha, fun h _ => ?_⟩
        rw [key h, ins h, if_pos h0, if_pos (by rw [srt_len, List.length_map]; exact hl)]
      · obtain ⟨μ, hμ, hr⟩ := ih hL' 0 (by omega)
        refine ⟨Mkt.join M a μ, Mkt.join_stable ha hμ, fun h hh => ?_⟩
        rw [key h, ins h, if_pos h0, if_neg (by rw [srt_len, List.length_map]; exact hl), rj, hr h hh]
    · obtain ⟨ν, hν, hrν⟩ := ih hL' (j - 1) (by simp at hj; omega)
      by_cases hl : j < L.length
      · obtain ⟨μ, hμ, hr⟩ := ih hL' j hl
        refine ⟨Mkt.join M μ (Mkt.meet M a ν), Mkt.join_stable hμ (Mkt.meet_stable ha hν), fun h hh => ?_⟩
        rw [key h, ins h, if_neg h0, if_pos (by rw [srt_len, List.length_map]; exact hl), rj, rm, hr h hh, hrν h hh]
      · refine ⟨Mkt.meet M a ν, Mkt.meet_stable ha hν, fun h hh => ?_⟩
        rw [key h, ins h, if_neg h0, if_neg (by rw [srt_len, List.length_map]; exact hl), rm, hrν h hh]

end Go.Proofs.Ytkdfbbkonbgfmaa
