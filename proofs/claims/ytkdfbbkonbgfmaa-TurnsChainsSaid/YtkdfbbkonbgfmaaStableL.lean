/-
  All stable matchings, in the order in which they are found. Plain.
-/
import Derived.Test.YtkdfbbkonbgfmaaHonest
namespace Go.Proofs.Ytkdfbbkonbgfmaa
open Mkt (upd cnt Stable Matching)

/-- A list that is a matching, a stable matching. -/
def MatL (p : PlanD) (hp : PlanOk p) (m : List Int) : Prop := m.length = p.hands.length ∧ Matching (mkt p hp) (fn m)
def StL (p : PlanD) (hp : PlanOk p) (m : List Int) : Prop := m.length = p.hands.length ∧ Stable (mkt p hp) (fn m)
theorem StL.mat {p : PlanD} {hp : PlanOk p} {m : List Int} (h : StL p hp m) : MatL p hp m := ⟨h.1, h.2.m⟩
noncomputable def matB (p : PlanD) (hp : PlanOk p) (m : List Int) : Bool := @decide (MatL p hp m) (Classical.propDecidable _)
noncomputable def stB (p : PlanD) (hp : PlanOk p) (m : List Int) : Bool := @decide (StL p hp m) (Classical.propDecidable _)
theorem matB_iff {p : PlanD} {hp : PlanOk p} {m : List Int} : matB p hp m = true ↔ MatL p hp m := by unfold matB; exact @decide_eq_true_iff _ (Classical.propDecidable _)
theorem stB_iff {p : PlanD} {hp : PlanOk p} {m : List Int} : stB p hp m = true ↔ StL p hp m := by unfold stB; exact @decide_eq_true_iff _ (Classical.propDecidable _)
theorem matB_no {p : PlanD} {hp : PlanOk p} {m : List Int} (h : ¬ MatL p hp m) : matB p hp m = false := by
  cases e : matB p hp m
  · rfl
  · exact absurd (matB_iff.1 e) h
theorem stB_no {p : PlanD} {hp : PlanOk p} {m : List Int} (h : ¬ StL p hp m) : stB p hp m = false := by
  cases e : stB p hp m
  · rfl
  · exact absurd (stB_iff.1 e) h

/-- A value that a hand can have: none, or a shift that is possible. -/
def okV (p : PlanD) (h s : Int) : Bool := s == -1 || possB p h s
theorem okV_iff {p : PlanD} {h s : Int} : okV p h s = true ↔ s = -1 ∨ possB p h s = true := by unfold okV; rw [Bool.or_eq_true, beq_iff_eq]
/-- The first k of -1, 0, 1, .. that a hand can have. -/
def opts (p : PlanD) (h : Int) (k : Nat) : List Int := ((List.range k).map (fun j : Nat => (j : Int) - 1)).filter (okV p h)
theorem opts_zero (p : PlanD) (h : Int) : opts p h 0 = [] := rfl
theorem opts_yes {p : PlanD} {h : Int} {k : Nat} (e : okV p h ((k : Int) - 1) = true) : opts p h (k + 1) = opts p h k ++ [(k : Int) - 1] := by
  unfold opts; rw [List.range_succ, List.map_append, List.filter_append]; simp [e]
theorem opts_no {p : PlanD} {h : Int} {k : Nat} (e : okV p h ((k : Int) - 1) = false) : opts p h (k + 1) = opts p h k := by
  unfold opts; rw [List.range_succ, List.map_append, List.filter_append]; simp [e]
theorem mem_opts {p : PlanD} (hp : PlanOk p) {h : Nat} {s : Int} : s ∈ opts p h (p.shifts.length + 1) ↔ s = -1 ∨ possB p h s = true := by
  unfold opts
  rw [List.mem_filter, okV_iff, List.mem_map]
  constructor
  · exact fun h => h.2
  · intro e
    refine ⟨⟨(s + 1).toNat, List.mem_range.2 ?_, ?_⟩, e⟩
    · rcases e with e | e
      · omega
      · have h1 := (mkt p hp).pos_lo h s e; have h2 : s < p.shifts.length := (mkt p hp).pos_hi h s e; omega
    · rcases e with e | e
      · omega
      · have := (mkt p hp).pos_lo h s e; omega
theorem opts_nodup (p : PlanD) (h : Int) (k : Nat) : (opts p h k).Nodup := by
  unfold opts
  refine List.Nodup.sublist List.filter_sublist ?_
  rw [List.nodup_iff_pairwise_ne, List.pairwise_map]
  exact (List.nodup_iff_pairwise_ne.1 List.nodup_range).imp (fun hab e => hab (by omega))

/-- All that begins so, with k hands to come. -/
noncomputable def stFrom (p : PlanD) (hp : PlanOk p) : Nat → List Int → List (List Int)
  | 0, b => if stB p hp b then [b] else []
  | k + 1, b => (opts p b.length (p.shifts.length + 1)).flatMap (fun s => stFrom p hp k (b ++ [s]))
/-- What the first j choices give. -/
noncomputable def stPart (p : PlanD) (hp : PlanOk p) (k : Nat) (b : List Int) (j : Nat) : List (List Int) := (opts p b.length j).flatMap (fun s => stFrom p hp k (b ++ [s]))
noncomputable def stAll (p : PlanD) (hp : PlanOk p) : List (List Int) := stFrom p hp p.hands.length []

theorem stFrom_zero_yes {p : PlanD} {hp : PlanOk p} {b : List Int} (h : stB p hp b = true) : stFrom p hp 0 b = [b] := by rw [stFrom, if_pos h]
theorem stFrom_zero_no {p : PlanD} {hp : PlanOk p} {b : List Int} (h : stB p hp b = false) : stFrom p hp 0 b = [] := by rw [stFrom, h]; rfl
theorem stPart_zero {p : PlanD} {hp : PlanOk p} {k : Nat} {b : List Int} : stPart p hp k b 0 = [] := rfl
theorem stPart_yes {p : PlanD} {hp : PlanOk p} {k j : Nat} {b : List Int} (e : okV p b.length ((j : Int) - 1) = true) : stPart p hp k b (j + 1) = stPart p hp k b j ++ stFrom p hp k (b ++ [(j : Int) - 1]) := by
  unfold stPart; rw [opts_yes e, List.flatMap_append, List.flatMap_singleton]
theorem stPart_no {p : PlanD} {hp : PlanOk p} {k j : Nat} {b : List Int} (e : okV p b.length ((j : Int) - 1) = false) : stPart p hp k b (j + 1) = stPart p hp k b j := by
  unfold stPart; rw [opts_no e]
theorem stPart_all {p : PlanD} {hp : PlanOk p} {k : Nat} {b : List Int} : stPart p hp k b (p.shifts.length + 1) = stFrom p hp (k + 1) b := rfl

theorem mem_stFrom {p : PlanD} {hp : PlanOk p} : ∀ (k : Nat) (b m : List Int), m ∈ stFrom p hp k b ↔
    StL p hp m ∧ m.length = b.length + k ∧ b <+: m ∧ ∀ i, (h : i < m.length) → b.length ≤ i → m[i] = -1 ∨ possB p i m[i] = true := by
  intro k
  induction k with
  | zero =>
    intro b m
    rw [stFrom]
    by_cases e : stB p hp b = true
    · rw [if_pos e, List.mem_singleton]
      constructor
      · rintro rfl
        exact ⟨stB_iff.1 e, rfl, List.prefix_refl _, fun i h h' => by omega⟩
      · rintro ⟨-, hl, hpre, -⟩
        exact (List.IsPrefix.eq_of_length hpre (by omega)).symm
    · rw [if_neg e]
      constructor
      · intro h; simp at h
      · rintro ⟨hs, hl, hpre, -⟩
        rw [← List.IsPrefix.eq_of_length hpre (by omega)] at hs
        exact absurd (stB_iff.2 hs) e
  | succ k ih =>
    intro b m
    rw [stFrom, List.mem_flatMap]
    constructor
    · rintro ⟨s, hs, hm⟩
      obtain ⟨h1, h2, h3, h4⟩ := (ih _ _).1 hm
      rw [List.length_append, List.length_singleton] at h2 h4
      refine ⟨h1, by omega, (List.prefix_append b [s]).trans h3, fun i hi hb => ?_⟩
      by_cases e : i = b.length
      · subst e
        have hg : m[b.length] = s := by
          obtain ⟨t, rfl⟩ := h3
          simp
        rw [hg]; exact (mem_opts hp).1 hs
      · exact h4 i hi (by omega)
    · rintro ⟨h1, h2, h3, h4⟩
      have hlt : b.length < m.length := by omega
      refine ⟨m[b.length], (mem_opts hp).2 (h4 _ hlt (Nat.le_refl _)), (ih _ _).2 ⟨h1, by rw [List.length_append, List.length_singleton]; omega, ?_, fun i hi hb => h4 i hi (by rw [List.length_append, List.length_singleton] at hb; omega)⟩⟩
      obtain ⟨t, rfl⟩ := h3
      cases t with
      | nil => simp at hlt
      | cons x t => exact ⟨t, by simp⟩
theorem mem_stAll {p : PlanD} {hp : PlanOk p} {m : List Int} : m ∈ stAll p hp ↔ StL p hp m := by
  unfold stAll
  rw [mem_stFrom]
  constructor
  · exact fun h => h.1
  · intro h
    refine ⟨h, by simp [h.1], List.nil_prefix, fun i hi _ => ?_⟩
    have := h.2.m.ok i (show i < p.hands.length by have := h.1; omega)
    rw [fn_get hi] at this; exact this

theorem stFrom_nodup {p : PlanD} {hp : PlanOk p} : ∀ (k : Nat) (b : List Int), (stFrom p hp k b).Nodup := by
  intro k
  induction k with
  | zero => intro b; rw [stFrom]; split <;> simp
  | succ k ih =>
    intro b
    rw [stFrom, List.nodup_iff_pairwise_ne, List.pairwise_flatMap]
    refine ⟨fun s _ => List.nodup_iff_pairwise_ne.1 (ih _), ?_⟩
    refine (List.nodup_iff_pairwise_ne.1 (opts_nodup p _ _)).imp ?_
    intro s t hne x hx y hy e
    subst e
    have h1 := ((mem_stFrom _ _ _).1 hx).2.2.1
    have h2 := ((mem_stFrom _ _ _).1 hy).2.2.1
    apply hne
    obtain ⟨u, hu⟩ := h1
    obtain ⟨v, hv⟩ := h2
    rw [← hu] at hv
    simp at hv; exact hv.1.symm
theorem stAll_nodup {p : PlanD} {hp : PlanOk p} : (stAll p hp).Nodup := stFrom_nodup _ _
theorem stAll_len {p : PlanD} {hp : PlanOk p} {m : List Int} (h : m ∈ stAll p hp) : m.length = p.hands.length := (mem_stAll.1 h).1

theorem opts_len (p : PlanD) (h : Int) (k : Nat) : (opts p h k).length ≤ k := by
  unfold opts
  refine Nat.le_trans (List.length_filter_le _ _) ?_
  simp
theorem flatMap_len {α β : Type} {f : α → List β} {c : Nat} : ∀ (l : List α), (∀ x ∈ l, (f x).length ≤ c) → (l.flatMap f).length ≤ l.length * c
  | [], _ => by simp
  | a :: l, h => by
    rw [List.flatMap_cons, List.length_append, List.length_cons, Nat.add_mul]
    have := flatMap_len l (fun x hx => h x (List.mem_cons_of_mem _ hx))
    have := h a (List.mem_cons_self ..)
    omega
theorem stFrom_len {p : PlanD} {hp : PlanOk p} : ∀ (k : Nat) (b : List Int), (stFrom p hp k b).length ≤ 5 ^ k := by
  intro k
  induction k with
  | zero => intro b; rw [stFrom]; split <;> simp
  | succ k ih =>
    intro b
    rw [stFrom]
    refine Nat.le_trans (flatMap_len (c := 5 ^ k) _ (fun s _ => ih _)) ?_
    have h1 := opts_len p b.length (p.shifts.length + 1)
    have h2 := hp.s4
    rw [Nat.pow_succ, Nat.mul_comm (5 ^ k) 5]
    exact Nat.mul_le_mul_right _ (by omega)
theorem stAll_le {p : PlanD} {hp : PlanOk p} : (stAll p hp).length ≤ 15625 := by
  have h := stFrom_len (p := p) (hp := hp) p.hands.length []
  have h6 := hp.h6
  have : 5 ^ p.hands.length ≤ 5 ^ 6 := Nat.pow_le_pow_right (by decide) h6
  unfold stAll
  omega

theorem stAll_first {p : PlanD} {hp : PlanOk p} {m : List Int} (h : IsFirst p hp m) : m ∈ stAll p hp := mem_stAll.2 ⟨h.len, h.st⟩
theorem stAll_last {p : PlanD} {hp : PlanOk p} {m : List Int} (h : IsLast p hp m) : m ∈ stAll p hp := mem_stAll.2 ⟨h.len, h.st⟩
theorem stAll_pos {p : PlanD} {hp : PlanOk p} : 0 < (stAll p hp).length := by
  obtain ⟨m, hm⟩ := exists_first p hp
  exact List.length_pos_of_mem (stAll_first hm)

/-- A pair blocks. -/
def Blk (p : PlanD) (hp : PlanOk p) (m : List Int) (h s : Nat) : Prop :=
  possB p h s = true ∧ rankP (rowAt p.hands h) s < rankP (rowAt p.hands h) (fn m h) ∧
    (cnt (mkt p hp) (fn m) s < (mkt p hp).q s ∨ ∃ x, x < p.hands.length ∧ fn m x = s ∧ rankP (rowAt p.shifts s) h ≤ rankP (rowAt p.shifts s) x)
noncomputable def blkB (p : PlanD) (hp : PlanOk p) (m : List Int) (h s : Nat) : Bool := @decide (Blk p hp m h s) (Classical.propDecidable _)
theorem blkB_iff {p : PlanD} {hp : PlanOk p} {m : List Int} {h s : Nat} : blkB p hp m h s = true ↔ Blk p hp m h s := by unfold blkB; exact @decide_eq_true_iff _ (Classical.propDecidable _)
theorem blkB_no {p : PlanD} {hp : PlanOk p} {m : List Int} {h s : Nat} (e : ¬ Blk p hp m h s) : blkB p hp m h s = false := by
  cases e' : blkB p hp m h s
  · rfl
  · exact absurd (blkB_iff.1 e') e
/-- Those of a hand, with the first k shifts; of the first j hands. -/
noncomputable def blkRow (p : PlanD) (hp : PlanOk p) (m : List Int) (h k : Nat) : List (Int × Int) := ((List.range k).filter (blkB p hp m h)).map (fun s : Nat => ((h : Int), (s : Int)))
noncomputable def blkTo (p : PlanD) (hp : PlanOk p) (m : List Int) (j : Nat) : List (Int × Int) := (List.range j).flatMap (fun h => blkRow p hp m h p.shifts.length)
noncomputable def blkAll (p : PlanD) (hp : PlanOk p) (m : List Int) : List (Int × Int) := blkTo p hp m p.hands.length
theorem blkRow_yes {p : PlanD} {hp : PlanOk p} {m : List Int} {h k : Nat} (e : blkB p hp m h k = true) : blkRow p hp m h (k + 1) = blkRow p hp m h k ++ [((h : Int), (k : Int))] := by
  unfold blkRow; rw [List.range_succ, List.filter_append, List.map_append]; simp [e]
theorem blkRow_no {p : PlanD} {hp : PlanOk p} {m : List Int} {h k : Nat} (e : blkB p hp m h k = false) : blkRow p hp m h (k + 1) = blkRow p hp m h k := by
  unfold blkRow; rw [List.range_succ, List.filter_append, List.map_append]; simp [e]
theorem blkTo_succ {p : PlanD} {hp : PlanOk p} {m : List Int} {j : Nat} : blkTo p hp m (j + 1) = blkTo p hp m j ++ blkRow p hp m j p.shifts.length := by
  unfold blkTo; rw [List.range_succ, List.flatMap_append, List.flatMap_singleton]
theorem blkRow_len {p : PlanD} {hp : PlanOk p} {m : List Int} {h k : Nat} : (blkRow p hp m h k).length ≤ k := by
  unfold blkRow
  rw [List.length_map]
  exact Nat.le_trans (List.length_filter_le _ _) (by simp)
theorem blkTo_len {p : PlanD} {hp : PlanOk p} {m : List Int} {j : Nat} : (blkTo p hp m j).length ≤ j * 4 := by
  unfold blkTo
  have := flatMap_len (f := fun h => blkRow p hp m h p.shifts.length) (c := 4) (List.range j) (fun x _ => Nat.le_trans blkRow_len hp.s4)
  rwa [List.length_range] at this

theorem blk_none {p : PlanD} {hp : PlanOk p} {m : List Int} (hm : MatL p hp m) : blkAll p hp m = [] ↔ StL p hp m := by
  have key : blkAll p hp m = [] ↔ ∀ h, h < p.hands.length → ∀ s, s < p.shifts.length → ¬ Blk p hp m h s := by
    unfold blkAll blkTo blkRow
    rw [List.flatMap_eq_nil_iff]
    constructor
    · intro e h hh s hs hb
      have := e h (List.mem_range.2 hh)
      rw [List.map_eq_nil_iff, List.filter_eq_nil_iff] at this
      exact this s (List.mem_range.2 hs) (blkB_iff.2 hb)
    · intro e h hh
      rw [List.map_eq_nil_iff, List.filter_eq_nil_iff]
      intro s hs hb
      exact e h (List.mem_range.1 hh) s (List.mem_range.1 hs) (blkB_iff.1 hb)
  rw [key]
  constructor
  · intro e
    refine ⟨hm.1, hm.2, fun h hh s ps hr => ?_, fun h hh s ps hr x hx hxs => ?_⟩
    · obtain ⟨s, rfl⟩ := Int.eq_ofNat_of_zero_le ((mkt p hp).pos_lo _ _ ps)
      have h1 : (s : Int) < p.shifts.length := (mkt p hp).pos_hi _ _ ps
      refine Classical.byContradiction fun hn => e h hh s (by omega) ⟨ps, hr, .inl (by omega)⟩
    · obtain ⟨s, rfl⟩ := Int.eq_ofNat_of_zero_le ((mkt p hp).pos_lo _ _ ps)
      have h1 : (s : Int) < p.shifts.length := (mkt p hp).pos_hi _ _ ps
      refine Classical.byContradiction fun hn => e h hh s (by omega) ⟨ps, hr, .inr ⟨x, hx, hxs, ?_⟩⟩
      have : ¬ rankP (rowAt p.shifts s) x < rankP (rowAt p.shifts s) h := hn
      omega
  · rintro ⟨-, hst⟩ h hh s hs ⟨ps, hr, c | ⟨x, hx, hxs, hk⟩⟩
    · have := hst.full h hh s ps hr; omega
    · have h1 : rankP (rowAt p.shifts s) x < rankP (rowAt p.shifts s) h := hst.better h hh s ps hr x hx hxs
      omega

end Go.Proofs.Ytkdfbbkonbgfmaa
