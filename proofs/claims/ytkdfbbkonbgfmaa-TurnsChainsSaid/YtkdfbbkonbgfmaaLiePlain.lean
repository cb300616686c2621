/-
  Lies of a shift: what it gains, and the first list by which it gains. Plain Lean.
-/
import Derived.Test.YtkdfbbkonbgfmaaSidesPlain
import Derived.Test.YtkdfbbkonbgfmaaHonest
namespace Go.Proofs.Ytkdfbbkonbgfmaa
open Go.RowKit Mkt

/-- The plan in which a shift gives another list. -/
def setS (p : PlanD) (s : Nat) (l : List Int) : PlanD := { p with shifts := p.shifts.set s l }
theorem setS_ok {p : PlanD} (hp : PlanOk p) {s : Nat} {l : List Int} (hl : rowOk p.hands.length l = true) : PlanOk (setS p s l) := by
  refine ⟨hp.h1, hp.h6, by unfold setS; simp; exact hp.s1, by unfold setS; simp; exact hp.s4, by unfold setS; simp; exact hp.pl, hp.pr, ?_, ?_⟩
  · show listsOk p.hands (p.shifts.set s l).length = true
    rw [List.length_set]; exact hp.hs
  · show listsOk (p.shifts.set s l) p.hands.length = true
    have := hp.ss
    unfold listsOk at *
    rw [List.all_eq_true] at *
    intro x hx
    rcases List.mem_or_eq_of_mem_set hx with e | e
    · exact this x e
    · rw [e]; exact hl
theorem setS_set {p : PlanD} {s : Nat} {l l' : List Int} : setS (setS p s l) s l' = setS p s l' := by
  unfold setS
  simp [List.set_set]
/-- A list of some of a shift's hands, each at most once. -/
def SubL (own l : List Int) : Prop := l.Nodup ∧ ∀ x ∈ l, x ∈ own
theorem SubL.row {p : PlanD} (hp : PlanOk p) {s : Nat} {l : List Int} (h : SubL (rowAt p.shifts s) l) : rowOk p.hands.length l = true :=
  rowOk_iff.2 ⟨fun x hx => (hp.col (s := s) (by omega)).1 x (h.2 x hx), h.1⟩
theorem SubL.ok {p : PlanD} (hp : PlanOk p) {s : Nat} {l : List Int} (h : SubL (rowAt p.shifts s) l) : PlanOk (setS p s l) := setS_ok hp (h.row hp)
theorem SubL.nil (own : List Int) : SubL own [] := ⟨List.nodup_nil, fun x h => by simp at h⟩
theorem SubL.push {own l : List Int} {x : Int} (h : SubL own l) (hx : x ∈ own) (hn : x ∉ l) : SubL own (l ++ [x]) := by
  refine ⟨?_, fun y hy => ?_⟩
  · rw [List.nodup_append]
    refine ⟨h.1, by simp, fun a ha b hb => ?_⟩
    simp at hb
    subst hb
    rintro rfl
    exact hn ha
  · rcases List.mem_append.1 hy with g | g
    · exact h.2 y g
    · simp at g; rw [g]; exact hx
theorem SubL.len {own l : List Int} (h : SubL own l) : l.length ≤ own.length := by
  have : ∀ (l own : List Int), l.Nodup → (∀ x ∈ l, x ∈ own) → l.length ≤ own.length := by
    intro l
    induction l with
    | nil => intro own _ _; exact Nat.zero_le _
    | cons x l ih =>
      intro own hn hs
      have hx := hs x (List.mem_cons_self ..)
      have h2 := List.nodup_cons.1 hn
      have := ih (own.erase x) h2.2 (fun y hy => by
        have hne : y ≠ x := fun e => h2.1 (e ▸ hy)
        exact (List.mem_erase_of_ne hne).2 (hs y (List.mem_cons_of_mem _ hy)))
      rw [List.length_erase_of_mem hx] at this
      have := List.length_pos_of_mem hx
      rw [List.length_cons]; omega
  exact this l own h.1 h.2

/-- The ranks of the hands that a shift has, rising. -/
def rksL (own m : List Int) (s : Int) : List Int := ((List.range own.length).filter (fun r => fn m (fn own r).toNat == s)).map (fun (r : Nat) => (r : Int))
theorem rksL_mem {own m : List Int} {s x : Int} : x ∈ rksL own m s ↔ ∃ r : Nat, r < own.length ∧ fn m (fn own r).toNat = s ∧ x = r := by
  unfold rksL
  rw [List.mem_map]
  constructor
  · rintro ⟨r, hr, rfl⟩
    rw [List.mem_filter, List.mem_range, beq_iff_eq] at hr
    exact ⟨r, hr.1, hr.2, rfl⟩
  · rintro ⟨r, h1, h2, rfl⟩
    exact ⟨r, by rw [List.mem_filter, List.mem_range, beq_iff_eq]; exact ⟨h1, h2⟩, rfl⟩
theorem rksL_lt (own m : List Int) (s : Int) : (rksL own m s).Pairwise (· < ·) := by
  unfold rksL
  rw [List.pairwise_map, List.pairwise_filter]
  exact List.Pairwise.imp (fun h _ _ => by omega) List.pairwise_lt_range
theorem rksL_hi {own m : List Int} {s x : Int} (h : x ∈ rksL own m s) : 0 ≤ x ∧ x < own.length := by
  obtain ⟨r, h1, -, rfl⟩ := rksL_mem.1 h
  omega
theorem rising_same : ∀ (a b : List Int), a.Pairwise (· < ·) → b.Pairwise (· < ·) → (∀ x, x ∈ a ↔ x ∈ b) → a = b
  | [], [], _, _, _ => rfl
  | [], y :: b, _, _, h => by have := (h y).2 (List.mem_cons_self ..); simp at this
  | x :: a, [], _, _, h => by have := (h x).1 (List.mem_cons_self ..); simp at this
  | x :: a, y :: b, ha, hb, h => by
    have ha' := List.pairwise_cons.1 ha
    have hb' := List.pairwise_cons.1 hb
    have e : x = y := by
      rcases List.mem_cons.1 ((h x).1 (List.mem_cons_self ..)) with g | g
      · exact g
      · rcases List.mem_cons.1 ((h y).2 (List.mem_cons_self ..)) with g2 | g2
        · exact g2.symm
        · have := hb'.1 x g; have := ha'.1 y g2; omega
    subst e
    rw [rising_same a b ha'.2 hb'.2 (fun z => ?_)]
    have hz := h z
    constructor
    · intro g
      rcases List.mem_cons.1 (hz.1 (List.mem_cons_of_mem _ g)) with g2 | g2
      · have := ha'.1 z g; omega
      · exact g2
    · intro g
      rcases List.mem_cons.1 (hz.2 (List.mem_cons_of_mem _ g)) with g2 | g2
      · have := hb'.1 z g; omega
      · exact g2
theorem fn_idx {l : List Int} {x : Int} (h : x ∈ l) : fn l (l.idxOf x) = x := by
  have hl := List.idxOf_lt_length_of_mem h
  rw [fn_get hl, List.getElem_idxOf hl]
/-- The ranks of the hands, sorted. -/
theorem srt_hands {own l m : List Int} {s : Int} (hn : own.Nodup) (h0 : ∀ x ∈ own, 0 ≤ x) (hs : SubL own l) (hm : ∀ x ∈ own, fn m x.toNat = s → x ∈ l) : srt ((handsI l m s).map (rankP own)) = rksL own m s := by
  have hand : ∀ x, x ∈ handsI l m s ↔ x ∈ l ∧ fn m x.toNat = s := fun x => by
    unfold handsI
    rw [List.mem_filter, beq_iff_eq]
    constructor
    · rintro ⟨a, b⟩; refine ⟨a, ?_⟩; unfold fn; rw [Int.toNat_of_nonneg (h0 x (hs.2 x a))]; exact b
    · rintro ⟨a, b⟩; refine ⟨a, ?_⟩; unfold fn at b; rw [Int.toNat_of_nonneg (h0 x (hs.2 x a))] at b; exact b
  have hnd : ((handsI l m s).map (rankP own)).Nodup := by
    rw [List.Nodup, List.pairwise_map]
    refine List.Pairwise.imp_of_mem (fun {a b} ha hb hne => ?_) (List.Pairwise.sublist List.filter_sublist hs.1)
    have ha' := ((hand a).1 ha).1
    have hb' := ((hand b).1 hb).1
    exact fun e => hne (rankP_inj (hs.2 a ha') (hs.2 b hb') e)
  refine rising_same _ _ ?_ (rksL_lt own m s) (fun x => ?_)
  · have h1 := srt_sorted ((handsI l m s).map (rankP own))
    have h2 : (srt ((handsI l m s).map (rankP own))).Nodup := (srt_perm _).nodup_iff.2 hnd
    exact List.Pairwise.imp₂ (fun a b g1 g2 => by omega) h1 h2
  · rw [(srt_perm _).mem_iff, List.mem_map, rksL_mem]
    constructor
    · rintro ⟨h, hh, rfl⟩
      obtain ⟨a, b⟩ := (hand h).1 hh
      have ho := hs.2 h a
      refine ⟨own.idxOf h, List.idxOf_lt_length_of_mem ho, by rw [fn_idx ho]; exact b, rankP_mem ho⟩
    · rintro ⟨r, h1, h2, rfl⟩
      have ho : fn own r ∈ own := by rw [fn_get h1]; exact List.getElem_mem h1
      refine ⟨fn own r, (hand _).2 ⟨hm _ ho h2, h2⟩, ?_⟩
      rw [fn_get h1]; exact rankP_getElem hn h1

/-- The rank at a place; a free place has the rank P. -/
def atP (P : Int) (a : List Int) (i : Nat) : Int := if i < a.length then fn a i else P
theorem atP_app (P : Int) (a : List Int) (k i : Nat) (h : i < a.length + k) : fn (a ++ List.replicate k P) i = atP P a i := by
  unfold atP
  rw [fn_get (by simp; exact h)]
  by_cases g : i < a.length
  · rw [if_pos g, List.getElem_append_left g, fn_get g]
  · rw [if_neg g, List.getElem_append_right (by omega), List.getElem_replicate]
/-- None worse, and some better. -/
def GainL (P : Int) (a b : List Int) (q : Nat) : Prop := (∀ i, i < q → atP P a i ≤ atP P b i) ∧ ∃ i, i < q ∧ atP P a i < atP P b i
theorem atP_cmp {P P' : Int} {a b : List Int} (h1 : ∀ x ∈ a, x < P) (h2 : ∀ x ∈ b, x < P) (h3 : ∀ x ∈ a, x < P') (h4 : ∀ x ∈ b, x < P') (i : Nat) : (atP P a i ≤ atP P b i ↔ atP P' a i ≤ atP P' b i) ∧ (atP P a i < atP P b i ↔ atP P' a i < atP P' b i) := by
  have mem : ∀ (l : List Int), i < l.length → fn l i ∈ l := fun l g => by rw [fn_get g]; exact List.getElem_mem g
  unfold atP
  by_cases ga : i < a.length <;> by_cases gb : i < b.length
  · rw [if_pos ga, if_pos gb, if_pos ga, if_pos gb]; exact ⟨Iff.rfl, Iff.rfl⟩
  · rw [if_pos ga, if_neg gb, if_pos ga, if_neg gb]
    have := h1 _ (mem a ga); have := h3 _ (mem a ga)
    constructor <;> constructor <;> intro _ <;> omega
  · rw [if_neg ga, if_pos gb, if_neg ga, if_pos gb]
    have := h2 _ (mem b gb); have := h4 _ (mem b gb)
    constructor <;> constructor <;> intro _ <;> omega
  · rw [if_neg ga, if_neg gb, if_neg ga, if_neg gb]
    constructor <;> constructor <;> intro _ <;> omega
theorem GainL.pad {P P' : Int} {a b : List Int} (h1 : ∀ x ∈ a, x < P) (h2 : ∀ x ∈ b, x < P) (h3 : ∀ x ∈ a, x < P') (h4 : ∀ x ∈ b, x < P') (q : Nat) : GainL P a b q ↔ GainL P' a b q := by
  have c := atP_cmp h1 h2 h3 h4
  unfold GainL
  constructor
  · rintro ⟨g1, i, g2, g3⟩; exact ⟨fun j hj => (c j).1.1 (g1 j hj), i, g2, (c i).2.1 g3⟩
  · rintro ⟨g1, i, g2, g3⟩; exact ⟨fun j hj => (c j).1.2 (g1 j hj), i, g2, (c i).2.2 g3⟩

/-- By a list a shift gains. -/
def GainsBy (p : PlanD) (s : Nat) (m0 : List Int) (l : List Int) : Prop :=
  ∃ (hq : PlanOk (setS p s l)) (m : List Int), IsFirst _ hq m ∧ GainL 9 (rksL (rowAt p.shifts s) m s) (rksL (rowAt p.shifts s) m0 s) (intAt p.places s).toNat
theorem GainsBy.of {p : PlanD} {s : Nat} {m0 l m : List Int} (hq : PlanOk (setS p s l)) (hm : IsFirst _ hq m) : GainsBy p s m0 l ↔ GainL 9 (rksL (rowAt p.shifts s) m s) (rksL (rowAt p.shifts s) m0 s) (intAt p.places s).toNat := by
  constructor
  · rintro ⟨hq', m', hm', h⟩
    rw [hm.unique hm']; exact h
  · intro h; exact ⟨hq, m, hm, h⟩

/-- Lists compared from the front. -/
def ltL : List Int → List Int → Prop
  | _, [] => False
  | [], _ :: _ => True
  | a :: ys, b :: bs => a < b ∨ (a = b ∧ ltL ys bs)
theorem ltL_nil (a : List Int) : ¬ ltL a [] := by cases a <;> exact id
theorem ltL_irrefl : ∀ a : List Int, ¬ ltL a a
  | [], h => h
  | a :: ys, h => by
    rcases h with h | ⟨-, h⟩
    · omega
    · exact ltL_irrefl ys h
theorem ltL_trans : ∀ {a b c : List Int}, ltL a b → ltL b c → ltL a c
  | _, _, [], _, h => absurd h (ltL_nil _)
  | _, [], _, h, _ => absurd h (ltL_nil _)
  | [], b :: bs, c :: cs, _, _ => trivial
  | a :: ys, b :: bs, c :: cs, h1, h2 => by
    rcases h1 with h1 | ⟨h1, h1'⟩ <;> rcases h2 with h2 | ⟨h2, h2'⟩
    · exact .inl (by omega)
    · exact .inl (by omega)
    · exact .inl (by omega)
    · exact .inr ⟨by omega, ltL_trans h1' h2'⟩
theorem ltL_total : ∀ (a b : List Int), ltL a b ∨ a = b ∨ ltL b a
  | [], [] => .inr (.inl rfl)
  | [], _ :: _ => .inl trivial
  | _ :: _, [] => .inr (.inr trivial)
  | a :: ys, b :: bs => by
    rcases Int.lt_trichotomy a b with h | h | h
    · exact .inl (.inl h)
    · rcases ltL_total ys bs with g | g | g
      · exact .inl (.inr ⟨h, g⟩)
      · exact .inr (.inl (by rw [h, g]))
      · exact .inr (.inr (.inr ⟨h.symm, g⟩))
    · exact .inr (.inr (.inl h))
theorem ltL_pre : ∀ (l t : List Int), t ≠ [] → ltL l (l ++ t)
  | [], [], h => absurd rfl h
  | [], _ :: _, _ => trivial
  | _ :: l, t, h => .inr ⟨rfl, ltL_pre l t h⟩
theorem ltL_app : ∀ (l : List Int) {x y : Int} (t u : List Int), x < y → ltL (l ++ x :: t) (l ++ y :: u)
  | [], _, _, _, _, h => .inl h
  | _ :: l, _, _, t, u, h => .inr ⟨rfl, ltL_app l t u h⟩
/-- The first of the lists for which G holds. -/
def LeastL (G : List Int → Prop) (own l : List Int) : Prop := SubL own l ∧ G l ∧ ∀ l', SubL own l' → G l' → l = l' ∨ ltL l l'
theorem LeastL.unique {G : List Int → Prop} {own a b : List Int} (ha : LeastL G own a) (hb : LeastL G own b) : a = b := by
  rcases ha.2.2 b hb.1 hb.2.1 with h | h
  · exact h
  · rcases hb.2.2 a ha.1 ha.2.1 with g | g
    · exact g.symm
    · exact absurd (ltL_trans h g) (ltL_irrefl _)
/-- The lists that begin as given. -/
def ExtL (own l l' : List Int) : Prop := SubL own l' ∧ ∃ t, l' = l ++ t
/-- The first one of them; there is none. -/
def LeastE (G : List Int → Prop) (own l f : List Int) : Prop := ExtL own l f ∧ G f ∧ ∀ l', ExtL own l l' → G l' → f = l' ∨ ltL f l'
def NoneE (G : List Int → Prop) (own l : List Int) : Prop := ∀ l', ExtL own l l' → ¬ G l'
theorem LeastE.self {G : List Int → Prop} {own l : List Int} (hs : SubL own l) (hg : G l) : LeastE G own l l := by
  refine ⟨⟨hs, [], by simp⟩, hg, fun l' h _ => ?_⟩
  obtain ⟨-, t, rfl⟩ := h
  cases t with
  | nil => exact .inl (by simp)
  | cons x t => exact .inr (ltL_pre l _ (by simp))
/-- The names that were tried, rising, came to nothing. -/
def TriedE (G : List Int → Prop) (own l : List Int) (names : List Int) (k : Nat) : Prop := ∀ j, j < k → fn names j ∉ l → NoneE G own (l ++ [fn names j])
theorem TriedE.step {G : List Int → Prop} {own l names : List Int} {k : Nat} (h : TriedE G own l names k) (hk : fn names k ∉ l → NoneE G own (l ++ [fn names k])) : TriedE G own l names (k + 1) := by
  intro j hj
  by_cases e : j = k
  · subst e; exact hk
  · exact h j (by omega)
theorem TriedE.all {G : List Int → Prop} {own l names : List Int} (hg : ¬ G l) (hn : ∀ x, x ∈ names ↔ x ∈ own) (h : TriedE G own l names names.length) : NoneE G own l := by
  rintro l' ⟨hs, t, rfl⟩ hG
  cases t with
  | nil => rw [List.append_nil] at hG; exact hg hG
  | cons x t =>
    have hx : x ∈ names := (hn x).2 (hs.2 x (by simp))
    obtain ⟨j, hj, e⟩ := List.getElem_of_mem hx
    have e2 : fn names j = x := by rw [fn_get hj, e]
    have hnl : x ∉ l := fun hx => by
      have := hs.1
      rw [List.nodup_append] at this
      exact this.2.2 x hx x (by simp) rfl
    have := h j hj (by rw [e2]; exact hnl)
    rw [e2] at this
    exact this (l ++ x :: t) ⟨hs, t, by simp⟩ hG
theorem TriedE.found {G : List Int → Prop} {own l names f : List Int} {k : Nat} (hk : k < names.length) (hr : names.Pairwise (· < ·)) (hg : ¬ G l) (hn : ∀ x, x ∈ names ↔ x ∈ own) (h : TriedE G own l names k) (hf : LeastE G own (l ++ [fn names k]) f) : LeastE G own l f := by
  obtain ⟨⟨f1, t, f2⟩, f3, f4⟩ := hf
  refine ⟨⟨f1, fn names k :: t, by rw [f2]; simp⟩, f3, ?_⟩
  rintro l' ⟨hs, u, rfl⟩ hG
  cases u with
  | nil => rw [List.append_nil] at hG; exact absurd hG hg
  | cons x u =>
    have hx : x ∈ names := (hn x).2 (hs.2 x (by simp))
    obtain ⟨j, hj, e⟩ := List.getElem_of_mem hx
    have e2 : fn names j = x := by rw [fn_get hj, e]
    have hnl : x ∉ l := fun hx => by
      have := hs.1
      rw [List.nodup_append] at this
      exact this.2.2 x hx x (by simp) rfl
    rcases Nat.lt_trichotomy j k with g | g | g
    · have := h j g (by rw [e2]; exact hnl)
      rw [e2] at this
      exact absurd hG (this (l ++ x :: u) ⟨hs, u, by simp⟩)
    · subst g
      rw [e2] at f4
      exact f4 (l ++ x :: u) ⟨hs, u, by simp⟩ hG
    · right
      have hlt : fn names k < x := by
        rw [← e2, fn_get hk, fn_get hj]
        exact List.pairwise_iff_getElem.1 hr k j hk hj g
      rw [f2]
      have := ltL_app l t u hlt
      simpa using this
theorem LeastE.top {G : List Int → Prop} {own f : List Int} (h : LeastE G own [] f) : LeastL G own f := ⟨h.1.1, h.2.1, fun l' hs hG => h.2.2 l' ⟨hs, l', rfl⟩ hG⟩
theorem NoneE.top {G : List Int → Prop} {own : List Int} (h : NoneE G own []) : ∀ l, SubL own l → ¬ G l := fun l hs => h l ⟨hs, l, rfl⟩

end Go.Proofs.Ytkdfbbkonbgfmaa
