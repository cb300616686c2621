/-
  Stable matchings of hands and shifts, with places: plain mathematics, no program. Join and meet of two stable matchings are stable; the same places are taken in all.
-/
namespace Go.Proofs.Ytkdfbbkonbgfmaa.Mkt

/-- A market: n hands, shifts 0 to S - 1, their places, who is possible for whom, a hand's rank of a shift (-1: none), a shift's rank of a hand. -/
structure Mk where
  n : Nat
  S : Nat
  q : Int → Nat
  pos : Nat → Int → Prop
  r : Nat → Int → Int
  k : Int → Nat → Int
  pos_lo : ∀ h s, pos h s → 0 ≤ s
  pos_hi : ∀ h s, pos h s → s < S
  r_none : ∀ h s, pos h s → r h s < r h (-1)
  r_inj : ∀ h s t, pos h s → pos h t → r h s = r h t → s = t
  k_inj : ∀ s h x, pos h s → pos x s → k s h = k s x → h = x

variable {M : Mk}

/-- How many hands of a list have shift s. -/
def cntL (μ : Nat → Int) (s : Int) (l : List Nat) : Nat := l.countP (fun h => decide (μ h = s))
def cnt (M : Mk) (μ : Nat → Int) (s : Int) : Nat := cntL μ s (List.range M.n)

structure Matching (M : Mk) (μ : Nat → Int) : Prop where
  ok : ∀ h, h < M.n → μ h = -1 ∨ M.pos h (μ h)
  room : ∀ s : Int, 0 ≤ s → s < M.S → cnt M μ s ≤ M.q s

/-- No pair blocks: a shift that a hand would rather have is full, with hands that it likes more. -/
structure Stable (M : Mk) (μ : Nat → Int) : Prop where
  m : Matching M μ
  full : ∀ h, h < M.n → ∀ s, M.pos h s → M.r h s < M.r h (μ h) → M.q s ≤ cnt M μ s
  better : ∀ h, h < M.n → ∀ s, M.pos h s → M.r h s < M.r h (μ h) → ∀ x, x < M.n → μ x = s → M.k s x < M.k s h

theorem countP_imp {p q : Nat → Bool} : ∀ (l : List Nat), (∀ x ∈ l, p x = true → q x = true) → l.countP p ≤ l.countP q
  | [], _ => by simp
  | a :: l, h => by
    have ih := countP_imp l (fun x hx => h x (List.mem_cons_of_mem _ hx))
    have ha := h a (List.mem_cons_self ..)
    rw [List.countP_cons, List.countP_cons]
    cases hp : p a <;> cases hq : q a <;> simp_all <;> omega

theorem countP_back {p q : Nat → Bool} : ∀ (l : List Nat), (∀ x ∈ l, p x = true → q x = true) → l.countP q ≤ l.countP p → ∀ x ∈ l, q x = true → p x = true
  | [], _, _, x, hx, _ => by simp at hx
  | a :: l, h, hc, x, hx, hq => by
    have ha := h a (List.mem_cons_self ..)
    have hl : ∀ x ∈ l, p x = true → q x = true := fun x hx => h x (List.mem_cons_of_mem _ hx)
    have hle := countP_imp l hl
    rw [List.countP_cons, List.countP_cons] at hc
    rcases List.mem_cons.1 hx with rfl | hx
    · cases hp : p x
      · simp [hp, hq] at hc; omega
      · rfl
    · refine countP_back l hl ?_ x hx hq
      cases hp : p a <;> cases hq' : q a <;> simp_all <;> omega

theorem cnt_imp {μ ν : Nat → Int} {s t : Int} (h : ∀ x, x < M.n → μ x = s → ν x = t) : cnt M μ s ≤ cnt M ν t :=
  countP_imp _ (fun x hx hp => by simp at hp ⊢; exact h x (List.mem_range.1 hx) hp)

theorem cnt_back {μ ν : Nat → Int} {s t : Int} (h : ∀ x, x < M.n → μ x = s → ν x = t) (hc : cnt M ν t ≤ cnt M μ s) : ∀ x, x < M.n → ν x = t → μ x = s := by
  intro x hx hν
  have := countP_back (p := fun h => decide (μ h = s)) (q := fun h => decide (ν h = t)) (List.range M.n) (fun x hx hp => by simp at hp ⊢; exact h x (List.mem_range.1 hx) hp) hc x (List.mem_range.2 hx) (by simpa using hν)
  simpa using this

/-- The sum of f 0 .. f (S - 1). -/
def sumTo (f : Nat → Nat) : Nat → Nat
  | 0 => 0
  | S + 1 => sumTo f S + f S

theorem sumTo_le {f g : Nat → Nat} : ∀ S, (∀ s, s < S → f s ≤ g s) → sumTo f S ≤ sumTo g S
  | 0, _ => Nat.le_refl _
  | S + 1, h => Nat.add_le_add (sumTo_le S fun s hs => h s (by omega)) (h S (by omega))

theorem sumTo_eq {f g : Nat → Nat} : ∀ S, (∀ s, s < S → f s ≤ g s) → sumTo g S ≤ sumTo f S → ∀ s, s < S → f s = g s
  | 0, _, _, s, hs => by omega
  | S + 1, h, hs, s, hlt => by
    have h1 := sumTo_le S fun s hs => h s (by omega)
    have h2 := h S (by omega)
    simp only [sumTo] at hs
    rcases Nat.lt_or_ge s S with h3 | h3
    · exact sumTo_eq S (fun s hs => h s (by omega)) (by omega) s h3
    · obtain rfl : s = S := by omega
      omega

theorem sumTo_add (f g : Nat → Nat) : ∀ S, sumTo (fun s => f s + g s) S = sumTo f S + sumTo g S
  | 0 => rfl
  | S + 1 => by simp only [sumTo]; rw [sumTo_add f g S]; omega
theorem sumTo_congr {f g : Nat → Nat} : ∀ S, (∀ s, s < S → f s = g s) → sumTo f S = sumTo g S
  | 0, _ => rfl
  | S + 1, h => by simp only [sumTo]; rw [sumTo_congr S fun s hs => h s (by omega), h S (by omega)]
theorem sumTo_single (x : Int) : ∀ S : Nat, sumTo (fun s => if x = (s : Int) then 1 else 0) S = if 0 ≤ x ∧ x < S then 1 else 0
  | 0 => by simp only [sumTo]; split <;> omega
  | S + 1 => by
    simp only [sumTo]; rw [sumTo_single x S]
    split <;> split <;> split <;> omega

theorem sum_cntL (μ : Nat → Int) (S : Nat) : ∀ l : List Nat, sumTo (fun s => cntL μ s l) S = l.countP (fun h => decide (0 ≤ μ h ∧ μ h < S))
  | [] => by
    have : ∀ S, sumTo (fun _ => 0) S = 0 := by intro S; induction S with | zero => rfl | succ S ih => simp only [sumTo]; rw [ih]
    simpa [cntL] using this S
  | a :: l => by
    have h1 : sumTo (fun s => cntL μ s (a :: l)) S = sumTo (fun s => cntL μ s l + (if μ a = (s : Int) then 1 else 0)) S := by
      apply sumTo_congr; intro s _
      unfold cntL; rw [List.countP_cons]; simp
    rw [h1, sumTo_add, sum_cntL μ S l, sumTo_single, List.countP_cons]; simp

/-- How many hands have a shift. -/
def tot (M : Mk) (μ : Nat → Int) : Nat := (List.range M.n).countP (fun h => decide (0 ≤ μ h ∧ μ h < M.S))

theorem tot_sum (μ : Nat → Int) : sumTo (fun s => cnt M μ s) M.S = tot M μ := sum_cntL μ M.S _

/-- Two matchings of one market; where the second one's shifts are never fuller and it matches at least the same hands, they are equally full, and match the same hands. -/
theorem same_places {μ ν : Nat → Int} (_hμ : ∀ h, h < M.n → μ h = -1 ∨ M.pos h (μ h)) (hν : ∀ h, h < M.n → ν h = -1 ∨ M.pos h (ν h)) (hle : ∀ s : Nat, s < M.S → cnt M ν s ≤ cnt M μ s)
    (hm : ∀ h, h < M.n → ν h = -1 → μ h = -1) : (∀ s : Nat, s < M.S → cnt M ν s = cnt M μ s) ∧ ∀ h, h < M.n → μ h = -1 → ν h = -1 := by
  have hin : ∀ h, h < M.n → decide (0 ≤ μ h ∧ μ h < M.S) = true → decide (0 ≤ ν h ∧ ν h < M.S) = true := by
    intro h hh hp
    simp only [decide_eq_true_iff] at hp ⊢
    rcases hν h hh with e | e
    · have := hm h hh e; omega
    · exact ⟨M.pos_lo _ _ e, M.pos_hi _ _ e⟩
  have ht : tot M μ ≤ tot M ν := countP_imp _ (fun x hx hp => hin x (List.mem_range.1 hx) hp)
  rw [← tot_sum, ← tot_sum] at ht
  have heq := sumTo_eq M.S hle ht
  refine ⟨heq, fun h hh e => ?_⟩
  have ht2 : tot M ν ≤ tot M μ := by rw [← tot_sum, ← tot_sum]; exact sumTo_le M.S hle
  have hb := countP_back _ (fun x hx hp => hin x (List.mem_range.1 hx) hp) ht2 h (List.mem_range.2 hh)
  rcases hν h hh with e' | e'
  · exact e'
  · have := hb (by simp; exact ⟨M.pos_lo _ _ e', M.pos_hi _ _ e'⟩)
    simp at this; omega

/-- Each hand's better, worse one of two. -/
def join (M : Mk) (μ ν : Nat → Int) (h : Nat) : Int := if M.r h (μ h) ≤ M.r h (ν h) then μ h else ν h
def meet (M : Mk) (μ ν : Nat → Int) (h : Nat) : Int := if M.r h (μ h) ≤ M.r h (ν h) then ν h else μ h

theorem join_cases (μ ν : Nat → Int) (h : Nat) : (join M μ ν h = μ h ∧ M.r h (μ h) ≤ M.r h (ν h)) ∨ (join M μ ν h = ν h ∧ M.r h (ν h) < M.r h (μ h)) := by
  unfold join; split
  · exact .inl ⟨rfl, ‹_›⟩
  · exact .inr ⟨rfl, by omega⟩
theorem meet_cases (μ ν : Nat → Int) (h : Nat) : (meet M μ ν h = ν h ∧ M.r h (μ h) ≤ M.r h (ν h)) ∨ (meet M μ ν h = μ h ∧ M.r h (ν h) < M.r h (μ h)) := by
  unfold meet; split
  · exact .inl ⟨rfl, ‹_›⟩
  · exact .inr ⟨rfl, by omega⟩

theorem Matching.inj {μ ν : Nat → Int} (hμ : ∀ h, h < M.n → μ h = -1 ∨ M.pos h (μ h)) (hν : ∀ h, h < M.n → ν h = -1 ∨ M.pos h (ν h)) {h : Nat} (hh : h < M.n) (e : M.r h (μ h) = M.r h (ν h)) : μ h = ν h := by
  rcases hμ h hh with a | a <;> rcases hν h hh with b | b
  · rw [a, b]
  · have := M.r_none _ _ b; rw [a] at e; omega
  · have := M.r_none _ _ a; rw [b] at e; omega
  · exact M.r_inj _ _ _ a b e
theorem pos_of_lt {μ ν : Nat → Int} (hμ : ∀ h, h < M.n → μ h = -1 ∨ M.pos h (μ h)) (hν : ∀ h, h < M.n → ν h = -1 ∨ M.pos h (ν h)) {h : Nat} (hh : h < M.n) (e : M.r h (μ h) < M.r h (ν h)) : M.pos h (μ h) := by
  rcases hμ h hh with a | a
  · rcases hν h hh with b | b
    · rw [a, b] at e; omega
    · have := M.r_none _ _ b; rw [a] at e; omega
  · exact a

/-- Two stable matchings: a shift never takes new hands from both sides: what the join gives to a shift is all of the one or all of the other. -/
theorem join_sub {μ ν : Nat → Int} (hμ : Stable M μ) (hν : Stable M ν) (s : Int) (h0 : 0 ≤ s) (h1 : s < M.S) :
    ((∀ x, x < M.n → join M μ ν x = s → μ x = s) ∨ (∀ x, x < M.n → join M μ ν x = s → ν x = s)) ∧ cnt M (join M μ ν) s ≤ cnt M μ s ∧ cnt M (join M μ ν) s ≤ cnt M ν s := by
  by_cases hB : ∃ b, b < M.n ∧ ν b = s ∧ M.r b (ν b) < M.r b (μ b)
  · obtain ⟨b, hb, hbs, hbr⟩ := hB
    have pb : M.pos b s := hbs ▸ pos_of_lt hν.m.ok hμ.m.ok hb hbr
    have fullμ := hμ.full b hb s pb (hbs ▸ hbr)
    have bet := hμ.better b hb s pb (hbs ▸ hbr)
    have sub : ∀ x, x < M.n → join M μ ν x = s → ν x = s := by
      intro x hx hj
      rcases join_cases (M := M) μ ν x with ⟨e, hr⟩ | ⟨e, hr⟩
      · rw [e] at hj
        by_cases hν' : ν x = s
        · exact hν'
        · have hlt : M.r x (μ x) < M.r x (ν x) := by
            rcases Int.lt_or_eq_of_le hr with h | h
            · exact h
            · exact absurd ((Matching.inj hμ.m.ok hν.m.ok hx h) ▸ hj) hν'
          have px : M.pos x s := hj ▸ pos_of_lt hμ.m.ok hν.m.ok hx hlt
          have h1 := hν.better x hx s px (hj ▸ hlt) b hb hbs
          have h2 := bet x hx hj
          omega
      · rw [e] at hj; exact hj
    have c1 := cnt_imp sub
    have c2 := hν.m.room s h0 h1
    exact ⟨.inr sub, by omega, c1⟩
  · have sub : ∀ x, x < M.n → join M μ ν x = s → μ x = s := by
      intro x hx hj
      rcases join_cases (M := M) μ ν x with ⟨e, hr⟩ | ⟨e, hr⟩
      · rw [e] at hj; exact hj
      · rw [e] at hj; exact absurd ⟨x, hx, hj, hr⟩ hB
    have c1 := cnt_imp sub
    refine ⟨.inl sub, c1, ?_⟩
    by_cases hA : ∃ a, a < M.n ∧ μ a = s ∧ M.r a (μ a) < M.r a (ν a)
    · obtain ⟨a, ha, has, har⟩ := hA
      have pa : M.pos a s := has ▸ pos_of_lt hμ.m.ok hν.m.ok ha har
      have fullν := hν.full a ha s pa (has ▸ har)
      have := hμ.m.room s h0 h1
      omega
    · refine cnt_imp fun x hx hj => ?_
      have hm := sub x hx hj
      rcases join_cases (M := M) μ ν x with ⟨e, hr⟩ | ⟨e, hr⟩
      · rcases Int.lt_or_eq_of_le hr with h | h
        · exact absurd ⟨x, hx, hm, h⟩ hA
        · rw [← Matching.inj hμ.m.ok hν.m.ok hx h]; exact hm
      · rw [e] at hj; exact hj

theorem join_ok {μ ν : Nat → Int} (hμ : Stable M μ) (hν : Stable M ν) : ∀ h, h < M.n → join M μ ν h = -1 ∨ M.pos h (join M μ ν h) := by
  intro h hh
  rcases join_cases (M := M) μ ν h with ⟨e, -⟩ | ⟨e, -⟩ <;> rw [e]
  · exact hμ.m.ok h hh
  · exact hν.m.ok h hh

theorem join_none {μ ν : Nat → Int} (hμ : Stable M μ) (hν : Stable M ν) {h : Nat} (hh : h < M.n) (e : join M μ ν h = -1) : μ h = -1 ∧ ν h = -1 := by
  rcases join_cases (M := M) μ ν h with ⟨e', hr⟩ | ⟨e', hr⟩
  · rw [e'] at e
    refine ⟨e, ?_⟩
    rcases hν.m.ok h hh with a | a
    · exact a
    · have := M.r_none _ _ a; rw [e] at hr; omega
  · rw [e'] at e
    refine ⟨?_, e⟩
    rcases hμ.m.ok h hh with a | a
    · exact a
    · have := M.r_none _ _ a; rw [e] at hr; omega

/-- All is as full in the join as in each of two stable matchings, and the same hands have a shift. -/
theorem join_full {μ ν : Nat → Int} (hμ : Stable M μ) (hν : Stable M ν) : (∀ s : Nat, s < M.S → cnt M (join M μ ν) s = cnt M μ s) ∧ ∀ h, h < M.n → μ h = -1 → join M μ ν h = -1 :=
  same_places hμ.m.ok (join_ok hμ hν) (fun s hs => (join_sub hμ hν s (by omega) (by omega)).2.1) (fun _ hh e => (join_none hμ hν hh e).1)
theorem join_full' {μ ν : Nat → Int} (hμ : Stable M μ) (hν : Stable M ν) : (∀ s : Nat, s < M.S → cnt M (join M μ ν) s = cnt M ν s) ∧ ∀ h, h < M.n → ν h = -1 → join M μ ν h = -1 :=
  same_places hν.m.ok (join_ok hμ hν) (fun s hs => (join_sub hμ hν s (by omega) (by omega)).2.2) (fun _ hh e => (join_none hμ hν hh e).2)

theorem cnt_all {μ ν : Nat → Int} (hμ : Stable M μ) (hν : Stable M ν) (s : Int) (h0 : 0 ≤ s) (h1 : s < M.S) : cnt M μ s = cnt M ν s := by
  obtain ⟨s, rfl⟩ := Int.eq_ofNat_of_zero_le h0
  have a := (join_full hμ hν).1 s (by omega)
  have b := (join_full' hμ hν).1 s (by omega)
  omega
theorem none_all {μ ν : Nat → Int} (hμ : Stable M μ) (hν : Stable M ν) {h : Nat} (hh : h < M.n) (e : μ h = -1) : ν h = -1 :=
  (join_none hμ hν hh ((join_full hμ hν).2 h hh e)).2

theorem join_stable {μ ν : Nat → Int} (hμ : Stable M μ) (hν : Stable M ν) : Stable M (join M μ ν) := by
  have hc : ∀ s : Int, 0 ≤ s → s < M.S → cnt M (join M μ ν) s = cnt M μ s := by
    intro s h0 h1
    obtain ⟨s, rfl⟩ := Int.eq_ofNat_of_zero_le h0
    exact (join_full hμ hν).1 s (by omega)
  have lt : ∀ h, M.r h (join M μ ν h) ≤ M.r h (μ h) ∧ M.r h (join M μ ν h) ≤ M.r h (ν h) := by
    intro h
    rcases join_cases (M := M) μ ν h with ⟨e, hr⟩ | ⟨e, hr⟩ <;> rw [e] <;> omega
  refine ⟨⟨join_ok hμ hν, fun s h0 h1 => by rw [hc s h0 h1]; exact hμ.m.room s h0 h1⟩, fun h hh s ps hr => ?_, fun h hh s ps hr x hx hj => ?_⟩
  · rw [hc s (M.pos_lo _ _ ps) (M.pos_hi _ _ ps)]
    exact hμ.full h hh s ps (by have := (lt h).1; omega)
  · rcases join_cases (M := M) μ ν x with ⟨e, -⟩ | ⟨e, -⟩
    · exact hμ.better h hh s ps (by have := (lt h).1; omega) x hx (e ▸ hj)
    · exact hν.better h hh s ps (by have := (lt h).2; omega) x hx (e ▸ hj)

theorem countP_add {p q p' q' : Nat → Bool} (h : ∀ x, (if p x then 1 else 0) + (if q x then 1 else 0) = (if p' x then 1 else 0) + (if q' x then 1 else 0 : Nat)) : ∀ l : List Nat, l.countP p + l.countP q = l.countP p' + l.countP q'
  | [] => rfl
  | a :: l => by
    have := countP_add h l
    have ha := h a
    rw [List.countP_cons, List.countP_cons, List.countP_cons, List.countP_cons]
    omega

theorem join_meet_cnt (μ ν : Nat → Int) (s : Int) : cnt M (join M μ ν) s + cnt M (meet M μ ν) s = cnt M μ s + cnt M ν s := by
  refine countP_add (fun x => ?_) _
  unfold join meet
  split
  · rfl
  · exact Nat.add_comm _ _

theorem meet_cnt {μ ν : Nat → Int} (hμ : Stable M μ) (hν : Stable M ν) (s : Int) (h0 : 0 ≤ s) (h1 : s < M.S) : cnt M (meet M μ ν) s = cnt M μ s := by
  have a := join_meet_cnt (M := M) μ ν s
  have b := cnt_all (join_stable hμ hν) hν s h0 h1
  omega

/-- What the join has lost of a shift's hands, it has got from the other one: then that shift takes no hands the other way. -/
theorem meet_better {μ ν : Nat → Int} (hμ : Stable M μ) (hν : Stable M ν) {h : Nat} (hh : h < M.n) {s : Int} (ps : M.pos h s) (hr : M.r h s < M.r h (ν h)) {x : Nat} (hx : x < M.n) (hxs : μ x = s) (hxr : M.r x (ν x) < M.r x (μ x)) : M.k s x < M.k s h := by
  have h0 := M.pos_lo _ _ ps
  have h1 := M.pos_hi _ _ ps
  have hj : join M μ ν x ≠ s := by
    rcases join_cases (M := M) μ ν x with ⟨e, h⟩ | ⟨e, h⟩
    · omega
    · rw [e]; intro e'; rw [hxs, e'] at hxr; omega
  -- some y has come into the join at s that μ has not there
  have hy : ∃ y, y < M.n ∧ join M μ ν y = s ∧ ¬ μ y = s := by
    refine Classical.byContradiction fun hno => ?_
    have hsub : ∀ y, y < M.n → join M μ ν y = s → μ y = s := fun y hy hj => Classical.byContradiction fun hn => hno ⟨y, hy, hj, hn⟩
    have hc := cnt_all (join_stable hμ hν) hμ s h0 h1
    exact hj (cnt_back hsub (by omega) x hx hxs)
  obtain ⟨y, hy, hyj, hyn⟩ := hy
  have hyν : ν y = s ∧ M.r y (ν y) < M.r y (μ y) := by
    rcases join_cases (M := M) μ ν y with ⟨e, h⟩ | ⟨e, h⟩
    · rw [e] at hyj; exact absurd hyj hyn
    · rw [e] at hyj; exact ⟨hyj, h⟩
  have py : M.pos y s := hyν.1 ▸ pos_of_lt hν.m.ok hμ.m.ok hy hyν.2
  have k1 := hμ.better y hy s py (hyν.1 ▸ hyν.2) x hx hxs
  have k2 := hν.better h hh s ps hr y hy hyν.1
  omega

theorem meet_comm_on {μ ν : Nat → Int} (hμ : Stable M μ) (hν : Stable M ν) {h : Nat} (hh : h < M.n) : meet M μ ν h = meet M ν μ h := by
  rcases meet_cases (M := M) μ ν h with ⟨e, a⟩ | ⟨e, a⟩ <;> rcases meet_cases (M := M) ν μ h with ⟨e', b⟩ | ⟨e', b⟩ <;> rw [e, e']
  · exact (Matching.inj hμ.m.ok hν.m.ok hh (by omega)).symm
  · omega

theorem meet_stable {μ ν : Nat → Int} (hμ : Stable M μ) (hν : Stable M ν) : Stable M (meet M μ ν) := by
  have ok : ∀ h, h < M.n → meet M μ ν h = -1 ∨ M.pos h (meet M μ ν h) := by
    intro h hh
    rcases meet_cases (M := M) μ ν h with ⟨e, -⟩ | ⟨e, -⟩ <;> rw [e]
    · exact hν.m.ok h hh
    · exact hμ.m.ok h hh
  refine ⟨⟨ok, fun s h0 h1 => by rw [meet_cnt hμ hν s h0 h1]; exact hμ.m.room s h0 h1⟩, fun h hh s ps hr => ?_, fun h hh s ps hr x hx hxs => ?_⟩
  · have h0 := M.pos_lo _ _ ps
    have h1 := M.pos_hi _ _ ps
    rw [meet_cnt hμ hν s h0 h1]
    rcases meet_cases (M := M) μ ν h with ⟨e, a⟩ | ⟨e, a⟩
    · rw [e] at hr
      rw [cnt_all hμ hν s h0 h1]
      exact hν.full h hh s ps hr
    · rw [e] at hr
      exact hμ.full h hh s ps hr
  · -- the pair (h, s): one of the two matchings is worse for h there
    rcases meet_cases (M := M) μ ν x with ⟨ex, ax⟩ | ⟨ex, ax⟩ <;> rcases meet_cases (M := M) μ ν h with ⟨e, a⟩ | ⟨e, a⟩
    · exact hν.better h hh s ps (e ▸ hr) x hx (ex ▸ hxs)
    · have hs : ν x = s := ex ▸ hxs
      rcases Int.lt_or_eq_of_le ax with hlt | heq
      · exact meet_better hν hμ hh ps (e ▸ hr) hx hs hlt
      · have hs' : μ x = s := (Matching.inj hμ.m.ok hν.m.ok hx heq) ▸ hs
        exact hμ.better h hh s ps (e ▸ hr) x hx hs'
    · exact meet_better hμ hν hh ps (e ▸ hr) hx (ex ▸ hxs) ax
    · exact hμ.better h hh s ps (e ▸ hr) x hx (ex ▸ hxs)

end Go.Proofs.Ytkdfbbkonbgfmaa.Mkt
