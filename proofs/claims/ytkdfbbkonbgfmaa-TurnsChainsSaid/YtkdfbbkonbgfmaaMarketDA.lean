/-
  The two ways of offers: what holds all along, and that they end in the stable matching that is best, worst for the hands. Plain mathematics, no program.
-/
import Derived.Test.YtkdfbbkonbgfmaaMarket
namespace Go.Proofs.Ytkdfbbkonbgfmaa.Mkt

variable {M : Mk}

def upd {α : Type} (f : Nat → α) (h : Nat) (v : α) (x : Nat) : α := if x = h then v else f x
theorem upd_same {α : Type} (f : Nat → α) (h : Nat) (v : α) : upd f h v h = v := by simp [upd]
theorem upd_other {α : Type} (f : Nat → α) (h : Nat) (v : α) {x : Nat} (hx : x ≠ h) : upd f h v x = f x := by simp [upd, hx]

theorem cntL_upd_out (μ : Nat → Int) (h : Nat) (v t : Int) : ∀ l : List Nat, h ∉ l → cntL (upd μ h v) t l = cntL μ t l
  | [], _ => rfl
  | a :: l, hn => by
    have := cntL_upd_out μ h v t l (fun hm => hn (List.mem_cons_of_mem _ hm))
    have ha : a ≠ h := fun e => hn (e ▸ List.mem_cons_self ..)
    unfold cntL at *
    rw [List.countP_cons, List.countP_cons, this, upd_other _ _ _ ha]
theorem cntL_upd (μ : Nat → Int) (h : Nat) (v t : Int) : ∀ l : List Nat, l.Nodup → h ∈ l → cntL (upd μ h v) t l + (if μ h = t then 1 else 0) = cntL μ t l + (if v = t then 1 else 0)
  | [], _, hm => by simp at hm
  | a :: l, hn, hm => by
    rw [List.nodup_cons] at hn
    by_cases ha : a = h
    · subst ha
      have := cntL_upd_out μ a v t l hn.1
      unfold cntL at *
      rw [List.countP_cons, List.countP_cons, this, upd_same]
      by_cases e1 : μ a = t <;> by_cases e2 : v = t <;> simp [e1, e2] <;> omega
    · have hm' : h ∈ l := by
        rcases List.mem_cons.1 hm with e | e
        · exact absurd e.symm ha
        · exact e
      have := cntL_upd μ h v t l hn.2 hm'
      unfold cntL at *
      rw [List.countP_cons, List.countP_cons, upd_other _ _ _ ha]
      omega
theorem cnt_upd (μ : Nat → Int) {h : Nat} (hh : h < M.n) (v t : Int) : cnt M (upd μ h v) t + (if μ h = t then 1 else 0) = cnt M μ t + (if v = t then 1 else 0) :=
  cntL_upd μ h v t _ List.nodup_range (List.mem_range.2 hh)

/-- One side's hands are among the other's, and one more is there: the other has more. -/
theorem cnt_lt {μ ν : Nat → Int} {s t : Int} (h : ∀ x, x < M.n → μ x = s → ν x = t) {y : Nat} (hy : y < M.n) (h1 : ¬ μ y = s) (h2 : ν y = t) : cnt M μ s < cnt M ν t := by
  have hle := cnt_imp h
  refine Classical.byContradiction fun hn => ?_
  exact h1 (cnt_back h (by omega) y hy h2)

/-- What holds all along while hands ask: m: whom they are with; asked: how many of their list each has asked. -/
structure DA (M : Mk) (m : Nat → Int) (asked : Nat → Nat) : Prop where
  cur : ∀ h, h < M.n → m h = -1 ∨ (M.pos h (m h) ∧ M.r h (m h) + 1 = asked h)
  room : ∀ s : Int, 0 ≤ s → s < M.S → cnt M m s ≤ M.q s
  ref : ∀ h, h < M.n → ∀ s, M.pos h s → M.r h s < asked h → m h ≠ s → M.q s ≤ cnt M m s ∧ ∀ x, x < M.n → m x = s → M.k s x < M.k s h
  no : ∀ h, h < M.n → ∀ s, M.pos h s → M.r h s < asked h → m h ≠ s → ∀ μ, Stable M μ → μ h ≠ s

theorem DA.start {m : Nat → Int} {asked : Nat → Nat} (hm : ∀ h, h < M.n → m h = -1) (ha : ∀ h, h < M.n → asked h = 0) (hr : ∀ h, h < M.n → ∀ s, M.pos h s → 0 ≤ M.r h s) : DA M m asked := by
  refine ⟨fun h hh => .inl (hm h hh), fun s h0 _ => ?_, fun h hh s ps hlt => ?_, fun h hh s ps hlt => ?_⟩
  · have : cnt M m s ≤ 0 := by
      unfold cnt cntL
      rw [Nat.le_zero, List.countP_eq_zero]
      intro x hx
      have := hm x (List.mem_range.1 hx)
      simp; omega
    omega
  · have := hr h hh s ps; rw [ha h hh] at hlt; omega
  · have := hr h hh s ps; rw [ha h hh] at hlt; omega

theorem DA.skip {m : Nat → Int} {asked : Nat → Nat} (D : DA M m asked) {h : Nat} (hh : h < M.n) (he : m h = -1) (hno : ∀ s, M.pos h s → M.r h s ≠ asked h) : DA M m (upd asked h (asked h + 1)) := by
  refine ⟨fun x hx => ?_, D.room, fun x hx s ps hlt hne => ?_, fun x hx s ps hlt hne => ?_⟩
  · by_cases e : x = h
    · subst e; exact .inl he
    · rw [upd_other _ _ _ e]; exact D.cur x hx
  · by_cases e : x = h
    · subst e; rw [upd_same] at hlt; have := hno s ps; exact D.ref x hx s ps (by omega) hne
    · rw [upd_other _ _ _ e] at hlt; exact D.ref x hx s ps hlt hne
  · by_cases e : x = h
    · subst e; rw [upd_same] at hlt; have := hno s ps; exact D.no x hx s ps (by omega) hne
    · rw [upd_other _ _ _ e] at hlt; exact D.no x hx s ps hlt hne

theorem DA.take {m : Nat → Int} {asked : Nat → Nat} (D : DA M m asked) {h : Nat} (hh : h < M.n) (he : m h = -1) {s : Int} (ps : M.pos h s) (hs : M.r h s = asked h) (hroom : cnt M m s + 1 ≤ M.q s) :
    DA M (upd m h s) (upd asked h (asked h + 1)) := by
  have hcnt : ∀ t, 0 ≤ t → cnt M (upd m h s) t = cnt M m t + (if s = t then 1 else 0) := by
    intro t ht
    have := cnt_upd (M := M) m hh s t
    rw [he, if_neg (by omega)] at this; omega
  refine ⟨fun x hx => ?_, fun t h0 h1 => ?_, fun x hx t pt hlt hne => ?_, fun x hx t pt hlt hne => ?_⟩
  · by_cases e : x = h
    · subst e; rw [upd_same, upd_same]; exact .inr ⟨ps, by omega⟩
    · rw [upd_other _ _ _ e, upd_other _ _ _ e]; exact D.cur x hx
  · rw [hcnt t h0]
    have := D.room t h0 h1
    split
    · rename_i e; subst e; omega
    · omega
  · have old : m x ≠ t ∧ M.r x t < asked x := by
      by_cases e : x = h
      · subst e
        rw [upd_same] at hlt hne
        refine ⟨by have := M.pos_lo _ _ pt; omega, ?_⟩
        have : M.r x t ≠ asked x := fun e' => hne (M.r_inj _ _ _ ps pt (by omega))
        omega
      · rw [upd_other _ _ _ e] at hlt hne; exact ⟨hne, hlt⟩
    have hr := D.ref x hx t pt old.2 old.1
    have ht : t ≠ s := by rintro rfl; omega
    refine ⟨by rw [hcnt t (M.pos_lo _ _ pt)]; omega, fun y hy hyt => ?_⟩
    by_cases e : y = h
    · subst e; rw [upd_same] at hyt; exact absurd hyt.symm ht
    · rw [upd_other _ _ _ e] at hyt; exact hr.2 y hy hyt
  · by_cases e : x = h
    · subst e
      rw [upd_same] at hlt hne
      have : M.r x t ≠ asked x := fun e' => hne (M.r_inj _ _ _ ps pt (by omega))
      exact D.no x hx t pt (by omega) (by have := M.pos_lo _ _ pt; omega)
    · rw [upd_other _ _ _ e] at hlt hne; exact D.no x hx t pt hlt hne

theorem DA.swap {m : Nat → Int} {asked : Nat → Nat} (D : DA M m asked) {h : Nat} (hh : h < M.n) (he : m h = -1) {s : Int} (ps : M.pos h s) (hs : M.r h s = asked h) (hfull : M.q s ≤ cnt M m s)
    {w : Nat} (hw : w < M.n) (hws : upd m h s w = s) (hworst : ∀ x, x < M.n → upd m h s x = s → x ≠ w → M.k s x < M.k s w) :
    DA M (upd (upd m h s) w (-1)) (upd asked h (asked h + 1)) := by
  have s0 := M.pos_lo _ _ ps
  have s1 := M.pos_hi _ _ ps
  have hroom := D.room s s0 s1
  have hcnt : ∀ t, 0 ≤ t → cnt M (upd (upd m h s) w (-1)) t = cnt M m t := by
    intro t ht
    have a := cnt_upd (M := M) m hh s t
    have b := cnt_upd (M := M) (upd m h s) hw (-1) t
    rw [he, if_neg (by omega)] at a
    rw [hws, if_neg (by omega : ¬ (-1 : Int) = t)] at b
    split at a <;> simp_all <;> omega
  -- who has a shift now had it before, or is the one who asks
  have hnow : ∀ x t, 0 ≤ t → upd (upd m h s) w (-1) x = t → x ≠ w ∧ ((x ≠ h ∧ m x = t) ∨ (x = h ∧ t = s)) := by
    intro x t ht hxt
    by_cases e : x = w
    · subst e; rw [upd_same] at hxt; omega
    · rw [upd_other _ _ _ e] at hxt
      by_cases e2 : x = h
      · subst e2; rw [upd_same] at hxt; exact ⟨e, .inr ⟨rfl, hxt.symm⟩⟩
      · rw [upd_other _ _ _ e2] at hxt; exact ⟨e, .inl ⟨e2, hxt⟩⟩
  -- the one refused: whom it was with
  have hwm : w = h ∨ (w ≠ h ∧ m w = s) := by
    by_cases e : w = h
    · exact .inl e
    · rw [upd_other _ _ _ e] at hws; exact .inr ⟨e, hws⟩
  have hcur : ∀ x, x < M.n → upd m h s x = s → M.pos x s ∧ M.r x s + 1 = upd asked h (asked h + 1) x := by
    intro x hx hxs
    by_cases e : x = h
    · subst e; rw [upd_same]; exact ⟨ps, by omega⟩
    · rw [upd_other _ _ _ e] at hxs ⊢
      rcases D.cur x hx with c | c
      · omega
      · rw [hxs] at c; exact c
  -- an offer that has been refused before, or is refused now
  have old : ∀ x, x < M.n → ∀ t, M.pos x t → M.r x t < upd asked h (asked h + 1) x → upd (upd m h s) w (-1) x ≠ t → (m x ≠ t ∧ M.r x t < asked x) ∨ (x = w ∧ t = s) := by
    intro x hx t pt hlt hne
    have t0 := M.pos_lo _ _ pt
    by_cases ew : x = w
    · by_cases et : t = s
      · exact .inr ⟨ew, et⟩
      · left
        subst ew
        rcases hwm with e | ⟨e, ews⟩
        · subst e; rw [upd_same] at hlt
          refine ⟨by omega, ?_⟩
          have : M.r x t ≠ asked x := fun e' => et (M.r_inj _ _ _ pt ps (by omega))
          omega
        · rw [upd_other _ _ _ e] at hlt; exact ⟨by omega, hlt⟩
    · left
      rw [upd_other _ _ _ ew] at hne
      by_cases eh : x = h
      · subst eh; rw [upd_same] at hne hlt
        refine ⟨by omega, ?_⟩
        have : M.r x t ≠ asked x := fun e' => hne (M.r_inj _ _ _ ps pt (by omega))
        omega
      · rw [upd_other _ _ _ eh] at hne hlt; exact ⟨hne, hlt⟩
  refine ⟨fun x hx => ?_, fun t h0 h1 => by rw [hcnt t h0]; exact D.room t h0 h1, fun x hx t pt hlt hne => ?_, fun x hx t pt hlt hne μ hμ hμt => ?_⟩
  · by_cases e : x = w
    · subst e; rw [upd_same]; exact .inl rfl
    · rw [upd_other _ _ _ e]
      by_cases e2 : x = h
      · subst e2; rw [upd_same, upd_same]; exact .inr ⟨ps, by omega⟩
      · rw [upd_other _ _ _ e2, upd_other _ _ _ e2]; exact D.cur x hx
  · have t0 := M.pos_lo _ _ pt
    rw [hcnt t t0]
    rcases old x hx t pt hlt hne with ⟨o1, o2⟩ | ⟨rfl, rfl⟩
    · have hr := D.ref x hx t pt o2 o1
      refine ⟨hr.1, fun y hy hyt => ?_⟩
      rcases hnow y t t0 hyt with ⟨ey, ⟨-, hm⟩ | ⟨rfl, rfl⟩⟩
      · exact hr.2 y hy hm
      · -- the one who asks has come in for one who was there
        rcases hwm with e | ⟨e, ews⟩
        · exact absurd e.symm ey
        · have := hworst y hy (upd_same ..) ey
          have := hr.2 w hw ews
          omega
    · refine ⟨hfull, fun y hy hyt => ?_⟩
      have hy' := hnow y t t0 hyt
      have : upd m h t y = t := by
        rcases hy'.2 with ⟨e, hm⟩ | ⟨e, -⟩
        · rw [upd_other _ _ _ e]; exact hm
        · rw [e, upd_same]
      exact hworst y hy this hy'.1
  · rcases old x hx t pt hlt hne with ⟨o1, o2⟩ | ⟨rfl, rfl⟩
    · exact D.no x hx t pt o2 o1 μ hμ hμt
    · -- x is refused by t: in a stable matching it can't have been there
      have t0 := M.pos_lo _ _ pt
      have hy : ∃ y, y < M.n ∧ upd (upd m h t) x (-1) y = t ∧ ¬ μ y = t := by
        refine Classical.byContradiction fun hno => ?_
        have hsub : ∀ y, y < M.n → upd (upd m h t) x (-1) y = t → μ y = t := fun y hy e => Classical.byContradiction fun hn => hno ⟨y, hy, e, hn⟩
        have := cnt_lt hsub hx (by rw [upd_same]; omega) hμt
        rw [hcnt t t0] at this
        have := hμ.m.room t t0 (M.pos_hi _ _ pt)
        omega
      obtain ⟨y, hy, hyt, hyn⟩ := hy
      have hy' := hnow y t t0 hyt
      have hyt2 : upd m h t y = t := by
        rcases hy'.2 with ⟨e, hm⟩ | ⟨e, -⟩
        · rw [upd_other _ _ _ e]; exact hm
        · rw [e, upd_same]
      obtain ⟨py, ry⟩ := hcur y hy hyt2
      -- y would rather have t than what it has in μ
      have hrather : M.r y t < M.r y (μ y) := by
        rcases hμ.m.ok y hy with e | e
        · rw [e]; exact M.r_none _ _ py
        · refine Classical.byContradiction fun hn => ?_
          have hne' : M.r y (μ y) ≠ M.r y t := fun e' => hyn (M.r_inj _ _ _ e py e')
          have hlt' : M.r y (μ y) < asked y := by
            by_cases eh : y = h
            · subst eh; rw [upd_same] at ry; omega
            · rw [upd_other _ _ _ eh] at ry; omega
          have hm : m y ≠ μ y := by
            rcases hy'.2 with ⟨-, hm⟩ | ⟨e2, -⟩
            · rw [hm]; exact fun e' => hyn e'.symm
            · rw [e2, he]; have := M.pos_lo _ _ e; rw [e2] at this; omega
          exact D.no y hy (μ y) e hlt' hm μ hμ rfl
      have k1 := hμ.better y hy t py hrather x hx hμt
      have k2 := hworst y hy hyt2 hy'.1
      omega

/-- At the end: nobody who has none has anyone left to ask. -/
theorem DA.stable {m : Nat → Int} {asked : Nat → Nat} (D : DA M m asked) (hend : ∀ h, h < M.n → m h = -1 → ∀ s, M.pos h s → M.r h s < asked h) : Stable M m := by
  have key : ∀ h, h < M.n → ∀ s, M.pos h s → M.r h s < M.r h (m h) → M.r h s < asked h ∧ m h ≠ s := by
    intro h hh s ps hr
    refine ⟨?_, by rintro rfl; omega⟩
    rcases D.cur h hh with e | ⟨-, e⟩
    · exact hend h hh e s ps
    · omega
  refine ⟨⟨fun h hh => (D.cur h hh).imp id And.left, D.room⟩, fun h hh s ps hr => ?_, fun h hh s ps hr => ?_⟩
  · obtain ⟨a, b⟩ := key h hh s ps hr
    exact (D.ref h hh s ps a b).1
  · obtain ⟨a, b⟩ := key h hh s ps hr
    exact (D.ref h hh s ps a b).2
theorem DA.best {m : Nat → Int} {asked : Nat → Nat} (D : DA M m asked) (hend : ∀ h, h < M.n → m h = -1 → ∀ s, M.pos h s → M.r h s < asked h) {μ : Nat → Int} (hμ : Stable M μ) : ∀ h, h < M.n → M.r h (m h) ≤ M.r h (μ h) := by
  intro h hh
  refine Classical.byContradiction fun hn => ?_
  rcases hμ.m.ok h hh with e | e
  · rcases D.cur h hh with c | c
    · rw [e, c] at hn; omega
    · have := M.r_none _ _ c.1; rw [e] at hn; omega
  · have hne : m h ≠ μ h := by intro e'; rw [e'] at hn; omega
    have hlt : M.r h (μ h) < asked h := by
      rcases D.cur h hh with c | ⟨-, c⟩
      · exact hend h hh c _ e
      · omega
    exact D.no h hh (μ h) e hlt hne μ hμ rfl

/-- What holds all along while shifts ask. -/
structure SA (M : Mk) (m : Nat → Int) (asked : Int → Nat) : Prop where
  cur : ∀ h, h < M.n → m h = -1 ∨ (M.pos h (m h) ∧ M.k (m h) h < asked (m h))
  room : ∀ s : Int, 0 ≤ s → s < M.S → cnt M m s ≤ M.q s
  up : ∀ h, h < M.n → ∀ s, M.pos h s → M.k s h < asked s → M.r h (m h) ≤ M.r h s
  no : ∀ h, h < M.n → ∀ s, M.pos h s → M.k s h < asked s → m h ≠ s → ∀ μ, Stable M μ → μ h ≠ s

def updI (f : Int → Nat) (s : Int) (v : Nat) (x : Int) : Nat := if x = s then v else f x
theorem updI_same (f : Int → Nat) (s : Int) (v : Nat) : updI f s v s = v := by simp [updI]
theorem updI_other (f : Int → Nat) (s : Int) (v : Nat) {x : Int} (hx : x ≠ s) : updI f s v x = f x := by simp [updI, hx]

theorem SA.start {m : Nat → Int} {asked : Int → Nat} (hm : ∀ h, h < M.n → m h = -1) (ha : ∀ s : Int, 0 ≤ s → s < M.S → asked s = 0) (hk : ∀ h, h < M.n → ∀ s, M.pos h s → 0 ≤ M.k s h) : SA M m asked := by
  refine ⟨fun h hh => .inl (hm h hh), fun s h0 _ => ?_, fun h hh s ps hlt => ?_, fun h hh s ps hlt => ?_⟩
  · have : cnt M m s ≤ 0 := by
      unfold cnt cntL
      rw [Nat.le_zero, List.countP_eq_zero]
      intro x hx
      have := hm x (List.mem_range.1 hx)
      simp; omega
    omega
  · have := hk h hh s ps; rw [ha s (M.pos_lo _ _ ps) (M.pos_hi _ _ ps)] at hlt; omega
  · have := hk h hh s ps; rw [ha s (M.pos_lo _ _ ps) (M.pos_hi _ _ ps)] at hlt; omega

/-- The next hand of a shift's list is no possible one. -/
theorem SA.skip {m : Nat → Int} {asked : Int → Nat} (D : SA M m asked) {s : Int} (hno : ∀ h, h < M.n → M.pos h s → M.k s h ≠ asked s) : SA M m (updI asked s (asked s + 1)) := by
  have back : ∀ h, h < M.n → ∀ t, M.pos h t → M.k t h < updI asked s (asked s + 1) t → M.k t h < asked t := by
    intro h hh t pt hlt
    by_cases e : t = s
    · subst e; rw [updI_same] at hlt; have := hno h hh pt; omega
    · rw [updI_other _ _ _ e] at hlt; exact hlt
  refine ⟨fun h hh => ?_, D.room, fun h hh t pt hlt => D.up h hh t pt (back h hh t pt hlt), fun h hh t pt hlt => D.no h hh t pt (back h hh t pt hlt)⟩
  rcases D.cur h hh with e | ⟨e, c⟩
  · exact .inl e
  · refine .inr ⟨e, ?_⟩
    by_cases e' : m h = s
    · rw [e'] at c ⊢; rw [updI_same]; omega
    · rw [updI_other _ _ _ e']; exact c

/-- The hand that is asked has what it likes at least as much. -/
theorem SA.stay {m : Nat → Int} {asked : Int → Nat} (D : SA M m asked) {s : Int} {h : Nat} (hh : h < M.n) (ps : M.pos h s) (hk : M.k s h = asked s) (hr : M.r h (m h) ≤ M.r h s) : SA M m (updI asked s (asked s + 1)) := by
  have back : ∀ x, x < M.n → ∀ t, M.pos x t → M.k t x < updI asked s (asked s + 1) t → M.k t x < asked t ∨ (x = h ∧ t = s) := by
    intro x hx t pt hlt
    by_cases e : t = s
    · subst e; rw [updI_same] at hlt
      by_cases e2 : M.k t x = asked t
      · exact .inr ⟨M.k_inj _ _ _ pt ps (by omega), rfl⟩
      · exact .inl (by omega)
    · rw [updI_other _ _ _ e] at hlt; exact .inl hlt
  refine ⟨fun x hx => ?_, D.room, fun x hx t pt hlt => ?_, fun x hx t pt hlt hne μ hμ hμt => ?_⟩
  · rcases D.cur x hx with e | ⟨e, c⟩
    · exact .inl e
    · refine .inr ⟨e, ?_⟩
      by_cases e' : m x = s
      · rw [e'] at c ⊢; rw [updI_same]; omega
      · rw [updI_other _ _ _ e']; exact c
  · rcases back x hx t pt hlt with b | ⟨rfl, rfl⟩
    · exact D.up x hx t pt b
    · exact hr
  · rcases back x hx t pt hlt with b | ⟨rfl, rfl⟩
    · exact D.no x hx t pt b hne μ hμ hμt
    · -- x has t' = m x, which it likes more: in μ that shift would be full with hands that it has not been refused by
      rcases D.cur x hx with e | ⟨e, c⟩
      · have := M.r_none _ _ pt; rw [e] at hr; omega
      · have hlt' : M.r x (m x) < M.r x (μ x) := by
          rw [hμt]
          have : M.r x (m x) ≠ M.r x t := fun e' => hne (M.r_inj _ _ _ e pt e')
          omega
        have f := hμ.full x hx (m x) e hlt'
        have b := hμ.better x hx (m x) e hlt'
        have hsub : ∀ y, y < M.n → μ y = m x → m y = m x := by
          intro y hy hyt
          have py : M.pos y (m x) := by
            rcases hμ.m.ok y hy with e2 | e2
            · have := M.pos_lo _ _ e; omega
            · rw [hyt] at e2; exact e2
          have := b y hy hyt
          refine Classical.byContradiction fun hn => ?_
          exact D.no y hy (m x) py (by omega) hn μ hμ hyt
        have := cnt_lt hsub hx (by rw [hμt]; exact fun e' => hne e'.symm) rfl
        have := D.room (m x) (M.pos_lo _ _ e) (M.pos_hi _ _ e)
        omega

/-- The hand that is asked comes, and leaves what it had. -/
theorem SA.come {m : Nat → Int} {asked : Int → Nat} (D : SA M m asked) {s : Int} {h : Nat} (hh : h < M.n) (ps : M.pos h s) (hk : M.k s h = asked s) (hr : M.r h s < M.r h (m h)) (hroom : cnt M m s < M.q s) : SA M (upd m h s) (updI asked s (asked s + 1)) := by
  have s0 := M.pos_lo _ _ ps
  have back : ∀ x, x < M.n → ∀ t, M.pos x t → M.k t x < updI asked s (asked s + 1) t → M.k t x < asked t ∨ (x = h ∧ t = s) := by
    intro x hx t pt hlt
    by_cases e : t = s
    · subst e; rw [updI_same] at hlt
      by_cases e2 : M.k t x = asked t
      · exact .inr ⟨M.k_inj _ _ _ pt ps (by omega), rfl⟩
      · exact .inl (by omega)
    · rw [updI_other _ _ _ e] at hlt; exact .inl hlt
  have hms : m h ≠ s := by intro e; rw [e] at hr; omega
  refine ⟨fun x hx => ?_, fun t h0 h1 => ?_, fun x hx t pt hlt => ?_, fun x hx t pt hlt hne μ hμ hμt => ?_⟩
  · by_cases e : x = h
    · subst e; rw [upd_same, updI_same]; exact .inr ⟨ps, by omega⟩
    · rw [upd_other _ _ _ e]
      rcases D.cur x hx with c | ⟨c, c'⟩
      · exact .inl c
      · refine .inr ⟨c, ?_⟩
        by_cases e' : m x = s
        · rw [e'] at c' ⊢; rw [updI_same]; omega
        · rw [updI_other _ _ _ e']; exact c'
  · have := cnt_upd (M := M) m hh s t
    have hb := D.room t h0 h1
    by_cases e : s = t
    · subst e; simp only [if_true] at this; split at this <;> omega
    · simp only [e, if_false] at this; omega
  · by_cases e : x = h
    · subst e; rw [upd_same]
      rcases back x hx t pt hlt with b | ⟨-, rfl⟩
      · have := D.up x hx t pt b; omega
      · omega
    · rw [upd_other _ _ _ e]
      rcases back x hx t pt hlt with b | ⟨b, -⟩
      · exact D.up x hx t pt b
      · exact absurd b e
  · by_cases e : x = h
    · subst e; rw [upd_same] at hne
      rcases back x hx t pt hlt with b | ⟨-, rfl⟩
      · by_cases e2 : m x = t
        · -- it leaves t for s, which it likes more
          subst e2
          have hlt' : M.r x s < M.r x (μ x) := by rw [hμt]; exact hr
          have f := hμ.full x hx s ps hlt'
          have bb := hμ.better x hx s ps hlt'
          have hsub : ∀ y, y < M.n → μ y = s → m y = s := by
            intro y hy hyt
            have py : M.pos y s := by
              rcases hμ.m.ok y hy with e2 | e2
              · omega
              · rw [hyt] at e2; exact e2
            have := bb y hy hyt
            refine Classical.byContradiction fun hn => ?_
            exact D.no y hy s py (by omega) hn μ hμ hyt
          have := cnt_imp hsub
          omega
        · exact D.no x hx t pt b e2 μ hμ hμt
      · exact hne rfl
    · rw [upd_other _ _ _ e] at hne
      rcases back x hx t pt hlt with b | ⟨b, -⟩
      · exact D.no x hx t pt b hne μ hμ hμt
      · exact e b

theorem SA.stable {m : Nat → Int} {asked : Int → Nat} (D : SA M m asked) (hend : ∀ s : Int, 0 ≤ s → s < M.S → M.q s ≤ cnt M m s ∨ ∀ h, h < M.n → M.pos h s → M.k s h < asked s) : Stable M m := by
  have key : ∀ h, h < M.n → ∀ s, M.pos h s → M.r h s < M.r h (m h) → ¬ M.k s h < asked s := by
    intro h hh s ps hr hlt
    have := D.up h hh s ps hlt; omega
  refine ⟨⟨fun h hh => (D.cur h hh).imp id And.left, D.room⟩, fun h hh s ps hr => ?_, fun h hh s ps hr x hx hxs => ?_⟩
  · rcases hend s (M.pos_lo _ _ ps) (M.pos_hi _ _ ps) with e | e
    · exact e
    · exact absurd (e h hh ps) (key h hh s ps hr)
  · have := key h hh s ps hr
    rcases D.cur x hx with e | ⟨-, e⟩
    · have := M.pos_lo _ _ ps; omega
    · rw [hxs] at e; omega

theorem SA.worst {m : Nat → Int} {asked : Int → Nat} (D : SA M m asked) {μ : Nat → Int} (hμ : Stable M μ) : ∀ h, h < M.n → M.r h (μ h) ≤ M.r h (m h) := by
  intro h hh
  refine Classical.byContradiction fun hn => ?_
  rcases D.cur h hh with e | ⟨e, c⟩
  · rcases hμ.m.ok h hh with e' | e'
    · rw [e, e'] at hn; omega
    · have := M.r_none _ _ e'; rw [e] at hn; omega
  · have f := hμ.full h hh (m h) e (by omega)
    have b := hμ.better h hh (m h) e (by omega)
    have hsub : ∀ y, y < M.n → μ y = m h → m y = m h := by
      intro y hy hyt
      have py : M.pos y (m h) := by
        rcases hμ.m.ok y hy with e2 | e2
        · have := M.pos_lo _ _ e; omega
        · rw [hyt] at e2; exact e2
      have := b y hy hyt
      refine Classical.byContradiction fun hn' => ?_
      exact D.no y hy (m h) py (by omega) hn' μ hμ hyt
    have := cnt_lt hsub hh (by intro e'; rw [e'] at hn; omega) rfl
    have := D.room (m h) (M.pos_lo _ _ e) (M.pos_hi _ _ e)
    omega

end Go.Proofs.Ytkdfbbkonbgfmaa.Mkt
