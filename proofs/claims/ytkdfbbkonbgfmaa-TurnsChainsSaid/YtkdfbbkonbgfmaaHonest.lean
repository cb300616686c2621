/-
  A hand gives another list: it gains nothing by it. A hand less: nobody else loses. Plain.
-/
import Derived.Test.YtkdfbbkonbgfmaaFirstPlain
namespace Go.Proofs.Ytkdfbbkonbgfmaa
open Mkt (upd cnt Stable Matching DA SA)

/-- From where the offers stand there is a way to their end. -/
theorem FS.ends {p : PlanD} {hp : PlanOk p} : ∀ (N : Nat) (m a : List Int), FS p hp m a → rho p a = N → ∃ m', IsFirst p hp m' := by
  intro N
  induction N using Nat.strongRecOn with
  | _ N ih =>
    intro m a F hN
    by_cases hend : ∀ h, h < p.hands.length → fn m h ≠ -1 ∨ fn a h = (rowAt p.hands h).length
    · exact ⟨m, F.first hend⟩
    · obtain ⟨h, hh⟩ := Classical.not_forall.1 hend
      obtain ⟨hlt, hh⟩ := Classical.not_imp.1 hh
      have he : fn m h = -1 := Classical.byContradiction fun hn => hh (.inl hn)
      have hal : fn a h < (rowAt p.hands h).length := by
        have := (F.lo h hlt).2
        have h2 : ¬ fn a h = (rowAt p.hands h).length := fun e => hh (.inr e)
        omega
      have hr := rho_step (p := p) hlt F.la hal
      cases hps : possB p h (nextS p a h)
      · exact ih _ (by omega) _ _ (F.skip hlt he hal hps) rfl
      · by_cases hf : intAt p.places (nextS p a h) < (handsI (rowAt p.shifts (nextS p a h)) (m.set h (nextS p a h)) (nextS p a h)).length
        · exact ih _ (by omega) _ _ (F.swap hlt he hal hps rfl hf rfl).2.2 rfl
        · exact ih _ (by omega) _ _ (F.take hlt he hal hps hf) rfl
theorem exists_first (p : PlanD) (hp : PlanOk p) : ∃ m, IsFirst p hp m := FS.ends _ _ _ (FS.start (p := p) (hp := hp)) rfl

/-- The plan in which a hand gives another list. -/
def setH (p : PlanD) (h : Nat) (l : List Int) : PlanD := { p with hands := p.hands.set h l }

theorem rowAt_set {xss : List (List Int)} {h : Nat} (hh : h < xss.length) (l : List Int) (x : Nat) : rowAt (xss.set h l) x = if x = h then l else rowAt xss x := by
  unfold rowAt
  rw [Int.toNat_natCast, List.getD_eq_getElem?_getD, List.getD_eq_getElem?_getD, List.getElem?_set]
  by_cases e : h = x
  · subst e; simp [hh]
  · rw [if_neg e, if_neg (fun e' => e e'.symm)]
theorem setH_self {p : PlanD} {h : Nat} (_hh : h < p.hands.length) : setH p h (rowAt p.hands h) = p := by
  unfold setH
  have : p.hands.set h (rowAt p.hands h) = p.hands := by
    apply List.ext_getElem (by simp)
    intro i h1 h2
    rw [List.getElem_set]
    split
    · rename_i e; subst e; unfold rowAt; rw [Int.toNat_natCast, List.getD_eq_getElem?_getD, List.getElem?_eq_getElem h2]; rfl
    · rfl
  rw [this]
theorem setH_ok {p : PlanD} (hp : PlanOk p) {h : Nat} {l : List Int} (hl : rowOk p.shifts.length l = true) : PlanOk (setH p h l) := by
  refine ⟨by unfold setH; simp; exact hp.h1, by unfold setH; simp; exact hp.h6, hp.s1, hp.s4, hp.pl, hp.pr, ?_, ?_⟩
  · show listsOk (p.hands.set h l) p.shifts.length = true
    have := hp.hs
    unfold listsOk at *
    rw [List.all_eq_true] at *
    intro x hx
    rcases List.mem_or_eq_of_mem_set hx with e | e
    · exact this x e
    · rw [e]; exact hl
  · show listsOk p.shifts (p.hands.set h l).length = true
    rw [List.length_set]; exact hp.ss

theorem swap_stable {p : PlanD} {h : Nat} (hh : h < p.hands.length) {l1 l2 : List Int} (ok1 : PlanOk (setH p h l1)) (ok2 : PlanOk (setH p h l2)) {μ : Nat → Int} (hμ : Stable (mkt _ ok1) μ)
    (c1 : μ h = -1 ∨ (mkt _ ok2).pos h (μ h)) (c2 : ∀ s, (mkt _ ok2).pos h s → (mkt _ ok2).r h s < (mkt _ ok2).r h (μ h) → (mkt _ ok1).pos h s ∧ (mkt _ ok1).r h s < (mkt _ ok1).r h (μ h)) : Stable (mkt _ ok2) μ := by
  have row : ∀ x : Nat, x ≠ h → rowAt (setH p h l2).hands x = rowAt (setH p h l1).hands x := by
    intro x hx
    show rowAt (p.hands.set h l2) x = rowAt (p.hands.set h l1) x
    rw [rowAt_set hh, rowAt_set hh, if_neg hx, if_neg hx]
  have pos : ∀ x : Nat, x ≠ h → ∀ s, (mkt _ ok2).pos x s ↔ (mkt _ ok1).pos x s := by
    intro x hx s
    show possB _ _ _ = true ↔ possB _ _ _ = true
    rw [possB_iff, possB_iff, row x hx]; rfl
  have rr : ∀ x : Nat, x ≠ h → ∀ s, (mkt _ ok2).r x s = (mkt _ ok1).r x s := by
    intro x hx s
    show rankP _ _ = rankP _ _
    rw [row x hx]
  have hn : (mkt _ ok2).n = (mkt _ ok1).n := by show (p.hands.set h l2).length = (p.hands.set h l1).length; simp
  have hc : ∀ s, cnt (mkt _ ok2) μ s = cnt (mkt _ ok1) μ s := by intro s; unfold cnt; rw [hn]
  have key : ∀ x, x < (mkt _ ok2).n → ∀ s, (mkt _ ok2).pos x s → (mkt _ ok2).r x s < (mkt _ ok2).r x (μ x) → (mkt _ ok1).pos x s ∧ (mkt _ ok1).r x s < (mkt _ ok1).r x (μ x) := by
    intro x hx s ps hr
    by_cases e : x = h
    · subst e; exact c2 s ps hr
    · rw [rr x e, rr x e] at hr; exact ⟨(pos x e s).1 ps, hr⟩
  refine ⟨⟨fun x hx => ?_, fun s h0 h1 => by rw [hc]; exact hμ.m.room s h0 h1⟩, fun x hx s ps hr => ?_, fun x hx s ps hr y hy hys => ?_⟩
  · by_cases e : x = h
    · subst e; exact c1
    · rcases hμ.m.ok x (hn ▸ hx) with e' | e'
      · exact .inl e'
      · exact .inr ((pos x e _).2 e')
  · obtain ⟨a, b⟩ := key x hx s ps hr
    rw [hc]; exact hμ.full x (hn ▸ hx) s a b
  · obtain ⟨a, b⟩ := key x hx s ps hr
    exact hμ.better x (hn ▸ hx) s a b y (hn ▸ hy) hys

theorem rankP_take {l : List Int} {k : Nat} {x : Int} (h : x ∈ l.take k) : rankP (l.take k) x = rankP l x := by
  rw [rankP_mem h, rankP_mem (List.mem_of_mem_take h)]
  congr 1
  have : l.idxOf x = (l.take k ++ l.drop k).idxOf x := by rw [List.take_append_drop]
  rw [this, List.idxOf_append, if_pos h]

theorem mkt_stable_congr {p q : PlanD} (e : q = p) (hq : PlanOk q) (hp : PlanOk p) {μ : Nat → Int} (h : Stable (mkt q hq) μ) : Stable (mkt p hp) μ := by subst e; exact h

/-- No hand gets, by another list, a shift in First that they like more. -/
theorem honest {p : PlanD} (hp : PlanOk p) {h : Nat} (hh : h < p.hands.length) {l : List Int} (hp' : PlanOk (setH p h l)) {a b : List Int} (ha : IsFirst p hp a) (hb : IsFirst _ hp' b) :
    ¬ ((mkt p hp).pos h (fn b h) ∧ (mkt p hp).r h (fn b h) < (mkt p hp).r h (fn a h)) := by
  rintro ⟨ps, hlt⟩
  obtain ⟨s, hs⟩ : ∃ s, s = fn b h := ⟨_, rfl⟩
  rw [← hs] at ps hlt
  have hsm := (possB_iff.1 ps).1
  have hsc := (possB_iff.1 ps).2
  have s0 := (mkt p hp).pos_lo _ _ ps
  have s1 : s < p.shifts.length := (mkt p hp).pos_hi _ _ ps
  have hrow : (rowAt p.hands h).Nodup := (hp.row (by omega)).2
  -- only s
  have ok2 : PlanOk (setH p h [s]) := setH_ok hp (by rw [rowOk_iff]; simp; exact ⟨s0, s1⟩)
  have row2 : rowAt (setH p h [s]).hands h = [s] := by show rowAt (p.hands.set h [s]) h = _; rw [rowAt_set hh, if_pos rfl]
  have pos2 : ∀ t, (mkt _ ok2).pos h t → t = s := by
    intro t pt
    have := (possB_iff.1 pt).1
    rw [row2] at this; exact List.mem_singleton.1 this
  have pos2s : (mkt _ ok2).pos h s := possB_iff.2 ⟨by rw [row2]; simp, hsc⟩
  have bst : Stable (mkt _ ok2) (fn b) := swap_stable hh hp' ok2 hb.st (.inr (by rw [← hs]; exact pos2s)) (fun t pt hr => by
    rw [pos2 t pt, ← hs] at hr; omega)
  -- down to s
  obtain ⟨k, hk⟩ : ∃ k, k = (rowAt p.hands h).idxOf s + 1 := ⟨_, rfl⟩
  have ok3 : PlanOk (setH p h ((rowAt p.hands h).take k)) := setH_ok hp (rowOk_take (rowAt_ok hp.hs (by omega)))
  have row3 : rowAt (setH p h ((rowAt p.hands h).take k)).hands h = (rowAt p.hands h).take k := by show rowAt (p.hands.set h _) h = _; rw [rowAt_set hh, if_pos rfl]
  have hidx := List.idxOf_lt_length_of_mem hsm
  have mem3 : ∀ t, t ∈ (rowAt p.hands h).take k ↔ t ∈ rowAt p.hands h ∧ rankP (rowAt p.hands h) t ≤ rankP (rowAt p.hands h) s := by
    intro t
    constructor
    · intro ht
      refine ⟨List.mem_of_mem_take ht, ?_⟩
      rw [← rankP_take ht, rankP_mem ht, rankP_mem hsm]
      have := List.idxOf_lt_length_of_mem ht
      have h2 := List.length_take_le k (rowAt p.hands h)
      omega
    · rintro ⟨ht, hr⟩
      rw [rankP_mem ht, rankP_mem hsm] at hr
      have h1 := List.idxOf_lt_length_of_mem ht
      have h2 := List.getElem_idxOf h1
      rw [List.mem_take_iff_getElem]
      exact ⟨(rowAt p.hands h).idxOf t, by omega, h2⟩
  obtain ⟨c, hc⟩ := exists_first _ ok3
  have hcn : fn c h ≠ -1 := by
    intro e
    have cst : Stable (mkt _ ok2) (fn c) := swap_stable hh ok3 ok2 hc.st (.inl e) (fun t pt _ => by
      rw [pos2 t pt]
      have p3 : (mkt _ ok3).pos h s := possB_iff.2 ⟨by rw [row3]; exact (mem3 s).2 ⟨hsm, Int.le_refl _⟩, hsc⟩
      exact ⟨p3, by rw [e]; exact (mkt _ ok3).r_none _ _ p3⟩)
    have := Mkt.none_all cst bst (show h < (mkt _ ok2).n by show h < (p.hands.set h [s]).length; simpa using hh) e
    rw [← hs] at this; omega
  have hcp : (mkt _ ok3).pos h (fn c h) := (hc.st.m.ok h (by show h < (p.hands.set h _).length; simpa using hh)).resolve_left hcn
  have hcm := (possB_iff.1 hcp).1
  rw [row3] at hcm
  have self := setH_self hh
  have okS : PlanOk (setH p h (rowAt p.hands h)) := by rw [self]; exact hp
  have rowS : rowAt (setH p h (rowAt p.hands h)).hands h = rowAt p.hands h := by rw [self]
  have cstS : Stable (mkt _ okS) (fn c) := swap_stable hh ok3 okS hc.st
    (.inr (possB_iff.2 ⟨by rw [rowS]; exact ((mem3 _).1 hcm).1, (possB_iff.1 hcp).2⟩))
    (fun t pt hr => by
      have hr' : rankP (rowAt (setH p h (rowAt p.hands h)).hands h) t < rankP (rowAt (setH p h (rowAt p.hands h)).hands h) (fn c h) := hr
      rw [rowS] at hr'
      have pm := (possB_iff.1 pt).1
      rw [rowS] at pm
      have hc2 := ((mem3 _).1 hcm).2
      have tm : t ∈ (rowAt p.hands h).take k := (mem3 t).2 ⟨pm, by omega⟩
      refine ⟨possB_iff.2 ⟨by rw [row3]; exact tm, (possB_iff.1 pt).2⟩, ?_⟩
      show rankP (rowAt (setH p h _).hands h) t < rankP (rowAt (setH p h _).hands h) (fn c h)
      rw [row3, rankP_take tm, rankP_take hcm]; exact hr')
  have cst : Stable (mkt p hp) (fn c) := mkt_stable_congr self okS hp cstS
  have h1 := ha.best _ cst h hh
  have h2 : rankP (rowAt p.hands h) (fn c h) ≤ rankP (rowAt p.hands h) s := ((mem3 _).1 hcm).2
  have h3 : (mkt p hp).r h (fn c h) ≤ (mkt p hp).r h s := h2
  omega

/-- A market with a hand less. -/
structure Less (M M' : Mkt.Mk) (h0 : Nat) : Prop where
  n : M'.n = M.n
  S : M'.S = M.S
  q : M'.q = M.q
  k : M'.k = M.k
  pos : ∀ x, x ≠ h0 → ∀ s, M'.pos x s ↔ M.pos x s
  r : ∀ x, x ≠ h0 → ∀ s, M'.r x s = M.r x s
  none : ∀ s, ¬ M'.pos h0 s

theorem less_better {M M' : Mkt.Mk} {h0 : Nat} (L : Less M M' h0) {a b : Nat → Int} (ha : Stable M a) (hb : Stable M' b) (hbest : ∀ μ, Stable M' μ → ∀ x, x < M'.n → M'.r x (b x) ≤ M'.r x (μ x)) :
    ∀ x, x < M.n → x ≠ h0 → M.r x (b x) ≤ M.r x (a x) := by
  have hn := L.n
  have hcm : ∀ μ s, cnt M' μ s = cnt M μ s := by intro μ s; unfold cnt; rw [hn]
  obtain ⟨lam, hl⟩ : ∃ lam : Nat → Int, ∀ x, lam x = if x = h0 then -1 else if M.r x (a x) ≤ M.r x (b x) then a x else b x := ⟨_, fun _ => rfl⟩
  have lh0 : lam h0 = -1 := by rw [hl, if_pos rfl]
  have lcase : ∀ x, x ≠ h0 → (lam x = a x ∧ M.r x (a x) ≤ M.r x (b x)) ∨ (lam x = b x ∧ M.r x (b x) < M.r x (a x)) := by
    intro x hx
    rw [hl, if_neg hx]
    split
    · exact .inl ⟨rfl, ‹_›⟩
    · exact .inr ⟨rfl, by omega⟩
  have aok := ha.m.ok
  have bok : ∀ x, x < M.n → x ≠ h0 → b x = -1 ∨ M.pos x (b x) := fun x hx hne => (hb.m.ok x (hn ▸ hx)).imp id (L.pos x hne _).1
  have inj : ∀ x, x < M.n → x ≠ h0 → M.r x (a x) = M.r x (b x) → a x = b x := by
    intro x hx hne e
    rcases aok x hx with u | u <;> rcases bok x hx hne with v | v
    · rw [u, v]
    · have := M.r_none _ _ v; rw [u] at e; omega
    · have := M.r_none _ _ u; rw [v] at e; omega
    · exact M.r_inj _ _ _ u v e
  have posb : ∀ x, x < M.n → x ≠ h0 → M.r x (b x) < M.r x (a x) → M.pos x (b x) := by
    intro x hx hne e
    rcases bok x hx hne with v | v
    · rcases aok x hx with u | u
      · rw [u, v] at e; omega
      · have := M.r_none _ _ u; rw [v] at e; omega
    · exact v
  have posa : ∀ x, x < M.n → x ≠ h0 → M.r x (a x) < M.r x (b x) → M.pos x (a x) := by
    intro x hx hne e
    rcases aok x hx with u | u
    · rcases bok x hx hne with v | v
      · rw [u, v] at e; omega
      · have := M.r_none _ _ v; rw [u] at e; omega
    · exact u
  have bfull : ∀ x, x < M.n → x ≠ h0 → ∀ s, M.pos x s → M.r x s < M.r x (b x) → M.q s ≤ cnt M b s ∧ ∀ y, y < M.n → b y = s → M.k s y < M.k s x := by
    intro x hx hne s ps hr
    have ps' := (L.pos x hne s).2 ps
    have hr' : M'.r x s < M'.r x (b x) := by rw [L.r x hne, L.r x hne]; exact hr
    have h1 := hb.full x (hn ▸ hx) s ps' hr'
    have h2 := hb.better x (hn ▸ hx) s ps' hr'
    rw [L.q, hcm] at h1
    rw [L.k, hn] at h2
    exact ⟨h1, h2⟩
  have nb : ∀ x, x < M.n → 0 ≤ lam x → x ≠ h0 := by rintro x hx h rfl; omega
  have sub : ∀ s : Nat, s < M'.S → cnt M' lam s ≤ cnt M' b s := by
    intro s hs
    rw [L.S] at hs
    rw [hcm, hcm]
    by_cases hB : ∃ y, y < M.n ∧ y ≠ h0 ∧ b y = s ∧ M.r y (b y) < M.r y (a y)
    · obtain ⟨y, hy, hy0, hys, hyr⟩ := hB
      have py : M.pos y s := hys ▸ posb y hy hy0 hyr
      have bet := ha.better y hy s py (hys ▸ hyr)
      refine Mkt.cnt_imp fun x hx hxs => ?_
      have hne := nb x hx (by omega)
      rcases lcase x hne with ⟨e, hr⟩ | ⟨e, hr⟩
      · rw [e] at hxs
        refine Classical.byContradiction fun hn' => ?_
        have hlt : M.r x (a x) < M.r x (b x) := by
          rcases Int.lt_or_eq_of_le hr with h | h
          · exact h
          · exact absurd ((inj x hx hne h) ▸ hxs) hn'
        have px : M.pos x s := hxs ▸ posa x hx hne hlt
        have h1 := (bfull x hx hne s px (hxs ▸ hlt)).2 y hy hys
        have h2 := bet x hx hxs
        omega
      · rw [e] at hxs; exact hxs
    · have subA : ∀ x, x < M.n → lam x = s → a x = s := by
        intro x hx hxs
        have hne := nb x hx (by omega)
        rcases lcase x hne with ⟨e, hr⟩ | ⟨e, hr⟩
        · rw [e] at hxs; exact hxs
        · rw [e] at hxs; exact absurd ⟨x, hx, hne, hxs, hr⟩ hB
      by_cases hA : ∃ x, x < M.n ∧ x ≠ h0 ∧ a x = s ∧ M.r x (a x) < M.r x (b x)
      · obtain ⟨x, hx, hne, hxs, hxr⟩ := hA
        have px : M.pos x s := hxs ▸ posa x hx hne hxr
        have h1 := (bfull x hx hne s px (hxs ▸ hxr)).1
        have h2 := ha.m.room s (by omega) (by omega)
        have h3 := Mkt.cnt_imp subA
        omega
      · refine Mkt.cnt_imp fun x hx hxs => ?_
        have hne := nb x hx (by omega)
        have hax := subA x hx hxs
        rcases lcase x hne with ⟨e, hr⟩ | ⟨e, hr⟩
        · rcases Int.lt_or_eq_of_le hr with h | h
          · exact absurd ⟨x, hx, hne, hax, h⟩ hA
          · rw [← inj x hx hne h]; exact hax
        · rw [e] at hxs; exact hxs
  have lok : ∀ x, x < M'.n → lam x = -1 ∨ M'.pos x (lam x) := by
    intro x hx
    by_cases hne : x = h0
    · subst hne; exact .inl lh0
    · rcases lcase x hne with ⟨e, -⟩ | ⟨e, -⟩ <;> rw [e]
      · exact (aok x (hn ▸ hx)).imp id (L.pos x hne _).2
      · exact hb.m.ok x hx
  have lnone : ∀ x, x < M'.n → lam x = -1 → b x = -1 := by
    intro x hx e
    by_cases hne : x = h0
    · subst hne
      exact (hb.m.ok x hx).resolve_right (L.none _)
    · rcases lcase x hne with ⟨e', hr⟩ | ⟨e', hr⟩
      · rw [e'] at e
        rcases bok x (hn ▸ hx) hne with v | v
        · exact v
        · have := M.r_none _ _ v; rw [e] at hr; omega
      · rw [e'] at e; exact e
  obtain ⟨heq, -⟩ := Mkt.same_places hb.m.ok lok sub lnone
  have le2 : ∀ x, x ≠ h0 → M.r x (lam x) ≤ M.r x (a x) ∧ M.r x (lam x) ≤ M.r x (b x) := by
    intro x hne
    rcases lcase x hne with ⟨e, hr⟩ | ⟨e, hr⟩ <;> rw [e] <;> omega
  have heq' : ∀ s : Int, 0 ≤ s → s < M.S → cnt M lam s = cnt M b s := by
    intro s h0 h1
    obtain ⟨s, rfl⟩ := Int.eq_ofNat_of_zero_le h0
    have := heq s (by rw [L.S]; omega)
    rwa [hcm, hcm] at this
  have pne : ∀ x s, M'.pos x s → x ≠ h0 := by rintro x s ps rfl; exact L.none s ps
  have lst : Stable M' lam := by
    refine ⟨⟨lok, fun s h0 h1 => ?_⟩, fun x hx s ps hr => ?_, fun x hx s ps hr y hy hys => ?_⟩
    · rw [hcm, heq' s h0 (L.S ▸ h1), ← hcm]; exact hb.m.room s h0 h1
    · have hne := pne x s ps
      have pm := (L.pos x hne s).1 ps
      rw [L.r x hne, L.r x hne] at hr
      have := (le2 x hne).2
      rw [L.q, hcm, heq' s (M.pos_lo _ _ pm) (M.pos_hi _ _ pm)]
      exact (bfull x (hn ▸ hx) hne s pm (by omega)).1
    · have hne := pne x s ps
      have pm := (L.pos x hne s).1 ps
      rw [L.r x hne, L.r x hne] at hr
      have h1 := le2 x hne
      have s0 := M.pos_lo _ _ pm
      have hney := nb y (hn ▸ hy) (by omega)
      rw [L.k]
      rcases lcase y hney with ⟨e, -⟩ | ⟨e, -⟩
      · exact ha.better x (hn ▸ hx) s pm (by omega) y (hn ▸ hy) (e ▸ hys)
      · exact (bfull x (hn ▸ hx) hne s pm (by omega)).2 y (hn ▸ hy) (e ▸ hys)
  intro x hx hne
  have h1 := hbest lam lst x (by omega)
  rw [L.r x hne, L.r x hne] at h1
  have h2 := (le2 x hne).1
  omega

theorem less_setH {p : PlanD} (hp : PlanOk p) {h : Nat} (hh : h < p.hands.length) (hp' : PlanOk (setH p h [])) : Less (mkt p hp) (mkt _ hp') h := by
  have row : ∀ x : Nat, x ≠ h → rowAt (setH p h []).hands x = rowAt p.hands x := by
    intro x hx
    show rowAt (p.hands.set h []) x = _
    rw [rowAt_set hh, if_neg hx]
  refine ⟨by show (p.hands.set h []).length = _; simp; rfl, rfl, rfl, rfl, fun x hx s => ?_, fun x hx s => ?_, fun s ps => ?_⟩
  · show possB _ _ _ = true ↔ possB _ _ _ = true
    rw [possB_iff, possB_iff, row x hx]; rfl
  · show rankP _ _ = rankP _ _
    rw [row x hx]
  · have := (possB_iff.1 ps).1
    have e : rowAt (setH p h []).hands h = [] := by show rowAt (p.hands.set h []) h = _; rw [rowAt_set hh, if_pos rfl]
    rw [e] at this; simp at this

/-- A copied plan that is valid is the plan itself. -/
theorem rowOk_short {n : Nat} {r : List Int} (h : rowOk n r = true) : r.length ≤ n := by
  rw [rowOk_iff] at h
  have h1 := countP_filterL (P := fun _ => true) r n h.2 h.1
  have h2 : List.countP (fun x : Nat => true && r.contains (x : Int)) (List.range n) ≤ (List.range n).length := List.countP_le_length
  rw [List.countP_true] at h1
  rw [List.length_range] at h2
  omega
/-- At most eight lists of at most nine numbers. -/
def cut8 (xss : List (List Int)) : List (List Int) := (xss.take 8).map (List.take 9)
theorem cut8_id {xss : List (List Int)} {n : Nat} (h7 : (cut8 xss).length ≤ 7) (hn : n ≤ 8) (h : listsOk (cut8 xss) n = true) : cut8 xss = xss := by
  have hl : xss.length ≤ 7 := by unfold cut8 at h7; simp at h7; omega
  unfold cut8 at *
  rw [List.take_of_length_le (by omega)] at *
  apply List.ext_getElem (by simp)
  intro i h1 h2
  rw [List.getElem_map]
  unfold listsOk at h
  rw [List.all_eq_true] at h
  have := rowOk_short (h _ (List.mem_map.2 ⟨xss[i], List.getElem_mem h2, rfl⟩))
  apply List.take_of_length_le
  simp at this; omega
def cutP (p : PlanD) : PlanD := ⟨cut8 p.hands, cut8 p.shifts, p.places.take 9⟩
theorem cutP_id {p : PlanD} (h : PlanOk (cutP p)) : cutP p = p := by
  have h1 : cut8 p.hands = p.hands := cut8_id (n := (cut8 p.shifts).length) (by have := h.h6; simp only [cutP] at this; omega) (by have := h.s4; simp only [cutP] at this; omega) h.hs
  have h2 : cut8 p.shifts = p.shifts := cut8_id (n := (cut8 p.hands).length) (by have := h.s4; simp only [cutP] at this; omega) (by have := h.h6; simp only [cutP] at this; omega) h.ss
  have h3 : p.places.take 9 = p.places := by
    apply List.take_of_length_le
    have a := h.pl
    have b := h.s4
    simp only [cutP, List.length_take] at a b
    omega
  unfold cutP
  rw [h1, h2, h3]

end Go.Proofs.Ytkdfbbkonbgfmaa
