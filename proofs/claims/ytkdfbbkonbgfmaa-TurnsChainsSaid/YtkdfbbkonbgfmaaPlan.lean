/-
  A valid plan as a market; lists of shifts as matchings of it. Plain.
-/
import Derived.Test.YtkdfbbkonbgfmaaTurnsB
import Derived.Test.YtkdfbbkonbgfmaaMarketDA
namespace Go.Proofs.Ytkdfbbkonbgfmaa
open Mkt (upd cnt Stable Matching)

theorem rowAt_mem {xss : List (List Int)} {i : Int} (h0 : 0 ≤ i) (h1 : i < xss.length) : rowAt xss i ∈ xss := by
  have hlt : i.toNat < xss.length := by omega
  have : rowAt xss i = xss[i.toNat] := by unfold rowAt; rw [List.getD_eq_getElem?_getD, List.getElem?_eq_getElem hlt]; rfl
  rw [this]; exact List.getElem_mem hlt
theorem rowAt_out {xss : List (List Int)} {i : Int} (h : (xss.length : Int) ≤ i) : rowAt xss i = [] := by
  unfold rowAt; rw [List.getD_eq_getElem?_getD, List.getElem?_eq_none (by omega)]; rfl
theorem rowAt_ok {xss : List (List Int)} {n i : Int} (h : listsOk xss n = true) (h0 : 0 ≤ i) : rowOk n (rowAt xss i) = true := by
  by_cases h1 : i < xss.length
  · unfold listsOk at h; rw [List.all_eq_true] at h; exact h _ (rowAt_mem h0 h1)
  · rw [rowAt_out (by omega)]; rw [rowOk_iff]; simp

theorem rankP_mem {l : List Int} {x : Int} (h : x ∈ l) : rankP l x = l.idxOf x := by unfold rankP; rw [if_pos h]
theorem rankP_out {l : List Int} {x : Int} (h : x ∉ l) : rankP l x = l.length := by unfold rankP; rw [if_neg h]
theorem rankP_lt {l : List Int} {x : Int} (h : x ∈ l) : rankP l x < l.length := by
  rw [rankP_mem h]; have := List.idxOf_lt_length_of_mem h; omega
theorem rankP_nonneg (l : List Int) (x : Int) : 0 ≤ rankP l x := by unfold rankP; split <;> omega
theorem rankP_le (l : List Int) (x : Int) : rankP l x ≤ l.length := by
  by_cases h : x ∈ l
  · have := rankP_lt h; omega
  · rw [rankP_out h]; omega
theorem rankP_inj {l : List Int} {x y : Int} (hx : x ∈ l) (hy : y ∈ l) (h : rankP l x = rankP l y) : x = y := by
  rw [rankP_mem hx, rankP_mem hy] at h
  have h' : l.idxOf x = l.idxOf y := by omega
  have a := List.getElem_idxOf (List.idxOf_lt_length_of_mem hx)
  have b := List.getElem_idxOf (List.idxOf_lt_length_of_mem hy)
  rw [← a, ← b]; simp only [h']
theorem rankP_getElem {l : List Int} (hn : l.Nodup) {j : Nat} (hj : j < l.length) : rankP l l[j] = j := by
  rw [rankP_mem (List.getElem_mem hj)]
  have a := List.idxOf_lt_length_of_mem (List.getElem_mem hj)
  have b := List.getElem_idxOf a
  have := (List.getElem_inj hn).1 b
  omega
theorem rankP_lt_iff {l : List Int} {x : Int} : rankP l x < l.length ↔ x ∈ l := by
  refine ⟨fun h => ?_, rankP_lt⟩
  refine Classical.byContradiction fun hn => ?_
  rw [rankP_out hn] at h; omega

theorem hasI_iff {l : List Int} {x : Int} : hasI l x = true ↔ x ∈ l := List.contains_iff_mem
theorem possB_iff {p : PlanD} {h s : Int} : possB p h s = true ↔ s ∈ rowAt p.hands h ∧ h ∈ rowAt p.shifts s := by
  unfold possB; rw [Bool.and_eq_true, hasI_iff, hasI_iff]

structure PlanOk (p : PlanD) : Prop where
  h1 : 1 ≤ p.hands.length
  h6 : p.hands.length ≤ 6
  s1 : 1 ≤ p.shifts.length
  s4 : p.shifts.length ≤ 4
  pl : p.places.length = p.shifts.length
  pr : ∀ x ∈ p.places, 1 ≤ x ∧ x ≤ 3
  hs : listsOk p.hands p.shifts.length = true
  ss : listsOk p.shifts p.hands.length = true
theorem planOk_iff {p : PlanD} : planOk p = true ↔ PlanOk p := by
  unfold planOk
  rw [Bool.and_eq_true, Bool.and_eq_true, decide_eq_true_iff]
  constructor
  · rintro ⟨⟨⟨a, b, c, d, e, f⟩, g⟩, h⟩; exact ⟨a, b, c, d, e, f, g, h⟩
  · rintro ⟨a, b, c, d, e, f, g, h⟩; exact ⟨⟨⟨a, b, c, d, e, f⟩, g⟩, h⟩

theorem PlanOk.row {p : PlanD} (hp : PlanOk p) {h : Int} (h0 : 0 ≤ h) : (∀ x ∈ rowAt p.hands h, 0 ≤ x ∧ x < p.shifts.length) ∧ (rowAt p.hands h).Nodup := rowOk_iff.1 (rowAt_ok hp.hs h0)
theorem PlanOk.col {p : PlanD} (hp : PlanOk p) {s : Int} (s0 : 0 ≤ s) : (∀ x ∈ rowAt p.shifts s, 0 ≤ x ∧ x < p.hands.length) ∧ (rowAt p.shifts s).Nodup := rowOk_iff.1 (rowAt_ok hp.ss s0)

/-- The market of a valid plan. -/
def mkt (p : PlanD) (hp : PlanOk p) : Mkt.Mk where
  n := p.hands.length
  S := p.shifts.length
  q s := (intAt p.places s).toNat
  pos h s := possB p h s = true
  r h s := rankP (rowAt p.hands h) s
  k s h := rankP (rowAt p.shifts s) h
  pos_lo h s ps := ((hp.row (h := h) (by omega)).1 s (possB_iff.1 ps).1).1
  pos_hi h s ps := ((hp.row (h := h) (by omega)).1 s (possB_iff.1 ps).1).2
  r_none h s ps := by
    have hm := (possB_iff.1 ps).1
    have hno : (-1 : Int) ∉ rowAt p.hands h := fun hm => by have := ((hp.row (h := h) (by omega)).1 _ hm).1; omega
    rw [rankP_out hno]; exact rankP_lt hm
  r_inj h s t ps pt e := rankP_inj (possB_iff.1 ps).1 (possB_iff.1 pt).1 e
  k_inj s h x ps px e := by
    have := rankP_inj (possB_iff.1 ps).2 (possB_iff.1 px).2 e
    omega

/-- A list of shifts as a matching. -/
def fn (m : List Int) (h : Nat) : Int := intAt m h

theorem fn_get {m : List Int} {h : Nat} (hh : h < m.length) : fn m h = m[h] := by
  unfold fn intAt; rw [Int.toNat_natCast, List.getD_eq_getElem?_getD, List.getElem?_eq_getElem hh]; rfl
theorem fn_out {m : List Int} {h : Nat} (hh : m.length ≤ h) : fn m h = -2 := by
  unfold fn intAt; rw [Int.toNat_natCast, List.getD_eq_getElem?_getD, List.getElem?_eq_none hh]; rfl
theorem fn_set {m : List Int} {h : Nat} (hh : h < m.length) (v : Int) : fn (m.set h v) = upd (fn m) h v := by
  funext x
  by_cases e : x = h
  · subst e; rw [Mkt.upd_same, fn_get (by simpa using hh)]; simp
  · rw [Mkt.upd_other _ _ _ e]
    by_cases hx : x < m.length
    · rw [fn_get (by simpa using hx), fn_get hx, List.getElem_set_ne (fun h => e h.symm)]
    · rw [fn_out (by simpa using hx), fn_out (by omega)]
theorem fn_ext {a b : List Int} (hl : a.length = b.length) (h : ∀ x, x < a.length → fn a x = fn b x) : a = b := by
  apply List.ext_getElem hl
  intro i h1 h2
  have := h i h1
  rwa [fn_get h1, fn_get h2] at this

theorem planPlaces {p : PlanD} (hp : PlanOk p) {s : Int} (s0 : 0 ≤ s) (s1 : s < p.shifts.length) : 1 ≤ intAt p.places s ∧ intAt p.places s ≤ 3 := by
  have hlt : s.toNat < p.places.length := by have := hp.pl; omega
  have : intAt p.places s = p.places[s.toNat] := by unfold intAt; rw [List.getD_eq_getElem?_getD, List.getElem?_eq_getElem hlt]; rfl
  rw [this]; exact hp.pr _ (List.getElem_mem hlt)

theorem countP_filterL {P : Int → Bool} : ∀ (l : List Int) (n : Nat), l.Nodup → (∀ x ∈ l, 0 ≤ x ∧ x < n) → l.countP P = (List.range n).countP (fun x : Nat => P x && l.contains (x : Int))
  | [], n, _, _ => by simp
  | a :: l, n, hn, hr => by
    rw [List.nodup_cons] at hn
    have ih := countP_filterL (P := P) l n hn.2 (fun x hx => hr x (List.mem_cons_of_mem _ hx))
    have ha := hr a (List.mem_cons_self ..)
    rw [List.countP_cons, ih]
    -- a's own place in the range counts once more
    have key : ∀ m : List Nat, m.Nodup → m.countP (fun x : Nat => P x && (a :: l).contains (x : Int)) = m.countP (fun x : Nat => P x && l.contains (x : Int)) + (if a.toNat ∈ m then (if P a then 1 else 0) else 0) := by
      intro m
      induction m with
      | nil => intro _; simp
      | cons y m ihm =>
        intro hnd
        rw [List.nodup_cons] at hnd
        rw [List.countP_cons, List.countP_cons, ihm hnd.2]
        by_cases e : y = a.toNat
        · have ey : (y : Int) = a := by omega
          have hno : l.contains (y : Int) = false := by rw [ey]; simpa using hn.1
          have hya : a.toNat ∉ m := e ▸ hnd.1
          rw [hno, ey]; simp [hya, e]
        · have ey : ¬ (y : Int) = a := by omega
          have : ((a :: l).contains (y : Int)) = l.contains (y : Int) := by simp [ey]
          rw [this]
          have : (a.toNat ∈ y :: m) ↔ a.toNat ∈ m := by simp; omega
          simp only [this]; omega
    rw [key _ List.nodup_range, if_pos (List.mem_range.2 (by omega))]

/-- As many hands as a shift's own list shows. -/
theorem hands_cnt {p : PlanD} (hp : PlanOk p) {m : List Int} {s : Int} (s0 : 0 ≤ s) (hm : ∀ h, h < p.hands.length → fn m h = s → (h : Int) ∈ rowAt p.shifts s) :
    (handsI (rowAt p.shifts s) m s).length = cnt (mkt p hp) (fn m) s := by
  unfold handsI
  rw [← List.countP_eq_length_filter, countP_filterL _ p.hands.length (hp.col s0).2 (fun x hx => (hp.col s0).1 x hx)]
  unfold cnt Mkt.cntL
  apply List.countP_congr
  intro x hx
  have hx' : x < p.hands.length := List.mem_range.1 hx
  have e : intAt m x = fn m x := rfl
  constructor
  · intro h; rw [Bool.and_eq_true] at h; simpa [e] using h.1
  · intro h
    rw [decide_eq_true_iff] at h
    rw [Bool.and_eq_true]
    exact ⟨by simpa [e] using h, List.contains_iff_mem.2 (hm x hx' h)⟩

theorem row_pairwise {l : List Int} (hn : l.Nodup) : l.Pairwise (fun a b => rankP l a < rankP l b) := by
  rw [List.pairwise_iff_getElem]
  intro i j hi hj hij
  rw [rankP_getElem hn hi, rankP_getElem hn hj]; omega
theorem last_max {l : List Int} {R : Int → Int → Prop} (hp : l.Pairwise R) (hne : l ≠ []) : ∀ x ∈ l, x = l.getLast hne ∨ R x (l.getLast hne) := by
  intro x hx
  obtain ⟨i, hi, rfl⟩ := List.getElem_of_mem hx
  rw [List.getLast_eq_getElem]
  rw [List.pairwise_iff_getElem] at hp
  by_cases e : i = l.length - 1
  · left; simp only [e]
  · right; exact hp i (l.length - 1) hi (by omega) (by omega)

/-- The best stable matching for the hands, as a list. -/
structure IsFirst (p : PlanD) (hp : PlanOk p) (m : List Int) : Prop where
  len : m.length = p.hands.length
  st : Stable (mkt p hp) (fn m)
  best : ∀ μ, Stable (mkt p hp) μ → ∀ h, h < p.hands.length → (mkt p hp).r h (fn m h) ≤ (mkt p hp).r h (μ h)
/-- The worst one. -/
structure IsLast (p : PlanD) (hp : PlanOk p) (m : List Int) : Prop where
  len : m.length = p.hands.length
  st : Stable (mkt p hp) (fn m)
  worst : ∀ μ, Stable (mkt p hp) μ → ∀ h, h < p.hands.length → (mkt p hp).r h (μ h) ≤ (mkt p hp).r h (fn m h)

theorem list_eq_of {p : PlanD} {hp : PlanOk p} {a b : List Int} (ha : a.length = p.hands.length) (hb : b.length = p.hands.length) (sa : Stable (mkt p hp) (fn a)) (sb : Stable (mkt p hp) (fn b))
    (h : ∀ x, x < p.hands.length → (mkt p hp).r x (fn a x) = (mkt p hp).r x (fn b x)) : a = b :=
  fn_ext (by omega) (fun x hx => Mkt.Matching.inj sa.m.ok sb.m.ok (show x < p.hands.length by omega) (h x (by omega)))
theorem IsFirst.unique {p : PlanD} {hp : PlanOk p} {a b : List Int} (ha : IsFirst p hp a) (hb : IsFirst p hp b) : a = b :=
  list_eq_of ha.len hb.len ha.st hb.st (fun x hx => by have := ha.best _ hb.st x hx; have := hb.best _ ha.st x hx; omega)
theorem IsLast.unique {p : PlanD} {hp : PlanOk p} {a b : List Int} (ha : IsLast p hp a) (hb : IsLast p hp b) : a = b :=
  list_eq_of ha.len hb.len ha.st hb.st (fun x hx => by have := ha.worst _ hb.st x hx; have := hb.worst _ ha.st x hx; omega)

end Go.Proofs.Ytkdfbbkonbgfmaa
