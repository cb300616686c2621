/-
  Texts of this claim, part 1: SnInsPlain, SnKrPlain, SnKruskal, SnForest, SnBestPlain.
-/
import Derived.Test.YtkbkgkmogbkabaaDoorK6
import Derived.Test.YtkbkgkmogbkabaaDoorK4
import Derived.Test.YtkbkgkmogbkabaaDoorK12
/-
  The roads' indices by cost and index: what an insertion sort keeps, in plain Lean.
-/
namespace Go.Proofs.YtkbkgkmogbkabaaDoor
open Go.RowKit

def costAt (rs : List RoadD) (x : Int) : Int := (roadAt rs x.toNat).cost
/-- The cheaper one first, of equal ones the one with the less index. -/
def ltC (rs : List RoadD) (x y : Int) : Prop := costAt rs x < costAt rs y ∨ (costAt rs x = costAt rs y ∧ x < y)
theorem ltC.trans {rs : List RoadD} {x y z : Int} (h : ltC rs x y) (k : ltC rs y z) : ltC rs x z := by
  unfold ltC at *
  omega
theorem ltC.irr {rs : List RoadD} {x : Int} (h : ltC rs x x) : False := by
  unfold ltC at h
  omega

structure OutS (rs : List RoadD) (n i : Nat) (f : Nat → Int) : Prop where
  rng : ∀ k, k < n → 0 ≤ f k ∧ f k < n
  sur : ∀ v : Nat, v < n → ∃ k, k < n ∧ f k = v
  srt : ∀ a b, a < b → b < i → ltC rs (f a) (f b)
  sfx : ∀ k, i ≤ k → k < n → f k = k
  pre : ∀ k, k < i → f k < i
structure InS (rs : List RoadD) (n i j : Nat) (f : Nat → Int) : Prop where
  rng : ∀ k, k < n → 0 ≤ f k ∧ f k < n
  sur : ∀ v : Nat, v < n → ∃ k, k < n ∧ f k = v
  hit : f j = i
  srt : ∀ a b, a < b → b ≤ i → a ≠ j → b ≠ j → ltC rs (f a) (f b)
  gt : ∀ b, j < b → b ≤ i → ltC rs i (f b)
  sfx : ∀ k, i < k → k < n → f k = k
  pre : ∀ k, k ≤ i → k ≠ j → f k < i
variable {rs : List RoadD} {n i j : Nat} {f : Nat → Int}
theorem OutS.start : OutS rs n 0 (fun k => (k : Int)) :=
  ⟨fun k hk => by omega, fun v hv => ⟨v, hv, rfl⟩, fun a b _ h => by omega, fun k _ _ => rfl, fun k h => by omega⟩
theorem OutS.start1 (h : OutS rs n 0 f) (hn : 0 < n) : OutS rs n 1 f :=
  ⟨h.rng, h.sur, fun a b _ _ => by omega, fun k hk hn => h.sfx k (by omega) hn, fun k hk => by
    have e : k = 0 := by omega
    subst e
    rw [h.sfx 0 (by omega) hn]; omega⟩
theorem OutS.inner (h : OutS rs n i f) (hi : i < n) : InS rs n i i f :=
  ⟨h.rng, h.sur, h.sfx i (Nat.le_refl _) hi, fun a b hab hb _ hne => h.srt a b hab (by omega), fun b h1 h2 => by omega, fun k hk hn => h.sfx k (by omega) hn, fun k hk hne => h.pre k (by omega)⟩
theorem InS.swap (h : InS rs n i j f) (hi : i < n) (hji : j ≤ i) (hj : 0 < j) (hc : costAt rs i < costAt rs (f (j - 1))) : InS rs n i (j - 1) (updF (updF f j (f (j - 1))) (j - 1) (f j)) := by
  have e1 : updF (updF f j (f (j - 1))) (j - 1) (f j) (j - 1) = f j := by unfold updF; rw [if_pos rfl]
  have e2 : updF (updF f j (f (j - 1))) (j - 1) (f j) j = f (j - 1) := by unfold updF; rw [if_neg (by omega), if_pos rfl]
  have e3 : ∀ k, k ≠ j → k ≠ j - 1 → updF (updF f j (f (j - 1))) (j - 1) (f j) k = f k := fun k h1 h2 => by unfold updF; rw [if_neg h2, if_neg h1]
  have old : ∀ k, k ≠ j - 1 → ∃ k', updF (updF f j (f (j - 1))) (j - 1) (f j) k = f k' ∧ (k = j → k' = j - 1) ∧ (k ≠ j → k' = k) := fun k hk => by
    by_cases e : k = j
    · subst e; exact ⟨k - 1, e2, fun _ => rfl, fun h => absurd rfl h⟩
    · exact ⟨k, e3 k e hk, fun h => absurd h e, fun _ => rfl⟩
  refine ⟨fun k hk => ?_, fun v hv => ?_, by rw [e1]; exact h.hit, fun a b hab hb ha hb2 => ?_, fun b h1 h2 => ?_, fun k hk hkn => ?_, fun k hk hne => ?_⟩
  · by_cases e : k = j - 1
    · subst e; rw [e1]; exact h.rng j (by omega)
    · obtain ⟨k', h1, h2, h3⟩ := old k e
      rw [h1]
      refine h.rng k' ?_
      by_cases e4 : k = j
      · rw [h2 e4]; omega
      · rw [h3 e4]; omega
  · obtain ⟨k, hk, hfk⟩ := h.sur v hv
    by_cases e : k = j
    · subst e; exact ⟨k - 1, by omega, by rw [e1]; exact hfk⟩
    · by_cases e' : k = j - 1
      · subst e'; exact ⟨j, by omega, by rw [e2]; exact hfk⟩
      · exact ⟨k, hk, by rw [e3 k e e']; exact hfk⟩
  · obtain ⟨a', a1, a2, a3⟩ := old a ha
    obtain ⟨b', b1, b2, b3⟩ := old b hb2
    rw [a1, b1]
    by_cases ea : a = j
    · have := a2 ea
      by_cases eb : b = j
      · omega
      · have := b3 eb
        exact h.srt a' b' (by omega) (by omega) (by omega) (by omega)
    · have := a3 ea
      by_cases eb : b = j
      · have := b2 eb
        exact h.srt a' b' (by omega) (by omega) (by omega) (by omega)
      · have := b3 eb
        exact h.srt a' b' (by omega) (by omega) (by omega) (by omega)
  · by_cases e : b = j
    · subst e; rw [e2]; exact .inl hc
    · rw [e3 b e (by omega)]; exact h.gt b (by omega) h2
  · rw [e3 k (by omega) (by omega)]; exact h.sfx k hk hkn
  · by_cases e : k = j
    · subst e; rw [e2]; exact h.pre (k - 1) (by omega) (by omega)
    · rw [e3 k e hne]; exact h.pre k hk e
theorem InS.stop (h : InS rs n i j f) (hji : j ≤ i) (hc : j = 0 ∨ ¬ costAt rs i < costAt rs (f (j - 1))) : OutS rs n (i + 1) f := by
  have low : ∀ a, a < j → ltC rs (f a) i := by
    intro a ha
    have h1 := h.pre a (by omega) (by omega)
    rcases hc with hc | hc
    · omega
    · by_cases e : a = j - 1
      · subst e
        unfold ltC
        omega
      · have h2 := h.srt a (j - 1) (by omega) (by omega) (by omega) (by omega)
        unfold ltC at h2 ⊢
        omega
  refine ⟨h.rng, h.sur, fun a b hab hb => ?_, fun k hk hn => h.sfx k (by omega) hn, fun k hk => ?_⟩
  · by_cases ea : a = j
    · subst ea; rw [h.hit]; exact h.gt b hab (by omega)
    · by_cases eb : b = j
      · subst eb; rw [h.hit]; exact low a hab
      · exact h.srt a b hab (by omega) ea eb
  · by_cases e : k = j
    · subst e; rw [h.hit]; omega
    · have := h.pre k (by omega) e; omega

end Go.Proofs.YtkbkgkmogbkabaaDoor

/-
  The cheapest roads first give the best tree, in plain Lean.
-/
namespace Go.Proofs.YtkbkgkmogbkabaaDoor
open Go.RowKit

theorem pairwise_same : ∀ (a b : List Int), a.Pairwise (· < ·) → b.Pairwise (· < ·) → (∀ x, x ∈ a ↔ x ∈ b) → a = b
  | [], [], _, _, _ => rfl
  | [], y :: b, _, _, h => absurd ((h y).2 (List.mem_cons_self ..)) (by simp)
  | x :: a, [], _, _, h => absurd ((h x).1 (List.mem_cons_self ..)) (by simp)
  | x :: a, y :: b, ha, hb, h => by
    rw [List.pairwise_cons] at ha hb
    have hxy : x = y := by
      rcases List.mem_cons.1 ((h x).1 (List.mem_cons_self ..)) with e | e
      · exact e
      · have h1 := hb.1 x e
        rcases List.mem_cons.1 ((h y).2 (List.mem_cons_self ..)) with g | g
        · exact g.symm
        · have := ha.1 y g; omega
    subst hxy
    congr 1
    refine pairwise_same a b ha.2 hb.2 (fun z => ?_)
    constructor
    · intro hz
      rcases List.mem_cons.1 ((h z).1 (List.mem_cons_of_mem _ hz)) with e | e
      · have := ha.1 z hz; omega
      · exact e
    · intro hz
      rcases List.mem_cons.1 ((h z).2 (List.mem_cons_of_mem _ hz)) with e | e
      · have := hb.1 z hz; omega
      · exact e
theorem incr_pairwise {rs : List RoadD} {l : List Int} (h : ∀ k, k < l.length → okAt rs l k) : l.Pairwise (· < ·) := by
  rw [List.pairwise_iff_getElem]
  intro i j hi hj hij
  have key : ∀ d, i + (d + 1) < l.length → fn l i < fn l (i + (d + 1)) := by
    intro d
    induction d with
    | zero =>
      intro hd
      have := (h (i + 1) hd).1.2.2 (by omega)
      rwa [Nat.add_sub_cancel] at this
    | succ d ih =>
      intro hd
      have h1 := ih (by omega)
      have h2 := (h (i + (d + 1 + 1)) hd).1.2.2 (by omega)
      rw [show i + (d + 1 + 1) - 1 = i + (d + 1) by omega] at h2
      omega
  have := key (j - i - 1) (by omega)
  rw [show i + (j - i - 1 + 1) = j by omega] at this
  rwa [fn_get hi, fn_get hj] at this
/-- A tree is the list of its indices, rising. -/
theorem tree_sel {rs : List RoadD} {s : Nat} {l : List Int} (h : treeP rs s l) : l = sel rs.length (fun i => decide ((i : Int) ∈ l)) := by
  refine pairwise_same _ _ (incr_pairwise h.1) (sel_lt _ _) (fun x => ?_)
  rw [sel_mem]
  constructor
  · intro hx
    obtain ⟨k, hk, rfl⟩ := List.getElem_of_mem hx
    have := (h.1 k hk).1
    rw [fn_get hk] at this
    obtain ⟨m, hm⟩ := Int.eq_ofNat_of_zero_le this.1
    exact ⟨m, by omega, by rw [← hm]; exact decide_eq_true hx, hm⟩
  · rintro ⟨i, -, h2, rfl⟩
    exact of_decide_eq_true h2

/-- The roads that are chosen. -/
def roadsP (rs : List RoadD) (P : Nat → Bool) : List RoadD := edges rs (sel rs.length P)
theorem roadsP_mem {rs : List RoadD} {P : Nat → Bool} {r : RoadD} : r ∈ roadsP rs P ↔ ∃ i, i < rs.length ∧ P i = true ∧ roadAt rs i = r := sel_edge
def addP (P : Nat → Bool) (j : Nat) : Nat → Bool := fun i => P i || (i == j)
/-- A tree for all stops, as a choice: each of its roads is a bridge, and all stops are connected. -/
structure Span (rs : List RoadD) (N : Nat) (P : Nat → Bool) : Prop where
  all : ∀ x y, x < N → y < N → Conn (roadsP rs P) x y
  br : ∀ j, j < rs.length → P j = true → ¬ Conn (roadsP rs (dropP P j)) (roadAt rs j).a.toNat (roadAt rs j).b.toNat

theorem conn_add {rs : List RoadD} {P : Nat → Bool} {j : Nat} (hj : j < rs.length) {a b : Nat} : Conn (roadsP rs (addP P j)) a b ↔ Conn (roadsP rs P ++ [roadAt rs j]) a b := by
  refine conn_congr (fun r => ?_)
  rw [roadsP_mem, List.mem_append, roadsP_mem, List.mem_singleton]
  constructor
  · rintro ⟨i, h1, h2, rfl⟩
    unfold addP at h2
    rw [Bool.or_eq_true, beq_iff_eq] at h2
    rcases h2 with h2 | rfl
    · exact .inl ⟨i, h1, h2, rfl⟩
    · exact .inr rfl
  · rintro (⟨i, h1, h2, rfl⟩ | rfl)
    · exact ⟨i, h1, by unfold addP; rw [h2]; rfl, rfl⟩
    · exact ⟨j, hj, by unfold addP; simp, rfl⟩
theorem conn_split {rs : List RoadD} {P : Nat → Bool} {j : Nat} (hj : j < rs.length) (hP : P j = true) {a b : Nat} : Conn (roadsP rs P) a b ↔ Conn (roadsP rs (dropP P j) ++ [roadAt rs j]) a b := by
  rw [← conn_add hj]
  have e : addP (dropP P j) j = P := by
    funext i
    show (P i && !(i == j) || (i == j)) = P i
    by_cases e : i = j
    · have g : (i == j) = true := beq_iff_eq.2 e
      rw [g, e, hP]; rfl
    · have g : (i == j) = false := beq_eq_false_iff_ne.2 e
      rw [g]; cases P i <;> rfl
  rw [e]
theorem roadsP_mono {rs : List RoadD} {P Q : Nat → Bool} (h : ∀ i, i < rs.length → P i = true → Q i = true) {a b : Nat} (hc : Conn (roadsP rs P) a b) : Conn (roadsP rs Q) a b :=
  hc.mono (fun r hr => by
    obtain ⟨i, h1, h2, h3⟩ := roadsP_mem.1 hr
    exact roadsP_mem.2 ⟨i, h1, h i h1 h2, h3⟩)
/-- A way that must leave a part uses a road of its border. -/
theorem cross {E F : List RoadD} {a b : Nat} (h : Conn E a b) (hn : ¬ Conn F a b) : ∃ r ∈ E, ¬ Conn F r.a.toNat r.b.toNat := by
  induction h with
  | refl => exact absurd .refl hn
  | @step b c h1 e ih =>
    by_cases g : Conn F a b
    · obtain ⟨r, hr, hh⟩ := e
      refine ⟨r, hr, fun k => hn (g.trans ?_)⟩
      rcases hh with ⟨rfl, rfl⟩ | ⟨rfl, rfl⟩
      · exact k
      · exact k.symm
    · exact ih g
/-- Of roads that connect two stops a least choice. -/
theorem least_choice {rs : List RoadD} {P : Nat → Bool} {a b : Nat} (h : Conn (roadsP rs P) a b) :
    ∃ Q : Nat → Bool, (∀ i, Q i = true → P i = true) ∧ Conn (roadsP rs Q) a b ∧ ∀ j, j < rs.length → Q j = true → ¬ Conn (roadsP rs (dropP Q j)) a b := by
  obtain ⟨Q, ⟨h1, h2⟩, hm⟩ := least_ex (fun Q : Nat → Bool => (∀ i, Q i = true → P i = true) ∧ Conn (roadsP rs Q) a b) (fun Q => ((sel rs.length Q).length : Int)) (fun Q _ => by show (0 : Int) ≤ ((sel rs.length Q).length : Int); omega) ⟨P, fun _ h => h, h⟩
  refine ⟨Q, h1, h2, fun j hj hQ hc => ?_⟩
  have h3 := hm (dropP Q j) ⟨fun i hi => h1 i (by unfold dropP at hi; rw [Bool.and_eq_true] at hi; exact hi.1), hc⟩
  have h4 : ∀ n, ((sel n (dropP Q j)).length : Int) + (if j < n then 1 else 0) = (sel n Q).length := by
    intro n
    induction n with
    | zero => simp [sel]
    | succ n ih =>
      rw [sel_succ, sel_succ, List.length_append, List.length_append]
      by_cases e : n = j
      · subst e
        have d : dropP Q n n = false := by unfold dropP; simp
        rw [d, hQ]
        rw [if_neg (show ¬ n < n by omega)] at ih
        rw [if_pos (show n < n + 1 by omega)]
        simp
        omega
      · have d : dropP Q j n = Q n := by unfold dropP; simp [e]
        rw [d]
        have e2 : (j < n + 1) ↔ (j < n) := by omega
        simp only [e2]
        omega
  have h5 := h4 rs.length
  rw [if_pos hj] at h5
  omega
/-- A road for a dearer one: again a tree for all stops. -/
theorem Span.swap {rs : List RoadD} {N : Nat} {P : Nat → Bool} (h : Span rs N P) (hok : ∀ r ∈ rs, roadOk N r = true) {i : Nat} (hi : i < rs.length) (hPi : ¬ P i = true) {R : Nat → Bool} (hR : ¬ Conn (roadsP rs R) (roadAt rs i).a.toNat (roadAt rs i).b.toNat) :
    ∃ j, j < rs.length ∧ P j = true ∧ ¬ R j = true ∧ Span rs N (addP (dropP P j) i) := by
  obtain ⟨p1, p2, p3, p4, -, -, -⟩ := roadOk_iff.1 (hok _ (roadAt_mem hi))
  obtain ⟨Q, q1, q2, q3⟩ := least_choice (h.all (roadAt rs i).a.toNat (roadAt rs i).b.toNat (by omega) (by omega))
  obtain ⟨r, hr, hn⟩ := cross q2 hR
  obtain ⟨j, j1, j2, rfl⟩ := roadsP_mem.1 hr
  have hPj := q1 j j2
  have hij : i ≠ j := fun e => hPi (by rw [e]; exact hPj)
  have hRj : ¬ R j = true := fun g => hn (Conn.step .refl ⟨_, roadsP_mem.2 ⟨j, j1, g, rfl⟩, .inl ⟨rfl, rfl⟩⟩)
  have sub : ∀ k, dropP Q j k = true → dropP P j k = true := fun k hk => by
    unfold dropP at hk ⊢
    rw [Bool.and_eq_true] at hk ⊢
    exact ⟨q1 k hk.1, hk.2⟩
  -- the ends of i and j in what is left of Q
  have hends : (Conn (roadsP rs (dropP P j)) (roadAt rs i).a.toNat (roadAt rs j).a.toNat ∧ Conn (roadsP rs (dropP P j)) (roadAt rs i).b.toNat (roadAt rs j).b.toNat) ∨ (Conn (roadsP rs (dropP P j)) (roadAt rs i).a.toNat (roadAt rs j).b.toNat ∧ Conn (roadsP rs (dropP P j)) (roadAt rs i).b.toNat (roadAt rs j).a.toNat) := by
    have h1 := (conn_split j1 j2).1 q2
    have up : ∀ {a b : Nat}, Conn (roadsP rs (dropP Q j)) a b → Conn (roadsP rs (dropP P j)) a b := fun h => roadsP_mono (fun k _ hk => sub k hk) h
    rcases conn_push.1 h1 with g | ⟨g1, g2⟩
    · exact absurd g (q3 j j1 j2)
    · rcases g1 with g1 | g1 <;> rcases g2 with g2 | g2
      · exact absurd (g1.trans g2.symm) (q3 j j1 j2)
      · exact .inl ⟨up g1, up g2⟩
      · exact .inr ⟨up g1, up g2⟩
      · exact absurd (g1.trans g2.symm) (q3 j j1 j2)
  have hnij : ¬ Conn (roadsP rs (dropP P j)) (roadAt rs i).a.toNat (roadAt rs i).b.toNat := by
    intro g
    refine h.br j j1 hPj ?_
    rcases hends with ⟨a, b⟩ | ⟨a, b⟩
    · exact (a.symm.trans g).trans b
    · exact (b.symm.trans g.symm).trans a
  refine ⟨j, j1, hPj, hRj, ⟨fun x y hx hy => ?_, fun k hk hkP hc => ?_⟩⟩
  · refine conn_drop (fun r hr => ?_) (h.all x y hx hy)
    obtain ⟨m, m1, m2, rfl⟩ := roadsP_mem.1 hr
    by_cases e : m = j
    · subst e
      right
      have k1 : ∀ {a b : Nat}, Conn (roadsP rs (dropP P m)) a b → Conn (roadsP rs (addP (dropP P m) i)) a b := fun h => roadsP_mono (fun k _ hk => by unfold addP; rw [hk]; rfl) h
      have k2 : Conn (roadsP rs (addP (dropP P m) i)) (roadAt rs i).a.toNat (roadAt rs i).b.toNat := Conn.step .refl ⟨_, roadsP_mem.2 ⟨i, hi, by unfold addP; simp, rfl⟩, .inl ⟨rfl, rfl⟩⟩
      rcases hends with ⟨a, b⟩ | ⟨a, b⟩
      · exact ((k1 a).symm.trans k2).trans (k1 b)
      · exact ((k1 b).symm.trans k2.symm).trans (k1 a)
    · left
      exact roadsP_mem.2 ⟨m, m1, by unfold addP dropP; simp [m2, e], rfl⟩
  · by_cases e : k = i
    · subst e
      refine hnij (roadsP_mono (fun m _ hm => ?_) hc)
      unfold dropP addP at hm
      unfold dropP
      simp only [Bool.and_eq_true, Bool.or_eq_true, Bool.not_eq_true', beq_eq_false_iff_ne, beq_iff_eq] at hm ⊢
      rcases hm with ⟨h1 | h1, h2⟩
      · exact h1
      · exact absurd h1 h2
    · have hkP2 : P k = true ∧ k ≠ j := by
        unfold addP dropP at hkP
        simp only [Bool.and_eq_true, Bool.or_eq_true, Bool.not_eq_true', beq_eq_false_iff_ne, beq_iff_eq] at hkP
        rcases hkP with h1 | h1
        · exact h1
        · exact absurd h1 e
      -- without k: what is left of P, and i
      have hc2 : Conn (roadsP rs (dropP (dropP P j) k) ++ [roadAt rs i]) (roadAt rs k).a.toNat (roadAt rs k).b.toNat := by
        rw [← conn_add hi]
        refine roadsP_mono (fun m _ hm => ?_) hc
        unfold dropP addP at hm ⊢
        simp only [Bool.and_eq_true, Bool.or_eq_true, Bool.not_eq_true', beq_eq_false_iff_ne, beq_iff_eq] at hm ⊢
        rcases hm with ⟨h1 | h1, h2⟩
        · exact .inl ⟨h1, h2⟩
        · exact .inr h1
      have low : ∀ {a b : Nat}, Conn (roadsP rs (dropP (dropP P j) k)) a b → Conn (roadsP rs (dropP P j)) a b := fun h => roadsP_mono (fun m _ hm => by unfold dropP at hm ⊢; simp only [Bool.and_eq_true] at hm ⊢; exact hm.1) h
      have low2 : ∀ {a b : Nat}, Conn (roadsP rs (dropP (dropP P j) k)) a b → Conn (roadsP rs (dropP P k)) a b := fun h => roadsP_mono (fun m _ hm => by unfold dropP at hm ⊢; simp only [Bool.and_eq_true] at hm ⊢; exact ⟨hm.1.1, hm.2⟩) h
      have hkc : Conn (roadsP rs (dropP P j)) (roadAt rs k).a.toNat (roadAt rs k).b.toNat := Conn.step .refl ⟨_, roadsP_mem.2 ⟨k, hk, by unfold dropP; simp [hkP2.1, hkP2.2], rfl⟩, .inl ⟨rfl, rfl⟩⟩
      rcases conn_push.1 hc2 with g | ⟨g1, g2⟩
      · exact h.br k hk hkP2.1 (low2 g)
      · rcases g1 with g1 | g1 <;> rcases g2 with g2 | g2
        · exact h.br k hk hkP2.1 (low2 (g1.trans g2.symm))
        · exact hnij ((low g1).symm.trans (hkc.trans (low g2)))
        · exact hnij (((low g1).symm.trans (hkc.trans (low g2))).symm)
        · exact h.br k hk hkP2.1 (low2 (g1.trans g2.symm))

end Go.Proofs.YtkbkgkmogbkabaaDoor

/-
  The cheapest roads first, of equal ones those with the least index: the best tree for all stops. Plain Lean.
-/
namespace Go.Proofs.YtkbkgkmogbkabaaDoor
open Go.RowKit

/-- In order, no road closes a cycle. -/
def Forest (rs : List RoadD) (l : List Int) : Prop := ∀ k, k < l.length → ¬ Conn (edges rs (l.take k)) (roadAt rs (fn l k).toNat).a.toNat (roadAt rs (fn l k).toNat).b.toNat
def inP (l : List Int) : Nat → Bool := fun i => decide ((i : Int) ∈ l)
theorem inP_iff {l : List Int} {i : Nat} : inP l i = true ↔ (i : Int) ∈ l := by unfold inP; rw [decide_eq_true_iff]
def Valid (rs : List RoadD) (l : List Int) : Prop := ∀ x ∈ l, 0 ≤ x ∧ x < rs.length
theorem edges_inP {rs : List RoadD} {l : List Int} (hv : Valid rs l) {r : RoadD} : r ∈ edges rs l ↔ r ∈ roadsP rs (inP l) := by
  rw [edges_mem, roadsP_mem]
  constructor
  · rintro ⟨x, hx, rfl⟩
    obtain ⟨h1, h2⟩ := hv x hx
    obtain ⟨m, rfl⟩ := Int.eq_ofNat_of_zero_le h1
    exact ⟨m, by omega, inP_iff.2 hx, rfl⟩
  · rintro ⟨i, h1, h2, rfl⟩
    exact ⟨i, inP_iff.1 h2, rfl⟩
theorem conn_inP {rs : List RoadD} {l : List Int} (hv : Valid rs l) {a b : Nat} : Conn (edges rs l) a b ↔ Conn (roadsP rs (inP l)) a b := conn_congr (fun _ => edges_inP hv)
theorem fn_last (l : List Int) (x : Int) : fn (l ++ [x]) l.length = x := by rw [fn_get (by simp)]; simp
theorem fn_left {l m : List Int} {k : Nat} (h : k < l.length) : fn (l ++ m) k = fn l k := by rw [fn_get (by simp; omega), fn_get h, List.getElem_append_left h]
theorem Forest.push {rs : List RoadD} {l : List Int} {x : Int} (h : Forest rs l) (hx : ¬ Conn (edges rs l) (roadAt rs x.toNat).a.toNat (roadAt rs x.toNat).b.toNat) : Forest rs (l ++ [x]) := by
  intro k hk
  rw [List.length_append, List.length_singleton] at hk
  by_cases e : k = l.length
  · subst e
    rw [fn_last, List.take_left' rfl]
    exact hx
  · rw [fn_left (by omega), List.take_append_of_le_length (by omega)]
    exact h k (by omega)
theorem Forest.init {rs : List RoadD} {l : List Int} {x : Int} (h : Forest rs (l ++ [x])) : Forest rs l ∧ ¬ Conn (edges rs l) (roadAt rs x.toNat).a.toNat (roadAt rs x.toNat).b.toNat := by
  constructor
  · intro k hk
    have := h k (by simp; omega)
    rwa [fn_left hk, List.take_append_of_le_length (by omega)] at this
  · have := h l.length (by simp)
    rwa [fn_last, List.take_left' rfl] at this
/-- Each road of a forest is a bridge. -/
theorem forest_br {rs : List RoadD} : ∀ (n : Nat) (l : List Int), l.length = n → Valid rs l → Forest rs l → ∀ j, j < rs.length → inP l j = true → ¬ Conn (roadsP rs (dropP (inP l) j)) (roadAt rs j).a.toNat (roadAt rs j).b.toNat
  | 0, l, hl, _, _, j, _, hj => by
    have e := List.eq_nil_of_length_eq_zero hl
    subst e
    simp [inP] at hj
  | n + 1, l, hl, hv, hf, j, hjn, hj => by
    obtain ⟨l', x, rfl⟩ : ∃ l' x, l = l' ++ [x] := by
      have hne : l ≠ [] := by intro e; subst e; simp at hl
      exact ⟨l.dropLast, l.getLast hne, (List.dropLast_concat_getLast hne).symm⟩
    obtain ⟨f1, f2⟩ := hf.init
    have hv' : Valid rs l' := fun y hy => hv y (List.mem_append_left _ hy)
    obtain ⟨x0, x1⟩ := hv x (by simp)
    obtain ⟨i, rfl⟩ := Int.eq_ofNat_of_zero_le x0
    have hi : i < rs.length := by omega
    rw [Int.toNat_natCast, conn_inP hv'] at f2
    have ih := forest_br n l' (by simpa using hl) hv' f1
    by_cases e : j = i
    · subst e
      intro hc
      refine f2 (roadsP_mono (fun k _ hk => ?_) hc)
      unfold dropP at hk
      rw [Bool.and_eq_true, Bool.not_eq_true', beq_eq_false_iff_ne, inP_iff] at hk
      rw [inP_iff]
      rcases List.mem_append.1 hk.1 with g | g
      · exact g
      · simp at g; exact absurd (show k = j by omega) hk.2
    · have hjl : inP l' j = true := by
        rw [inP_iff] at hj ⊢
        rcases List.mem_append.1 hj with g | g
        · exact g
        · simp at g; exact absurd (show j = i by omega) e
      intro hc
      have hc2 : Conn (roadsP rs (dropP (inP l') j) ++ [roadAt rs i]) (roadAt rs j).a.toNat (roadAt rs j).b.toNat := by
        rw [← conn_add hi]
        refine roadsP_mono (fun k _ hk => ?_) hc
        unfold dropP at hk
        rw [Bool.and_eq_true, Bool.not_eq_true', beq_eq_false_iff_ne, inP_iff] at hk
        unfold addP dropP
        rw [Bool.or_eq_true, Bool.and_eq_true, Bool.not_eq_true', beq_eq_false_iff_ne, inP_iff, beq_iff_eq]
        rcases List.mem_append.1 hk.1 with g | g
        · exact .inl ⟨g, hk.2⟩
        · simp at g; exact .inr (show k = i by omega)
      have up : ∀ {a b : Nat}, Conn (roadsP rs (dropP (inP l') j)) a b → Conn (roadsP rs (inP l')) a b := fun h => roadsP_mono (fun k _ hk => by unfold dropP at hk; rw [Bool.and_eq_true] at hk; exact hk.1) h
      have hjc : Conn (roadsP rs (inP l')) (roadAt rs j).a.toNat (roadAt rs j).b.toNat := Conn.step .refl ⟨_, roadsP_mem.2 ⟨j, hjn, hjl, rfl⟩, .inl ⟨rfl, rfl⟩⟩
      rcases conn_push.1 hc2 with g | ⟨g1, g2⟩
      · exact ih j hjn hjl g
      · rcases g1 with g1 | g1 <;> rcases g2 with g2 | g2
        · exact ih j hjn hjl (g1.trans g2.symm)
        · exact f2 ((up g1).symm.trans (hjc.trans (up g2)))
        · exact f2 ((up g1).symm.trans (hjc.trans (up g2))).symm
        · exact ih j hjn hjl (g1.trans g2.symm)

theorem all_bits {N x : Nat} : (2 ^ N - 1).testBit x = true ↔ x < N := by rw [Nat.testBit_two_pow_sub_one, decide_eq_true_iff]
theorem treeP_valid {rs : List RoadD} {s : Nat} {l : List Int} (h : treeP rs s l) : Valid rs l := fun x hx => by
  obtain ⟨k, hk, rfl⟩ := List.getElem_of_mem hx
  have := (h.1 k hk).1
  rw [fn_get hk] at this
  exact ⟨this.1, this.2.1⟩
theorem tree_span {rs : List RoadD} {N : Nat} {l : List Int} (h : treeP rs (2 ^ N - 1) l) : Span rs N (inP l) := by
  have hv := treeP_valid h
  refine ⟨fun x y hx hy => ?_, forest_br l.length l rfl hv (fun k hk => (h.1 k hk).2)⟩
  rw [← conn_inP hv]
  exact treeP_cn h x y (all_bits.2 hx) (all_bits.2 hy)
theorem span_tree {rs : List RoadD} {N : Nat} {P : Nat → Bool} (hok : ∀ r ∈ rs, roadOk N r = true) (h : Span rs N P) : treeP rs (2 ^ N - 1) (sel rs.length P) := by
  have inn : ∀ k, k < (sel rs.length P).length → ∃ j : Nat, j < rs.length ∧ P j = true ∧ fn (sel rs.length P) k = j := by
    intro k hk
    obtain ⟨j, h1, h2, h3⟩ := sel_mem.1 (List.getElem_mem hk)
    exact ⟨j, h1, h2, by rw [fn_get hk]; exact h3⟩
  constructor
  · intro k hk
    obtain ⟨j, h1, h2, h3⟩ := inn k hk
    refine ⟨⟨by omega, by omega, fun h0 => fn_pair (sel_lt _ _) (by omega) hk⟩, fun hcyc => ?_⟩
    rw [h3] at hcyc
    refine h.br j h1 h2 (Conn.mono (fun q hq => ?_) hcyc)
    obtain ⟨x, hx, rfl⟩ := edges_mem.1 hq
    obtain ⟨m, hm2, rfl⟩ := List.getElem_of_mem hx
    rw [List.length_take] at hm2
    rw [List.getElem_take]
    obtain ⟨j', j1, j2, j3⟩ := inn m (by omega)
    have hlt := fn_pair (sel_lt rs.length P) (show m < k by omega) hk
    rw [j3, h3] at hlt
    rw [fn_get (by omega)] at j3
    rw [j3]
    refine roadsP_mem.2 ⟨j', j1, ?_, rfl⟩
    unfold dropP
    rw [j2, Bool.true_and, Bool.not_eq_true', beq_eq_false_iff_ne]
    omega
  · have ht : ∀ x, touch (2 ^ N - 1) (edges rs (sel rs.length P)) x → x < N := by
      rintro x (hx | ⟨r, hr, hx⟩)
      · exact all_bits.1 hx
      · obtain ⟨i, h1, -, rfl⟩ := sel_edge.1 hr
        have := roadOk_iff.1 (hok _ (roadAt_mem h1))
        rcases hx with rfl | rfl <;> omega
    exact fun x y hx hy => h.all x y (ht x hx) (ht y hy)

/-- The order of choices: by cost, then as lists. -/
def LeP (rs : List RoadD) (P Q : Nat → Bool) : Prop := costL rs (sel rs.length P) < costL rs (sel rs.length Q) ∨ (costL rs (sel rs.length P) = costL rs (sel rs.length Q) ∧ (sel rs.length P).length = (sel rs.length Q).length ∧ lexLe (sel rs.length P) (sel rs.length Q))
theorem lexLe.trans {a b c : List Int} (hab : a.length = b.length) (hbc : b.length = c.length) (h1 : lexLe a b) (h2 : lexLe b c) : lexLe a c := by
  obtain ⟨i, i1, i2, i3⟩ := h1
  obtain ⟨j, j1, j2, j3⟩ := h2
  rcases Nat.lt_trichotomy i j with g | g | g
  · refine ⟨i, i1, fun x hx => (i2 x hx).trans (j2 x (by omega)), ?_⟩
    rcases i3 with e | e
    · omega
    · right; rw [← j2 i g]; exact e
  · subst g
    refine ⟨i, i1, fun x hx => (i2 x hx).trans (j2 x hx), ?_⟩
    rcases i3 with e | e
    · exact .inl e
    · rcases j3 with e2 | e2
      · omega
      · right; omega
  · refine ⟨j, by omega, fun x hx => (i2 x (by omega)).trans (j2 x hx), ?_⟩
    rcases j3 with e | e
    · omega
    · right; rw [i2 j g]; exact e
theorem LeP.trans {rs : List RoadD} {P Q R : Nat → Bool} (h1 : LeP rs P Q) (h2 : LeP rs Q R) : LeP rs P R := by
  rcases h1 with h1 | ⟨h1, l1, x1⟩ <;> rcases h2 with h2 | ⟨h2, l2, x2⟩
  · exact .inl (by omega)
  · exact .inl (by omega)
  · exact .inl (by omega)
  · exact .inr ⟨by omega, by omega, x1.trans l1 l2 x2⟩
theorem sel_congr {n : Nat} {P Q : Nat → Bool} (h : ∀ i, i < n → P i = Q i) : sel n P = sel n Q := by
  unfold sel
  congr 1
  exact List.filter_congr (fun i hi => h i (List.mem_range.1 hi))
theorem sel_take (P : Nat → Bool) : ∀ (d m : Nat), ∃ t, sel (m + d) P = sel m P ++ t ∧ ∀ x ∈ t, (m : Int) ≤ x ∧ ∃ i : Nat, x = i ∧ P i = true
  | 0, m => ⟨[], by simp, fun x hx => by simp at hx⟩
  | d + 1, m => by
    obtain ⟨t, h1, h2⟩ := sel_take P d m
    refine ⟨t ++ (if P (m + d) then [((m + d : Nat) : Int)] else []), ?_, fun x hx => ?_⟩
    · rw [show m + (d + 1) = m + d + 1 by omega, sel_succ, h1, List.append_assoc]
    · rcases List.mem_append.1 hx with g | g
      · exact h2 x g
      · split at g
        · rename_i hp
          simp at g
          exact ⟨by omega, m + d, by omega, hp⟩
        · simp at g
/-- One index for a greater one: ahead of it. -/
theorem lex_swap {n i : Nat} {P Q : Nat → Bool} (hi : i < n) (hag : ∀ k, k < i → P k = Q k) (hP : P i = true) (hQ : ¬ Q i = true) (hl : (sel n P).length = (sel n Q).length) : lexLe (sel n P) (sel n Q) := by
  obtain ⟨t, t1, t2⟩ := sel_take P (n - i - 1) (i + 1)
  obtain ⟨u, u1, u2⟩ := sel_take Q (n - i) i
  rw [show i + 1 + (n - i - 1) = n by omega, sel_succ, hP, if_pos rfl] at t1
  rw [show i + (n - i) = n by omega, ← sel_congr hag] at u1
  have lt : (sel n P).length = (sel i P).length + 1 + t.length := by rw [t1]; simp; omega
  have lu : (sel n Q).length = (sel i P).length + u.length := by rw [u1]; simp
  refine ⟨(sel i P).length, by omega, fun j hj => ?_, .inr ?_⟩
  · rw [t1, u1, List.append_assoc, fn_left hj, fn_left hj]
  · have h1 : fn (sel n P) (sel i P).length = i := by
      rw [t1, fn_left (by simp), fn_last]
    have hu : 0 < u.length := by omega
    have h2 : fn (sel n Q) (sel i P).length = u[0] := by
      rw [fn_get (by omega)]
      simp only [u1]
      rw [List.getElem_append_right (Nat.le_refl _)]
      simp
    rw [h1, h2]
    obtain ⟨a, k, b, c⟩ := u2 u[0] (List.getElem_mem hu)
    by_cases e : k = i
    · subst e; exact absurd c hQ
    · omega
theorem sel_len_drop (P : Nat → Bool) (j : Nat) : ∀ n, ((sel n (dropP P j)).length : Int) + (if j < n ∧ P j = true then 1 else 0) = (sel n P).length
  | 0 => by simp [sel]
  | n + 1 => by
    have ih := sel_len_drop P j n
    rw [sel_succ, sel_succ, List.length_append, List.length_append]
    by_cases e : n = j
    · subst e
      have d : dropP P n n = false := by unfold dropP; simp
      rw [if_neg (show ¬ (n < n ∧ P n = true) by omega)] at ih
      rw [d]
      cases h : P n
      · simp; simpa using ih
      · simp; omega
    · have d : dropP P j n = P n := by unfold dropP; simp [e]
      have e2 : (j < n + 1 ∧ P j = true) ↔ (j < n ∧ P j = true) := by
        constructor
        · rintro ⟨a, b⟩; exact ⟨by omega, b⟩
        · rintro ⟨a, b⟩; exact ⟨by omega, b⟩
      rw [d]
      simp only [e2]
      push_cast
      omega
theorem swap_le {rs : List RoadD} {P : Nat → Bool} {i j : Nat} (hi : i < rs.length) (hj : j < rs.length) (hPi : ¬ P i = true) (hPj : P j = true) (hlt : ltC rs i j) : LeP rs (addP (dropP P j) i) P := by
  have hij : i ≠ j := fun e => hPi (by rw [e]; exact hPj)
  have hd : dropP (addP (dropP P j) i) i = dropP P j := by
    funext k
    show ((P k && !(k == j) || (k == i)) && !(k == i)) = (P k && !(k == j))
    by_cases e : k = i
    · subst e
      have : P k = false := by cases h : P k; rfl; exact absurd h hPi
      rw [this]; simp
    · have g : (k == i) = false := beq_eq_false_iff_ne.2 e
      rw [g]; simp
  have hai : addP (dropP P j) i i = true := by unfold addP; simp
  have c1 := sel_drop rs P j rs.length
  have c2 := sel_drop rs (addP (dropP P j) i) i rs.length
  have l1 := sel_len_drop P j rs.length
  have l2 := sel_len_drop (addP (dropP P j) i) i rs.length
  rw [if_pos ⟨hj, hPj⟩] at c1 l1
  rw [if_pos ⟨hi, hai⟩, hd] at c2 l2
  have hl : (sel rs.length (addP (dropP P j) i)).length = (sel rs.length P).length := by omega
  unfold ltC costAt at hlt
  rw [Int.toNat_natCast, Int.toNat_natCast] at hlt
  rcases hlt with h | ⟨h, h2⟩
  · exact .inl (by omega)
  · refine .inr ⟨by omega, hl, lex_swap hi (fun k hk => ?_) hai hPi hl⟩
    show (P k && !(k == j) || (k == i)) = P k
    have g1 : (k == i) = false := beq_eq_false_iff_ne.2 (by omega)
    have g2 : (k == j) = false := beq_eq_false_iff_ne.2 (by omega)
    rw [g1, g2]; simp

/-- The roads that are taken, in the order of their costs. -/
noncomputable def kl (rs : List RoadD) (f : Nat → Int) : Nat → List Int
  | 0 => []
  | k + 1 => @ite _ (Conn (edges rs (kl rs f k)) (roadAt rs (f k).toNat).a.toNat (roadAt rs (f k).toNat).b.toNat) (Classical.propDecidable _) (kl rs f k) (kl rs f k ++ [f k])
theorem kl_no {rs : List RoadD} {f : Nat → Int} {k : Nat} (h : Conn (edges rs (kl rs f k)) (roadAt rs (f k).toNat).a.toNat (roadAt rs (f k).toNat).b.toNat) : kl rs f (k + 1) = kl rs f k := by
  exact @if_pos _ (Classical.propDecidable _) h _ _ _
theorem kl_yes {rs : List RoadD} {f : Nat → Int} {k : Nat} (h : ¬ Conn (edges rs (kl rs f k)) (roadAt rs (f k).toNat).a.toNat (roadAt rs (f k).toNat).b.toNat) : kl rs f (k + 1) = kl rs f k ++ [f k] := by
  exact @if_neg _ (Classical.propDecidable _) h _ _ _
theorem kl_mem {rs : List RoadD} {f : Nat → Int} : ∀ k, ∀ x ∈ kl rs f k, ∃ m, m < k ∧ x = f m
  | 0, x, hx => by simp [kl] at hx
  | k + 1, x, hx => by
    by_cases h : Conn (edges rs (kl rs f k)) (roadAt rs (f k).toNat).a.toNat (roadAt rs (f k).toNat).b.toNat
    · rw [kl_no h] at hx
      obtain ⟨m, h1, h2⟩ := kl_mem k x hx
      exact ⟨m, by omega, h2⟩
    · rw [kl_yes h] at hx
      rcases List.mem_append.1 hx with g | g
      · obtain ⟨m, h1, h2⟩ := kl_mem k x g
        exact ⟨m, by omega, h2⟩
      · simp at g
        exact ⟨k, by omega, g⟩
theorem kl_up {rs : List RoadD} {f : Nat → Int} {k : Nat} : ∀ d, ∀ x ∈ kl rs f k, x ∈ kl rs f (k + d)
  | 0, x, hx => hx
  | d + 1, x, hx => by
    have h1 := kl_up d x hx
    show x ∈ kl rs f (k + d + 1)
    by_cases h : Conn (edges rs (kl rs f (k + d))) (roadAt rs (f (k + d)).toNat).a.toNat (roadAt rs (f (k + d)).toNat).b.toNat
    · rw [kl_no h]; exact h1
    · rw [kl_yes h]; exact List.mem_append_left _ h1
theorem kl_forest {rs : List RoadD} {f : Nat → Int} : ∀ k, Forest rs (kl rs f k)
  | 0 => fun k hk => by simp [kl] at hk
  | k + 1 => by
    by_cases h : Conn (edges rs (kl rs f k)) (roadAt rs (f k).toNat).a.toNat (roadAt rs (f k).toNat).b.toNat
    · rw [kl_no h]; exact kl_forest k
    · rw [kl_yes h]; exact (kl_forest k).push h

section
variable {rs : List RoadD} {N : Nat} {f : Nat → Int} (hok : ∀ r ∈ rs, roadOk N r = true) (ho : OutS rs rs.length rs.length f)
include ho
theorem OutS.inj {a b : Nat} (ha : a < rs.length) (hb : b < rs.length) (h : f a = f b) : a = b := by
  rcases Nat.lt_trichotomy a b with g | g | g
  · have := ho.srt a b g hb; rw [h] at this; exact absurd this (fun h => h.irr)
  · exact g
  · have := ho.srt b a g ha; rw [h] at this; exact absurd this (fun h => h.irr)
theorem kl_valid {k : Nat} (hk : k ≤ rs.length) : Valid rs (kl rs f k) := fun x hx => by
  obtain ⟨m, h1, rfl⟩ := kl_mem k x hx
  exact ho.rng m (by omega)
theorem kl_back {k m : Nat} (hk : k ≤ rs.length) (hm : m < k) (h : f m ∈ kl rs f k) : ∀ d, k ≤ m + 1 + d → f m ∈ kl rs f (m + 1)
  | 0, hd => by rw [show m + 1 = k by omega]; exact h
  | d + 1, hd => by
    by_cases e : k = m + 1
    · rw [← e]; exact h
    · obtain ⟨k', rfl⟩ : ∃ k', k = k' + 1 := ⟨k - 1, by omega⟩
      have h2 : f m ∈ kl rs f k' := by
        by_cases g : Conn (edges rs (kl rs f k')) (roadAt rs (f k').toNat).a.toNat (roadAt rs (f k').toNat).b.toNat
        · rw [kl_no g] at h; exact h
        · rw [kl_yes g] at h
          rcases List.mem_append.1 h with q | q
          · exact q
          · simp at q
            have := ho.inj (by omega) (by omega) q
            omega
      exact kl_back (by omega) (by omega) h2 d (by omega)
theorem kl_span (hall : ∀ x y, x < N → y < N → Conn rs x y) : Span rs N (inP (kl rs f rs.length)) := by
  have hv := kl_valid ho (Nat.le_refl rs.length)
  refine ⟨fun x y hx hy => ?_, forest_br _ _ rfl hv (kl_forest _)⟩
  rw [← conn_inP hv]
  refine conn_drop (fun r hr => ?_) (hall x y hx hy)
  obtain ⟨v, hvl, e⟩ := List.getElem_of_mem hr
  obtain ⟨k, hk, hfk⟩ := ho.sur v hvl
  have er : roadAt rs (f k).toNat = r := by rw [hfk, Int.toNat_natCast, roadAt_get hvl]; exact e
  by_cases h : Conn (edges rs (kl rs f k)) (roadAt rs (f k).toNat).a.toNat (roadAt rs (f k).toNat).b.toNat
  · right
    rw [er] at h
    refine h.mono (fun q hq => ?_)
    obtain ⟨z, hz, rfl⟩ := edges_mem.1 hq
    have := kl_up (rs.length - k) z hz
    rw [show k + (rs.length - k) = rs.length by omega] at this
    exact edges_mem.2 ⟨z, this, rfl⟩
  · left
    have h2 : f k ∈ kl rs f (k + 1) := by rw [kl_yes h]; simp
    have := kl_up (rs.length - (k + 1)) (f k) h2
    rw [show k + 1 + (rs.length - (k + 1)) = rs.length by omega] at this
    exact edges_mem.2 ⟨f k, this, er⟩
include hok
/-- What is taken is at most every tree for all stops. -/
theorem kl_le : ∀ (d m : Nat), m + d = rs.length → ∀ P, Span rs N P → (∀ k, k < m → inP (kl rs f rs.length) (f k).toNat = P (f k).toNat) → LeP rs (inP (kl rs f rs.length)) P
  | 0, m, hm, P, _, hag => by
    have e : sel rs.length (inP (kl rs f rs.length)) = sel rs.length P := sel_congr (fun i hi => by
      obtain ⟨k, hk, hfk⟩ := ho.sur i hi
      have := hag k (by omega)
      rwa [hfk, Int.toNat_natCast] at this)
    exact .inr ⟨by rw [e], by rw [e], by rw [e]; exact lexLe.refl _⟩
  | d + 1, m, hm, P, hP, hag => by
    have hmn : m < rs.length := by omega
    obtain ⟨f0, f1⟩ := ho.rng m hmn
    obtain ⟨i, hfi⟩ := Int.eq_ofNat_of_zero_le f0
    have hi : i < rs.length := by omega
    by_cases e : inP (kl rs f rs.length) i = P i
    · refine kl_le d (m + 1) (by omega) P hP (fun k hk => ?_)
      by_cases g : k = m
      · subst g; rw [hfi, Int.toNat_natCast]; exact e
      · exact hag k (by omega)
    · cases hT : inP (kl rs f rs.length) i
      · -- not taken: P has a cycle
        exfalso
        have hPi : P i = true := by cases h : P i; rw [hT, h] at e; exact absurd rfl e; rfl
        have hrej : Conn (edges rs (kl rs f m)) (roadAt rs i).a.toNat (roadAt rs i).b.toNat := by
          refine Classical.byContradiction fun h => ?_
          have h2 : f m ∈ kl rs f (m + 1) := by rw [kl_yes (by rw [hfi, Int.toNat_natCast]; exact h)]; simp
          have := kl_up (rs.length - (m + 1)) (f m) h2
          rw [show m + 1 + (rs.length - (m + 1)) = rs.length by omega, hfi] at this
          rw [inP_iff.2 this] at hT
          simp at hT
        refine hP.br i hi hPi (hrej.mono (fun q hq => ?_))
        obtain ⟨x, hx, rfl⟩ := edges_mem.1 hq
        obtain ⟨k, hk, rfl⟩ := kl_mem m x hx
        obtain ⟨g0, g1⟩ := ho.rng k (by omega)
        obtain ⟨z, hz⟩ := Int.eq_ofNat_of_zero_le g0
        have h3 := kl_up (rs.length - m) _ hx
        rw [show m + (rs.length - m) = rs.length by omega, hz] at h3
        have h4 := hag k hk
        rw [hz, Int.toNat_natCast, inP_iff.2 h3] at h4
        rw [hz, Int.toNat_natCast]
        refine roadsP_mem.2 ⟨z, by omega, ?_, rfl⟩
        unfold dropP
        rw [← h4, Bool.true_and, Bool.not_eq_true', beq_eq_false_iff_ne]
        intro e2
        have := ho.inj (a := k) (b := m) (by omega) hmn (by rw [hz, hfi, e2])
        omega
      · have hPi : ¬ P i = true := fun h => e (by rw [hT, h])
        have hv := kl_valid ho (Nat.le_refl rs.length)
        have hR := forest_br _ _ rfl hv (kl_forest rs.length) i hi hT
        obtain ⟨j, j1, j2, j3, hsp⟩ := hP.swap hok hi hPi hR
        have hij : j ≠ i := fun g => hPi (by rw [← g]; exact j2)
        have hTj : inP (kl rs f rs.length) j = false := by
          rw [Bool.eq_false_iff]
          intro g
          exact j3 (by unfold dropP; rw [g, Bool.true_and, Bool.not_eq_true', beq_eq_false_iff_ne]; exact hij)
        obtain ⟨q, hq, hfq⟩ := ho.sur j j1
        have hqm : m < q := by
          rcases Nat.lt_trichotomy m q with g | g | g
          · exact g
          · subst g; rw [hfi] at hfq; omega
          · have := hag q g
            rw [hfq, Int.toNat_natCast, hTj, j2] at this
            simp at this
        have hlt := ho.srt m q hqm hq
        rw [hfi, hfq] at hlt
        have h1 := swap_le hi j1 hPi j2 hlt
        refine LeP.trans (kl_le d (m + 1) (by omega) _ hsp (fun k hk => ?_)) h1
        by_cases g : k = m
        · subst g
          rw [hfi, Int.toNat_natCast, hT]
          unfold addP
          simp
        · have h2 := hag k (by omega)
          rw [h2]
          obtain ⟨g0, g1⟩ := ho.rng k (by omega)
          obtain ⟨z, hz⟩ := Int.eq_ofNat_of_zero_le g0
          rw [hz, Int.toNat_natCast]
          show P z = (P z && !(z == j) || (z == i))
          have n1 : (z == i) = false := beq_eq_false_iff_ne.2 (fun e2 => by
            have := ho.inj (a := k) (b := m) (by omega) hmn (by rw [hz, hfi, e2])
            omega)
          have n2 : (z == j) = false := beq_eq_false_iff_ne.2 (fun e2 => by
            have := ho.inj (a := k) (b := q) (by omega) hq (by rw [hz, hfq, e2])
            omega)
          rw [n1, n2]; simp
theorem kl_best (hall : ∀ x y, x < N → y < N → Conn rs x y) : IsBest rs (2 ^ N - 1) (sel rs.length (inP (kl rs f rs.length))) := by
  refine ⟨span_tree hok (kl_span ho hall), fun l' ht => ?_⟩
  have h := kl_le hok ho rs.length 0 (by omega) _ (tree_span ht) (fun k hk => by omega)
  have e : l' = sel rs.length (inP l') := tree_sel ht
  unfold LeP at h
  rw [← e] at h
  rcases h with h | ⟨h1, h2, h3⟩
  · exact .inl h
  · exact .inr ⟨h1, .inr ⟨h2, h3⟩⟩
end

end Go.Proofs.YtkbkgkmogbkabaaDoor

/-
  A forest has fewer roads than stops. Plain Lean.
-/
namespace Go.Proofs.YtkbkgkmogbkabaaDoor
open Go.RowKit

/-- Is a stop the least one of its part? -/
noncomputable def leastB (E : List RoadD) (x : Nat) : Bool := @decide (∀ y, y < x → ¬ Conn E y x) (Classical.propDecidable _)
theorem leastB_iff {E : List RoadD} {x : Nat} : leastB E x = true ↔ ∀ y, y < x → ¬ Conn E y x := @decide_eq_true_iff _ (Classical.propDecidable _)
theorem least_of (E : List RoadD) : ∀ x, ∃ y, y ≤ x ∧ Conn E y x ∧ leastB E y = true := by
  intro x
  induction x using Nat.strongRecOn with
  | ind x ih =>
    by_cases h : ∃ y, y < x ∧ Conn E y x
    · obtain ⟨y, hy, hc⟩ := h
      obtain ⟨z, h1, h2, h3⟩ := ih y hy
      exact ⟨z, by omega, h2.trans hc, h3⟩
    · exact ⟨x, Nat.le_refl _, .refl, leastB_iff.2 (fun y hy hc => h ⟨y, hy, hc⟩)⟩
theorem forest_cnt {rs : List RoadD} {N : Nat} (hr : ∀ r ∈ rs, roadOk N r = true) : ∀ (n : Nat) (l : List Int), l.length = n → Valid rs l → Forest rs l → cnt (leastB (edges rs l)) N + n ≤ N
  | 0, l, _, _, _ => by have := cnt_hi (leastB (edges rs l)) N; omega
  | n + 1, l, hl, hv, hf => by
    obtain ⟨l', x, rfl⟩ : ∃ l' x, l = l' ++ [x] := by
      have hne : l ≠ [] := by intro e; subst e; simp at hl
      exact ⟨l.dropLast, l.getLast hne, (List.dropLast_concat_getLast hne).symm⟩
    obtain ⟨f1, f2⟩ := hf.init
    have hv' : Valid rs l' := fun y hy => hv y (List.mem_append_left _ hy)
    obtain ⟨x0, x1⟩ := hv x (by simp)
    have hm : roadAt rs x.toNat ∈ rs := roadAt_mem (by omega)
    obtain ⟨p1, p2, p3, p4, -, -, -⟩ := roadOk_iff.1 (hr _ hm)
    have ih := forest_cnt hr n l' (by simpa using hl) hv' f1
    obtain ⟨r, hrr⟩ : ∃ r, r = roadAt rs x.toNat := ⟨_, rfl⟩
    have hE : edges rs (l' ++ [x]) = edges rs l' ++ [r] := by rw [edges_app, hrr]; rfl
    rw [← hrr] at f2 p1 p2 p3 p4
    rw [hE]
    have mono : ∀ z, leastB (edges rs l' ++ [r]) z = true → leastB (edges rs l') z = true := fun z hz => leastB_iff.2 (fun y hy hc => leastB_iff.1 hz y hy hc.left)
    obtain ⟨u, u1, u2, u3⟩ := least_of (edges rs l') r.a.toNat
    obtain ⟨v, v1, v2, v3⟩ := least_of (edges rs l') r.b.toNat
    have hne : u ≠ v := fun e => f2 (u2.symm.trans (by rw [e]; exact v2))
    have hc : Conn (edges rs l' ++ [r]) u v := (u2.left.trans (Conn.step .refl ⟨r, by simp, .inl ⟨rfl, rfl⟩⟩)).trans v2.left.symm
    have hlt : cnt (leastB (edges rs l' ++ [r])) N < cnt (leastB (edges rs l')) N := by
      rcases Nat.lt_or_ge u v with g | g
      · exact cnt_lt mono (x := v) (fun h => leastB_iff.1 h u g hc) v3 N (by omega)
      · exact cnt_lt mono (x := u) (fun h => leastB_iff.1 h v (by omega) hc.symm) u3 N (by omega)
    omega
theorem tree_few {rs : List RoadD} {N s : Nat} {l : List Int} (hr : ∀ r ∈ rs, roadOk N r = true) (hN : 1 ≤ N) (h : treeP rs s l) : l.length < N := by
  have h1 := forest_cnt hr l.length l rfl (treeP_valid h) (fun k hk => (h.1 k hk).2)
  have h2 : 0 < cnt (leastB (edges rs l)) N := by
    have := cnt_lt (f := fun _ => false) (g := leastB (edges rs l)) (fun y hy => by simp at hy) (x := 0) (by simp) (leastB_iff.2 (fun y hy => by omega)) N (by omega)
    omega
  omega

end Go.Proofs.YtkbkgkmogbkabaaDoor

/-
  The reference's search for the best tree, over all sets of roads. Plain Lean.
-/
namespace Go.Proofs.YtkbkgkmogbkabaaDoor
open Go.RowKit

def lexLt (a b : List Int) : Prop := ∃ k, k < a.length ∧ (∀ j, j < k → fn a j = fn b j) ∧ fn a k < fn b k
/-- The reference's first. -/
def firstP (a b : List Int) : Prop := a.length < b.length ∨ (a.length = b.length ∧ lexLt a b)
theorem lexLt.le {a b : List Int} (h : lexLt a b) : lexLe a b := by
  obtain ⟨k, h1, h2, h3⟩ := h
  exact ⟨k, by omega, h2, .inr h3⟩
theorem lex_total {a b : List Int} (hl : a.length = b.length) (h : ¬ lexLt a b) : lexLe b a := by
  have key : ∀ n, n ≤ a.length → (∀ j, j < n → fn a j = fn b j) ∨ lexLe b a := by
    intro n
    induction n with
    | zero => intro _; exact .inl (fun j hj => by omega)
    | succ n ih =>
      intro hn
      rcases ih (by omega) with h1 | h1
      · rcases Int.lt_trichotomy (fn a n) (fn b n) with g | g | g
        · exact absurd ⟨n, by omega, h1, g⟩ h
        · left
          intro j hj
          by_cases e : j = n
          · rw [e]; exact g
          · exact h1 j (by omega)
        · exact .inr ⟨n, by omega, fun j hj => (h1 j hj).symm, .inr g⟩
      · exact .inr h1
  rcases key a.length (Nat.le_refl _) with h1 | h1
  · exact ⟨b.length, Nat.le_refl _, fun j hj => (h1 j (by omega)).symm, .inl rfl⟩
  · exact h1
/-- At least as good. -/
def LeT (rs : List RoadD) (a b : List Int) : Prop := costL rs a < costL rs b ∨ (costL rs a = costL rs b ∧ (a.length < b.length ∨ (a.length = b.length ∧ lexLe a b)))
theorem LeT.trans {rs : List RoadD} {a b c : List Int} (h1 : LeT rs a b) (h2 : LeT rs b c) : LeT rs a c := by
  rcases h1 with h1 | ⟨h1, h1'⟩ <;> rcases h2 with h2 | ⟨h2, h2'⟩
  · exact .inl (by omega)
  · exact .inl (by omega)
  · exact .inl (by omega)
  · refine .inr ⟨by omega, ?_⟩
    rcases h1' with h1' | ⟨h1', l1⟩ <;> rcases h2' with h2' | ⟨h2', l2⟩
    · exact .inl (by omega)
    · exact .inl (by omega)
    · exact .inl (by omega)
    · exact .inr ⟨by omega, l1.trans h1' h2' l2⟩
theorem LeT.refl (rs : List RoadD) (a : List Int) : LeT rs a a := .inr ⟨rfl, .inr ⟨rfl, lexLe.refl a⟩⟩
/-- The roads of a set. -/
def selN (n i : Nat) : List Int := sel n (fun j => i.testBit j)
theorem selN_yes {n i : Nat} (h : i.testBit n = true) : selN (n + 1) i = selN n i ++ [(n : Int)] := by
  unfold selN; rw [sel_succ, if_pos h]
theorem selN_no {n i : Nat} (h : ¬ i.testBit n = true) : selN (n + 1) i = selN n i := by
  unfold selN; rw [sel_succ, if_neg h, List.append_nil]
theorem selN_hi (n i : Nat) : (selN n i).length ≤ n := by
  unfold selN sel
  rw [List.length_map]
  have := List.length_filter_le (fun j => i.testBit j) (List.range n)
  rwa [List.length_range] at this
/-- A set of roads that is a tree, with few roads. -/
def CandT (rs : List RoadD) (N s : Nat) (l : List Int) : Prop := l.length < N ∧ treeP rs s l
/-- What is known when the sets below j were looked at. -/
def BestTo (rs : List RoadD) (N s j : Nat) (c : Int) (b : List Int) : Prop :=
  (c = -1 ∧ ∀ i, i < j → ¬ CandT rs N s (selN rs.length i)) ∨
  (0 ≤ c ∧ c = costL rs b ∧ treeP rs s b ∧ ∀ i, i < j → CandT rs N s (selN rs.length i) → LeT rs b (selN rs.length i))
theorem BestTo.start (rs : List RoadD) (N s : Nat) : BestTo rs N s 0 (-1) [] := .inl ⟨rfl, fun i h => by omega⟩
theorem BestTo.none {rs : List RoadD} {N s j : Nat} {c : Int} {b : List Int} (h : BestTo rs N s j c b) (hn : ¬ CandT rs N s (selN rs.length j)) : BestTo rs N s (j + 1) c b := by
  rcases h with ⟨h1, h2⟩ | ⟨h1, h2, h3, h4⟩
  · refine .inl ⟨h1, fun i hi => ?_⟩
    by_cases e : i = j
    · rw [e]; exact hn
    · exact h2 i (by omega)
  · refine .inr ⟨h1, h2, h3, fun i hi hc => ?_⟩
    by_cases e : i = j
    · rw [e] at hc; exact absurd hc hn
    · exact h4 i (by omega) hc
theorem BestTo.keep {rs : List RoadD} {N s j : Nat} {c : Int} {b : List Int} (h : BestTo rs N s j c b) (h0 : 0 ≤ c) (hk : c < costL rs (selN rs.length j) ∨ (c = costL rs (selN rs.length j) ∧ ¬ firstP (selN rs.length j) b)) : BestTo rs N s (j + 1) c b := by
  rcases h with ⟨h1, h2⟩ | ⟨h1, h2, h3, h4⟩
  · omega
  · refine .inr ⟨h1, h2, h3, fun i hi hc => ?_⟩
    by_cases e : i = j
    · rw [e]
      rcases hk with hk | ⟨hk, hf⟩
      · exact .inl (by omega)
      · refine .inr ⟨by omega, ?_⟩
        unfold firstP at hf
        rw [not_or, not_and] at hf
        rcases Nat.lt_or_ge b.length (selN rs.length j).length with g | g
        · exact .inl g
        · have e2 : (selN rs.length j).length = b.length := by omega
          exact .inr ⟨e2.symm, lex_total e2 (hf.2 e2)⟩
    · exact h4 i (by omega) hc
theorem BestTo.take {rs : List RoadD} {N s j : Nat} {c : Int} {b : List Int} (h : BestTo rs N s j c b) (ht : treeP rs s (selN rs.length j)) (hp : 0 ≤ costL rs (selN rs.length j))
    (hk : c < 0 ∨ costL rs (selN rs.length j) < c ∨ (costL rs (selN rs.length j) = c ∧ firstP (selN rs.length j) b)) : BestTo rs N s (j + 1) (costL rs (selN rs.length j)) (selN rs.length j) := by
  refine .inr ⟨hp, rfl, ht, fun i hi hc => ?_⟩
  by_cases e : i = j
  · rw [e]; exact LeT.refl _ _
  · rcases h with ⟨h1, h2⟩ | ⟨h1, h2, h3, h4⟩
    · exact absurd hc (h2 i (by omega))
    · have h5 := h4 i (by omega) hc
      refine LeT.trans ?_ h5
      rcases hk with hk | hk | ⟨hk, hf⟩
      · omega
      · exact .inl (by omega)
      · refine .inr ⟨by omega, ?_⟩
        rcases hf with hf | ⟨hf, hl⟩
        · exact .inl hf
        · exact .inr ⟨hf, hl.le⟩
/-- Every choice of roads is a set. -/
theorem selN_all (n : Nat) (P : Nat → Bool) : ∃ i, i < 2 ^ n ∧ sel n P = selN n i := by
  have key : ∀ n, ∃ i, i < 2 ^ n ∧ ∀ j, j < n → i.testBit j = P j := by
    intro n
    induction n with
    | zero => exact ⟨0, by simp, fun j hj => by omega⟩
    | succ n ih =>
      obtain ⟨i, h1, h2⟩ := ih
      have e : 2 ^ (n + 1) = 2 ^ n + 2 ^ n := by rw [Nat.pow_succ]; omega
      cases hp : P n
      · refine ⟨i, by omega, fun j hj => ?_⟩
        by_cases g : j = n
        · rw [g, hp]; exact Nat.testBit_lt_two_pow h1
        · exact h2 j (by omega)
      · refine ⟨2 ^ n + i, by omega, fun j hj => ?_⟩
        by_cases g : j = n
        · rw [g, hp, Nat.testBit_two_pow_add_eq, Nat.testBit_lt_two_pow h1]; rfl
        · rw [Nat.testBit_two_pow_add_gt (by omega)]; exact h2 j (by omega)
  obtain ⟨i, h1, h2⟩ := key n
  refine ⟨i, h1, ?_⟩
  unfold selN
  exact sel_congr (fun j hj => (h2 j hj).symm)
/-- When all sets were looked at. -/
theorem BestTo.done {rs : List RoadD} {N s : Nat} {c : Int} {b : List Int} (hr : ∀ r ∈ rs, roadOk N r = true) (hN : 1 ≤ N) (hs0 : 0 < s) (h : BestTo rs N s (2 ^ rs.length) c b) :
    (c = -1 ∧ ¬ Cn rs s) ∨ (0 ≤ c ∧ IsBest rs s b) := by
  have all : ∀ l, treeP rs s l → ∃ i, i < 2 ^ rs.length ∧ l = selN rs.length i ∧ CandT rs N s (selN rs.length i) := by
    intro l hl
    obtain ⟨i, h1, h2⟩ := selN_all rs.length (fun i => decide ((i : Int) ∈ l))
    have e := tree_sel hl
    rw [h2] at e
    refine ⟨i, h1, e, ?_⟩
    rw [← e]
    exact ⟨tree_few hr hN hl, hl⟩
  rcases h with ⟨h1, h2⟩ | ⟨h1, h2, h3, h4⟩
  · refine .inl ⟨h1, fun hc => ?_⟩
    obtain ⟨l, hl, -⟩ := opt_ex hs0 (fun r hm => by have := roadOk_iff.1 (hr r hm); omega) hc
    obtain ⟨i, i1, i2, i3⟩ := all l hl
    exact h2 i i1 i3
  · refine .inr ⟨h1, h3, fun l hl => ?_⟩
    obtain ⟨i, i1, i2, i3⟩ := all l hl
    rw [i2]
    exact h4 i i1 i3

end Go.Proofs.YtkbkgkmogbkabaaDoor
