/-
  Texts of this claim, part 1: SnTwicePlain, SnPairPlain, SnInsPlain, SnIns, SnSort.
-/
import Derived.Test.YtkbkgkmogbkabaaDoorK12
import Derived.Test.YtkbkgkmogbkabaaDoorK6
import Derived.Test.YtkbkgkmogbkabaaDoorK4
import Derived.Test.YtkbkgkmogbkabaaDoorK8
/-
  A tree can be gone round at twice its cost. Plain Lean.
-/
namespace Go.Proofs.YtkbkgkmogbkabaaDoor
open Go.RowKit

/-- The length of a tour from u over some stops to w. -/
def tourC (d : Nat → Nat → Int) (u : Nat) : List Nat → Nat → Int
  | [], w => d u w
  | x :: xs, w => d u x + tourC d x xs w
theorem tour_app (d : Nat → Nat → Int) (v : Nat) : ∀ (xs ys : List Nat) (u w : Nat), tourC d u (xs ++ v :: ys) w = tourC d u xs v + tourC d v ys w
  | [], ys, u, w => rfl
  | x :: xs, ys, u, w => by
    show d u x + tourC d x (xs ++ v :: ys) w = d u x + tourC d x xs v + tourC d v ys w
    rw [tour_app d v xs ys x w]; omega

/-- Roads that connect stops with v can be gone round from v. -/
theorem tour_ex {rs : List RoadD} {N : Nat} (hr : ∀ r ∈ rs, roadOk N r = true) {F : List RoadD} (hF : ∀ r ∈ F, r ∈ rs) {S : Nat → Prop} {v : Nat} (hv : v < N) (hne : ∃ x, S x) (hS : ∀ x, S x → x < N) (hc : ∀ x, S x → Conn F v x) :
    ∃ xs : List Nat, (∀ x, S x → x ∈ xs ∨ x = v) ∧ (∀ x ∈ xs, x < N) ∧ tourC (fw (costTo rs) N) v xs v ≤ 2 * sumC F := by
  have main := rel_tree (Rel := fun S v c => v < N → (∀ x, S x → x < N) → ∃ xs : List Nat, (∀ x, S x → x ∈ xs ∨ x = v) ∧ (∀ x ∈ xs, x < N) ∧ tourC (fw (costTo rs) N) v xs v ≤ 2 * c) (G := fun r => r ∈ rs)
    (fun r hm => by have := roadOk_iff.1 (hr r hm); omega)
    (by intro S v c c' h hcc hv hS
        obtain ⟨xs, a, b, e⟩ := h hv hS
        exact ⟨xs, a, b, by omega⟩)
    (by intro S v h hv hS
        refine ⟨[], fun x hx => .inr ((h x).1 hx), fun x hx => by simp at hx, ?_⟩
        show fw (costTo rs) N v v ≤ _
        rw [dist_diag hr hv]; omega)
    (by intro S c r hm
        obtain ⟨p1, p2, p3, p4, -, -, -⟩ := roadOk_iff.1 (hr r hm)
        have ha : r.a.toNat < N := by omega
        have hb : r.b.toNat < N := by omega
        obtain ⟨e1, e2⟩ := dist_edge (N := N) hr hm
        have go : ∀ p q, p < N → fw (costTo rs) N p q ≤ r.cost → fw (costTo rs) N q p ≤ r.cost → (p < N → (∀ x, S x → x < N) → ∃ xs : List Nat, (∀ x, S x → x ∈ xs ∨ x = p) ∧ (∀ x ∈ xs, x < N) ∧ tourC (fw (costTo rs) N) p xs p ≤ 2 * c) →
            q < N → (∀ x, S x → x < N) → ∃ xs : List Nat, (∀ x, S x → x ∈ xs ∨ x = q) ∧ (∀ x ∈ xs, x < N) ∧ tourC (fw (costTo rs) N) q xs q ≤ 2 * (c + r.cost) := by
          intro p q hp k1 k2 h hq hS
          obtain ⟨xs, a, b, e⟩ := h hp hS
          refine ⟨p :: (xs ++ [p]), fun x hx => ?_, fun x hx => ?_, ?_⟩
          · left
            rcases a x hx with g | rfl
            · exact List.mem_cons_of_mem _ (List.mem_append_left _ g)
            · exact List.mem_cons_self ..
          · rcases List.mem_cons.1 hx with rfl | hx
            · exact hp
            · rcases List.mem_append.1 hx with g | g
              · exact b x g
              · simp at g; rw [g]; exact hp
          · show fw (costTo rs) N q p + tourC (fw (costTo rs) N) p (xs ++ [p]) q ≤ _
            have := tour_app (fw (costTo rs) N) p xs [] p q
            rw [this]
            show fw (costTo rs) N q p + (tourC (fw (costTo rs) N) p xs p + fw (costTo rs) N p q) ≤ _
            omega
        exact ⟨fun h hv hS => go _ _ ha e1 e2 h hv hS, fun h hv hS => go _ _ hb e2 e1 h hv hS⟩)
    (by intro A B v c c' hA hB hd h1 h2 hv hS
        obtain ⟨xs, a1, b1, e1⟩ := h1 hv (fun x hx => hS x (.inl hx))
        obtain ⟨ys, a2, b2, e2⟩ := h2 hv (fun x hx => hS x (.inr hx))
        refine ⟨xs ++ v :: ys, fun x hx => ?_, fun x hx => ?_, by rw [tour_app]; omega⟩
        · rcases hx with hx | hx
          · rcases a1 x hx with g | g
            · exact .inl (List.mem_append_left _ g)
            · exact .inr g
          · rcases a2 x hx with g | g
            · exact .inl (List.mem_append_right _ (List.mem_cons_of_mem _ g))
            · exact .inr g
        · rcases List.mem_append.1 hx with g | g
          · exact b1 x g
          · rcases List.mem_cons.1 g with rfl | g
            · exact hv
            · exact b2 x g)
  exact main F.length F (Nat.le_refl _) hF S v hne hc hv hS
/-- Stops that are left out make no tour longer. -/
theorem tour_filter {rs : List RoadD} {N : Nat} (hr : ∀ r ∈ rs, roadOk N r = true) (P : Nat → Bool) : ∀ (xs : List Nat) (u w : Nat), u < N → w < N → (∀ x ∈ xs, x < N) → tourC (fw (costTo rs) N) u (xs.filter P) w ≤ tourC (fw (costTo rs) N) u xs w ∧ fw (costTo rs) N u w ≤ tourC (fw (costTo rs) N) u xs w
  | [], u, w, _, _, _ => ⟨Int.le_refl _, Int.le_refl _⟩
  | x :: xs, u, w, hu, hw, hx => by
    have hxN := hx x (List.mem_cons_self ..)
    have hxs : ∀ y ∈ xs, y < N := fun y hy => hx y (List.mem_cons_of_mem _ hy)
    obtain ⟨i1, i2⟩ := tour_filter hr P xs x w hxN hw hxs
    have t := dist_tri hr hu hw hxN
    have e : tourC (fw (costTo rs) N) u (x :: xs) w = fw (costTo rs) N u x + tourC (fw (costTo rs) N) x xs w := rfl
    refine ⟨?_, by rw [e]; omega⟩
    cases h : P x
    · rw [List.filter_cons_of_neg (by simp [h]), e]
      have key : ∀ (ys : List Nat), (∀ y ∈ ys, y < N) → tourC (fw (costTo rs) N) u ys w ≤ fw (costTo rs) N u x + tourC (fw (costTo rs) N) x ys w := by
        intro ys hys
        cases ys with
        | nil => exact t
        | cons y ys =>
          have t2 := dist_tri hr hu (hys y (List.mem_cons_self ..)) hxN
          show fw (costTo rs) N u y + tourC (fw (costTo rs) N) y ys w ≤ fw (costTo rs) N u x + (fw (costTo rs) N x y + tourC (fw (costTo rs) N) y ys w)
          omega
      have := key (xs.filter P) (fun y hy => hxs y (List.mem_filter.1 hy).1)
      omega
    · rw [List.filter_cons_of_pos h, e]
      show fw (costTo rs) N u x + tourC (fw (costTo rs) N) x (xs.filter P) w ≤ _
      omega

end Go.Proofs.YtkbkgkmogbkabaaDoor

/-
  For two stops the least cost is the distance. Plain Lean.
-/
namespace Go.Proofs.YtkbkgkmogbkabaaDoor
open Go.RowKit

/-- No roads that connect cost less than the distance. -/
theorem dist_le {rs : List RoadD} {N : Nat} (hr : ∀ r ∈ rs, roadOk N r = true) {F : List RoadD} (hF : ∀ r ∈ F, r ∈ rs) {a b : Nat} (ha : a < N) (hb : b < N) (hc : Conn F b a) : fw (costTo rs) N a b ≤ sumC F := by
  have G := dist_good (N := N) hr
  have main := rel_tree (Rel := fun S v c => v < N → (∀ x, S x → x < N) → ∀ x, S x → fw (costTo rs) N x v ≤ c) (G := fun r => r ∈ rs)
    (fun r hm => by have := roadOk_iff.1 (hr r hm); omega)
    (by intro S v c c' h hcc hv hS x hx; exact Int.le_trans (h hv hS x hx) hcc)
    (by intro S v hS hv hSN x hx
        rw [(hS x).1 hx, dist_diag hr hv]; exact Int.le_refl _)
    (by intro S c r hm
        obtain ⟨p1, p2, p3, p4, -, -, -⟩ := roadOk_iff.1 (hr r hm)
        have ha : r.a.toNat < N := by omega
        have hb : r.b.toNat < N := by omega
        obtain ⟨e1, e2⟩ := dist_edge (N := N) hr hm
        constructor
        · intro h hv hS x hx
          have h1 := h ha hS x hx
          have h2 := dist_tri hr (hS x hx) hb ha
          omega
        · intro h hv hS x hx
          have h1 := h hb hS x hx
          have h2 := dist_tri hr (hS x hx) ha hb
          omega)
    (by intro A B v c c' hA hB hd h1 h2 hv hS x hx
        obtain ⟨p, hp⟩ := hA
        obtain ⟨q, hq⟩ := hB
        have ha := h1 hv (fun y hy => hS y (.inl hy))
        have hb := h2 hv (fun y hy => hS y (.inr hy))
        have l1 := G.lo p v (hS p (.inl hp)) hv
        have l2 := G.lo q v (hS q (.inr hq)) hv
        have k1 := ha p hp
        have k2 := hb q hq
        rcases hx with hx | hx
        · have := ha x hx; omega
        · have := hb x hx; omega)
  exact main F.length F (Nat.le_refl _) hF (fun x => x = a) b ⟨a, rfl⟩ (fun x hx => by rw [hx]; exact hc) hb (fun x hx => by rw [hx]; exact ha) a rfl

def pairN (a b : Nat) : Nat := 2 ^ a ||| 2 ^ b
theorem pair_bit {a b x : Nat} : (pairN a b).testBit x = true ↔ x = a ∨ x = b := by
  unfold pairN
  rw [Nat.testBit_or, Nat.testBit_two_pow, Nat.testBit_two_pow, Bool.or_eq_true, decide_eq_true_iff, decide_eq_true_iff]
  constructor <;> intro h <;> omega
theorem pair_in {N a b : Nat} (ha : a < N) (hb : b < N) : 0 < pairN a b ∧ pairN a b < 2 ^ N :=
  ⟨bit_pos (pair_bit.2 (.inl rfl)), Nat.or_lt_two_pow (Nat.pow_lt_pow_right (by decide) ha) (Nat.pow_lt_pow_right (by decide) hb)⟩
theorem pair_cn {F : List RoadD} {a b : Nat} : Cn F (pairN a b) ↔ Conn F a b := by
  constructor
  · intro h; exact h a b (pair_bit.2 (.inl rfl)) (pair_bit.2 (.inr rfl))
  · intro h x y hx hy
    rcases pair_bit.1 hx with rfl | rfl <;> rcases pair_bit.1 hy with rfl | rfl
    · exact .refl
    · exact h
    · exact h.symm
    · exact .refl
theorem pair_val {rs : List RoadD} {N a b : Nat} (hr : ∀ r ∈ rs, roadOk N r = true) (hN1 : 1 ≤ N) (hN : N ≤ 8) (hl : rs.length ≤ 16) (ha : a < N) (hb : b < N) :
    (Cn rs (pairN a b) ↔ fw (costTo rs) N a b < far) ∧ (Cn rs (pairN a b) → steinerV rs N (pairN a b) = fw (costTo rs) N a b) := by
  obtain ⟨p0, p1⟩ := pair_in ha hb
  have key : Cn rs (pairN a b) → steinerV rs N (pairN a b) = fw (costTo rs) N a b ∧ fw (costTo rs) N a b < far := by
    intro h
    obtain ⟨l, ⟨t1, t2⟩, -, h0, -⟩ := steiner_opt hr hN1 hN hl p0 p1 h
    have h1 := dist_le hr (treeP_in t1) ha hb (pair_cn.1 (treeP_cn t1)).symm
    rw [← costL_sum, t2] at h1
    obtain ⟨c0, c1⟩ := treeP_cost hr hl t1
    have hf : fw (costTo rs) N a b < far := by unfold far; omega
    obtain ⟨F, f1, f2, f3⟩ := fw_real hr N (Nat.le_refl _) a b ha hb hf
    have h2 := steiner_le hr hN1 hN p0 p1 f1 (pair_cn.2 f3)
    exact ⟨by omega, hf⟩
  refine ⟨⟨fun h => (key h).2, fun h => ?_⟩, fun h => (key h).1⟩
  obtain ⟨F, f1, f2, f3⟩ := fw_real hr N (Nat.le_refl _) a b ha hb h
  exact pair_cn.2 (f3.mono f1)

end Go.Proofs.YtkbkgkmogbkabaaDoor

/-
  The roads' indices by cost and index: what an insertion sort keeps, in plain Lean.
-/
namespace Go.Proofs.YtkbkgkmogbkabaaDoor
open Go.RowKit

def costAt (rs : List RoadD) (x : Int) : Int := (roadAt rs x.toNat).cost
/-- The cheaper one first, of equal ones the one with the less index. -/
def ltC (rs : List RoadD) (x y : Int) : Prop := costAt rs x < costAt rs y ∨ (costAt rs x = costAt rs y ∧ x < y)
theorem ltC.trans {rs : List RoadD} {x y z : Int} (h : ltC rs x y) (k : ltC rs y z) : ltC rs x z := by
  unfold ltC at *
  omega
theorem ltC.irr {rs : List RoadD} {x : Int} (h : ltC rs x x) : False := by
  unfold ltC at h
  omega

structure OutS (rs : List RoadD) (n i : Nat) (f : Nat → Int) : Prop where
  rng : ∀ k, k < n → 0 ≤ f k ∧ f k < n
  sur : ∀ v : Nat, v < n → ∃ k, k < n ∧ f k = v
  srt : ∀ a b, a < b → b < i → ltC rs (f a) (f b)
  sfx : ∀ k, i ≤ k → k < n → f k = k
  pre : ∀ k, k < i → f k < i
structure InS (rs : List RoadD) (n i j : Nat) (f : Nat → Int) : Prop where
  rng : ∀ k, k < n → 0 ≤ f k ∧ f k < n
  sur : ∀ v : Nat, v < n → ∃ k, k < n ∧ f k = v
  hit : f j = i
  srt : ∀ a b, a < b → b ≤ i → a ≠ j → b ≠ j → ltC rs (f a) (f b)
  gt : ∀ b, j < b → b ≤ i → ltC rs i (f b)
  sfx : ∀ k, i < k → k < n → f k = k
  pre : ∀ k, k ≤ i → k ≠ j → f k < i
variable {rs : List RoadD} {n i j : Nat} {f : Nat → Int}
theorem OutS.start : OutS rs n 0 (fun k => (k : Int)) :=
  ⟨fun k hk => by omega, fun v hv => ⟨v, hv, rfl⟩, fun a b _ h => by omega, fun k _ _ => rfl, fun k h => by omega⟩
theorem OutS.start1 (h : OutS rs n 0 f) (hn : 0 < n) : OutS rs n 1 f :=
  ⟨h.rng, h.sur, fun a b _ _ => by omega, fun k hk hn => h.sfx k (by omega) hn, fun k hk => by
    have e : k = 0 := by omega
    subst e
    rw [h.sfx 0 (by omega) hn]; omega⟩
theorem OutS.inner (h : OutS rs n i f) (hi : i < n) : InS rs n i i f :=
  ⟨h.rng, h.sur, h.sfx i (Nat.le_refl _) hi, fun a b hab hb _ hne => h.srt a b hab (by omega), fun b h1 h2 => by omega, fun k hk hn => h.sfx k (by omega) hn, fun k hk hne => h.pre k (by omega)⟩
theorem InS.swap (h : InS rs n i j f) (hi : i < n) (hji : j ≤ i) (hj : 0 < j) (hc : costAt rs i < costAt rs (f (j - 1))) : InS rs n i (j - 1) (updF (updF f j (f (j - 1))) (j - 1) (f j)) := by
  have e1 : updF (updF f j (f (j - 1))) (j - 1) (f j) (j - 1) = f j := by unfold updF; rw [if_pos rfl]
  have e2 : updF (updF f j (f (j - 1))) (j - 1) (f j) j = f (j - 1) := by unfold updF; rw [if_neg (by omega), if_pos rfl]
  have e3 : ∀ k, k ≠ j → k ≠ j - 1 → updF (updF f j (f (j - 1))) (j - 1) (f j) k = f k := fun k h1 h2 => by unfold updF; rw [if_neg h2, if_neg h1]
  have old : ∀ k, k ≠ j - 1 → ∃ k', updF (updF f j (f (j - 1))) (j - 1) (f j) k = f k' ∧ (k = j → k' = j - 1) ∧ (k ≠ j → k' = k) := fun k hk => by
    by_cases e : k = j
    · subst e; exact ⟨k - 1, e2, fun _ => rfl, fun h => absurd rfl h⟩
    · exact ⟨k, e3 k e hk, fun h => absurd h e, fun _ => rfl⟩
  refine ⟨fun k hk => ?_, fun v hv => ?_, by rw [e1]; exact h.hit, fun a b hab hb ha hb2 => ?_, fun b h1 h2 => ?_, fun k hk hkn => ?_, fun k hk hne => ?_⟩
  · by_cases e : k = j - 1
    · subst e; rw [e1]; exact h.rng j (by omega)
    · obtain ⟨k', h1, h2, h3⟩ := old k e
      rw [h1]
      refine h.rng k' ?_
      by_cases e4 : k = j
      · rw [h2 e4]; omega
      · rw [h3 e4]; omega
  · obtain ⟨k, hk, hfk⟩ := h.sur v hv
    by_cases e : k = j
    · subst e; exact ⟨k - 1, by omega, by rw [e1]; exact hfk⟩
    · by_cases e' : k = j - 1
      · subst e'; exact ⟨j, by omega, by rw [e2]; exact hfk⟩
      · exact ⟨k, hk, by rw [e3 k e e']; exact hfk⟩
  · obtain ⟨a', a1, a2, a3⟩ := old a ha
    obtain ⟨b', b1, b2, b3⟩ := old b hb2
    rw [a1, b1]
    by_cases ea : a = j
    · have := a2 ea
      by_cases eb : b = j
      · omega
      · have := b3 eb
        exact h.srt a' b' (by omega) (by omega) (by omega) (by omega)
    · have := a3 ea
      by_cases eb : b = j
      · have := b2 eb
        exact h.srt a' b' (by omega) (by omega) (by omega) (by omega)
      · have := b3 eb
        exact h.srt a' b' (by omega) (by omega) (by omega) (by omega)
  · by_cases e : b = j
    · subst e; rw [e2]; exact .inl hc
    · rw [e3 b e (by omega)]; exact h.gt b (by omega) h2
  · rw [e3 k (by omega) (by omega)]; exact h.sfx k hk hkn
  · by_cases e : k = j
    · subst e; rw [e2]; exact h.pre (k - 1) (by omega) (by omega)
    · rw [e3 k e hne]; exact h.pre k hk e
theorem InS.stop (h : InS rs n i j f) (hji : j ≤ i) (hc : j = 0 ∨ ¬ costAt rs i < costAt rs (f (j - 1))) : OutS rs n (i + 1) f := by
  have low : ∀ a, a < j → ltC rs (f a) i := by
    intro a ha
    have h1 := h.pre a (by omega) (by omega)
    rcases hc with hc | hc
    · omega
    · by_cases e : a = j - 1
      · subst e
        unfold ltC
        omega
      · have h2 := h.srt a (j - 1) (by omega) (by omega) (by omega) (by omega)
        unfold ltC at h2 ⊢
        omega
  refine ⟨h.rng, h.sur, fun a b hab hb => ?_, fun k hk hn => h.sfx k (by omega) hn, fun k hk => ?_⟩
  · by_cases ea : a = j
    · subst ea; rw [h.hit]; exact h.gt b hab (by omega)
    · by_cases eb : b = j
      · subst eb; rw [h.hit]; exact low a hab
      · exact h.srt a b hab (by omega) ea eb
  · by_cases e : k = j
    · subst e; rw [h.hit]; omega
    · have := h.pre k (by omega) e; omega

end Go.Proofs.YtkbkgkmogbkabaaDoor

/-
  Contract of SortStableFunc at the roads' costs, for at most sixteen roads.
-/
namespace Go.Proofs.YtkbkgkmogbkabaaDoor
open Go.RowKit

theorem OwnI.setF {B : Nat} {w : World} {g n cap : Nat} {f : Nat → Int} (h : OwnI B w (.slice (some ⟨g, 0, none⟩) n cap) (rowL n f)) (j : Nat) (x : Int) : OwnI B (w.setCell ⟨g, j, none⟩ (.int .i64 x)) (.slice (some ⟨g, 0, none⟩) n cap) (rowL n (updF f j x)) := by
  have e : (rowL n f).length = n := rowL_len n f
  have h' : w.ownsRow B 3 1 (.slice (some ⟨g, 0, none⟩) n cap) n ((rowL n f).map (Value.int .i64)) := by have := h; unfold OwnI at this; rwa [e] at this
  have h2 := (World.ownsRow.stored h' j (.int .i64 x)).1
  show World.ownsRow _ B 3 1 _ (rowL n (updF f j x)).length _
  rw [rowL_len, ← rowL_set, List.map_set]
  exact h2
theorem OwnI.cellF {B : Nat} {w : World} {g n cap : Nat} {f : Nat → Int} (h : OwnI B w (.slice (some ⟨g, 0, none⟩) n cap) (rowL n f)) {j : Nat} (hj : j < n) : w.cell? ⟨g, j, none⟩ = some (.int .i64 (f j)) ∧ w.frozen? ⟨g, j, none⟩ = false := by
  have e : (rowL n f).length = n := rowL_len n f
  have h' : w.ownsRow B 3 1 (.slice (some ⟨g, 0, none⟩) n cap) n ((rowL n f).map (Value.int .i64)) := by have := h; unfold OwnI at this; rwa [e] at this
  refine ⟨?_, World.ownsRow.frozenAt h' j⟩
  rw [World.ownsRow.cellAt h' j (by omega), List.getElem?_map, List.getElem?_eq_getElem (by rw [rowL_len]; exact hj), Option.map_some]
  have := rowL_fn (f := f) hj
  rw [fn_get (by rw [rowL_len]; exact hj)] at this
  rw [this]

set_option maxRecDepth 20000 in
set_option maxHeartbeats 4000000 in
theorem cmpC_any (w : World) (bm : Nat) (ao : Option Addr) (cap : Nat) (rs : List RoadD) (x y : Nat) (h1 : w.cell? ⟨bm, 1, none⟩ = some (.slice ao rs.length cap)) (hv : Roads w (.slice ao rs.length cap) rs) (hok : ∀ r ∈ rs, 1 ≤ r.cost ∧ r.cost ≤ 50) (hx : x < rs.length) (hy : y < rs.length) :
    Calls Tryd.prog 48 #[.int .i64 x, .int .i64 y, .pointer (some ⟨bm, 0, none⟩)] w fun e w' => e = .returned (.int .i64 (costAt rs x - costAt rs y)) ∧ Ext w w' := by
  obtain ⟨b, off, rfl, -, hx1⟩ := Roads.get hv x hx
  obtain ⟨b', off', hbe, -, hy1⟩ := Roads.get hv y hy
  simp only [Option.some.injEq, Addr.mk.injEq, and_true] at hbe
  obtain ⟨rfl, rfl⟩ := hbe
  obtain ⟨-, -, d1⟩ := hx1 w (Ext.refl w)
  obtain ⟨-, -, d2⟩ := hy1 w (Ext.refl w)
  have c1 := hok _ (roadAt_mem hx)
  have c2 := hok _ (roadAt_mem hy)
  obtain ⟨p, hp⟩ : ∃ p, p = (roadAt rs x).cost := ⟨_, rfl⟩
  obtain ⟨q, hq⟩ : ∃ q, q = (roadAt rs y).cost := ⟨_, rfl⟩
  rw [← hp] at d1 c1
  rw [← hq] at d2 c2
  have HR : Hid (costAt rs x - costAt rs y = p - q) := by show costAt rs x - costAt rs y = p - q; unfold costAt; rw [Int.toNat_natCast, Int.toNat_natCast, hp, hq]
  have hw1 : IntKind.i64.wrap (p - q) = p - q := by rw [IntKind.wrap_i64]; omega
  have hxi : (x : Int) < rs.length := by omega
  have hyi : (y : Int) < rs.length := by omega
  clear hx1 hy1 hp hq hv hok
  go_enter Tryd.func48, Tryd.ntmps48
  go_wp2
  refine wp_region_held_drew (S := (fun w' => w'.cell? ⟨bm, 1, none⟩ = some (.slice (some ⟨b, off, none⟩) rs.length cap) ∧ w'.cell? ⟨b, off + x * 3 + 2, none⟩ = some (.int .i64 p) ∧ w'.cell? ⟨b, off + y * 3 + 2, none⟩ = some (.int .i64 q))) (by kernel_rfl) ?hSa0 (fun hHeld => ?_)
  case hSa0 => (first | (exact ⟨h1, d1, d2⟩) | ((try dsimp only); exact ⟨h1, d1, d2⟩))
  refine wpAnyH_tk 0 (v := ?va0) rfl (by kernel_rfl) (by kernel_rfl) (by kernel_rfl) (fun _ _ _ h => h) (by rfl) ?hya0 (by assumption) ?_
  case hya0 => (intro w hSw; (try dsimp only at hSw); go_simp <;> with_reducible rfl)
  (try simp only [Act.put, List.setIfInBounds_toArray, List.set_cons_zero, List.set_cons_succ])
  refine wpAnyH_tk 1 (v := ?va1) rfl (by kernel_rfl) (by kernel_rfl) (by kernel_rfl) (fun _ _ _ h => h) (by rfl) ?hya1 (by assumption) ?_
  case hya1 => (intro w hSw; (try dsimp only at hSw); go_simp <;> with_reducible rfl)
  (try simp only [Act.put, List.setIfInBounds_toArray, List.set_cons_zero, List.set_cons_succ])
  refine wpAnyH_tk 2 (v := ?va2) rfl (by kernel_rfl) (by kernel_rfl) (by kernel_rfl) (fun _ _ _ h => h) (by rfl) ?hya2 (by assumption) ?_
  case hya2 => (intro w hSw; (try dsimp only at hSw); go_simp <;> with_reducible rfl)
  (try simp only [Act.put, List.setIfInBounds_toArray, List.set_cons_zero, List.set_cons_succ])
  refine wpAnyH_tk 3 (v := ?va3) rfl (by kernel_rfl) (by kernel_rfl) (by kernel_rfl) (fun _ _ _ h => h) (by rfl) ?hya3 (by assumption) ?_
  case hya3 => (intro w hSw; (try dsimp only at hSw); go_simp <;> with_reducible rfl)
  (try simp only [Act.put, List.setIfInBounds_toArray, List.set_cons_zero, List.set_cons_succ])
  refine wpAnyH_tk 4 (v := ?va4) rfl (by kernel_rfl) (by kernel_rfl) (by kernel_rfl) (fun _ _ _ h => h) (by rfl) ?hya4 (by assumption) ?_
  case hya4 => (intro w hSw; (try dsimp only at hSw); go_simp <;> with_reducible rfl)
  (try simp only [Act.put, List.setIfInBounds_toArray, List.set_cons_zero, List.set_cons_succ])
  refine wpAnyH_tk 5 (v := ?va5) rfl (by kernel_rfl) (by kernel_rfl) (by kernel_rfl) (fun _ _ _ h => h) (by rfl) ?hya5 (by assumption) ?_
  case hya5 => (intro w hSw; (try dsimp only at hSw); go_simp <;> with_reducible rfl)
  (try simp only [Act.put, List.setIfInBounds_toArray, List.set_cons_zero, List.set_cons_succ])
  refine wpAnyH_tk 6 (v := ?va6) rfl (by kernel_rfl) (by kernel_rfl) (by kernel_rfl) (fun _ _ _ h => h) (by rfl) ?hya6 (by assumption) ?_
  case hya6 => (intro w hSw; (try dsimp only at hSw); go_simp <;> with_reducible rfl)
  (try simp only [Act.put, List.setIfInBounds_toArray, List.set_cons_zero, List.set_cons_succ])
  refine wpAnyH_tk 7 (v := ?va7) rfl (by kernel_rfl) (by kernel_rfl) (by kernel_rfl) (fun _ _ _ h => h) (by rfl) ?hya7 (by assumption) ?_
  case hya7 => (intro w hSw; (try dsimp only at hSw); go_simp <;> with_reducible rfl)
  (try simp only [Act.put, List.setIfInBounds_toArray, List.set_cons_zero, List.set_cons_succ])
  refine wpAnyH_tk 8 (v := ?va8) rfl (by kernel_rfl) (by kernel_rfl) (by kernel_rfl) (fun _ _ _ h => h) (by rfl) ?hya8 (by assumption) ?_
  case hya8 => (intro w hSw; (try dsimp only at hSw); go_simp <;> with_reducible rfl)
  (try simp only [Act.put, List.setIfInBounds_toArray, List.set_cons_zero, List.set_cons_succ])
  refine wpAnyH_tk 9 (v := ?va9) rfl (by kernel_rfl) (by kernel_rfl) (by kernel_rfl) (fun _ _ _ h => h) (by rfl) ?hya9 (by assumption) ?_
  case hya9 => (intro w hSw; (try dsimp only at hSw); go_simp <;> with_reducible rfl)
  (try simp only [Act.put, List.setIfInBounds_toArray, List.set_cons_zero, List.set_cons_succ])
  refine wpAnyH_tk 10 (v := ?va10) rfl (by kernel_rfl) (by kernel_rfl) (by kernel_rfl) (fun _ _ _ h => h) (by rfl) ?hya10 (by assumption) ?_
  case hya10 => (intro w hSw; (try dsimp only at hSw); go_simp <;> with_reducible rfl)
  (try simp only [Act.put, List.setIfInBounds_toArray, List.set_cons_zero, List.set_cons_succ])
  refine wpAnyH_tk 11 (v := ?va11) rfl (by kernel_rfl) (by kernel_rfl) (by kernel_rfl) (fun _ _ _ h => h) (by rfl) ?hya11 (by assumption) ?_
  case hya11 => (intro w hSw; (try dsimp only at hSw); go_simp <;> with_reducible rfl)
  (try simp only [Act.put, List.setIfInBounds_toArray, List.set_cons_zero, List.set_cons_succ])
  refine wpAnyH_tk 12 (v := ?va12) rfl (by kernel_rfl) (by kernel_rfl) (by kernel_rfl) (fun _ _ _ h => h) (by rfl) ?hya12 (by assumption) ?_
  case hya12 => (intro w hSw; (try dsimp only at hSw); go_simp <;> with_reducible rfl)
  (try simp only [Act.put, List.setIfInBounds_toArray, List.set_cons_zero, List.set_cons_succ])
  refine wpAnyH_tk 13 (v := ?va13) rfl (by kernel_rfl) (by kernel_rfl) (by kernel_rfl) (fun _ _ _ h => h) (by rfl) ?hya13 (by assumption) ?_
  case hya13 => (intro w hSw; (try dsimp only at hSw); go_simp <;> with_reducible rfl)
  (try simp only [Act.put, List.setIfInBounds_toArray, List.set_cons_zero, List.set_cons_succ])
  refine wpAnyH_done (by kernel_rfl) ?_ _
  clear hHeld
  go_wp2
  go_ret
  exact ⟨ret_int HR.out.symm, (Ext.refl w).drew⟩

set_option maxRecDepth 20000 in
set_option maxHeartbeats 16000000 in
theorem insC_any (w1 w : World) (bm : Nat) (ao : Option Addr) (cap : Nat) (rs : List RoadD) (g cp n : Nat) (f : Nat → Int) (h1 : w1.cell? ⟨bm, 1, none⟩ = some (.slice ao rs.length cap)) (hv : Roads w1 (.slice ao rs.length cap) rs) (hok : ∀ r ∈ rs, 1 ≤ r.cost ∧ r.cost ≤ 50) (hn : n = rs.length) (hn0 : 0 < n) (hn16 : n ≤ 16)
    (hE : Ext w1 w) (hg : w1.heap.size ≤ g) (ho : OwnI w1.heap.size w (.slice (some ⟨g, 0, none⟩) n cp) (rowL n f)) (h0 : OutS rs n 0 f) :
    Calls Tryd.prog 68 #[.slice (some ⟨g, 0, none⟩) n cp, .int .i64 0, .int .i64 n, .func (.func 48) #[] #[.pointer (some ⟨bm, 0, none⟩)]] w fun e w' => e = .returned (.tuple #[]) ∧ ∃ f', Hid (OutS rs n n f') ∧ OwnI w1.heap.size w' (.slice (some ⟨g, 0, none⟩) n cp) (rowL n f') ∧ Ext w1 w' := by
  have H1 := hid h1
  have HV := hid hv
  have HOk := hid hok
  have HN := hid hn
  have HE := hid hE
  have HO := hid ho
  have HS := hid (h0.start1 hn0)
  clear h1 hv hok hn hE ho h0
  go_enter Tryd.func68, Tryd.ntmps68
  go_wp2
  go_loopg [8] (n - 1) (fun gm i wr => ∃ (k : Nat) (f : Nat → Int), k + gm = n ∧ 1 ≤ k ∧ i = .int .i64 k ∧ Hid (OutS rs n k f) ∧ Hid (OwnI w1.heap.size wr (.slice (some ⟨g, 0, none⟩) n cp) (rowL n f)) ∧ Hid (Ext w1 wr))
  case atStart => exact ⟨1, f, by omega, by omega, rfl, HS, HO, HE⟩
  case round =>
    clear HS HO HE
    obtain ⟨k, f, hk, hk1, rfl, OUT, HO, E⟩ := hrel
    have hkn : k ≤ n := by omega
    have Hk := hid hk
    clear hk
    by_cases hlt : k < n
    · have hki : (k : Int) < n := by omega
      go_wp2
      go_loopg [9] k (fun gm i wr => ∃ (j : Nat) (f : Nat → Int), j ≤ k ∧ j = gm ∧ i = .int .i64 j ∧ Hid (InS rs n k j f) ∧ Hid (OwnI w1.heap.size wr (.slice (some ⟨g, 0, none⟩) n cp) (rowL n f)) ∧ Hid (Ext w1 wr))
      case atStart => exact ⟨k, f, Nat.le_refl _, rfl, rfl, OUT.out.inner hlt, HO, E⟩
      case round =>
        clear OUT HO E
        obtain ⟨j, f, hjk, hjg, rfl, IN, HO, E⟩ := hrel
        have Hjg := hid hjg
        clear hjg
        have E2 := hid E.out.drew
        have HO2 := hid (ownsRow_ext HO.out (Ext.refl wr).drew)
        by_cases hj0 : 0 < j
        · have hji : (j : Int) > 0 := by omega
          have hjn : (j : Int) < n := by omega
          have hjn1 : ((j - 1 : Nat) : Int) < n := by omega
          have hwj : IntKind.i64.wrap ((j : Int) - 1) = ((j - 1 : Nat) : Int) := by rw [IntKind.wrap_i64]; omega
          have hwj2 : wrap64 ((j : Int) - 1) = ((j - 1 : Nat) : Int) := by rw [IntWalk.wrap64_in _ (by omega)]; omega
          obtain ⟨dj, fj⟩ := HO.out.cellF (show j < n by omega)
          obtain ⟨dp, fp⟩ := HO.out.cellF (show j - 1 < n by omega)
          obtain ⟨r1, r2⟩ := IN.out.rng j (by omega)
          obtain ⟨r3, r4⟩ := IN.out.rng (j - 1) (by omega)
          obtain ⟨x, hx⟩ := Int.eq_ofNat_of_zero_le r1
          obtain ⟨y, hy⟩ := Int.eq_ofNat_of_zero_le r3
          rw [hx] at dj r2
          rw [hy] at dp r4
          have hxl : x < rs.length := by have := HN.out; omega
          have hyl : y < rs.length := by have := HN.out; omega
          have HX := hid hx
          have HY := hid hy
          have hxk : (x : Int) = k := by rw [← hx]; exact IN.out.hit
          have HXK := hid hxk
          obtain ⟨cx, hcx⟩ : ∃ c, c = costAt rs x - costAt rs y := ⟨_, rfl⟩
          have HCX := hid hcx
          clear r1 r2 r3 r4 hx hy hcx hxk
          by_cases hlt2 : cx < 0
          · have hltb : decide (cx < 0) = true := decide_eq_true hlt2
            have HIN := hid (IN.out.swap hlt hjk hj0 (by rw [HY.out, ← HXK.out]; have := HCX.out; omega))
            rw [HX.out, HY.out] at HIN
            clear hlt2
            go_wp2
            refine wp_region_held_drew (S := (fun w' => w'.cell? ⟨g, j, none⟩ = some (.int .i64 x) ∧ w'.cell? ⟨g, j - 1, none⟩ = some (.int .i64 y))) (by kernel_rfl) ?hSb0 (fun hHeld => ?_)
            case hSb0 => (first | (exact ⟨dj, dp⟩) | ((try dsimp only); exact ⟨dj, dp⟩))
            refine wpAnyH_tk 0 (v := ?vb0) rfl (by kernel_rfl) (by kernel_rfl) (by kernel_rfl) (fun _ _ _ h => h) (by rfl) ?hyb0 (by assumption) ?_
            case hyb0 => (intro w hSw; (try dsimp only at hSw); go_simp <;> with_reducible rfl)
            (try simp only [Act.put, List.setIfInBounds_toArray, List.set_cons_zero, List.set_cons_succ])
            refine wpAnyH_tk 1 (v := ?vb1) rfl (by kernel_rfl) (by kernel_rfl) (by kernel_rfl) (fun _ _ _ h => h) (by rfl) ?hyb1 (by assumption) ?_
            case hyb1 => (intro w hSw; (try dsimp only at hSw); go_simp <;> with_reducible rfl)
            (try simp only [Act.put, List.setIfInBounds_toArray, List.set_cons_zero, List.set_cons_succ])
            refine wpAnyH_tk 2 (v := ?vb2) rfl (by kernel_rfl) (by kernel_rfl) (by kernel_rfl) (fun _ _ _ h => h) (by rfl) ?hyb2 (by assumption) ?_
            case hyb2 => (intro w hSw; (try dsimp only at hSw); go_simp <;> with_reducible rfl)
            (try simp only [Act.put, List.setIfInBounds_toArray, List.set_cons_zero, List.set_cons_succ])
            refine wpAnyH_tk 3 (v := ?vb3) rfl (by kernel_rfl) (by kernel_rfl) (by kernel_rfl) (fun _ _ _ h => h) (by rfl) ?hyb3 (by assumption) ?_
            case hyb3 => (intro w hSw; (try dsimp only at hSw); go_simp <;> with_reducible rfl)
            (try simp only [Act.put, List.setIfInBounds_toArray, List.set_cons_zero, List.set_cons_succ])
            refine wpAnyH_tk 4 (v := ?vb4) rfl (by kernel_rfl) (by kernel_rfl) (by kernel_rfl) (fun _ _ _ h => h) (by rfl) ?hyb4 (by assumption) ?_
            case hyb4 => (intro w hSw; (try dsimp only at hSw); go_simp <;> with_reducible rfl)
            (try simp only [Act.put, List.setIfInBounds_toArray, List.set_cons_zero, List.set_cons_succ])
            refine wpAnyH_tk 5 (v := ?vb5) rfl (by kernel_rfl) (by kernel_rfl) (by kernel_rfl) (fun _ _ _ h => h) (by rfl) ?hyb5 (by assumption) ?_
            case hyb5 => (intro w hSw; (try dsimp only at hSw); go_simp <;> with_reducible rfl)
            (try simp only [Act.put, List.setIfInBounds_toArray, List.set_cons_zero, List.set_cons_succ])
            refine wpAnyH_tk 6 (v := ?vb6) rfl (by kernel_rfl) (by kernel_rfl) (by kernel_rfl) (fun _ _ _ h => h) (by rfl) ?hyb6 (by assumption) ?_
            case hyb6 => (intro w hSw; (try dsimp only at hSw); go_simp <;> with_reducible rfl)
            (try simp only [Act.put, List.setIfInBounds_toArray, List.set_cons_zero, List.set_cons_succ])
            refine wpAnyH_tk 7 (v := ?vb7) rfl (by kernel_rfl) (by kernel_rfl) (by kernel_rfl) (fun _ _ _ h => h) (by rfl) ?hyb7 (by assumption) ?_
            case hyb7 => (intro w hSw; (try dsimp only at hSw); go_simp <;> with_reducible rfl)
            (try simp only [Act.put, List.setIfInBounds_toArray, List.set_cons_zero, List.set_cons_succ])
            refine wpAnyH_tk 8 (v := ?vb8) rfl (by kernel_rfl) (by kernel_rfl) (by kernel_rfl) (fun _ _ _ h => h) (by rfl) ?hyb8 (by assumption) ?_
            case hyb8 => (intro w hSw; (try dsimp only at hSw); go_simp <;> with_reducible rfl)
            (try simp only [Act.put, List.setIfInBounds_toArray, List.set_cons_zero, List.set_cons_succ])
            refine wpAnyH_tk 9 (v := ?vb9) rfl (by kernel_rfl) (by kernel_rfl) (by kernel_rfl) (fun _ _ _ h => h) (by rfl) ?hyb9 (by assumption) ?_
            case hyb9 => (intro w hSw; (try dsimp only at hSw); go_simp <;> with_reducible rfl)
            (try simp only [Act.put, List.setIfInBounds_toArray, List.set_cons_zero, List.set_cons_succ])
            refine wpAnyH_tk 10 (v := ?vb10) rfl (by kernel_rfl) (by kernel_rfl) (by kernel_rfl) (fun _ _ _ h => h) (by rfl) ?hyb10 (by assumption) ?_
            case hyb10 => (intro w hSw; (try dsimp only at hSw); go_simp <;> with_reducible rfl)
            (try simp only [Act.put, List.setIfInBounds_toArray, List.set_cons_zero, List.set_cons_succ])
            refine wpAnyH_tk 11 (v := ?vb11) rfl (by kernel_rfl) (by kernel_rfl) (by kernel_rfl) (fun _ _ _ h => h) (by rfl) ?hyb11 (by assumption) ?_
            case hyb11 => (intro w hSw; (try dsimp only at hSw); go_simp <;> with_reducible rfl)
            (try simp only [Act.put, List.setIfInBounds_toArray, List.set_cons_zero, List.set_cons_succ])
            refine wpAnyH_tk 12 (v := ?vb12) rfl (by kernel_rfl) (by kernel_rfl) (by kernel_rfl) (fun _ _ _ h => h) (by rfl) ?hyb12 (by assumption) ?_
            case hyb12 => (intro w hSw; (try dsimp only at hSw); go_simp <;> with_reducible rfl)
            (try simp only [Act.put, List.setIfInBounds_toArray, List.set_cons_zero, List.set_cons_succ])
            refine wpAnyH_tk 13 (v := ?vb13) rfl (by kernel_rfl) (by kernel_rfl) (by kernel_rfl) (fun _ _ _ h => h) (by rfl) ?hyb13 (by assumption) ?_
            case hyb13 => (intro w hSw; (try dsimp only at hSw); go_simp <;> with_reducible rfl)
            (try simp only [Act.put, List.setIfInBounds_toArray, List.set_cons_zero, List.set_cons_succ])
            refine wpAnyH_one 14 rfl (by kernel_rfl) (by rfl) (fun K hK => ?_)
            go_simp
            (refine (cmpC_any _ bm ao cap rs x y (E2.out.cell H1.out) (HV.out.ext E2.out) HOk.out hxl hyl).mono ?_; rintro e w3 ⟨rfl, he3⟩; rw [← HCX.out]; have E3 := hid (E2.out.trans he3); have HO3 : Hid (OwnI w1.heap.size w3 (.slice (some ⟨g, 0, none⟩) n cp) (rowL n f)) := ownsRow_ext HO2.out he3; have dj3 := he3.cell dj; have dp3 := he3.cell dp; clear he3)
            refine hK.out _ _ ?hSb15 (fun hHeld => ?_)
            case hSb15 => (first | (exact ⟨dj3, dp3⟩) | ((try dsimp only); exact ⟨dj3, dp3⟩))
            clear hK K
            (try simp only [Act.put, List.setIfInBounds_toArray, List.set_cons_zero, List.set_cons_succ])
            refine wpAnyH_tk 15 (v := ?vb15) rfl (by kernel_rfl) (by kernel_rfl) (by kernel_rfl) (fun _ _ _ h => h) (by rfl) ?hyb15 (by assumption) ?_
            case hyb15 => (intro w hSw; (try dsimp only at hSw); go_simp <;> with_reducible rfl)
            (try simp only [Act.put, List.setIfInBounds_toArray, List.set_cons_zero, List.set_cons_succ])
            refine wpAnyH_tk 16 (v := ?vb16) rfl (by kernel_rfl) (by kernel_rfl) (by kernel_rfl) (fun _ _ _ h => h) (by rfl) ?hyb16 (by assumption) ?_
            case hyb16 => (intro w hSw; (try dsimp only at hSw); go_simp <;> with_reducible rfl)
            (try simp only [Act.put, List.setIfInBounds_toArray, List.set_cons_zero, List.set_cons_succ])
            refine wpAnyH_done (by kernel_rfl) ?_ _
            clear hHeld dj dp fj fp hltb
            have dj := (HO3.out.cellF (show j < n by omega)).1
            have fj := (HO3.out.cellF (show j < n by omega)).2
            have dp := (HO3.out.cellF (show j - 1 < n by omega)).1
            rw [HX.out] at dj
            rw [HY.out] at dp
            have hO4 := HO3.out.setF j (y : Int)
            have dq := (hO4.cellF (show j - 1 < n by omega)).1
            have fq := (hO4.cellF (show j - 1 < n by omega)).2
            have hO5 := hO4.setF (j - 1) (x : Int)
            have HO5 := hid (ownsRow_ext hO5 (Ext.refl _).drew)
            have HE5 := hid ((E3.out.setCell hg j (.int .i64 y)).setCell hg (j - 1) (.int .i64 x)).drew
            have hdq : updF f j (y : Int) (j - 1) = y := by unfold updF; rw [if_neg (by omega)]; exact HY.out
            rw [hdq] at dq
            clear hO4 hO5 hdq
            go_wp2
            refine wp_region_held_drew (S := (fun _ => True)) (by kernel_rfl) ?hSe0 (fun hHeld => ?_)
            case hSe0 => trivial
            refine wpAnyH_tk 0 (v := ?ve0x1) rfl (by kernel_rfl) (by kernel_rfl) (by kernel_rfl) (fun _ _ _ h => h) (by rfl) ?hye0x1 (by assumption) ?_
            case hye0x1 => (intro w hSw; (try dsimp only at hSw); go_simp <;> with_reducible rfl)
            (try simp only [Act.put, List.setIfInBounds_toArray, List.set_cons_zero, List.set_cons_succ])
            refine wpAnyH_tk 1 (v := ?ve1x2) rfl (by kernel_rfl) (by kernel_rfl) (by kernel_rfl) (fun _ _ _ h => h) (by rfl) ?hye1x2 (by assumption) ?_
            case hye1x2 => (intro w hSw; (try dsimp only at hSw); go_simp <;> with_reducible rfl)
            (try simp only [Act.put, List.setIfInBounds_toArray, List.set_cons_zero, List.set_cons_succ])
            refine wpAnyH_tk 2 (v := ?ve2x3) rfl (by kernel_rfl) (by kernel_rfl) (by kernel_rfl) (fun _ _ _ h => h) (by rfl) ?hye2x3 (by assumption) ?_
            case hye2x3 => (intro w hSw; (try dsimp only at hSw); go_simp <;> with_reducible rfl)
            (try simp only [Act.put, List.setIfInBounds_toArray, List.set_cons_zero, List.set_cons_succ])
            refine wpAnyH_tk 3 (v := ?ve3x4) rfl (by kernel_rfl) (by kernel_rfl) (by kernel_rfl) (fun _ _ _ h => h) (by rfl) ?hye3x4 (by assumption) ?_
            case hye3x4 => (intro w hSw; (try dsimp only at hSw); go_simp <;> with_reducible rfl)
            (try simp only [Act.put, List.setIfInBounds_toArray, List.set_cons_zero, List.set_cons_succ])
            refine wpAnyH_tk 4 (v := ?ve4x5) rfl (by kernel_rfl) (by kernel_rfl) (by kernel_rfl) (fun _ _ _ h => h) (by rfl) ?hye4x5 (by assumption) ?_
            case hye4x5 => (intro w hSw; (try dsimp only at hSw); go_simp <;> with_reducible rfl)
            (try simp only [Act.put, List.setIfInBounds_toArray, List.set_cons_zero, List.set_cons_succ])
            refine wpAnyH_tk 5 (v := ?ve5x6) rfl (by kernel_rfl) (by kernel_rfl) (by kernel_rfl) (fun _ _ _ h => h) (by rfl) ?hye5x6 (by assumption) ?_
            case hye5x6 => (intro w hSw; (try dsimp only at hSw); go_simp <;> with_reducible rfl)
            (try simp only [Act.put, List.setIfInBounds_toArray, List.set_cons_zero, List.set_cons_succ])
            refine wpAnyH_tk 6 (v := ?ve6x7) rfl (by kernel_rfl) (by kernel_rfl) (by kernel_rfl) (fun _ _ _ h => h) (by rfl) ?hye6x7 (by assumption) ?_
            case hye6x7 => (intro w hSw; (try dsimp only at hSw); go_simp <;> with_reducible rfl)
            (try simp only [Act.put, List.setIfInBounds_toArray, List.set_cons_zero, List.set_cons_succ])
            refine wpAnyH_tk 7 (v := ?ve7x8) rfl (by kernel_rfl) (by kernel_rfl) (by kernel_rfl) (fun _ _ _ h => h) (by rfl) ?hye7x8 (by assumption) ?_
            case hye7x8 => (intro w hSw; (try dsimp only at hSw); go_simp <;> with_reducible rfl)
            (try simp only [Act.put, List.setIfInBounds_toArray, List.set_cons_zero, List.set_cons_succ])
            refine wpAnyH_tk 8 (v := ?ve8x9) rfl (by kernel_rfl) (by kernel_rfl) (by kernel_rfl) (fun _ _ _ h => h) (by rfl) ?hye8x9 (by assumption) ?_
            case hye8x9 => (intro w hSw; (try dsimp only at hSw); go_simp <;> with_reducible rfl)
            (try simp only [Act.put, List.setIfInBounds_toArray, List.set_cons_zero, List.set_cons_succ])
            refine wpAnyH_tk 10 (v := ?ve10x10) rfl (by kernel_rfl) (by kernel_rfl) (by kernel_rfl) (fun _ _ _ h => h) (by rfl) ?hye10x10 (by assumption) ?_
            case hye10x10 => (intro w hSw; (try dsimp only at hSw); go_simp <;> with_reducible rfl)
            (try simp only [Act.put, List.setIfInBounds_toArray, List.set_cons_zero, List.set_cons_succ])
            refine wpAnyH_tk 11 (v := ?ve11x11) rfl (by kernel_rfl) (by kernel_rfl) (by kernel_rfl) (fun _ _ _ h => h) (by rfl) ?hye11x11 (by assumption) ?_
            case hye11x11 => (intro w hSw; (try dsimp only at hSw); go_simp <;> with_reducible rfl)
            (try simp only [Act.put, List.setIfInBounds_toArray, List.set_cons_zero, List.set_cons_succ])
            refine wpAnyH_tk 12 (v := ?ve12x12) rfl (by kernel_rfl) (by kernel_rfl) (by kernel_rfl) (fun _ _ _ h => h) (by rfl) ?hye12x12 (by assumption) ?_
            case hye12x12 => (intro w hSw; (try dsimp only at hSw); go_simp <;> with_reducible rfl)
            (try simp only [Act.put, List.setIfInBounds_toArray, List.set_cons_zero, List.set_cons_succ])
            refine wpAnyH_two 9 13 rfl rfl (by kernel_rfl) (by rfl) (by rfl) (fun K hK => ?_) (fun K hK => ?_)
            · skip
              go_simp
              refine hK.out _ _ ?hSe9x13 (fun hHeld => ?_)
              case hSe9x13 => trivial
              clear hK K
              (try simp only [Act.put, List.setIfInBounds_toArray, List.set_cons_zero, List.set_cons_succ])
              refine wpAnyH_one 13 rfl (by kernel_rfl) (by rfl) (fun K hK => ?_)
              go_simp
              refine hK.out _ _ ?hSe13x14 (fun hHeld => ?_)
              case hSe13x14 => trivial
              clear hK K
              (try simp only [Act.put, List.setIfInBounds_toArray, List.set_cons_zero, List.set_cons_succ])
              refine wpAnyH_tk 14 (v := ?ve14x15) rfl (by kernel_rfl) (by kernel_rfl) (by kernel_rfl) (fun _ _ _ h => h) (by rfl) ?hye14x15 (by assumption) ?_
              case hye14x15 => (intro w hSw; (try dsimp only at hSw); go_simp <;> with_reducible rfl)
              (try simp only [Act.put, List.setIfInBounds_toArray, List.set_cons_zero, List.set_cons_succ])
              refine wpAnyH_one 15 rfl (by kernel_rfl) (by rfl) (fun K hK => ?_)
              go_simp
              refine hK.out _ _ ?hSe15x16 (fun hHeld => ?_)
              case hSe15x16 => trivial
              clear hK K
              (try simp only [Act.put, List.setIfInBounds_toArray, List.set_cons_zero, List.set_cons_succ])
              refine wpAnyH_tk 16 (v := ?ve16x17) rfl (by kernel_rfl) (by kernel_rfl) (by kernel_rfl) (fun _ _ _ h => h) (by rfl) ?hye16x17 (by assumption) ?_
              case hye16x17 => (intro w hSw; (try dsimp only at hSw); go_simp <;> with_reducible rfl)
              (try simp only [Act.put, List.setIfInBounds_toArray, List.set_cons_zero, List.set_cons_succ])
              refine wpAnyH_one 17 rfl (by kernel_rfl) (by rfl) (fun K hK => ?_)
              go_simp
              refine hK.out _ _ ?hSe17x18 (fun hHeld => ?_)
              case hSe17x18 => trivial
              clear hK K
              (try simp only [Act.put, List.setIfInBounds_toArray, List.set_cons_zero, List.set_cons_succ])
              refine wpAnyH_done (by kernel_rfl) ?_ _
              clear hHeld
              go_wp2
              go_roundg (j - 1)
              case rel => exact ⟨j - 1, _, by omega, rfl, by go_num, HIN, HO5, HE5⟩
              case measure => have := Hjg.out; omega
            · skip
              go_simp
              refine hK.out _ _ ?hSe13x19 (fun hHeld => ?_)
              case hSe13x19 => trivial
              clear hK K
              (try simp only [Act.put, List.setIfInBounds_toArray, List.set_cons_zero, List.set_cons_succ])
              refine wpAnyH_one 9 rfl (by kernel_rfl) (by rfl) (fun K hK => ?_)
              go_simp
              refine hK.out _ _ ?hSe9x20 (fun hHeld => ?_)
              case hSe9x20 => trivial
              clear hK K
              (try simp only [Act.put, List.setIfInBounds_toArray, List.set_cons_zero, List.set_cons_succ])
              refine wpAnyH_tk 14 (v := ?ve14x21) rfl (by kernel_rfl) (by kernel_rfl) (by kernel_rfl) (fun _ _ _ h => h) (by rfl) ?hye14x21 (by assumption) ?_
              case hye14x21 => (intro w hSw; (try dsimp only at hSw); go_simp <;> with_reducible rfl)
              (try simp only [Act.put, List.setIfInBounds_toArray, List.set_cons_zero, List.set_cons_succ])
              refine wpAnyH_one 15 rfl (by kernel_rfl) (by rfl) (fun K hK => ?_)
              go_simp
              refine hK.out _ _ ?hSe15x22 (fun hHeld => ?_)
              case hSe15x22 => trivial
              clear hK K
              (try simp only [Act.put, List.setIfInBounds_toArray, List.set_cons_zero, List.set_cons_succ])
              refine wpAnyH_tk 16 (v := ?ve16x23) rfl (by kernel_rfl) (by kernel_rfl) (by kernel_rfl) (fun _ _ _ h => h) (by rfl) ?hye16x23 (by assumption) ?_
              case hye16x23 => (intro w hSw; (try dsimp only at hSw); go_simp <;> with_reducible rfl)
              (try simp only [Act.put, List.setIfInBounds_toArray, List.set_cons_zero, List.set_cons_succ])
              refine wpAnyH_one 17 rfl (by kernel_rfl) (by rfl) (fun K hK => ?_)
              go_simp
              refine hK.out _ _ ?hSe17x24 (fun hHeld => ?_)
              case hSe17x24 => trivial
              clear hK K
              (try simp only [Act.put, List.setIfInBounds_toArray, List.set_cons_zero, List.set_cons_succ])
              refine wpAnyH_done (by kernel_rfl) ?_ _
              clear hHeld
              go_wp2
              go_roundg (j - 1)
              case rel => exact ⟨j - 1, _, by omega, rfl, by go_num, HIN, HO5, HE5⟩
              case measure => have := Hjg.out; omega
          · have hltb : decide (cx < 0) = false := decide_eq_false hlt2
            have HOUT := hid (IN.out.stop hjk (.inr (by rw [HY.out, ← HXK.out]; have := HCX.out; omega)))
            clear hlt2
            go_wp2
            refine wp_region_held_drew (S := (fun w' => w'.cell? ⟨g, j, none⟩ = some (.int .i64 x) ∧ w'.cell? ⟨g, j - 1, none⟩ = some (.int .i64 y))) (by kernel_rfl) ?hSc0 (fun hHeld => ?_)
            case hSc0 => (first | (exact ⟨dj, dp⟩) | ((try dsimp only); exact ⟨dj, dp⟩))
            refine wpAnyH_tk 0 (v := ?vc0) rfl (by kernel_rfl) (by kernel_rfl) (by kernel_rfl) (fun _ _ _ h => h) (by rfl) ?hyc0 (by assumption) ?_
            case hyc0 => (intro w hSw; (try dsimp only at hSw); go_simp <;> with_reducible rfl)
            (try simp only [Act.put, List.setIfInBounds_toArray, List.set_cons_zero, List.set_cons_succ])
            refine wpAnyH_tk 1 (v := ?vc1) rfl (by kernel_rfl) (by kernel_rfl) (by kernel_rfl) (fun _ _ _ h => h) (by rfl) ?hyc1 (by assumption) ?_
            case hyc1 => (intro w hSw; (try dsimp only at hSw); go_simp <;> with_reducible rfl)
            (try simp only [Act.put, List.setIfInBounds_toArray, List.set_cons_zero, List.set_cons_succ])
            refine wpAnyH_tk 2 (v := ?vc2) rfl (by kernel_rfl) (by kernel_rfl) (by kernel_rfl) (fun _ _ _ h => h) (by rfl) ?hyc2 (by assumption) ?_
            case hyc2 => (intro w hSw; (try dsimp only at hSw); go_simp <;> with_reducible rfl)
            (try simp only [Act.put, List.setIfInBounds_toArray, List.set_cons_zero, List.set_cons_succ])
            refine wpAnyH_tk 3 (v := ?vc3) rfl (by kernel_rfl) (by kernel_rfl) (by kernel_rfl) (fun _ _ _ h => h) (by rfl) ?hyc3 (by assumption) ?_
            case hyc3 => (intro w hSw; (try dsimp only at hSw); go_simp <;> with_reducible rfl)
            (try simp only [Act.put, List.setIfInBounds_toArray, List.set_cons_zero, List.set_cons_succ])
            refine wpAnyH_tk 4 (v := ?vc4) rfl (by kernel_rfl) (by kernel_rfl) (by kernel_rfl) (fun _ _ _ h => h) (by rfl) ?hyc4 (by assumption) ?_
            case hyc4 => (intro w hSw; (try dsimp only at hSw); go_simp <;> with_reducible rfl)
            (try simp only [Act.put, List.setIfInBounds_toArray, List.set_cons_zero, List.set_cons_succ])
            refine wpAnyH_tk 5 (v := ?vc5) rfl (by kernel_rfl) (by kernel_rfl) (by kernel_rfl) (fun _ _ _ h => h) (by rfl) ?hyc5 (by assumption) ?_
            case hyc5 => (intro w hSw; (try dsimp only at hSw); go_simp <;> with_reducible rfl)
            (try simp only [Act.put, List.setIfInBounds_toArray, List.set_cons_zero, List.set_cons_succ])
            refine wpAnyH_tk 6 (v := ?vc6) rfl (by kernel_rfl) (by kernel_rfl) (by kernel_rfl) (fun _ _ _ h => h) (by rfl) ?hyc6 (by assumption) ?_
            case hyc6 => (intro w hSw; (try dsimp only at hSw); go_simp <;> with_reducible rfl)
            (try simp only [Act.put, List.setIfInBounds_toArray, List.set_cons_zero, List.set_cons_succ])
            refine wpAnyH_tk 7 (v := ?vc7) rfl (by kernel_rfl) (by kernel_rfl) (by kernel_rfl) (fun _ _ _ h => h) (by rfl) ?hyc7 (by assumption) ?_
            case hyc7 => (intro w hSw; (try dsimp only at hSw); go_simp <;> with_reducible rfl)
            (try simp only [Act.put, List.setIfInBounds_toArray, List.set_cons_zero, List.set_cons_succ])
            refine wpAnyH_tk 8 (v := ?vc8) rfl (by kernel_rfl) (by kernel_rfl) (by kernel_rfl) (fun _ _ _ h => h) (by rfl) ?hyc8 (by assumption) ?_
            case hyc8 => (intro w hSw; (try dsimp only at hSw); go_simp <;> with_reducible rfl)
            (try simp only [Act.put, List.setIfInBounds_toArray, List.set_cons_zero, List.set_cons_succ])
            refine wpAnyH_tk 9 (v := ?vc9) rfl (by kernel_rfl) (by kernel_rfl) (by kernel_rfl) (fun _ _ _ h => h) (by rfl) ?hyc9 (by assumption) ?_
            case hyc9 => (intro w hSw; (try dsimp only at hSw); go_simp <;> with_reducible rfl)
            (try simp only [Act.put, List.setIfInBounds_toArray, List.set_cons_zero, List.set_cons_succ])
            refine wpAnyH_tk 10 (v := ?vc10) rfl (by kernel_rfl) (by kernel_rfl) (by kernel_rfl) (fun _ _ _ h => h) (by rfl) ?hyc10 (by assumption) ?_
            case hyc10 => (intro w hSw; (try dsimp only at hSw); go_simp <;> with_reducible rfl)
            (try simp only [Act.put, List.setIfInBounds_toArray, List.set_cons_zero, List.set_cons_succ])
            refine wpAnyH_tk 11 (v := ?vc11) rfl (by kernel_rfl) (by kernel_rfl) (by kernel_rfl) (fun _ _ _ h => h) (by rfl) ?hyc11 (by assumption) ?_
            case hyc11 => (intro w hSw; (try dsimp only at hSw); go_simp <;> with_reducible rfl)
            (try simp only [Act.put, List.setIfInBounds_toArray, List.set_cons_zero, List.set_cons_succ])
            refine wpAnyH_tk 12 (v := ?vc12) rfl (by kernel_rfl) (by kernel_rfl) (by kernel_rfl) (fun _ _ _ h => h) (by rfl) ?hyc12 (by assumption) ?_
            case hyc12 => (intro w hSw; (try dsimp only at hSw); go_simp <;> with_reducible rfl)
            (try simp only [Act.put, List.setIfInBounds_toArray, List.set_cons_zero, List.set_cons_succ])
            refine wpAnyH_tk 13 (v := ?vc13) rfl (by kernel_rfl) (by kernel_rfl) (by kernel_rfl) (fun _ _ _ h => h) (by rfl) ?hyc13 (by assumption) ?_
            case hyc13 => (intro w hSw; (try dsimp only at hSw); go_simp <;> with_reducible rfl)
            (try simp only [Act.put, List.setIfInBounds_toArray, List.set_cons_zero, List.set_cons_succ])
            refine wpAnyH_one 14 rfl (by kernel_rfl) (by rfl) (fun K hK => ?_)
            go_simp
            (refine (cmpC_any _ bm ao cap rs x y (E2.out.cell H1.out) (HV.out.ext E2.out) HOk.out hxl hyl).mono ?_; rintro e w3 ⟨rfl, he3⟩; rw [← HCX.out]; have E3 := hid (E2.out.trans he3); have HO3 : Hid (OwnI w1.heap.size w3 (.slice (some ⟨g, 0, none⟩) n cp) (rowL n f)) := ownsRow_ext HO2.out he3; have dj3 := he3.cell dj; have dp3 := he3.cell dp; clear he3)
            refine hK.out _ _ ?hSc15 (fun hHeld => ?_)
            case hSc15 => (first | (exact ⟨dj3, dp3⟩) | ((try dsimp only); exact ⟨dj3, dp3⟩))
            clear hK K
            (try simp only [Act.put, List.setIfInBounds_toArray, List.set_cons_zero, List.set_cons_succ])
            refine wpAnyH_tk 15 (v := ?vc15) rfl (by kernel_rfl) (by kernel_rfl) (by kernel_rfl) (fun _ _ _ h => h) (by rfl) ?hyc15 (by assumption) ?_
            case hyc15 => (intro w hSw; (try dsimp only at hSw); go_simp <;> with_reducible rfl)
            (try simp only [Act.put, List.setIfInBounds_toArray, List.set_cons_zero, List.set_cons_succ])
            refine wpAnyH_tk 16 (v := ?vc16) rfl (by kernel_rfl) (by kernel_rfl) (by kernel_rfl) (fun _ _ _ h => h) (by rfl) ?hyc16 (by assumption) ?_
            case hyc16 => (intro w hSw; (try dsimp only at hSw); go_simp <;> with_reducible rfl)
            (try simp only [Act.put, List.setIfInBounds_toArray, List.set_cons_zero, List.set_cons_succ])
            refine wpAnyH_done (by kernel_rfl) ?_ _
            clear hHeld dj dp fj fp hltb
            go_wp2
            go_roundg (n - (k + 1))
            case rel => exact ⟨k + 1, f, by omega, by omega, by go_num, HOUT, HO3, E3⟩
            case measure => have := Hk.out; omega
        · have ej : j = 0 := by omega
          subst ej
          have HOUT := hid (IN.out.stop hjk (.inl rfl))
          go_wp2
          refine wp_region_held_drew (S := (fun _ => True)) (by kernel_rfl) ?hSd0 (fun hHeld => ?_)
          case hSd0 => (first | (trivial) | ((try dsimp only); trivial))
          refine wpAnyH_tk 0 (v := ?vd0) rfl (by kernel_rfl) (by kernel_rfl) (by kernel_rfl) (fun _ _ _ h => h) (by rfl) ?hyd0 (by assumption) ?_
          case hyd0 => (intro w hSw; (try dsimp only at hSw); go_simp <;> with_reducible rfl)
          (try simp only [Act.put, List.setIfInBounds_toArray, List.set_cons_zero, List.set_cons_succ])
          refine wpAnyH_tk 1 (v := ?vd1) rfl (by kernel_rfl) (by kernel_rfl) (by kernel_rfl) (fun _ _ _ h => h) (by rfl) ?hyd1 (by assumption) ?_
          case hyd1 => (intro w hSw; (try dsimp only at hSw); go_simp <;> with_reducible rfl)
          (try simp only [Act.put, List.setIfInBounds_toArray, List.set_cons_zero, List.set_cons_succ])
          refine wpAnyH_tk 2 (v := ?vd2) rfl (by kernel_rfl) (by kernel_rfl) (by kernel_rfl) (fun _ _ _ h => h) (by rfl) ?hyd2 (by assumption) ?_
          case hyd2 => (intro w hSw; (try dsimp only at hSw); go_simp <;> with_reducible rfl)
          (try simp only [Act.put, List.setIfInBounds_toArray, List.set_cons_zero, List.set_cons_succ])
          refine wpAnyH_tk 3 (v := ?vd3) rfl (by kernel_rfl) (by kernel_rfl) (by kernel_rfl) (fun _ _ _ h => h) (by rfl) ?hyd3 (by assumption) ?_
          case hyd3 => (intro w hSw; (try dsimp only at hSw); go_simp <;> with_reducible rfl)
          (try simp only [Act.put, List.setIfInBounds_toArray, List.set_cons_zero, List.set_cons_succ])
          refine wpAnyH_skips 3 true 21 1 (by kernel_rfl) rfl (fun _ _ _ _ _ h => h) [4, 5, 6, 7, 8, 9, 10, 11, 12, 13, 14, 15] [22, 23, 24, 25, 26, 27, 28, 29, 30, 31, 32, 33] _ _ _ rfl (by kernel_rfl) (by rfl) (by assumption) ?_
          (try simp only [putsAll, List.foldl, Act.put, List.setIfInBounds_toArray, List.set_cons_zero, List.set_cons_succ])
          refine wpAnyH_tk 16 (v := ?vd16) rfl (by kernel_rfl) (by kernel_rfl) (by kernel_rfl) (fun _ _ _ h => h) (by rfl) ?hyd16 (by assumption) ?_
          case hyd16 => (intro w hSw; (try dsimp only at hSw); go_simp <;> with_reducible rfl)
          (try simp only [Act.put, List.setIfInBounds_toArray, List.set_cons_zero, List.set_cons_succ])
          refine wpAnyH_done (by kernel_rfl) ?_ _
          clear hHeld
          go_wp2
          go_roundg (n - (k + 1))
          case rel => exact ⟨k + 1, f, by omega, by omega, by go_num, HOUT, HO2, E2⟩
          case measure => have := Hk.out; omega
    · have ek : k = n := by omega
      have h := OUT.out
      rw [ek] at h
      have HR := hid h
      have hki : ¬ ((k : Int) < n) := by omega
      clear ek h hlt
      go_wp2
      go_end0
      exact ⟨rfl, f, HR.out, HO.out, E.out⟩

end Go.Proofs.YtkbkgkmogbkabaaDoor

/-
  Contract of SortStableFunc at the roads' costs.
-/
namespace Go.Proofs.YtkbkgkmogbkabaaDoor
open Go.RowKit

set_option maxRecDepth 20000 in
set_option maxHeartbeats 400000 in
theorem stableC_any (w1 w : World) (bm : Nat) (ao : Option Addr) (cap : Nat) (rs : List RoadD) (g cp n : Nat) (f : Nat → Int) (h1 : w1.cell? ⟨bm, 1, none⟩ = some (.slice ao rs.length cap)) (hv : Roads w1 (.slice ao rs.length cap) rs) (hok : ∀ r ∈ rs, 1 ≤ r.cost ∧ r.cost ≤ 50) (hn : n = rs.length) (hn0 : 0 < n) (hn16 : n ≤ 16)
    (hE : Ext w1 w) (hg : w1.heap.size ≤ g) (ho : OwnI w1.heap.size w (.slice (some ⟨g, 0, none⟩) n cp) (rowL n f)) (h0 : OutS rs n 0 f) :
    Calls Tryd.prog 60 #[.slice (some ⟨g, 0, none⟩) n cp, .int .i64 n, .func (.func 48) #[] #[.pointer (some ⟨bm, 0, none⟩)]] w fun e w' => e = .returned (.tuple #[]) ∧ ∃ f', Hid (OutS rs n n f') ∧ OwnI w1.heap.size w' (.slice (some ⟨g, 0, none⟩) n cp) (rowL n f') ∧ Ext w1 w' := by
  have H := hid (insC_any w1 w bm ao cap rs g cp n f h1 hv hok hn hn0 hn16 hE hg ho h0)
  have hb : ¬ ((20 : Int) ≤ n) := by omega
  have hb2 : ¬ ((20 : Int) < n) := by omega
  clear h1 hv hok hn hE ho h0
  go_enter Tryd.func60, Tryd.ntmps60
  go_wp2
  go_loopg [8, 7] 0 (fun gm i j wr => i = .int .i64 20 ∧ j = .int .i64 0 ∧ wr = w)
  case atStart => exact ⟨rfl, rfl, rfl⟩
  case round =>
    obtain ⟨rfl, rfl, rfl⟩ := hrel
    go_wp2_with (fail)
    refine H.out.mono ?_
    rintro e w2 ⟨rfl, f', hf, ho, he⟩
    have HF := hid hf.out
    have HO := hid ho
    have HE := hid he
    clear hf ho he
    go_wp2
    go_loopg [6] 0 (fun gm i wr => i = .int .i64 20 ∧ wr = w2)
    case atStart => exact ⟨rfl, rfl⟩
    case round =>
      obtain ⟨rfl, rfl⟩ := hrel
      go_wp2
      go_end0
      exact ⟨rfl, f', HF.out, HO.out, HE.out⟩

set_option maxRecDepth 20000 in
set_option maxHeartbeats 400000 in
theorem SortStable_any (w1 w : World) (bm : Nat) (ao : Option Addr) (cap : Nat) (rs : List RoadD) (g cp n : Nat) (f : Nat → Int) (h1 : w1.cell? ⟨bm, 1, none⟩ = some (.slice ao rs.length cap)) (hv : Roads w1 (.slice ao rs.length cap) rs) (hok : ∀ r ∈ rs, 1 ≤ r.cost ∧ r.cost ≤ 50) (hn : n = rs.length) (hn0 : 0 < n) (hn16 : n ≤ 16)
    (hE : Ext w1 w) (hg : w1.heap.size ≤ g) (ho : OwnI w1.heap.size w (.slice (some ⟨g, 0, none⟩) n cp) (rowL n f)) (h0 : OutS rs n 0 f) :
    Calls Tryd.prog 47 #[.slice (some ⟨g, 0, none⟩) n cp, .func (.func 48) #[] #[.pointer (some ⟨bm, 0, none⟩)]] w fun e w' => e = .returned (.tuple #[]) ∧ ∃ f', Hid (OutS rs n n f') ∧ OwnI w1.heap.size w' (.slice (some ⟨g, 0, none⟩) n cp) (rowL n f') ∧ Ext w1 w' := by
  have H := hid (stableC_any w1 w bm ao cap rs g cp n f h1 hv hok hn hn0 hn16 hE hg ho h0)
  clear h1 hv hok hn hE ho h0
  go_enter Tryd.func47, Tryd.ntmps47
  go_wp2_with (fail)
  refine H.out.mono ?_
  rintro e w2 ⟨rfl, f', hf, ho, he⟩
  have HF := hid hf.out
  have HO := hid ho
  have HE := hid he
  clear hf ho he
  go_wp2
  go_end0
  exact ⟨rfl, f', HF.out, HO.out, HE.out⟩

set_option maxRecDepth 20000 in
set_option maxHeartbeats 400000 in
theorem SortStable_none (w : World) (bm : Nat) :
    Calls Tryd.prog 47 #[.slice none 0 0, .func (.func 48) #[] #[.pointer (some ⟨bm, 0, none⟩)]] w fun e w' => e = .returned (.tuple #[]) ∧ Ext w w' := by
  have hins : Calls Tryd.prog 68 #[.slice none 0 0, .int .i64 0, .int .i64 0, .func (.func 48) #[] #[.pointer (some ⟨bm, 0, none⟩)]] w fun e w' => e = .returned (.tuple #[]) ∧ Ext w w' := by
    go_enter Tryd.func68, Tryd.ntmps68
    go_wp2
    go_loopg [8] 0 (fun gm i wr => i = .int .i64 1 ∧ wr = w)
    case atStart => exact ⟨rfl, rfl⟩
    case round =>
      obtain ⟨rfl, rfl⟩ := hrel
      go_wp2
      go_end0
      exact ⟨rfl, Ext.refl _⟩
  have HI := hid hins
  clear hins
  have hst : Calls Tryd.prog 60 #[.slice none 0 0, .int .i64 0, .func (.func 48) #[] #[.pointer (some ⟨bm, 0, none⟩)]] w fun e w' => e = .returned (.tuple #[]) ∧ Ext w w' := by
    go_enter Tryd.func60, Tryd.ntmps60
    go_wp2
    go_loopg [8, 7] 0 (fun gm i j wr => i = .int .i64 20 ∧ j = .int .i64 0 ∧ wr = w)
    case atStart => exact ⟨rfl, rfl, rfl⟩
    case round =>
      obtain ⟨rfl, rfl, rfl⟩ := hrel
      go_wp2_with (fail)
      refine HI.out.mono ?_
      rintro e w2 ⟨rfl, he⟩
      have HE := hid he
      clear he
      go_wp2
      go_loopg [6] 0 (fun gm i wr => i = .int .i64 20 ∧ wr = w2)
      case atStart => exact ⟨rfl, rfl⟩
      case round =>
        obtain ⟨rfl, rfl⟩ := hrel
        go_wp2
        go_end0
        exact ⟨rfl, HE.out⟩
  have HS := hid hst
  clear hst
  go_enter Tryd.func47, Tryd.ntmps47
  go_wp2_with (fail)
  refine HS.out.mono ?_
  rintro e w2 ⟨rfl, he⟩
  have HE := hid he
  clear he
  go_wp2
  go_end0
  exact ⟨rfl, HE.out⟩

end Go.Proofs.YtkbkgkmogbkabaaDoor
