/-
  Ways are proved by the distances, and no accepted way is longer, in plain Lean.
-/
import Derived.Test.YtkbkgkmogbkabaaRtShownPlain
namespace Go.Proofs.Ytkbkgkmogbkabaa
open Go.RowKit

theorem costStep_le {N : Nat} {D : Nat → Nat → Int} {r : RoadD} (hr : roadOk N r = true) (hs : ∀ i j, D i j = D j i) (i j : Nat) : costStep D r i j ≤ D i j ∧ costStep D r i j = costStep D r j i := by
  obtain ⟨p1, p2, p3, p4, p5, p6, p7⟩ := roadOk_iff.1 hr
  have hne : r.a.toNat ≠ r.b.toNat := by omega
  rw [costStep_val hne, costStep_val hne]
  have hm := (mn_le (D r.a.toNat r.b.toNat) r.cost).1
  by_cases c : (i = r.b.toNat ∧ j = r.a.toNat) ∨ (i = r.a.toNat ∧ j = r.b.toNat)
  · rw [if_pos c, if_pos (by omega)]
    refine ⟨?_, rfl⟩
    rcases c with ⟨rfl, rfl⟩ | ⟨rfl, rfl⟩
    · rw [hs r.b.toNat r.a.toNat]; exact hm
    · exact hm
  · rw [if_neg c, if_neg (by omega)]
    exact ⟨Int.le_refl _, hs i j⟩
theorem fold_le {N : Nat} : ∀ (rs : List RoadD) (D : Nat → Nat → Int), (∀ r ∈ rs, roadOk N r = true) → (∀ i j, D i j = D j i) → ∀ i j, rs.foldl costStep D i j ≤ D i j
  | [], _, _, _, _, _ => Int.le_refl _
  | r :: rs, D, hr, hs, i, j => by
    have h1 := fun i j => costStep_le (hr r (List.mem_cons_self ..)) hs i j
    have h2 := fold_le rs (costStep D r) (fun x hx => hr x (List.mem_cons_of_mem _ hx)) (fun i j => (h1 i j).2) i j
    exact Int.le_trans h2 (h1 i j).1
theorem fold_road {N : Nat} : ∀ (rs : List RoadD) (D : Nat → Nat → Int), (∀ r ∈ rs, roadOk N r = true) → (∀ i j, D i j = D j i) → ∀ r ∈ rs, rs.foldl costStep D r.a.toNat r.b.toNat ≤ r.cost
  | q :: rs, D, hr, hs, r, hm => by
    have h1 := fun i j => costStep_le (hr q (List.mem_cons_self ..)) hs i j
    rcases List.mem_cons.1 hm with rfl | hm
    · refine Int.le_trans (fold_le rs (costStep D r) (fun x hx => hr x (List.mem_cons_of_mem _ hx)) (fun i j => (h1 i j).2) _ _) ?_
      obtain ⟨p1, p2, p3, p4, p5, p6, p7⟩ := roadOk_iff.1 (hr r (List.mem_cons_self ..))
      rw [costStep_val (by omega), if_pos (.inr ⟨rfl, rfl⟩)]
      exact (mn_le _ _).2
    · exact fold_road rs (costStep D q) (fun x hx => hr x (List.mem_cons_of_mem _ hx)) (fun i j => (h1 i j).2) r hm
theorem cost_road {N : Nat} {rs : List RoadD} (hr : ∀ r ∈ rs, roadOk N r = true) {r : RoadD} (hm : r ∈ rs) : costTo rs r.a.toNat r.b.toNat ≤ r.cost :=
  fold_road rs cost0 hr (fun i j => by unfold cost0; by_cases e : j = i <;> simp [e] <;> intro h <;> exact absurd h.symm e) r hm
theorem step_road : ∀ (rs : List RoadD) (a b best : Int), 0 ≤ rs.foldl (stepF a b) best → rs.foldl (stepF a b) best = best ∨ ∃ r ∈ rs, joinsB r a b = true ∧ r.cost = rs.foldl (stepF a b) best
  | [], _, _, _, _ => .inl rfl
  | r :: rs, a, b, best, h => by
    have h' : 0 ≤ rs.foldl (stepF a b) (stepF a b best r) := h
    show rs.foldl (stepF a b) (stepF a b best r) = best ∨ ∃ q ∈ r :: rs, joinsB q a b = true ∧ q.cost = rs.foldl (stepF a b) (stepF a b best r)
    rcases step_road rs a b (stepF a b best r) h' with e | ⟨q, hq, g⟩
    · rw [e]
      by_cases c : joinsB r a b = true ∧ (best < 0 ∨ r.cost < best)
      · right
        exact ⟨r, List.mem_cons_self .., c.1, by unfold stepF; rw [if_pos c]⟩
      · left; unfold stepF; rw [if_neg c]
    · exact .inr ⟨q, List.mem_cons_of_mem _ hq, g⟩

section
variable {rs : List RoadD} {N : Nat} (hr : ∀ r ∈ rs, roadOk N r = true)
include hr

/-- How long a way of a given number of stops can be. -/
theorem grow_bound {b : Nat} (hb : b < N) : ∀ {f : Nat} {way : List Int} {last : Nat} {cost tot : Int} {r : List Int}, growP (costTo rs) (fw (costTo rs) N) N b tot f way last cost = some r → last < N → cost + fw (costTo rs) N last b = tot → tot ≤ cost + 50 * (f : Int)
  | 0, way, last, cost, tot, r, h, hl, ht => by
    unfold growP at h
    split at h
    · rename_i e
      subst e
      rw [((costs_tab hr).fw N (Nat.le_refl _)).diag last hl] at ht
      omega
    · simp at h
  | f + 1, way, last, cost, tot, r, h, hl, ht => by
    obtain ⟨x, hx, hrr⟩ := grow_step h
    obtain ⟨⟨g1, g2, g3, g4⟩, h'⟩ := growF_some hrr
    have := grow_bound hb h' hx g3
    have f1 := (costs_tab hr).fin last x hl hx
    unfold far at *
    omega
theorem fw_small (hN : N ≤ 8) {a b : Nat} (ha : a < N) (hb : b < N) (hf : fw (costTo rs) N a b < far) : fw (costTo rs) N a b ≤ 1000 := by
  obtain ⟨f, r, hw, hfN⟩ := way_ex (costs_tab hr) hN ha hb hf
  have := grow_bound hr hb hw.1 ha (by omega)
  omega
/-- What the way costs, where it ends and begins. -/
theorem grow_cost {b : Nat} (hb : b < N) : ∀ {f : Nat} {way : List Int} {last : Nat} {cost tot : Int} {r : List Int}, growP (costTo rs) (fw (costTo rs) N) N b tot f way last cost = some r → last < N → cost + fw (costTo rs) N last b = tot →
    way ≠ [] → fn way (way.length - 1) = last → cst rs N way way.length = some cost → cst rs N r r.length = some tot ∧ lastI r = b ∧ fn r 0 = fn way 0 ∧ r ≠ []
  | 0, way, last, cost, tot, r, h, hl, ht, hne, hla, hc => by
    unfold growP at h
    split at h
    · rename_i e
      subst e
      rw [((costs_tab hr).fw N (Nat.le_refl _)).diag last hl] at ht
      simp only [Option.some.injEq] at h
      subst h
      rw [Int.add_zero] at ht
      subst ht
      exact ⟨hc, hla, rfl, hne⟩
    · simp at h
  | f + 1, way, last, cost, tot, r, h, hl, ht, hne, hla, hc => by
    obtain ⟨x, hx, hrr⟩ := grow_step h
    obtain ⟨⟨g1, g2, g3, g4⟩, h'⟩ := growF_some hrr
    obtain ⟨c1, c2⟩ := cost_step hr (fun e => g1 e.symm : last ≠ x)
    have s0 := c1.2 g2
    have hp : 0 < way.length := List.length_pos_iff.2 hne
    rcases costR_push (x := (x : Int)) hne hc with ⟨k1, k2, k3, k4⟩ | ⟨k1, -⟩
    · rw [hla] at k3
      rw [← c2 s0] at k3
      obtain ⟨a1, a2, a3, a4⟩ := grow_cost hb h' hx g3 (by simp) (by rw [fn_get (by simp)]; simp) k3
      refine ⟨a1, a2, ?_, a4⟩
      rw [a3]
      exact fn_app hp
    · exfalso
      rw [hla] at k1
      rcases k1 with g | g | g | g
      · omega
      · omega
      · exact g4 g
      · omega
theorem way_proved (hN : N ≤ 8) {a b f : Nat} {r : List Int} (ha : a < N) (hb : b < N) (hw : IsWay (costTo rs) (fw (costTo rs) N) N a b f r) (hl : ¬ lone (fw (costTo rs) N) N a) :
    shownB rs N r (rowL N (fw (costTo rs) N a)) = true := by
  have T := (costs_tab hr).fw N (Nat.le_refl _)
  have hfin : ∀ j, j < N → fw (costTo rs) N a j < far := fun j hj => by
    by_cases h : fw (costTo rs) N a j < far
    · exact h
    · exact absurd ⟨j, hj, by omega⟩ hl
  have hat : ∀ i : Int, 0 ≤ i → i < N → intAt (rowL N (fw (costTo rs) N a)) i = fw (costTo rs) N a i.toNat := by
    intro i h0 h1
    obtain ⟨n, rfl⟩ := Int.eq_ofNat_of_zero_le h0
    rw [Int.toNat_natCast]
    exact rowL_fn (by omega)
  obtain ⟨g1, g2, g3, g4⟩ := grow_cost hr hb hw.1 ha (by omega) (by simp) rfl (cst_one ha)
  have hc := costR_some g4 g1
  have l := T.lo ha hb
  have g3' : fn r 0 = (a : Int) := g3
  refine shown_yes (rowL_len _ _) (fun x hx => ?_) (fun q hq => ?_) (by rw [hc]; exact l) ?_
  · obtain ⟨j, hj, rfl⟩ := mem_rowL.1 hx
    have h1 := fw_small hr hN ha hj (hfin j hj)
    have h2 := T.lo ha hj
    omega
  · obtain ⟨p1, p2, p3, p4, p5, p6, p7⟩ := roadOk_iff.1 (hr q hq)
    have c1 := cost_road hr hq
    have m := fw_le (costTo rs) 0 q.a.toNat q.b.toNat N
    rw [Nat.zero_add] at m
    have m2 : fw (costTo rs) 0 q.a.toNat q.b.toNat = costTo rs q.a.toNat q.b.toNat := rfl
    have t1 := tri (costs_tab hr) N (Nat.le_refl _) a q.a.toNat q.b.toNat ha (by omega) (by omega)
    have t2 := tri (costs_tab hr) N (Nat.le_refl _) a q.b.toNat q.a.toNat ha (by omega) (by omega)
    have s := T.sym q.a.toNat q.b.toNat (by omega) (by omega)
    unfold potB pd
    rw [hat _ p1 p2, hat _ p3 p4]
    omega
  · rw [g2, g3', hc, hat _ (by omega) (by omega), hat _ (by omega) (by omega), Int.toNat_natCast, Int.toNat_natCast, T.diag a ha]
    omega

/-- Potentials bound the distance from below. -/
theorem pot_cost {pot : List Int} (hp : ∀ r ∈ rs, potB pot r) {i j : Nat} (hne : i ≠ j) (hf : costTo rs i j < far) : intAt pot j - intAt pot i ≤ costTo rs i j := by
  obtain ⟨c1, c2⟩ := cost_step hr hne
  have s0 := c1.2 hf
  rw [c2 s0]
  rcases step_road rs i j (-1) s0 with e | ⟨r, hm, hj, hc⟩
  · have e2 : stepR rs i j = -1 := e
    omega
  · have e2 : r.cost = stepR rs i j := hc
    have hb := hp r hm
    unfold potB pd at hb
    unfold joinsB at hj
    rw [decide_eq_true_iff] at hj
    rcases hj with ⟨h1, h2⟩ | ⟨h1, h2⟩ <;> rw [h1, h2] at hb <;> omega
theorem pot_fw {pot : List Int} (hp : ∀ r ∈ rs, potB pot r) : ∀ k, k ≤ N → ∀ i j, i < N → j < N → fw (costTo rs) k i j < far → intAt pot j - intAt pot i ≤ fw (costTo rs) k i j
  | 0, _, i, j, hi, hj, hf => by
    by_cases e : i = j
    · subst e
      have := (costs_tab hr).diag i hi
      show _ ≤ costTo rs i i
      omega
    · exact pot_cost hr hp e hf
  | k + 1, hk, i, j, hi, hj, hf => by
    have T := (costs_tab hr).fw k (by omega)
    have hv : fw (costTo rs) (k + 1) i j = mn (fw (costTo rs) k i j) (fw (costTo rs) k i k + fw (costTo rs) k k j) := rfl
    rw [hv] at hf ⊢
    rcases mn_or (fw (costTo rs) k i j) (fw (costTo rs) k i k + fw (costTo rs) k k j) with e | e
    · rw [e] at hf ⊢
      exact pot_fw hp k (by omega) i j hi hj hf
    · rw [e] at hf ⊢
      have l1 := T.lo hi (show k < N by omega)
      have l2 := T.lo (show k < N by omega) hj
      have a1 := pot_fw hp k (by omega) i k hi (by omega) (by omega)
      have a2 := pot_fw hp k (by omega) k j (by omega) hj (by omega)
      omega
/-- A way costs no less than the distance. -/
theorem cst_fw (hN : N ≤ 8) {way : List Int} : ∀ {k : Nat} {s : Int}, cst rs N way k = some s → 0 < k → k ≤ way.length → fw (costTo rs) N (fn way 0).toNat (fn way (k - 1)).toNat ≤ s ∧ fw (costTo rs) N (fn way 0).toNat (fn way (k - 1)).toNat < far
  | k + 1, s, h, _, hk => by
    have T := (costs_tab hr).fw N (Nat.le_refl _)
    obtain ⟨-, hrange⟩ := cst_range h hk
    have inr : ∀ i, i < k + 1 → 0 ≤ fn way i ∧ fn way i < N := fun i hi => by
      rw [fn_get (by omega)]
      have h1 : way[i]'(by omega) = (way.take (k + 1))[i]'(by rw [List.length_take]; omega) := by rw [List.getElem_take]
      rw [h1]
      exact hrange _ (List.getElem_mem _)
    cases e : cst rs N way k with
    | none => rw [cst_none e 1] at h; simp at h
    | some t =>
      by_cases k0 : k = 0
      · subst k0
        have i0 := inr 0 (by omega)
        have d := T.diag (fn way 0).toNat (by omega)
        have e2 : cst rs N way 0 = some 0 := rfl
        rw [e2] at e
        have hb : ¬ (fn way 0 < 0 ∨ (N : Int) ≤ fn way 0 ∨ fn way 0 ∈ way.take 0) := by simp; omega
        rw [cst_first e2 hb] at h
        simp only [Option.some.injEq] at h
        show fw (costTo rs) N (fn way 0).toNat (fn way 0).toNat ≤ s ∧ _
        rw [d]
        unfold far
        constructor
        · omega
        · omega
      · obtain ⟨a1, a2⟩ := cst_fw hN e (by omega) (by omega)
        have i0 := inr 0 (by omega)
        have i1 := inr (k - 1) (by omega)
        have i2 := inr k (by omega)
        rw [Nat.add_sub_cancel]
        obtain ⟨x, hx⟩ := Int.eq_ofNat_of_zero_le i2.1
        obtain ⟨p, hp⟩ := Int.eq_ofNat_of_zero_le i1.1
        have hb : ¬ (fn way k < 0 ∨ (N : Int) ≤ fn way k ∨ fn way k ∈ way.take k) := fun hb => by rw [cst_bad e hb] at h; simp at h
        have hs : ¬ stepR rs (fn way (k - 1)) (fn way k) < 0 := fun hs => by rw [cst_no e (by omega) hs] at h; simp at h
        rw [cst_yes e hb (by omega) hs] at h
        simp only [Option.some.injEq] at h
        rw [hp, hx] at h hs
        rw [hp, Int.toNat_natCast] at a1 a2
        rw [hx, Int.toNat_natCast]
        have st := step_tri hr hN (show (fn way 0).toNat < N by omega) (show p < N by omega) (show x < N by omega) (by omega) a2
        omega
/-- Whatever is accepted. -/
theorem shown_proved (hN : N ≤ 8) {way pot : List Int} (h : shownB rs N way pot = true) :
    pot.length = N ∧ way ≠ [] ∧ (0 ≤ fn way 0 ∧ fn way 0 < N) ∧ (0 ≤ lastI way ∧ lastI way < N) ∧ intAt pot (lastI way) - intAt pot (fn way 0) = nn (fw (costTo rs) N (fn way 0).toNat (lastI way).toNat) ∧ (∀ x ∈ pot, -1000 ≤ x ∧ x ≤ 1000) := by
  unfold shownB at h
  rw [decide_eq_true_iff] at h
  obtain ⟨h1, h2, h3, h4, h5⟩ := h
  have hne : way ≠ [] := fun e => by
    unfold costR at h4
    rw [if_pos e] at h4
    omega
  have hp : 0 < way.length := List.length_pos_iff.2 hne
  cases e : cst rs N way way.length with
  | none => rw [costR_none (Nat.le_refl _) e] at h4; omega
  | some s =>
    rw [costR_some hne e] at h5
    obtain ⟨-, hrange⟩ := cst_range e (Nat.le_refl _)
    rw [List.take_length] at hrange
    have i0 : 0 ≤ fn way 0 ∧ fn way 0 < N := by rw [fn_get hp]; exact hrange _ (List.getElem_mem _)
    have i1 : 0 ≤ lastI way ∧ lastI way < N := by unfold lastI; rw [fn_get (by omega)]; exact hrange _ (List.getElem_mem _)
    obtain ⟨a1, a2⟩ := cst_fw hr hN e hp (Nat.le_refl _)
    have a3 : fw (costTo rs) N (fn way 0).toNat (lastI way).toNat ≤ s := a1
    have a4 : fw (costTo rs) N (fn way 0).toNat (lastI way).toNat < far := a2
    have p := pot_fw hr h3 N (Nat.le_refl _) (fn way 0).toNat (lastI way).toNat (by omega) (by omega) a4
    rw [Int.toNat_of_nonneg i0.1, Int.toNat_of_nonneg i1.1] at p
    refine ⟨h1, hne, i0, i1, ?_, h2⟩
    unfold nn
    rw [if_neg (by omega)]
    omega
end

end Go.Proofs.Ytkbkgkmogbkabaa
