/-
  The reference's distances, in plain Lean: again and again a distance is lessened by a road.
-/
import Derived.Test.YtkbkgkmogbkabaaRtWayLen
import Derived.Test.YtkbkgkmogbkabaaRtDistances
namespace Go.Proofs.Ytkbkgkmogbkabaa
open Go.RowKit

/-- The least cost of a road between two stops, -1: there is none. -/
def joinsB (r : RoadD) (a b : Int) : Bool := decide ((r.a = a ∧ r.b = b) ∨ (r.a = b ∧ r.b = a))
def stepF (a b : Int) (best : Int) (r : RoadD) : Int := if joinsB r a b = true ∧ (best < 0 ∨ r.cost < best) then r.cost else best
def stepR (rs : List RoadD) (a b : Int) : Int := rs.foldl (stepF a b) (-1)
theorem stepR_succ {rs : List RoadD} {k : Nat} (hk : k < rs.length) (a b : Int) : stepR (rs.take (k + 1)) a b = stepF a b (stepR (rs.take k) a b) (roadAt rs k) := by
  unfold stepR; rw [List.take_succ_eq_append_getElem hk, List.foldl_append, roadAt_get hk]; rfl

/-- -1 is far. -/
def ff (x : Int) : Int := if x < 0 then far else x
theorem step_cost {N : Nat} : ∀ (rs : List RoadD) (D : Nat → Nat → Int) (best : Int) (i j : Nat), (∀ r ∈ rs, roadOk N r = true) → i ≠ j → D i j = D j i → D i j = ff best → -1 ≤ best → best ≤ 50 →
    rs.foldl costStep D i j = ff (rs.foldl (stepF i j) best) ∧ -1 ≤ rs.foldl (stepF i j) best ∧ rs.foldl (stepF i j) best ≤ 50
  | [], D, best, i, j, _, _, _, h, h1, h2 => ⟨h, h1, h2⟩
  | r :: rs, D, best, i, j, hr, hne, hs, h, h1, h2 => by
    obtain ⟨p1, p2, p3, p4, p5, p6, p7⟩ := roadOk_iff.1 (hr r (List.mem_cons_self ..))
    have hab : r.a.toNat ≠ r.b.toNat := by omega
    have hj : joinsB r i j = true ↔ ((i = r.b.toNat ∧ j = r.a.toNat) ∨ (i = r.a.toNat ∧ j = r.b.toNat)) := by
      unfold joinsB
      rw [decide_eq_true_iff]
      omega
    have hj2 : ((j = r.b.toNat ∧ i = r.a.toNat) ∨ (j = r.a.toNat ∧ i = r.b.toNat)) ↔ ((i = r.b.toNat ∧ j = r.a.toNat) ∨ (i = r.a.toNat ∧ j = r.b.toNat)) := by omega
    show (rs.foldl costStep (costStep D r)) i j = ff (rs.foldl (stepF i j) (stepF i j best r)) ∧ _
    refine step_cost rs (costStep D r) (stepF i j best r) i j (fun x hx => hr x (List.mem_cons_of_mem _ hx)) hne ?_ ?_ ?_ ?_
    · rw [costStep_val hab, costStep_val hab]
      by_cases c : (i = r.b.toNat ∧ j = r.a.toNat) ∨ (i = r.a.toNat ∧ j = r.b.toNat)
      · rw [if_pos c, if_pos (hj2.2 c)]
      · rw [if_neg c, if_neg (fun h => c (hj2.1 h)), hs]
    · rw [costStep_val hab]
      unfold stepF
      by_cases c : (i = r.b.toNat ∧ j = r.a.toNat) ∨ (i = r.a.toNat ∧ j = r.b.toNat)
      · have e : D r.a.toNat r.b.toNat = D i j := by
          rcases c with ⟨c1, c2⟩ | ⟨c1, c2⟩
          · rw [← c1, ← c2]; exact hs.symm
          · rw [← c1, ← c2]
        rw [if_pos c, e, h]
        unfold ff mn far
        simp only [hj.2 c, true_and]
        repeat' split
        all_goals omega
      · rw [if_neg c, if_neg (fun h => c (hj.1 h.1)), h]
    · unfold stepF; split <;> omega
    · unfold stepF; split <;> omega
theorem step_self {N : Nat} : ∀ (rs : List RoadD) (best i : Int), (∀ r ∈ rs, roadOk N r = true) → rs.foldl (stepF i i) best = best
  | [], _, _, _ => rfl
  | r :: rs, best, i, hr => by
    obtain ⟨p1, p2, p3, p4, p5, p6, p7⟩ := roadOk_iff.1 (hr r (List.mem_cons_self ..))
    have e : stepF i i best r = best := by
      unfold stepF joinsB
      rw [if_neg]
      rw [decide_eq_true_iff]
      omega
    show rs.foldl (stepF i i) (stepF i i best r) = best
    rw [e]
    exact step_self rs best i (fun x hx => hr x (List.mem_cons_of_mem _ hx))
theorem stepR_val {N : Nat} {rs : List RoadD} (hr : ∀ r ∈ rs, roadOk N r = true) {i j : Nat} (hne : i ≠ j) : costTo rs i j = ff (stepR rs i j) ∧ -1 ≤ stepR rs i j ∧ stepR rs i j ≤ 50 :=
  step_cost rs cost0 (-1) i j hr hne (by unfold cost0; rw [if_neg (fun h => hne h.symm), if_neg hne]) (by unfold cost0 ff; rw [if_neg (fun h => hne h.symm), if_pos (by omega)]) (by omega) (by omega)
theorem stepR_self {N : Nat} {rs : List RoadD} (hr : ∀ r ∈ rs, roadOk N r = true) (i : Nat) : stepR rs i i = -1 := step_self rs (-1) i hr
theorem stepR_hi {N : Nat} {rs : List RoadD} (hr : ∀ r ∈ rs, roadOk N r = true) (i j : Nat) : -1 ≤ stepR rs i j ∧ stepR rs i j ≤ 50 := by
  by_cases e : i = j
  · subst e; rw [stepR_self hr]; omega
  · exact (stepR_val hr e).2

/-- One step: the distance from a to c over b. -/
def bfOn (rs : List RoadD) (d : Nat → Nat → Int) (a b c : Nat) : Prop := 0 ≤ stepR rs b c ∧ 0 ≤ d a b ∧ (d a c < 0 ∨ d a b + stepR rs b c < d a c)
instance (rs : List RoadD) (d : Nat → Nat → Int) (a b c : Nat) : Decidable (bfOn rs d a b c) := by unfold bfOn; infer_instance
def bf1 (rs : List RoadD) (a b : Nat) (d : Nat → Nat → Int) (c : Nat) : Nat → Nat → Int := if bfOn rs d a b c then updM d a c (d a b + stepR rs b c) else d
def bfC (rs : List RoadD) (N a : Nat) (d : Nat → Nat → Int) (b : Nat) : Nat → Nat → Int := (List.range N).foldl (bf1 rs a b) d
def bfB (rs : List RoadD) (N : Nat) (d : Nat → Nat → Int) (a : Nat) : Nat → Nat → Int := (List.range N).foldl (bfC rs N a) d
def bfA (rs : List RoadD) (N : Nat) (d : Nat → Nat → Int) (_ : Nat) : Nat → Nat → Int := (List.range N).foldl (bfB rs N) d
def bf0 : Nat → Nat → Int := fun a b => if a = b then 0 else -1
def bfT (rs : List RoadD) (N T : Nat) : Nat → Nat → Int := (List.range T).foldl (bfA rs N) bf0
theorem fold_succ {α : Type} (f : α → Nat → α) (d : α) (k : Nat) : (List.range (k + 1)).foldl f d = f ((List.range k).foldl f d) k := by
  rw [List.range_succ, List.foldl_append]; rfl

theorem fold_keep {α : Type} {P : α → Prop} {f : α → Nat → α} {n : Nat} (hP : ∀ d c, c < n → P d → P (f d c)) : ∀ k, k ≤ n → ∀ d, P d → P ((List.range k).foldl f d)
  | 0, _, d, h => h
  | k + 1, hk, d, h => by
    rw [fold_succ]
    exact hP _ k (by omega) (fold_keep hP k (by omega) d h)
theorem fold_hit {α : Type} {P Q : α → Prop} {f : α → Nat → α} {n x : Nat} (hx : x < n) (hP : ∀ d c, c < n → P d → P (f d c)) (hQ : ∀ d c, c < n → Q d → Q (f d c)) (hh : ∀ d, P d → Q (f d x)) : ∀ k, x < k → k ≤ n → ∀ d, P d → Q ((List.range k).foldl f d)
  | 0, hk, _, _, _ => by omega
  | k + 1, hk, hk2, d, h => by
    rw [fold_succ]
    by_cases e : x = k
    · subst e
      exact hh _ (fold_keep hP x (by omega) d h)
    · exact hQ _ k (by omega) (fold_hit hx hP hQ hh k (by omega) (by omega) d h)

/-- What holds all along: nothing is less than the distance. -/
def Lo (F : Nat → Nat → Int) (N : Nat) (d : Nat → Nat → Int) : Prop := ∀ i j, i < N → j < N → d i j = -1 ∨ (F i j ≤ d i j ∧ F i j < far)
section
variable {rs : List RoadD} {N : Nat} (hr : ∀ r ∈ rs, roadOk N r = true) (hN : N ≤ 8)
include hr hN

theorem step_tri {a b c : Nat} (ha : a < N) (hb : b < N) (hc : c < N) (hs : 0 ≤ stepR rs b c) (hf : fw (costTo rs) N a b < far) :
    fw (costTo rs) N a c ≤ fw (costTo rs) N a b + stepR rs b c ∧ fw (costTo rs) N a c < far := by
  have hbc : b ≠ c := fun e => by subst e; rw [stepR_self hr] at hs; omega
  have T := costs_tab hr
  have t := tri T N (Nat.le_refl _) a c b ha hc hb
  have m := fw_le (costTo rs) 0 b c N
  rw [Nat.zero_add] at m
  have m2 : fw (costTo rs) 0 b c = costTo rs b c := rfl
  obtain ⟨v, -, v2⟩ := stepR_val hr hbc
  have v3 : ff (stepR rs b c) = stepR rs b c := by unfold ff; rw [if_neg (by omega)]
  have f1 := (T.fw N (Nat.le_refl _)).fin a c ha hc
  have f2 := (T.fw N (Nat.le_refl _)).fin a b ha hb
  have p := two_pow_le hN
  unfold far at *
  omega
theorem Lo.step {d : Nat → Nat → Int} (h : Lo (fw (costTo rs) N) N d) {a b c : Nat} (ha : a < N) (hb : b < N) (hc : c < N) : Lo (fw (costTo rs) N) N (bf1 rs a b d c) := by
  unfold bf1
  split
  · rename_i on
    obtain ⟨s0, d0, -⟩ := on
    have hb2 : fw (costTo rs) N a b ≤ d a b ∧ fw (costTo rs) N a b < far := by
      rcases h a b ha hb with e | e
      · omega
      · exact e
    have st := step_tri hr hN ha hb hc s0 hb2.2
    intro i j hi hj
    unfold updM updF
    by_cases e : i = a
    · subst e
      by_cases e2 : j = c
      · subst e2
        simp only [if_true]
        right; omega
      · simp only [if_true, if_neg e2]
        exact h i j hi hj
    · simp only [if_neg e]
      exact h i j hi hj
  · exact h
omit hN in
theorem Lo.zero : Lo (fw (costTo rs) N) N bf0 := by
  intro i j hi hj
  unfold bf0
  split
  · rename_i e
    subst e
    right
    rw [((costs_tab hr).fw N (Nat.le_refl _)).diag i hi]
    unfold far; omega
  · exact .inl rfl
/-- The distance from a to x is there. -/
def Got (rs : List RoadD) (N a x : Nat) (d : Nat → Nat → Int) : Prop := Lo (fw (costTo rs) N) N d ∧ d a x = fw (costTo rs) N a x ∧ fw (costTo rs) N a x < far
theorem Got.step {a x : Nat} (ha : a < N) (hx : x < N) {d : Nat → Nat → Int} (h : Got rs N a x d) {a' b c : Nat} (ha' : a' < N) (hb : b < N) (hc : c < N) : Got rs N a x (bf1 rs a' b d c) := by
  refine ⟨h.1.step hr hN ha' hb hc, ?_, h.2.2⟩
  have h1 := (h.1.step hr hN ha' hb hc) a x ha hx
  have l := ((costs_tab hr).fw N (Nat.le_refl _)).lo ha hx
  have e := h.2.1
  by_cases on : bfOn rs d a' b c
  · have e1 : bf1 rs a' b d c = updM d a' c (d a' b + stepR rs b c) := by unfold bf1; rw [if_pos on]
    rw [e1] at h1 ⊢
    obtain ⟨s0, d0, d1⟩ := on
    by_cases e2 : a = a' ∧ x = c
    · obtain ⟨rfl, rfl⟩ := e2
      have e3 : updM d a x (d a b + stepR rs b x) a x = d a b + stepR rs b x := by unfold updM updF; simp
      rw [e3] at h1 ⊢
      omega
    · have e3 : updM d a' c (d a' b + stepR rs b c) a x = d a x := by
        unfold updM updF
        by_cases e4 : a = a'
        · subst e4
          have e5 : ¬ x = c := fun h => e2 ⟨rfl, h⟩
          simp [e5]
        · simp [e4]
      rw [e3]; exact e
  · have e1 : bf1 rs a' b d c = d := by unfold bf1; rw [if_neg on]
    rw [e1]; exact e
theorem Got.hit {a y x : Nat} (ha : a < N) (hy : y < N) (hx : x < N) (hs : 0 ≤ stepR rs y x) (he : fw (costTo rs) N a y + stepR rs y x = fw (costTo rs) N a x) (hf : fw (costTo rs) N a x < far) {d : Nat → Nat → Int} (h : Got rs N a y d) : Got rs N a x (bf1 rs a y d x) := by
  have L := h.1.step hr hN ha hy hx
  refine ⟨L, ?_, hf⟩
  have h1 := L a x ha hx
  have l := ((costs_tab hr).fw N (Nat.le_refl _)).lo ha hy
  have e := h.2.1
  by_cases on : bfOn rs d a y x
  · have e1 : bf1 rs a y d x = updM d a x (d a y + stepR rs y x) := by unfold bf1; rw [if_pos on]
    rw [e1]
    have e3 : updM d a x (d a y + stepR rs y x) a x = d a y + stepR rs y x := by unfold updM updF; simp
    rw [e3]; omega
  · have e1 : bf1 rs a y d x = d := by unfold bf1; rw [if_neg on]
    rw [e1] at h1 ⊢
    unfold bfOn at on
    omega
theorem Got.c {a x : Nat} (ha : a < N) (hx : x < N) {a' b : Nat} (ha' : a' < N) (hb : b < N) (d : Nat → Nat → Int) (h : Got rs N a x d) : Got rs N a x (bfC rs N a' d b) :=
  fold_keep (n := N) (fun _ _ hc h => h.step hr hN ha hx ha' hb hc) N (Nat.le_refl _) d h
theorem Got.b {a x : Nat} (ha : a < N) (hx : x < N) {a' : Nat} (ha' : a' < N) (d : Nat → Nat → Int) (h : Got rs N a x d) : Got rs N a x (bfB rs N d a') :=
  fold_keep (n := N) (fun d _ hc h => Got.c hr hN ha hx ha' hc d h) N (Nat.le_refl _) d h
theorem Got.a {a x : Nat} (ha : a < N) (hx : x < N) (t : Nat) (d : Nat → Nat → Int) (h : Got rs N a x d) : Got rs N a x (bfA rs N d t) :=
  fold_keep (n := N) (fun d _ hc h => Got.b hr hN ha hx hc d h) N (Nat.le_refl _) d h
theorem Got.round {a y x : Nat} (ha : a < N) (hy : y < N) (hx : x < N) (hs : 0 ≤ stepR rs y x) (he : fw (costTo rs) N a y + stepR rs y x = fw (costTo rs) N a x) (hf : fw (costTo rs) N a x < far) (t : Nat) (d : Nat → Nat → Int) (h : Got rs N a y d) : Got rs N a x (bfA rs N d t) :=
  fold_hit ha (fun d _ hc h => Got.b hr hN ha hy hc d h) (fun d _ hc h => Got.b hr hN ha hx hc d h)
    (fun _ h => fold_hit hy (fun d _ hc h => Got.c hr hN ha hy ha hc d h) (fun d _ hc h => Got.c hr hN ha hx ha hc d h)
      (fun _ h => fold_hit hx (fun _ _ hc h => h.step hr hN ha hy ha hy hc) (fun _ _ hc h => h.step hr hN ha hx ha hy hc) (fun _ h => h.hit hr hN ha hy hx hs he hf) N hx (Nat.le_refl _) _ h) N hy (Nat.le_refl _) _ h) N ha (Nat.le_refl _) d h
theorem Lo.c {a' b : Nat} (ha' : a' < N) (hb : b < N) (d : Nat → Nat → Int) (h : Lo (fw (costTo rs) N) N d) : Lo (fw (costTo rs) N) N (bfC rs N a' d b) :=
  fold_keep (n := N) (fun _ _ hc h => h.step hr hN ha' hb hc) N (Nat.le_refl _) d h
theorem Lo.b {a' : Nat} (ha' : a' < N) (d : Nat → Nat → Int) (h : Lo (fw (costTo rs) N) N d) : Lo (fw (costTo rs) N) N (bfB rs N d a') :=
  fold_keep (n := N) (fun d _ hc h => Lo.c hr hN ha' hc d h) N (Nat.le_refl _) d h
theorem Lo.a (t : Nat) (d : Nat → Nat → Int) (h : Lo (fw (costTo rs) N) N d) : Lo (fw (costTo rs) N) N (bfA rs N d t) :=
  fold_keep (n := N) (fun d _ hc h => Lo.b hr hN hc d h) N (Nat.le_refl _) d h
theorem Lo.t (T : Nat) : Lo (fw (costTo rs) N) N (bfT rs N T) := fold_keep (n := T) (fun d _ _ h => Lo.a hr hN _ d h) T (Nat.le_refl _) _ (Lo.zero hr)

/-- Along a way. -/
theorem got_way {a b : Nat} (ha : a < N) (hb : b < N) (hfab : fw (costTo rs) N a b < far) : ∀ (f : Nat) (way : List Int) (last : Nat) (cost : Int) (r : List Int) (t : Nat), growP (costTo rs) (fw (costTo rs) N) N b (fw (costTo rs) N a b) f way last cost = some r → last < N →
    cost = fw (costTo rs) N a last → Got rs N a last (bfT rs N t) → Got rs N a b (bfT rs N (t + f))
  | 0, way, last, cost, r, t, h, hl, hc, g => by
    unfold growP at h
    split at h
    · rename_i e; subst e; exact g
    · simp at h
  | f + 1, way, last, cost, r, t, h, hl, hc, g => by
    obtain ⟨x, hx, hrr⟩ := grow_step h
    obtain ⟨⟨g1, g2, g3, g4⟩, h'⟩ := growF_some hrr
    obtain ⟨v, v1, v2⟩ := stepR_val hr (fun e => g1 e.symm : last ≠ x)
    have hs : 0 ≤ stepR rs last x := by
      unfold ff at v
      split at v <;> unfold far at * <;> omega
    have v3 : costTo rs last x = stepR rs last x := by rw [v]; unfold ff; rw [if_neg (by omega)]
    have T := costs_tab hr
    have st := step_tri hr hN ha hl hx hs g.2.2
    have t2 := tri T N (Nat.le_refl _) a b x ha hb hx
    have he : fw (costTo rs) N a last + stepR rs last x = fw (costTo rs) N a x := by omega
    have g' : Got rs N a x (bfT rs N (t + 1)) := by
      show Got rs N a x ((List.range (t + 1)).foldl (bfA rs N) bf0)
      rw [fold_succ]
      exact Got.round hr hN ha hl hx hs he st.2 t _ g
    have := got_way ha hb hfab f (way ++ [(x : Int)]) x (cost + costTo rs last x) r (t + 1) h' hx (by omega) g'
    rw [show t + (f + 1) = t + 1 + f by omega]
    exact this
theorem got_keep {a x : Nat} (ha : a < N) (hx : x < N) {t : Nat} (g : Got rs N a x (bfT rs N t)) : ∀ k, Got rs N a x (bfT rs N (t + k))
  | 0 => g
  | k + 1 => by
    show Got rs N a x ((List.range (t + k + 1)).foldl (bfA rs N) bf0)
    rw [fold_succ]
    exact Got.a hr hN ha hx _ _ (got_keep ha hx g k)

/-- The reference's table is that of the distances. -/
theorem bf_eq {a b : Nat} (ha : a < N) (hb : b < N) : bfT rs N N a b = nn (fw (costTo rs) N a b) := by
  have L := Lo.t hr hN N a b ha hb
  have T := (costs_tab hr).fw N (Nat.le_refl _)
  by_cases hf : fw (costTo rs) N a b < far
  · obtain ⟨f, r, hw, hfN⟩ := way_ex (costs_tab hr) hN ha hb hf
    have g0 : Got rs N a a (bfT rs N 0) := by
      refine ⟨Lo.zero hr, ?_, ?_⟩
      · show bf0 a a = _
        rw [T.diag a ha]; unfold bf0; rw [if_pos rfl]
      · rw [T.diag a ha]; unfold far; omega
    have g := got_way hr hN ha hb hf f _ a 0 r 0 hw.1 ha (T.diag a ha).symm g0
    have g2 := got_keep hr hN ha hb g (N - f)
    rw [show 0 + f + (N - f) = N by omega] at g2
    rw [g2.2.1]
    unfold nn; rw [if_neg (by omega)]
  · have e : nn (fw (costTo rs) N a b) = -1 := by unfold nn; rw [if_pos (by omega)]
    rw [e]
    omega
end

/-- How great the numbers are. -/
def Bd (N k : Nat) (d : Nat → Nat → Int) : Prop := ∀ i j, i < N → j < N → -1 ≤ d i j ∧ d i j ≤ 50 * (k : Int)
theorem Bd.step {rs : List RoadD} {N : Nat} (hr : ∀ r ∈ rs, roadOk N r = true) {k : Nat} {d : Nat → Nat → Int} (h : Bd N k d) {a b c : Nat} (ha : a < N) (hb : b < N) (hc : c < N) : Bd N (k + 1) (bf1 rs a b d c) := by
  have s := stepR_hi hr b c
  have hab := h a b ha hb
  intro i j hi hj
  have hij := h i j hi hj
  unfold bf1
  split
  · rename_i on
    obtain ⟨s0, d0, -⟩ := on
    unfold updM updF
    by_cases e : i = a
    · subst e
      by_cases e2 : j = c
      · subst e2
        simp only [if_true]
        omega
      · simp only [if_true, if_neg e2]
        omega
    · simp only [if_neg e]
      omega
  · omega
theorem Bd.mono {N k k' : Nat} {d : Nat → Nat → Int} (h : Bd N k d) (hk : k ≤ k') : Bd N k' d := fun i j hi hj => by have := h i j hi hj; omega
theorem Bd.zero (N : Nat) : Bd N 0 bf0 := fun i j _ _ => by unfold bf0; split <;> omega

end Go.Proofs.Ytkbkgkmogbkabaa
