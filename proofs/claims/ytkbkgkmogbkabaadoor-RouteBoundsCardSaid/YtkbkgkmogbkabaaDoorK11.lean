/-
  Texts of this claim, part 11: SnEql, RtBfPlain, RtStep, RtCostPlain, RtPot, RtShownPlain, RtProvedPlain, SnPlain, SnFirstPlain, SnGrow, SnFirst, SnFun, SnHalf.
-/
import Derived.ChangeKeysEq
import Derived.Maps.AppendAt
import Derived.Test.YtkbkgkmogbkabaaDoorK10
/-
  Labels are compared.
-/
namespace Go.Proofs.YtkbkgkmogbkabaaDoor
open Go.RowKit

theorem und_parts : Tryd.prog.underlying 69 = some (.array 8 3) := by kernel_rfl
theorem plain_int : Tryd.prog.plainKey 3 = true := by kernel_rfl
theorem cellsof_int : Tryd.prog.cellsOf 3 = 1 := by kernel_rfl
def partsV (p : Nat → Int) : Array Value := #[.int .i64 (p 0), .int .i64 (p 1), .int .i64 (p 2), .int .i64 (p 3), .int .i64 (p 4), .int .i64 (p 5), .int .i64 (p 6), .int .i64 (p 7)]
theorem partsV_at (p : Nat → Int) {i : Nat} (hi : i < 8) : (partsV p)[i]? = some (.int .i64 (p i)) := by
  match i, hi with
  | 0, _ => rfl
  | 1, _ => rfl
  | 2, _ => rfl
  | 3, _ => rfl
  | 4, _ => rfl
  | 5, _ => rfl
  | 6, _ => rfl
  | 7, _ => rfl
theorem eqItems_ints (w : World) (p q : Nat → Int) : ∀ l : List Nat, (∀ i ∈ l, i < 8) → (Op.eqItems 9999 3 1 (partsV p) (partsV q) l).run Tryd.prog w = .ok (l.all (fun i => p i == q i)) w
  | [], _ => by simp [Op.eqItems]
  | i :: l, h => by
    have hi := h i (List.mem_cons_self ..)
    have h1 := run_part_plain (P := Tryd.prog) w plain_int (off := i) (partsV_at p hi)
    have h2 := run_part_plain (P := Tryd.prog) w plain_int (off := i) (partsV_at q hi)
    have h3 := run_equalIn_int (P := Tryd.prog) w 9998 3 .i64 .i64 (p i) (q i) Tryd.underlying3
    have ih := eqItems_ints w p q l (fun j hj => h j (List.mem_cons_of_mem _ hj))
    rw [List.all_cons]
    cases e : (p i == q i)
    · rw [e] at h3
      simp [Op.eqItems, h1, h2, h3]
    · rw [e] at h3
      simp [Op.eqItems, h1, h2, h3, ih]
theorem run_eql_parts (w : World) (p q : Nat → Int) : (Op.equalIn 10000 69 (.agg (partsV p)) (.agg (partsV q))).run Tryd.prog w = .ok ((List.range 8).all (fun i => p i == q i)) w := by
  obtain ⟨i0, hi, -⟩ := info_parts info_int
  have h1 := run_equalIn_array (P := Tryd.prog) w 9999 (partsV p) (partsV q) und_parts hi
  rw [cellsof_int, eqItems_ints w p q _ (fun i hi => List.mem_range.1 hi)] at h1
  exact h1
theorem joinL_same {p : Nat → Int} {a b : Nat} (h : p a = p b) : joinL p a b = p := by
  funext i
  unfold joinL
  rw [h, Int.max_self, Int.min_self]
  split
  · rename_i e; exact e.symm
  · rfl
theorem eql_same (p : Nat → Int) : (List.range 8).all (fun i => p i == p i) = true := by simp
theorem eql_joined {p : Nat → Int} {a b : Nat} (ha : a < 8) (hb : b < 8) (h : ¬ p a = p b) : (List.range 8).all (fun i => joinL p a b i == p i) = false := by
  rw [Bool.eq_false_iff]
  intro g
  have k := fun i (hi : i < 8) => beq_iff_eq.1 (List.all_eq_true.1 g i (List.mem_range.2 hi))
  have k1 := k a ha
  have k2 := k b hb
  unfold joinL at k1 k2
  by_cases c : p a ≤ p b
  · rw [Int.max_eq_right c, Int.min_eq_left c] at k1 k2
    rw [if_pos rfl] at k2
    exact h k2
  · rw [Int.max_eq_left (by omega), Int.min_eq_right (by omega)] at k1 k2
    rw [if_pos rfl] at k1
    exact h k1.symm

end Go.Proofs.YtkbkgkmogbkabaaDoor

/-
  The reference's distances, in plain Lean: again and again a distance is lessened by a road.
-/
namespace Go.Proofs.YtkbkgkmogbkabaaDoor
open Go.RowKit

/-- The least cost of a road between two stops, -1: there is none. -/
def joinsB (r : RoadD) (a b : Int) : Bool := decide ((r.a = a ∧ r.b = b) ∨ (r.a = b ∧ r.b = a))
def stepF (a b : Int) (best : Int) (r : RoadD) : Int := if joinsB r a b = true ∧ (best < 0 ∨ r.cost < best) then r.cost else best
def stepR (rs : List RoadD) (a b : Int) : Int := rs.foldl (stepF a b) (-1)
theorem stepR_succ {rs : List RoadD} {k : Nat} (hk : k < rs.length) (a b : Int) : stepR (rs.take (k + 1)) a b = stepF a b (stepR (rs.take k) a b) (roadAt rs k) := by
  unfold stepR; rw [List.take_succ_eq_append_getElem hk, List.foldl_append, roadAt_get hk]; rfl

/-- -1 is far. -/
def ff (x : Int) : Int := if x < 0 then far else x
theorem step_cost {N : Nat} : ∀ (rs : List RoadD) (D : Nat → Nat → Int) (best : Int) (i j : Nat), (∀ r ∈ rs, roadOk N r = true) → i ≠ j → D i j = D j i → D i j = ff best → -1 ≤ best → best ≤ 50 →
    rs.foldl costStep D i j = ff (rs.foldl (stepF i j) best) ∧ -1 ≤ rs.foldl (stepF i j) best ∧ rs.foldl (stepF i j) best ≤ 50
  | [], D, best, i, j, _, _, _, h, h1, h2 => ⟨h, h1, h2⟩
  | r :: rs, D, best, i, j, hr, hne, hs, h, h1, h2 => by
    obtain ⟨p1, p2, p3, p4, p5, p6, p7⟩ := roadOk_iff.1 (hr r (List.mem_cons_self ..))
    have hab : r.a.toNat ≠ r.b.toNat := by omega
    have hj : joinsB r i j = true ↔ ((i = r.b.toNat ∧ j = r.a.toNat) ∨ (i = r.a.toNat ∧ j = r.b.toNat)) := by
      unfold joinsB
      rw [decide_eq_true_iff]
      omega
    have hj2 : ((j = r.b.toNat ∧ i = r.a.toNat) ∨ (j = r.a.toNat ∧ i = r.b.toNat)) ↔ ((i = r.b.toNat ∧ j = r.a.toNat) ∨ (i = r.a.toNat ∧ j = r.b.toNat)) := by omega
    show (rs.foldl costStep (costStep D r)) i j = ff (rs.foldl (stepF i j) (stepF i j best r)) ∧ _
    refine step_cost rs (costStep D r) (stepF i j best r) i j (fun x hx => hr x (List.mem_cons_of_mem _ hx)) hne ?_ ?_ ?_ ?_
    · rw [costStep_val hab, costStep_val hab]
      by_cases c : (i = r.b.toNat ∧ j = r.a.toNat) ∨ (i = r.a.toNat ∧ j = r.b.toNat)
      · rw [if_pos c, if_pos (hj2.2 c)]
      · rw [if_neg c, if_neg (fun h => c (hj2.1 h)), hs]
    · rw [costStep_val hab]
      unfold stepF
      by_cases c : (i = r.b.toNat ∧ j = r.a.toNat) ∨ (i = r.a.toNat ∧ j = r.b.toNat)
      · have e : D r.a.toNat r.b.toNat = D i j := by
          rcases c with ⟨c1, c2⟩ | ⟨c1, c2⟩
          · rw [← c1, ← c2]; exact hs.symm
          · rw [← c1, ← c2]
        rw [if_pos c, e, h]
        unfold ff mn far
        simp only [hj.2 c, true_and]
        repeat' split
        all_goals omega
      · rw [if_neg c, if_neg (fun h => c (hj.1 h.1)), h]
    · unfold stepF; split <;> omega
    · unfold stepF; split <;> omega
theorem step_self {N : Nat} : ∀ (rs : List RoadD) (best i : Int), (∀ r ∈ rs, roadOk N r = true) → rs.foldl (stepF i i) best = best
  | [], _, _, _ => rfl
  | r :: rs, best, i, hr => by
    obtain ⟨p1, p2, p3, p4, p5, p6, p7⟩ := roadOk_iff.1 (hr r (List.mem_cons_self ..))
    have e : stepF i i best r = best := by
      unfold stepF joinsB
      rw [if_neg]
      rw [decide_eq_true_iff]
      omega
    show rs.foldl (stepF i i) (stepF i i best r) = best
    rw [e]
    exact step_self rs best i (fun x hx => hr x (List.mem_cons_of_mem _ hx))
theorem stepR_val {N : Nat} {rs : List RoadD} (hr : ∀ r ∈ rs, roadOk N r = true) {i j : Nat} (hne : i ≠ j) : costTo rs i j = ff (stepR rs i j) ∧ -1 ≤ stepR rs i j ∧ stepR rs i j ≤ 50 :=
  step_cost rs cost0 (-1) i j hr hne (by unfold cost0; rw [if_neg (fun h => hne h.symm), if_neg hne]) (by unfold cost0 ff; rw [if_neg (fun h => hne h.symm), if_pos (by omega)]) (by omega) (by omega)
theorem stepR_self {N : Nat} {rs : List RoadD} (hr : ∀ r ∈ rs, roadOk N r = true) (i : Nat) : stepR rs i i = -1 := step_self rs (-1) i hr
theorem stepR_hi {N : Nat} {rs : List RoadD} (hr : ∀ r ∈ rs, roadOk N r = true) (i j : Nat) : -1 ≤ stepR rs i j ∧ stepR rs i j ≤ 50 := by
  by_cases e : i = j
  · subst e; rw [stepR_self hr]; omega
  · exact (stepR_val hr e).2

/-- One step: the distance from a to c over b. -/
def bfOn (rs : List RoadD) (d : Nat → Nat → Int) (a b c : Nat) : Prop := 0 ≤ stepR rs b c ∧ 0 ≤ d a b ∧ (d a c < 0 ∨ d a b + stepR rs b c < d a c)
instance (rs : List RoadD) (d : Nat → Nat → Int) (a b c : Nat) : Decidable (bfOn rs d a b c) := by unfold bfOn; infer_instance
def bf1 (rs : List RoadD) (a b : Nat) (d : Nat → Nat → Int) (c : Nat) : Nat → Nat → Int := if bfOn rs d a b c then updM d a c (d a b + stepR rs b c) else d
def bfC (rs : List RoadD) (N a : Nat) (d : Nat → Nat → Int) (b : Nat) : Nat → Nat → Int := (List.range N).foldl (bf1 rs a b) d
def bfB (rs : List RoadD) (N : Nat) (d : Nat → Nat → Int) (a : Nat) : Nat → Nat → Int := (List.range N).foldl (bfC rs N a) d
def bfA (rs : List RoadD) (N : Nat) (d : Nat → Nat → Int) (_ : Nat) : Nat → Nat → Int := (List.range N).foldl (bfB rs N) d
def bf0 : Nat → Nat → Int := fun a b => if a = b then 0 else -1
def bfT (rs : List RoadD) (N T : Nat) : Nat → Nat → Int := (List.range T).foldl (bfA rs N) bf0
theorem fold_succ {α : Type} (f : α → Nat → α) (d : α) (k : Nat) : (List.range (k + 1)).foldl f d = f ((List.range k).foldl f d) k := by
  rw [List.range_succ, List.foldl_append]; rfl

theorem fold_keep {α : Type} {P : α → Prop} {f : α → Nat → α} {n : Nat} (hP : ∀ d c, c < n → P d → P (f d c)) : ∀ k, k ≤ n → ∀ d, P d → P ((List.range k).foldl f d)
  | 0, _, d, h => h
  | k + 1, hk, d, h => by
    rw [fold_succ]
    exact hP _ k (by omega) (fold_keep hP k (by omega) d h)
theorem fold_hit {α : Type} {P Q : α → Prop} {f : α → Nat → α} {n x : Nat} (hx : x < n) (hP : ∀ d c, c < n → P d → P (f d c)) (hQ : ∀ d c, c < n → Q d → Q (f d c)) (hh : ∀ d, P d → Q (f d x)) : ∀ k, x < k → k ≤ n → ∀ d, P d → Q ((List.range k).foldl f d)
  | 0, hk, _, _, _ => by omega
  | k + 1, hk, hk2, d, h => by
    rw [fold_succ]
    by_cases e : x = k
    · subst e
      exact hh _ (fold_keep hP x (by omega) d h)
    · exact hQ _ k (by omega) (fold_hit hx hP hQ hh k (by omega) (by omega) d h)

/-- What holds all along: nothing is less than the distance. -/
def Lo (F : Nat → Nat → Int) (N : Nat) (d : Nat → Nat → Int) : Prop := ∀ i j, i < N → j < N → d i j = -1 ∨ (F i j ≤ d i j ∧ F i j < far)
section
variable {rs : List RoadD} {N : Nat} (hr : ∀ r ∈ rs, roadOk N r = true) (hN : N ≤ 8)
include hr hN

theorem step_tri {a b c : Nat} (ha : a < N) (hb : b < N) (hc : c < N) (hs : 0 ≤ stepR rs b c) (hf : fw (costTo rs) N a b < far) :
    fw (costTo rs) N a c ≤ fw (costTo rs) N a b + stepR rs b c ∧ fw (costTo rs) N a c < far := by
  have hbc : b ≠ c := fun e => by subst e; rw [stepR_self hr] at hs; omega
  have T := costs_tab hr
  have t := tri T N (Nat.le_refl _) a c b ha hc hb
  have m := fw_le (costTo rs) 0 b c N
  rw [Nat.zero_add] at m
  have m2 : fw (costTo rs) 0 b c = costTo rs b c := rfl
  obtain ⟨v, -, v2⟩ := stepR_val hr hbc
  have v3 : ff (stepR rs b c) = stepR rs b c := by unfold ff; rw [if_neg (by omega)]
  have f1 := (T.fw N (Nat.le_refl _)).fin a c ha hc
  have f2 := (T.fw N (Nat.le_refl _)).fin a b ha hb
  have p := two_pow_le hN
  unfold far at *
  omega
theorem Lo.step {d : Nat → Nat → Int} (h : Lo (fw (costTo rs) N) N d) {a b c : Nat} (ha : a < N) (hb : b < N) (hc : c < N) : Lo (fw (costTo rs) N) N (bf1 rs a b d c) := by
  unfold bf1
  split
  · rename_i on
    obtain ⟨s0, d0, -⟩ := on
    have hb2 : fw (costTo rs) N a b ≤ d a b ∧ fw (costTo rs) N a b < far := by
      rcases h a b ha hb with e | e
      · omega
      · exact e
    have st := step_tri hr hN ha hb hc s0 hb2.2
    intro i j hi hj
    unfold updM updF
    by_cases e : i = a
    · subst e
      by_cases e2 : j = c
      · subst e2
        simp only [if_true]
        right; omega
      · simp only [if_true, if_neg e2]
        exact h i j hi hj
    · simp only [if_neg e]
      exact h i j hi hj
  · exact h
omit hN in
theorem Lo.zero : Lo (fw (costTo rs) N) N bf0 := by
  intro i j hi hj
  unfold bf0
  split
  · rename_i e
    subst e
    right
    rw [((costs_tab hr).fw N (Nat.le_refl _)).diag i hi]
    unfold far; omega
  · exact .inl rfl
/-- The distance from a to x is there. -/
def Got (rs : List RoadD) (N a x : Nat) (d : Nat → Nat → Int) : Prop := Lo (fw (costTo rs) N) N d ∧ d a x = fw (costTo rs) N a x ∧ fw (costTo rs) N a x < far
theorem Got.step {a x : Nat} (ha : a < N) (hx : x < N) {d : Nat → Nat → Int} (h : Got rs N a x d) {a' b c : Nat} (ha' : a' < N) (hb : b < N) (hc : c < N) : Got rs N a x (bf1 rs a' b d c) := by
  refine ⟨h.1.step hr hN ha' hb hc, ?_, h.2.2⟩
  have h1 := (h.1.step hr hN ha' hb hc) a x ha hx
  have l := ((costs_tab hr).fw N (Nat.le_refl _)).lo ha hx
  have e := h.2.1
  by_cases on : bfOn rs d a' b c
  · have e1 : bf1 rs a' b d c = updM d a' c (d a' b + stepR rs b c) := by unfold bf1; rw [if_pos on]
    rw [e1] at h1 ⊢
    obtain ⟨s0, d0, d1⟩ := on
    by_cases e2 : a = a' ∧ x = c
    · obtain ⟨rfl, rfl⟩ := e2
      have e3 : updM d a x (d a b + stepR rs b x) a x = d a b + stepR rs b x := by unfold updM updF; simp
      rw [e3] at h1 ⊢
      omega
    · have e3 : updM d a' c (d a' b + stepR rs b c) a x = d a x := by
        unfold updM updF
        by_cases e4 : a = a'
        · subst e4
          have e5 : ¬ x = c := fun h => e2 ⟨rfl, h⟩
          simp [e5]
        · simp [e4]
      rw [e3]; exact e
  · have e1 : bf1 rs a' b d c = d := by unfold bf1; rw [if_neg on]
    rw [e1]; exact e
theorem Got.hit {a y x : Nat} (ha : a < N) (hy : y < N) (hx : x < N) (hs : 0 ≤ stepR rs y x) (he : fw (costTo rs) N a y + stepR rs y x = fw (costTo rs) N a x) (hf : fw (costTo rs) N a x < far) {d : Nat → Nat → Int} (h : Got rs N a y d) : Got rs N a x (bf1 rs a y d x) := by
  have L := h.1.step hr hN ha hy hx
  refine ⟨L, ?_, hf⟩
  have h1 := L a x ha hx
  have l := ((costs_tab hr).fw N (Nat.le_refl _)).lo ha hy
  have e := h.2.1
  by_cases on : bfOn rs d a y x
  · have e1 : bf1 rs a y d x = updM d a x (d a y + stepR rs y x) := by unfold bf1; rw [if_pos on]
    rw [e1]
    have e3 : updM d a x (d a y + stepR rs y x) a x = d a y + stepR rs y x := by unfold updM updF; simp
    rw [e3]; omega
  · have e1 : bf1 rs a y d x = d := by unfold bf1; rw [if_neg on]
    rw [e1] at h1 ⊢
    unfold bfOn at on
    omega
theorem Got.c {a x : Nat} (ha : a < N) (hx : x < N) {a' b : Nat} (ha' : a' < N) (hb : b < N) (d : Nat → Nat → Int) (h : Got rs N a x d) : Got rs N a x (bfC rs N a' d b) :=
  fold_keep (n := N) (fun _ _ hc h => h.step hr hN ha hx ha' hb hc) N (Nat.le_refl _) d h
theorem Got.b {a x : Nat} (ha : a < N) (hx : x < N) {a' : Nat} (ha' : a' < N) (d : Nat → Nat → Int) (h : Got rs N a x d) : Got rs N a x (bfB rs N d a') :=
  fold_keep (n := N) (fun d _ hc h => Got.c hr hN ha hx ha' hc d h) N (Nat.le_refl _) d h
theorem Got.a {a x : Nat} (ha : a < N) (hx : x < N) (t : Nat) (d : Nat → Nat → Int) (h : Got rs N a x d) : Got rs N a x (bfA rs N d t) :=
  fold_keep (n := N) (fun d _ hc h => Got.b hr hN ha hx hc d h) N (Nat.le_refl _) d h
theorem Got.round {a y x : Nat} (ha : a < N) (hy : y < N) (hx : x < N) (hs : 0 ≤ stepR rs y x) (he : fw (costTo rs) N a y + stepR rs y x = fw (costTo rs) N a x) (hf : fw (costTo rs) N a x < far) (t : Nat) (d : Nat → Nat → Int) (h : Got rs N a y d) : Got rs N a x (bfA rs N d t) :=
  fold_hit ha (fun d _ hc h => Got.b hr hN ha hy hc d h) (fun d _ hc h => Got.b hr hN ha hx hc d h)
    (fun _ h => fold_hit hy (fun d _ hc h => Got.c hr hN ha hy ha hc d h) (fun d _ hc h => Got.c hr hN ha hx ha hc d h)
      (fun _ h => fold_hit hx (fun _ _ hc h => h.step hr hN ha hy ha hy hc) (fun _ _ hc h => h.step hr hN ha hx ha hy hc) (fun _ h => h.hit hr hN ha hy hx hs he hf) N hx (Nat.le_refl _) _ h) N hy (Nat.le_refl _) _ h) N ha (Nat.le_refl _) d h
theorem Lo.c {a' b : Nat} (ha' : a' < N) (hb : b < N) (d : Nat → Nat → Int) (h : Lo (fw (costTo rs) N) N d) : Lo (fw (costTo rs) N) N (bfC rs N a' d b) :=
  fold_keep (n := N) (fun _ _ hc h => h.step hr hN ha' hb hc) N (Nat.le_refl _) d h
theorem Lo.b {a' : Nat} (ha' : a' < N) (d : Nat → Nat → Int) (h : Lo (fw (costTo rs) N) N d) : Lo (fw (costTo rs) N) N (bfB rs N d a') :=
  fold_keep (n := N) (fun d _ hc h => Lo.c hr hN ha' hc d h) N (Nat.le_refl _) d h
theorem Lo.a (t : Nat) (d : Nat → Nat → Int) (h : Lo (fw (costTo rs) N) N d) : Lo (fw (costTo rs) N) N (bfA rs N d t) :=
  fold_keep (n := N) (fun d _ hc h => Lo.b hr hN hc d h) N (Nat.le_refl _) d h
theorem Lo.t (T : Nat) : Lo (fw (costTo rs) N) N (bfT rs N T) := fold_keep (n := T) (fun d _ _ h => Lo.a hr hN _ d h) T (Nat.le_refl _) _ (Lo.zero hr)

/-- Along a way. -/
theorem got_way {a b : Nat} (ha : a < N) (hb : b < N) (hfab : fw (costTo rs) N a b < far) : ∀ (f : Nat) (way : List Int) (last : Nat) (cost : Int) (r : List Int) (t : Nat), growP (costTo rs) (fw (costTo rs) N) N b (fw (costTo rs) N a b) f way last cost = some r → last < N →
    cost = fw (costTo rs) N a last → Got rs N a last (bfT rs N t) → Got rs N a b (bfT rs N (t + f))
  | 0, way, last, cost, r, t, h, hl, hc, g => by
    unfold growP at h
    split at h
    · rename_i e; subst e; exact g
    · simp at h
  | f + 1, way, last, cost, r, t, h, hl, hc, g => by
    obtain ⟨x, hx, hrr⟩ := grow_step h
    obtain ⟨⟨g1, g2, g3, g4⟩, h'⟩ := growF_some hrr
    obtain ⟨v, v1, v2⟩ := stepR_val hr (fun e => g1 e.symm : last ≠ x)
    have hs : 0 ≤ stepR rs last x := by
      unfold ff at v
      split at v <;> unfold far at * <;> omega
    have v3 : costTo rs last x = stepR rs last x := by rw [v]; unfold ff; rw [if_neg (by omega)]
    have T := costs_tab hr
    have st := step_tri hr hN ha hl hx hs g.2.2
    have t2 := tri T N (Nat.le_refl _) a b x ha hb hx
    have he : fw (costTo rs) N a last + stepR rs last x = fw (costTo rs) N a x := by omega
    have g' : Got rs N a x (bfT rs N (t + 1)) := by
      show Got rs N a x ((List.range (t + 1)).foldl (bfA rs N) bf0)
      rw [fold_succ]
      exact Got.round hr hN ha hl hx hs he st.2 t _ g
    have := got_way ha hb hfab f (way ++ [(x : Int)]) x (cost + costTo rs last x) r (t + 1) h' hx (by omega) g'
    rw [show t + (f + 1) = t + 1 + f by omega]
    exact this
theorem got_keep {a x : Nat} (ha : a < N) (hx : x < N) {t : Nat} (g : Got rs N a x (bfT rs N t)) : ∀ k, Got rs N a x (bfT rs N (t + k))
  | 0 => g
  | k + 1 => by
    show Got rs N a x ((List.range (t + k + 1)).foldl (bfA rs N) bf0)
    rw [fold_succ]
    exact Got.a hr hN ha hx _ _ (got_keep ha hx g k)

/-- The reference's table is that of the distances. -/
theorem bf_eq {a b : Nat} (ha : a < N) (hb : b < N) : bfT rs N N a b = nn (fw (costTo rs) N a b) := by
  have L := Lo.t hr hN N a b ha hb
  have T := (costs_tab hr).fw N (Nat.le_refl _)
  by_cases hf : fw (costTo rs) N a b < far
  · obtain ⟨f, r, hw, hfN⟩ := way_ex (costs_tab hr) hN ha hb hf
    have g0 : Got rs N a a (bfT rs N 0) := by
      refine ⟨Lo.zero hr, ?_, ?_⟩
      · show bf0 a a = _
        rw [T.diag a ha]; unfold bf0; rw [if_pos rfl]
      · rw [T.diag a ha]; unfold far; omega
    have g := got_way hr hN ha hb hf f _ a 0 r 0 hw.1 ha (T.diag a ha).symm g0
    have g2 := got_keep hr hN ha hb g (N - f)
    rw [show 0 + f + (N - f) = N by omega] at g2
    rw [g2.2.1]
    unfold nn; rw [if_neg (by omega)]
  · have e : nn (fw (costTo rs) N a b) = -1 := by unfold nn; rw [if_pos (by omega)]
    rw [e]
    omega
end

/-- How great the numbers are. -/
def Bd (N k : Nat) (d : Nat → Nat → Int) : Prop := ∀ i j, i < N → j < N → -1 ≤ d i j ∧ d i j ≤ 50 * (k : Int)
theorem Bd.step {rs : List RoadD} {N : Nat} (hr : ∀ r ∈ rs, roadOk N r = true) {k : Nat} {d : Nat → Nat → Int} (h : Bd N k d) {a b c : Nat} (ha : a < N) (hb : b < N) (hc : c < N) : Bd N (k + 1) (bf1 rs a b d c) := by
  have s := stepR_hi hr b c
  have hab := h a b ha hb
  intro i j hi hj
  have hij := h i j hi hj
  unfold bf1
  split
  · rename_i on
    obtain ⟨s0, d0, -⟩ := on
    unfold updM updF
    by_cases e : i = a
    · subst e
      by_cases e2 : j = c
      · subst e2
        simp only [if_true]
        omega
      · simp only [if_true, if_neg e2]
        omega
    · simp only [if_neg e]
      omega
  · omega
theorem Bd.mono {N k k' : Nat} {d : Nat → Nat → Int} (h : Bd N k d) (hk : k ≤ k') : Bd N k' d := fun i j hi hj => by have := h i j hi hj; omega
theorem Bd.zero (N : Nat) : Bd N 0 bf0 := fun i j _ _ => by unfold bf0; split <;> omega

end Go.Proofs.YtkbkgkmogbkabaaDoor

/-
  Contract of the reference's step.
-/
namespace Go.Proofs.YtkbkgkmogbkabaaDoor
open Go.RowKit

theorem stepF_eq (a b s : Int) (r : RoadD) : stepF a b s r = if ((r.a = a ∧ r.b = b) ∨ (r.a = b ∧ r.b = a)) ∧ (s < 0 ∨ r.cost < s) then r.cost else s := by
  unfold stepF joinsB
  simp only [decide_eq_true_iff]

end Go.Proofs.YtkbkgkmogbkabaaDoor

/-
  The cost of a way, and the reference's search, in plain Lean.
-/
namespace Go.Proofs.YtkbkgkmogbkabaaDoor
open Go.RowKit

/-- The cost of the first k stops of a way; none: these are no way. -/
def cst (rs : List RoadD) (n : Int) (way : List Int) : Nat → Option Int
  | 0 => some 0
  | k + 1 => match cst rs n way k with
    | none => none
    | some s => if fn way k < 0 ∨ n ≤ fn way k ∨ fn way k ∈ way.take k then none else if k = 0 then some s else if stepR rs (fn way (k - 1)) (fn way k) < 0 then none else some (s + stepR rs (fn way (k - 1)) (fn way k))
def costR (rs : List RoadD) (n : Int) (way : List Int) : Int := if way = [] then -1 else (cst rs n way way.length).getD (-1)
theorem cst_none {rs : List RoadD} {n : Int} {way : List Int} {k : Nat} (h : cst rs n way k = none) : ∀ j, cst rs n way (k + j) = none
  | 0 => h
  | j + 1 => by
    show cst rs n way (k + j + 1) = none
    unfold cst
    rw [cst_none h j]
theorem costR_none {rs : List RoadD} {n : Int} {way : List Int} {k : Nat} (hk : k ≤ way.length) (h : cst rs n way k = none) : costR rs n way = -1 := by
  unfold costR
  split
  · rfl
  · have := cst_none h (way.length - k)
    rw [show k + (way.length - k) = way.length by omega] at this
    rw [this]; rfl
theorem cst_bad {rs : List RoadD} {n : Int} {way : List Int} {k : Nat} {s : Int} (h : cst rs n way k = some s) (hb : fn way k < 0 ∨ n ≤ fn way k ∨ fn way k ∈ way.take k) : cst rs n way (k + 1) = none := by
  unfold cst; rw [h]; show (if _ then _ else _) = _; rw [if_pos hb]
theorem cst_first {rs : List RoadD} {n : Int} {way : List Int} {s : Int} (h : cst rs n way 0 = some s) (hb : ¬ (fn way 0 < 0 ∨ n ≤ fn way 0 ∨ fn way 0 ∈ way.take 0)) : cst rs n way 1 = some s := by
  unfold cst; rw [h]; show (if _ then _ else _) = _; rw [if_neg hb, if_pos rfl]
theorem cst_no {rs : List RoadD} {n : Int} {way : List Int} {k : Nat} {s : Int} (h : cst rs n way k = some s) (hk : 0 < k) (hc : stepR rs (fn way (k - 1)) (fn way k) < 0) : cst rs n way (k + 1) = none := by
  unfold cst; rw [h]; show (if _ then _ else if _ then _ else if _ then _ else _) = _
  rw [if_neg (c := k = 0) (by omega), if_pos (c := stepR rs (fn way (k - 1)) (fn way k) < 0) hc]
  split <;> rfl
theorem cst_yes {rs : List RoadD} {n : Int} {way : List Int} {k : Nat} {s : Int} (h : cst rs n way k = some s) (hb : ¬ (fn way k < 0 ∨ n ≤ fn way k ∨ fn way k ∈ way.take k)) (hk : 0 < k) (hc : ¬ stepR rs (fn way (k - 1)) (fn way k) < 0) :
    cst rs n way (k + 1) = some (s + stepR rs (fn way (k - 1)) (fn way k)) := by
  unfold cst; rw [h]; show (if _ then _ else _) = _
  rw [if_neg hb, if_neg (by omega), if_neg hc]
theorem fn_app {xs ys : List Int} {k : Nat} (h : k < xs.length) : fn (xs ++ ys) k = fn xs k := by
  rw [fn_get h, fn_get (by rw [List.length_append]; omega), List.getElem_append_left h]
theorem cst_app {rs : List RoadD} {n : Int} {way : List Int} (ys : List Int) : ∀ k, k ≤ way.length → cst rs n (way ++ ys) k = cst rs n way k
  | 0, _ => rfl
  | k + 1, hk => by
    unfold cst
    rw [cst_app ys k (by omega)]
    rw [fn_app (by omega : k < way.length), fn_app (by omega : k - 1 < way.length), List.take_append_of_le_length (by omega : k ≤ way.length)]
theorem costR_some {rs : List RoadD} {n : Int} {way : List Int} {s : Int} (hne : way ≠ []) (h : cst rs n way way.length = some s) : costR rs n way = s := by
  unfold costR; rw [if_neg hne, h]; rfl
/-- One stop more. -/
theorem costR_push {rs : List RoadD} {n : Int} {way : List Int} {x s : Int} (hne : way ≠ []) (h : cst rs n way way.length = some s) :
    (¬ (x < 0 ∨ n ≤ x ∨ x ∈ way) ∧ 0 ≤ stepR rs (fn way (way.length - 1)) x ∧ cst rs n (way ++ [x]) (way ++ [x]).length = some (s + stepR rs (fn way (way.length - 1)) x) ∧ costR rs n (way ++ [x]) = s + stepR rs (fn way (way.length - 1)) x) ∨
    ((x < 0 ∨ n ≤ x ∨ x ∈ way ∨ stepR rs (fn way (way.length - 1)) x < 0) ∧ costR rs n (way ++ [x]) = -1) := by
  have hl : (way ++ [x]).length = way.length + 1 := by simp
  have hpos : 0 < way.length := List.length_pos_iff.2 hne
  have h0 : cst rs n (way ++ [x]) way.length = some s := by rw [cst_app _ _ (Nat.le_refl _)]; exact h
  have hx : fn (way ++ [x]) way.length = x := by rw [fn_get (by omega)]; simp
  have hp : fn (way ++ [x]) (way.length - 1) = fn way (way.length - 1) := fn_app (by omega)
  have ht : (way ++ [x]).take way.length = way := by simp
  by_cases hb : x < 0 ∨ n ≤ x ∨ x ∈ way
  · right
    refine ⟨by rcases hb with h | h | h <;> simp [h], costR_none (k := way.length + 1) (by omega) (cst_bad h0 (by rw [hx, ht]; exact hb))⟩
  · by_cases hc : stepR rs (fn way (way.length - 1)) x < 0
    · right
      exact ⟨.inr (.inr (.inr hc)), costR_none (k := way.length + 1) (by omega) (cst_no h0 hpos (by rw [hx, hp]; exact hc))⟩
    · left
      have h1 := cst_yes h0 (by rw [hx, ht]; exact hb) hpos (by rw [hx, hp]; exact hc)
      rw [hx, hp] at h1
      rw [hl]
      exact ⟨hb, by omega, h1, costR_some (by simp) (by rw [hl]; exact h1)⟩

/-- The reference's search. -/
def waysR (rs : List RoadD) (N : Nat) (b : Nat) (tot : Int) : Nat → List Int → Option (List Int)
  | 0, way => if fn way (way.length - 1) = b ∧ costR rs N way = tot then some way else none
  | f + 1, way => (List.range N).findSome? fun (x : Nat) => if 0 ≤ costR rs N (way ++ [(x : Int)]) ∧ costR rs N (way ++ [(x : Int)]) ≤ tot then waysR rs N b tot f (way ++ [(x : Int)]) else none
def waysF (rs : List RoadD) (N : Nat) (b : Nat) (tot : Int) (f : Nat) (way : List Int) (x : Nat) : Option (List Int) :=
  if 0 ≤ costR rs N (way ++ [(x : Int)]) ∧ costR rs N (way ++ [(x : Int)]) ≤ tot then waysR rs N b tot f (way ++ [(x : Int)]) else none
theorem waysR_succ (rs : List RoadD) (N : Nat) (b : Nat) (tot : Int) (f : Nat) (way : List Int) : waysR rs N b tot (f + 1) way = (List.range N).findSome? (waysF rs N b tot f way) := rfl

section
variable {rs : List RoadD} {N : Nat} (hr : ∀ r ∈ rs, roadOk N r = true)
include hr

theorem cost_step {i j : Nat} (hne : i ≠ j) : (0 ≤ stepR rs i j ↔ costTo rs i j < far) ∧ (0 ≤ stepR rs i j → costTo rs i j = stepR rs i j) := by
  obtain ⟨v, v1, v2⟩ := stepR_val hr hne
  rw [v]
  unfold ff far
  constructor
  · constructor
    · intro h; rw [if_neg (by omega)]; omega
    · intro h; split at h <;> omega
  · intro h; rw [if_neg (by omega)]

/-- What a success says of the cost. -/
theorem ways_sound {b : Nat} (hb : b < N) (tot : Int) : ∀ (f : Nat) (way : List Int) (last : Nat) (s : Int) (r : List Int), waysR rs N b tot f way = some r → way ≠ [] → fn way (way.length - 1) = last → last < N → 0 ≤ s → cst rs N way way.length = some s →
    s + fw (costTo rs) N last b ≤ tot
  | 0, way, last, s, r, h, hne, hl, hlN, hs, hc => by
    unfold waysR at h
    split at h
    · rename_i g
      obtain ⟨g1, g2⟩ := g
      rw [costR_some hne hc] at g2
      have e : last = b := by omega
      subst e
      rw [((costs_tab hr).fw N (Nat.le_refl _)).diag last hlN]
      omega
    · simp at h
  | f + 1, way, last, s, r, h, hne, hl, hlN, hs, hc => by
    rw [waysR_succ] at h
    obtain ⟨x, hx, hrr⟩ := List.exists_of_findSome?_eq_some h
    have hxN := List.mem_range.1 hx
    unfold waysF at hrr
    split at hrr
    · rename_i g
      rcases costR_push (x := (x : Int)) hne hc with ⟨g1, g2, g3, g4⟩ | ⟨-, g2⟩
      · rw [hl] at g2 g3 g4
        have ih := ways_sound hb tot f (way ++ [(x : Int)]) x (s + stepR rs last x) r hrr (by simp) (by rw [fn_get (by simp)]; simp) hxN (by omega) g3
        have hne2 : last ≠ x := by
          intro e
          refine g1 (.inr (.inr ?_))
          rw [← e, ← hl]
          have hp : 0 < way.length := List.length_pos_iff.2 hne
          rw [fn_get (by omega)]
          exact List.getElem_mem _
        obtain ⟨c1, c2⟩ := cost_step hr hne2
        have t := tri (costs_tab hr) N (Nat.le_refl _) last b x hlN hb hxN
        have m := fw_le (costTo rs) 0 last x N
        rw [Nat.zero_add] at m
        have m2 : fw (costTo rs) 0 last x = costTo rs last x := rfl
        have := c2 g2
        omega
      · omega
    · simp at hrr

/-- The two searches find the same. -/
theorem ways_eq {b : Nat} (hb : b < N) (tot : Int) : ∀ (f : Nat) (way : List Int) (last : Nat) (s : Int), way ≠ [] → fn way (way.length - 1) = last → last < N → 0 ≤ s → cst rs N way way.length = some s → s + fw (costTo rs) N last b = tot → fw (costTo rs) N last b < far →
    waysR rs N b tot f way = growP (costTo rs) (fw (costTo rs) N) N b tot f way last s
  | 0, way, last, s, hne, hl, hlN, hs, hc, ht, hf => by
    unfold waysR growP
    rw [costR_some hne hc, hl]
    by_cases e : last = b
    · subst e
      rw [((costs_tab hr).fw N (Nat.le_refl _)).diag last hlN] at ht
      rw [if_pos ⟨rfl, by omega⟩, if_pos rfl]
    · rw [if_neg (fun h => e (by omega)), if_neg e]
  | f + 1, way, last, s, hne, hl, hlN, hs, hc, ht, hf => by
    rw [waysR_succ, growP_succ]
    have T := (costs_tab hr).fw N (Nat.le_refl _)
    have key : ∀ x, x < N → waysF rs N b tot f way x = growF (costTo rs) (fw (costTo rs) N) N b tot f way last s x := by
      intro x hxN
      have hlw : (last : Int) ∈ way := by
        have hp : 0 < way.length := List.length_pos_iff.2 hne
        rw [← hl, fn_get (by omega)]
        exact List.getElem_mem _
      have l := T.lo hxN hb
      unfold waysF growF
      rcases costR_push (x := (x : Int)) hne hc with ⟨g1, g2, g3, g4⟩ | ⟨g1, g2⟩
      · rw [hl] at g2 g3 g4
        have hne2 : x ≠ last := fun e => g1 (.inr (.inr (by rw [e]; exact hlw)))
        obtain ⟨c1, c2⟩ := cost_step hr (fun e => hne2 e.symm : last ≠ x)
        have c3 := c2 g2
        have c4 := c1.1 g2
        have t := tri (costs_tab hr) N (Nat.le_refl _) last b x hlN hb hxN
        have m := fw_le (costTo rs) 0 last x N
        rw [Nat.zero_add] at m
        have m2 : fw (costTo rs) 0 last x = costTo rs last x := rfl
        rw [g4]
        by_cases hq : s + stepR rs last x + fw (costTo rs) N x b = tot
        · rw [if_pos ⟨by omega, by omega⟩, if_pos ⟨hne2, c4, by omega, fun h => g1 (.inr (.inr h))⟩, c3]
          exact ways_eq hb tot f (way ++ [(x : Int)]) x (s + stepR rs last x) (by simp) (by rw [fn_get (by simp)]; simp) hxN (by omega) g3 (by omega) (by omega)
        · rw [if_neg (c := x ≠ last ∧ _) (fun h => hq (by have := h.2.2.1; omega))]
          split
          · cases e : waysR rs N b tot f (way ++ [(x : Int)]) with
            | none => rfl
            | some r =>
              have := ways_sound hr hb tot f (way ++ [(x : Int)]) x (s + stepR rs last x) r e (by simp) (by rw [fn_get (by simp)]; simp) hxN (by omega) g3
              omega
          · rfl
      · rw [g2, if_neg (by omega), if_neg]
        rintro ⟨h1, h2, -, h4⟩
        rcases g1 with g | g | g | g
        · omega
        · omega
        · exact h4 g
        · rw [hl] at g
          obtain ⟨c1, -⟩ := cost_step hr (fun e => h1 e.symm : last ≠ x)
          have := c1.2 h2
          omega
    have hm : ∀ (l : List Nat), (∀ x ∈ l, x < N) → l.findSome? (waysF rs N b tot f way) = l.findSome? (growF (costTo rs) (fw (costTo rs) N) N b tot f way last s) := by
      intro l
      induction l with
      | nil => intro _; rfl
      | cons x l ih =>
        intro h
        rw [List.findSome?_cons, List.findSome?_cons, key x (h x (List.mem_cons_self ..)), ih (fun y hy => h y (List.mem_cons_of_mem _ hy))]
    exact hm _ (fun x hx => List.mem_range.1 hx)
omit hr in
/-- One stop. -/
theorem cst_one {a : Nat} (ha : a < N) : cst rs N [(a : Int)] 1 = some 0 := by
  refine cst_first rfl ?_
  have : fn [(a : Int)] 0 = a := rfl
  rw [this]
  simp; omega
theorem ways_way {a b : Nat} (ha : a < N) (hb : b < N) (hf : fw (costTo rs) N a b < far) (f : Nat) :
    waysR rs N b (fw (costTo rs) N a b) f [(a : Int)] = growP (costTo rs) (fw (costTo rs) N) N b (fw (costTo rs) N a b) f [(a : Int)] a 0 :=
  ways_eq hr hb _ f [(a : Int)] a 0 (by simp) rfl ha (by omega) (cst_one ha) (by omega) hf
end

end Go.Proofs.YtkbkgkmogbkabaaDoor

/-
  Contract of Potentials.
-/
namespace Go.Proofs.YtkbkgkmogbkabaaDoor
open Go.RowKit

theorem foldl_max_ge : ∀ (l : List Int) (a : Int), a ≤ l.foldl max a ∧ ∀ x ∈ l, x ≤ l.foldl max a
  | [], a => ⟨Int.le_refl _, fun x h => by simp at h⟩
  | y :: l, a => by
    obtain ⟨h1, h2⟩ := foldl_max_ge l (max a y)
    show a ≤ l.foldl max (max a y) ∧ ∀ x ∈ y :: l, x ≤ l.foldl max (max a y)
    refine ⟨by omega, fun x hx => ?_⟩
    rcases List.mem_cons.1 hx with rfl | hx
    · omega
    · exact h2 x hx
theorem foldl_max_in : ∀ (l : List Int) (a : Int), l.foldl max a = a ∨ l.foldl max a ∈ l
  | [], a => .inl rfl
  | y :: l, a => by
    show l.foldl max (max a y) = a ∨ l.foldl max (max a y) ∈ y :: l
    rcases foldl_max_in l (max a y) with h | h
    · rw [h]
      by_cases e : a ≤ y
      · right; rw [Int.max_eq_right e]; exact List.mem_cons_self ..
      · left; omega
    · exact .inr (List.mem_cons_of_mem _ h)
theorem maxI_ge {l : List Int} {x : Int} (hx : x ∈ l) : x ≤ maxI l := by
  cases l with
  | nil => simp at hx
  | cons y l =>
    show x ≤ l.foldl max y
    obtain ⟨h1, h2⟩ := foldl_max_ge l y
    rcases List.mem_cons.1 hx with rfl | hx
    · exact h1
    · exact h2 x hx
theorem maxI_in {l : List Int} (h : 0 < l.length) : maxI l ∈ l := by
  cases l with
  | nil => simp at h
  | cons y l =>
    show l.foldl max y ∈ y :: l
    rcases foldl_max_in l y with e | e
    · rw [e]; exact List.mem_cons_self ..
    · exact List.mem_cons_of_mem _ e

/-- Whether some stop cannot be reached. -/
def lone (F : Nat → Nat → Int) (N a : Nat) : Prop := ∃ j, j < N ∧ far ≤ F a j
theorem mem_rowL {n : Nat} {f : Nat → Int} {x : Int} : x ∈ rowL n f ↔ ∃ j, j < n ∧ f j = x := by
  unfold rowL
  simp [List.mem_map, List.mem_range]
theorem lone_max {F : Nat → Nat → Int} {N a : Nat} (hN : 1 ≤ N) : far ≤ maxI (rowL N (F a)) ↔ lone F N a := by
  constructor
  · intro h
    obtain ⟨j, hj, e⟩ := mem_rowL.1 (maxI_in (l := rowL N (F a)) (by rw [rowL_len]; omega))
    exact ⟨j, hj, by omega⟩
  · rintro ⟨j, hj, h⟩
    have := maxI_ge (mem_rowL.2 ⟨j, hj, rfl⟩ : F a j ∈ rowL N (F a))
    omega

end Go.Proofs.YtkbkgkmogbkabaaDoor

/-
  Ways that potentials prove, in plain Lean.
-/
namespace Go.Proofs.YtkbkgkmogbkabaaDoor
open Go.RowKit

/-- How far potentials differ along a road. -/
def pd (pot : List Int) (r : RoadD) : Int := intAt pot r.a - intAt pot r.b
def potB (pot : List Int) (r : RoadD) : Prop := pd pot r ≤ r.cost ∧ -(pd pot r) ≤ r.cost
instance (pot : List Int) (r : RoadD) : Decidable (potB pot r) := by unfold potB; infer_instance
def lastI (way : List Int) : Int := fn way (way.length - 1)
/-- What CheckWay answers on a valid map. -/
def shownP (rs : List RoadD) (N : Nat) (way pot : List Int) : Prop :=
  pot.length = N ∧ (∀ x ∈ pot, -1000 ≤ x ∧ x ≤ 1000) ∧ (∀ r ∈ rs, potB pot r) ∧ 0 ≤ costR rs N way ∧ intAt pot (lastI way) - intAt pot (fn way 0) = costR rs N way
instance (rs : List RoadD) (N : Nat) (way pot : List Int) : Decidable (shownP rs N way pot) := by unfold shownP; infer_instance
def shownB (rs : List RoadD) (N : Nat) (way pot : List Int) : Bool := decide (shownP rs N way pot)
theorem shown_len {rs : List RoadD} {N : Nat} {way pot : List Int} (h : pot.length ≠ N) : shownB rs N way pot = false := decide_eq_false (fun k => h k.1)
theorem shown_box {rs : List RoadD} {N : Nat} {way pot : List Int} {x : Int} (hx : x ∈ pot) (h : x < -1000 ∨ 1000 < x) : shownB rs N way pot = false := decide_eq_false (fun k => by have := k.2.1 x hx; omega)
theorem shown_road {rs : List RoadD} {N : Nat} {way pot : List Int} {r : RoadD} (hr : r ∈ rs) (h : ¬ potB pot r) : shownB rs N way pot = false := decide_eq_false (fun k => h (k.2.2.1 r hr))
theorem shown_cost {rs : List RoadD} {N : Nat} {way pot : List Int} (h : costR rs N way < 0) : shownB rs N way pot = false := decide_eq_false (fun k => by have := k.2.2.2.1; omega)
theorem shown_last {rs : List RoadD} {N : Nat} {way pot : List Int} (h : ¬ intAt pot (lastI way) - intAt pot (fn way 0) = costR rs N way) : shownB rs N way pot = false := decide_eq_false (fun k => h k.2.2.2.2)
theorem shown_yes {rs : List RoadD} {N : Nat} {way pot : List Int} (h1 : pot.length = N) (h2 : ∀ x ∈ pot, -1000 ≤ x ∧ x ≤ 1000) (h3 : ∀ r ∈ rs, potB pot r) (h4 : 0 ≤ costR rs N way) (h5 : intAt pot (lastI way) - intAt pot (fn way 0) = costR rs N way) : shownB rs N way pot = true := decide_eq_true ⟨h1, h2, h3, h4, h5⟩

/-- The stops of a way are apart. -/
theorem cst_range {rs : List RoadD} {n : Int} {way : List Int} : ∀ {k : Nat} {s : Int}, cst rs n way k = some s → k ≤ way.length → (way.take k).Nodup ∧ ∀ y ∈ way.take k, 0 ≤ y ∧ y < n
  | 0, _, _, _ => by simp
  | k + 1, s, h, hk => by
    cases e : cst rs n way k with
    | none => rw [cst_none e 1] at h; simp at h
    | some t =>
      obtain ⟨h1, h2⟩ := cst_range e (by omega)
      have hb : ¬ (fn way k < 0 ∨ n ≤ fn way k ∨ fn way k ∈ way.take k) := fun hb => by rw [cst_bad e hb] at h; simp at h
      rw [List.take_succ_eq_append_getElem (by omega), ← fn_get (by omega : k < way.length)]
      constructor
      · rw [List.nodup_append]
        refine ⟨h1, by simp, fun a ha b hb' => ?_⟩
        simp only [List.mem_singleton] at hb'
        subst hb'
        intro e2
        subst e2
        exact hb (.inr (.inr ha))
      · intro y hy
        rcases List.mem_append.1 hy with hy | hy
        · exact h2 y hy
        · simp only [List.mem_singleton] at hy
          subst hy
          omega
theorem cst_short {rs : List RoadD} {N : Nat} {way : List Int} {k : Nat} {s : Int} (h : cst rs N way k = some s) (hk : k ≤ way.length) : k ≤ N := by
  obtain ⟨h1, h2⟩ := cst_range h hk
  have := nodup_len N (way.take k) h1 h2
  rw [List.length_take] at this
  omega
theorem cst_take {rs : List RoadD} {n : Int} {way : List Int} {k : Nat} (h : k ≤ way.length) : cst rs n (way.take k) k = cst rs n way k := by
  have := cst_app (rs := rs) (n := n) (way := way.take k) (way.drop k) k (by rw [List.length_take]; omega)
  rw [List.take_append_drop] at this
  exact this.symm
theorem shown_cut {rs : List RoadD} {N : Nat} {way pot : List Int} (hN : N ≤ 8) : shownB rs N (way.take 18) (pot.take 18) = shownB rs N way pot := by
  by_cases hp : pot.length ≤ 18
  · rw [List.take_of_length_le hp]
    by_cases hw : way.length ≤ 18
    · rw [List.take_of_length_le hw]
    · have n1 : cst rs N way 18 = none := by
        cases e : cst rs N way 18 with
        | none => rfl
        | some s => have := cst_short e (by omega); omega
      rw [shown_cost (by rw [costR_none (k := 18) (by rw [List.length_take]; omega) (by rw [cst_take (by omega)]; exact n1)]; omega), shown_cost (by rw [costR_none (k := 18) (by omega) n1]; omega)]
  · rw [shown_len (by rw [List.length_take]; omega), shown_len (by omega)]

/-- In the middle of a way: what the program's sum says. -/
def Mid (rs : List RoadD) (N : Nat) (way : List Int) (k : Nat) (s : Int) : Prop := (cst rs N way k = some s ∧ s ≤ 50 * (k : Int)) ∨ (far ≤ s ∧ cst rs N way k = none)
theorem Mid.bad {rs : List RoadD} {N : Nat} {way : List Int} {k : Nat} {s : Int} (h : Mid rs N way k s) (hb : fn way k < 0 ∨ (N : Int) ≤ fn way k ∨ fn way k ∈ way.take k) (hk : k < way.length) : costR rs N way = -1 := by
  refine costR_none (k := k + 1) (by omega) ?_
  rcases h with ⟨h, -⟩ | ⟨-, h⟩
  · exact cst_bad h hb
  · exact cst_none h 1
theorem Mid.first {rs : List RoadD} {N : Nat} {way : List Int} {s : Int} (h : Mid rs N way 0 s) (hb : ¬ (fn way 0 < 0 ∨ (N : Int) ≤ fn way 0 ∨ fn way 0 ∈ way.take 0)) : Mid rs N way 1 s := by
  rcases h with ⟨h, h2⟩ | ⟨h2, h⟩
  · exact .inl ⟨cst_first h hb, by omega⟩
  · exact .inr ⟨h2, cst_none h 1⟩
theorem Mid.step {rs : List RoadD} {N : Nat} (hr : ∀ r ∈ rs, roadOk N r = true) {way : List Int} {k p x : Nat} {s : Int} (h : Mid rs N way k s) (hs : 0 ≤ s) (hk : 0 < k) (hkw : k < way.length) (hp : fn way (k - 1) = p) (hx : fn way k = x)
    (hb : ¬ (fn way k < 0 ∨ (N : Int) ≤ fn way k ∨ fn way k ∈ way.take k)) : Mid rs N way (k + 1) (s + costTo rs p x) ∧ 0 ≤ costTo rs p x ∧ costTo rs p x ≤ far := by
  have hne : p ≠ x := by
    intro e
    refine hb (.inr (.inr ?_))
    rw [hx, ← e, ← hp, fn_get (by omega)]
    have h1 : way[k - 1]'(by omega) = (way.take k)[k - 1]'(by rw [List.length_take]; omega) := by rw [List.getElem_take]
    rw [h1]; exact List.getElem_mem _
  obtain ⟨v, v1, v2⟩ := stepR_val hr hne
  have hc : 0 ≤ costTo rs p x ∧ costTo rs p x ≤ far := by rw [v]; unfold ff far; split <;> omega
  refine ⟨?_, hc⟩
  rcases h with ⟨h, h2⟩ | ⟨h2, h⟩
  · by_cases c : stepR rs p x < 0
    · right
      refine ⟨?_, cst_no h hk (by rw [hp, hx]; exact c)⟩
      rw [v]; unfold ff; rw [if_pos c]; omega
    · left
      have h3 := cst_yes h hb hk (by rw [hp, hx]; exact c)
      rw [hp, hx] at h3
      have e : costTo rs p x = stepR rs p x := by rw [v]; unfold ff; rw [if_neg c]
      rw [e]
      exact ⟨h3, by omega⟩
  · exact .inr ⟨by omega, cst_none h 1⟩
theorem Mid.end_ {rs : List RoadD} {N : Nat} {way : List Int} {s : Int} (h : Mid rs N way way.length s) (hne : way ≠ []) (hl : way.length ≤ 18) : (s < far → costR rs N way = s) ∧ (far ≤ s → costR rs N way = -1) := by
  rcases h with ⟨h, h2⟩ | ⟨h2, h⟩
  · exact ⟨fun _ => costR_some hne h, fun g => by unfold far at g; omega⟩
  · exact ⟨fun g => by omega, fun _ => costR_none (Nat.le_refl _) h⟩

end Go.Proofs.YtkbkgkmogbkabaaDoor

/-
  Ways are proved by the distances, and no accepted way is longer, in plain Lean.
-/
namespace Go.Proofs.YtkbkgkmogbkabaaDoor
open Go.RowKit

theorem costStep_le {N : Nat} {D : Nat → Nat → Int} {r : RoadD} (hr : roadOk N r = true) (hs : ∀ i j, D i j = D j i) (i j : Nat) : costStep D r i j ≤ D i j ∧ costStep D r i j = costStep D r j i := by
  obtain ⟨p1, p2, p3, p4, p5, p6, p7⟩ := roadOk_iff.1 hr
  have hne : r.a.toNat ≠ r.b.toNat := by omega
  rw [costStep_val hne, costStep_val hne]
  have hm := (mn_le (D r.a.toNat r.b.toNat) r.cost).1
  by_cases c : (i = r.b.toNat ∧ j = r.a.toNat) ∨ (i = r.a.toNat ∧ j = r.b.toNat)
  · rw [if_pos c, if_pos (by omega)]
    refine ⟨?_, rfl⟩
    rcases c with ⟨rfl, rfl⟩ | ⟨rfl, rfl⟩
    · rw [hs r.b.toNat r.a.toNat]; exact hm
    · exact hm
  · rw [if_neg c, if_neg (by omega)]
    exact ⟨Int.le_refl _, hs i j⟩
theorem fold_le {N : Nat} : ∀ (rs : List RoadD) (D : Nat → Nat → Int), (∀ r ∈ rs, roadOk N r = true) → (∀ i j, D i j = D j i) → ∀ i j, rs.foldl costStep D i j ≤ D i j
  | [], _, _, _, _, _ => Int.le_refl _
  | r :: rs, D, hr, hs, i, j => by
    have h1 := fun i j => costStep_le (hr r (List.mem_cons_self ..)) hs i j
    have h2 := fold_le rs (costStep D r) (fun x hx => hr x (List.mem_cons_of_mem _ hx)) (fun i j => (h1 i j).2) i j
    exact Int.le_trans h2 (h1 i j).1
theorem fold_road {N : Nat} : ∀ (rs : List RoadD) (D : Nat → Nat → Int), (∀ r ∈ rs, roadOk N r = true) → (∀ i j, D i j = D j i) → ∀ r ∈ rs, rs.foldl costStep D r.a.toNat r.b.toNat ≤ r.cost
  | q :: rs, D, hr, hs, r, hm => by
    have h1 := fun i j => costStep_le (hr q (List.mem_cons_self ..)) hs i j
    rcases List.mem_cons.1 hm with rfl | hm
    · refine Int.le_trans (fold_le rs (costStep D r) (fun x hx => hr x (List.mem_cons_of_mem _ hx)) (fun i j => (h1 i j).2) _ _) ?_
      obtain ⟨p1, p2, p3, p4, p5, p6, p7⟩ := roadOk_iff.1 (hr r (List.mem_cons_self ..))
      rw [costStep_val (by omega), if_pos (.inr ⟨rfl, rfl⟩)]
      exact (mn_le _ _).2
    · exact fold_road rs (costStep D q) (fun x hx => hr x (List.mem_cons_of_mem _ hx)) (fun i j => (h1 i j).2) r hm
theorem cost_road {N : Nat} {rs : List RoadD} (hr : ∀ r ∈ rs, roadOk N r = true) {r : RoadD} (hm : r ∈ rs) : costTo rs r.a.toNat r.b.toNat ≤ r.cost :=
  fold_road rs cost0 hr (fun i j => by unfold cost0; by_cases e : j = i <;> simp [e] <;> intro h <;> exact absurd h.symm e) r hm
theorem step_road : ∀ (rs : List RoadD) (a b best : Int), 0 ≤ rs.foldl (stepF a b) best → rs.foldl (stepF a b) best = best ∨ ∃ r ∈ rs, joinsB r a b = true ∧ r.cost = rs.foldl (stepF a b) best
  | [], _, _, _, _ => .inl rfl
  | r :: rs, a, b, best, h => by
    have h' : 0 ≤ rs.foldl (stepF a b) (stepF a b best r) := h
    show rs.foldl (stepF a b) (stepF a b best r) = best ∨ ∃ q ∈ r :: rs, joinsB q a b = true ∧ q.cost = rs.foldl (stepF a b) (stepF a b best r)
    rcases step_road rs a b (stepF a b best r) h' with e | ⟨q, hq, g⟩
    · rw [e]
      by_cases c : joinsB r a b = true ∧ (best < 0 ∨ r.cost < best)
      · right
        exact ⟨r, List.mem_cons_self .., c.1, by unfold stepF; rw [if_pos c]⟩
      · left; unfold stepF; rw [if_neg c]
    · exact .inr ⟨q, List.mem_cons_of_mem _ hq, g⟩

section
variable {rs : List RoadD} {N : Nat} (hr : ∀ r ∈ rs, roadOk N r = true)
include hr

/-- How long a way of a given number of stops can be. -/
theorem grow_bound {b : Nat} (hb : b < N) : ∀ {f : Nat} {way : List Int} {last : Nat} {cost tot : Int} {r : List Int}, growP (costTo rs) (fw (costTo rs) N) N b tot f way last cost = some r → last < N → cost + fw (costTo rs) N last b = tot → tot ≤ cost + 50 * (f : Int)
  | 0, way, last, cost, tot, r, h, hl, ht => by
    unfold growP at h
    split at h
    · rename_i e
      subst e
      rw [((costs_tab hr).fw N (Nat.le_refl _)).diag last hl] at ht
      omega
    · simp at h
  | f + 1, way, last, cost, tot, r, h, hl, ht => by
    obtain ⟨x, hx, hrr⟩ := grow_step h
    obtain ⟨⟨g1, g2, g3, g4⟩, h'⟩ := growF_some hrr
    have := grow_bound hb h' hx g3
    have f1 := (costs_tab hr).fin last x hl hx
    unfold far at *
    omega
theorem fw_small (hN : N ≤ 8) {a b : Nat} (ha : a < N) (hb : b < N) (hf : fw (costTo rs) N a b < far) : fw (costTo rs) N a b ≤ 1000 := by
  obtain ⟨f, r, hw, hfN⟩ := way_ex (costs_tab hr) hN ha hb hf
  have := grow_bound hr hb hw.1 ha (by omega)
  omega
/-- What the way costs, where it ends and begins. -/
theorem grow_cost {b : Nat} (hb : b < N) : ∀ {f : Nat} {way : List Int} {last : Nat} {cost tot : Int} {r : List Int}, growP (costTo rs) (fw (costTo rs) N) N b tot f way last cost = some r → last < N → cost + fw (costTo rs) N last b = tot →
    way ≠ [] → fn way (way.length - 1) = last → cst rs N way way.length = some cost → cst rs N r r.length = some tot ∧ lastI r = b ∧ fn r 0 = fn way 0 ∧ r ≠ []
  | 0, way, last, cost, tot, r, h, hl, ht, hne, hla, hc => by
    unfold growP at h
    split at h
    · rename_i e
      subst e
      rw [((costs_tab hr).fw N (Nat.le_refl _)).diag last hl] at ht
      simp only [Option.some.injEq] at h
      subst h
      rw [Int.add_zero] at ht
      subst ht
      exact ⟨hc, hla, rfl, hne⟩
    · simp at h
  | f + 1, way, last, cost, tot, r, h, hl, ht, hne, hla, hc => by
    obtain ⟨x, hx, hrr⟩ := grow_step h
    obtain ⟨⟨g1, g2, g3, g4⟩, h'⟩ := growF_some hrr
    obtain ⟨c1, c2⟩ := cost_step hr (fun e => g1 e.symm : last ≠ x)
    have s0 := c1.2 g2
    have hp : 0 < way.length := List.length_pos_iff.2 hne
    rcases costR_push (x := (x : Int)) hne hc with ⟨k1, k2, k3, k4⟩ | ⟨k1, -⟩
    · rw [hla] at k3
      rw [← c2 s0] at k3
      obtain ⟨a1, a2, a3, a4⟩ := grow_cost hb h' hx g3 (by simp) (by rw [fn_get (by simp)]; simp) k3
      refine ⟨a1, a2, ?_, a4⟩
      rw [a3]
      exact fn_app hp
    · exfalso
      rw [hla] at k1
      rcases k1 with g | g | g | g
      · omega
      · omega
      · exact g4 g
      · omega
theorem way_proved (hN : N ≤ 8) {a b f : Nat} {r : List Int} (ha : a < N) (hb : b < N) (hw : IsWay (costTo rs) (fw (costTo rs) N) N a b f r) (hl : ¬ lone (fw (costTo rs) N) N a) :
    shownB rs N r (rowL N (fw (costTo rs) N a)) = true := by
  have T := (costs_tab hr).fw N (Nat.le_refl _)
  have hfin : ∀ j, j < N → fw (costTo rs) N a j < far := fun j hj => by
    by_cases h : fw (costTo rs) N a j < far
    · exact h
    · exact absurd ⟨j, hj, by omega⟩ hl
  have hat : ∀ i : Int, 0 ≤ i → i < N → intAt (rowL N (fw (costTo rs) N a)) i = fw (costTo rs) N a i.toNat := by
    intro i h0 h1
    obtain ⟨n, rfl⟩ := Int.eq_ofNat_of_zero_le h0
    rw [Int.toNat_natCast]
    exact rowL_fn (by omega)
  obtain ⟨g1, g2, g3, g4⟩ := grow_cost hr hb hw.1 ha (by omega) (by simp) rfl (cst_one ha)
  have hc := costR_some g4 g1
  have l := T.lo ha hb
  have g3' : fn r 0 = (a : Int) := g3
  refine shown_yes (rowL_len _ _) (fun x hx => ?_) (fun q hq => ?_) (by rw [hc]; exact l) ?_
  · obtain ⟨j, hj, rfl⟩ := mem_rowL.1 hx
    have h1 := fw_small hr hN ha hj (hfin j hj)
    have h2 := T.lo ha hj
    omega
  · obtain ⟨p1, p2, p3, p4, p5, p6, p7⟩ := roadOk_iff.1 (hr q hq)
    have c1 := cost_road hr hq
    have m := fw_le (costTo rs) 0 q.a.toNat q.b.toNat N
    rw [Nat.zero_add] at m
    have m2 : fw (costTo rs) 0 q.a.toNat q.b.toNat = costTo rs q.a.toNat q.b.toNat := rfl
    have t1 := tri (costs_tab hr) N (Nat.le_refl _) a q.a.toNat q.b.toNat ha (by omega) (by omega)
    have t2 := tri (costs_tab hr) N (Nat.le_refl _) a q.b.toNat q.a.toNat ha (by omega) (by omega)
    have s := T.sym q.a.toNat q.b.toNat (by omega) (by omega)
    unfold potB pd
    rw [hat _ p1 p2, hat _ p3 p4]
    omega
  · rw [g2, g3', hc, hat _ (by omega) (by omega), hat _ (by omega) (by omega), Int.toNat_natCast, Int.toNat_natCast, T.diag a ha]
    omega

/-- Potentials bound the distance from below. -/
theorem pot_cost {pot : List Int} (hp : ∀ r ∈ rs, potB pot r) {i j : Nat} (hne : i ≠ j) (hf : costTo rs i j < far) : intAt pot j - intAt pot i ≤ costTo rs i j := by
  obtain ⟨c1, c2⟩ := cost_step hr hne
  have s0 := c1.2 hf
  rw [c2 s0]
  rcases step_road rs i j (-1) s0 with e | ⟨r, hm, hj, hc⟩
  · have e2 : stepR rs i j = -1 := e
    omega
  · have e2 : r.cost = stepR rs i j := hc
    have hb := hp r hm
    unfold potB pd at hb
    unfold joinsB at hj
    rw [decide_eq_true_iff] at hj
    rcases hj with ⟨h1, h2⟩ | ⟨h1, h2⟩ <;> rw [h1, h2] at hb <;> omega
theorem pot_fw {pot : List Int} (hp : ∀ r ∈ rs, potB pot r) : ∀ k, k ≤ N → ∀ i j, i < N → j < N → fw (costTo rs) k i j < far → intAt pot j - intAt pot i ≤ fw (costTo rs) k i j
  | 0, _, i, j, hi, hj, hf => by
    by_cases e : i = j
    · subst e
      have := (costs_tab hr).diag i hi
      show _ ≤ costTo rs i i
      omega
    · exact pot_cost hr hp e hf
  | k + 1, hk, i, j, hi, hj, hf => by
    have T := (costs_tab hr).fw k (by omega)
    have hv : fw (costTo rs) (k + 1) i j = mn (fw (costTo rs) k i j) (fw (costTo rs) k i k + fw (costTo rs) k k j) := rfl
    rw [hv] at hf ⊢
    rcases mn_or (fw (costTo rs) k i j) (fw (costTo rs) k i k + fw (costTo rs) k k j) with e | e
    · rw [e] at hf ⊢
      exact pot_fw hp k (by omega) i j hi hj hf
    · rw [e] at hf ⊢
      have l1 := T.lo hi (show k < N by omega)
      have l2 := T.lo (show k < N by omega) hj
      have a1 := pot_fw hp k (by omega) i k hi (by omega) (by omega)
      have a2 := pot_fw hp k (by omega) k j (by omega) hj (by omega)
      omega
/-- A way costs no less than the distance. -/
theorem cst_fw (hN : N ≤ 8) {way : List Int} : ∀ {k : Nat} {s : Int}, cst rs N way k = some s → 0 < k → k ≤ way.length → fw (costTo rs) N (fn way 0).toNat (fn way (k - 1)).toNat ≤ s ∧ fw (costTo rs) N (fn way 0).toNat (fn way (k - 1)).toNat < far
  | k + 1, s, h, _, hk => by
    have T := (costs_tab hr).fw N (Nat.le_refl _)
    obtain ⟨-, hrange⟩ := cst_range h hk
    have inr : ∀ i, i < k + 1 → 0 ≤ fn way i ∧ fn way i < N := fun i hi => by
      rw [fn_get (by omega)]
      have h1 : way[i]'(by omega) = (way.take (k + 1))[i]'(by rw [List.length_take]; omega) := by rw [List.getElem_take]
      rw [h1]
      exact hrange _ (List.getElem_mem _)
    cases e : cst rs N way k with
    | none => rw [cst_none e 1] at h; simp at h
    | some t =>
      by_cases k0 : k = 0
      · subst k0
        have i0 := inr 0 (by omega)
        have d := T.diag (fn way 0).toNat (by omega)
        have e2 : cst rs N way 0 = some 0 := rfl
        rw [e2] at e
        have hb : ¬ (fn way 0 < 0 ∨ (N : Int) ≤ fn way 0 ∨ fn way 0 ∈ way.take 0) := by simp; omega
        rw [cst_first e2 hb] at h
        simp only [Option.some.injEq] at h
        show fw (costTo rs) N (fn way 0).toNat (fn way 0).toNat ≤ s ∧ _
        rw [d]
        unfold far
        constructor
        · omega
        · omega
      · obtain ⟨a1, a2⟩ := cst_fw hN e (by omega) (by omega)
        have i0 := inr 0 (by omega)
        have i1 := inr (k - 1) (by omega)
        have i2 := inr k (by omega)
        rw [Nat.add_sub_cancel]
        obtain ⟨x, hx⟩ := Int.eq_ofNat_of_zero_le i2.1
        obtain ⟨p, hp⟩ := Int.eq_ofNat_of_zero_le i1.1
        have hb : ¬ (fn way k < 0 ∨ (N : Int) ≤ fn way k ∨ fn way k ∈ way.take k) := fun hb => by rw [cst_bad e hb] at h; simp at h
        have hs : ¬ stepR rs (fn way (k - 1)) (fn way k) < 0 := fun hs => by rw [cst_no e (by omega) hs] at h; simp at h
        rw [cst_yes e hb (by omega) hs] at h
        simp only [Option.some.injEq] at h
        rw [hp, hx] at h hs
        rw [hp, Int.toNat_natCast] at a1 a2
        rw [hx, Int.toNat_natCast]
        have st := step_tri hr hN (show (fn way 0).toNat < N by omega) (show p < N by omega) (show x < N by omega) (by omega) a2
        omega
/-- Whatever is accepted. -/
theorem shown_proved (hN : N ≤ 8) {way pot : List Int} (h : shownB rs N way pot = true) :
    pot.length = N ∧ way ≠ [] ∧ (0 ≤ fn way 0 ∧ fn way 0 < N) ∧ (0 ≤ lastI way ∧ lastI way < N) ∧ intAt pot (lastI way) - intAt pot (fn way 0) = nn (fw (costTo rs) N (fn way 0).toNat (lastI way).toNat) ∧ (∀ x ∈ pot, -1000 ≤ x ∧ x ≤ 1000) := by
  unfold shownB at h
  rw [decide_eq_true_iff] at h
  obtain ⟨h1, h2, h3, h4, h5⟩ := h
  have hne : way ≠ [] := fun e => by
    unfold costR at h4
    rw [if_pos e] at h4
    omega
  have hp : 0 < way.length := List.length_pos_iff.2 hne
  cases e : cst rs N way way.length with
  | none => rw [costR_none (Nat.le_refl _) e] at h4; omega
  | some s =>
    rw [costR_some hne e] at h5
    obtain ⟨-, hrange⟩ := cst_range e (Nat.le_refl _)
    rw [List.take_length] at hrange
    have i0 : 0 ≤ fn way 0 ∧ fn way 0 < N := by rw [fn_get hp]; exact hrange _ (List.getElem_mem _)
    have i1 : 0 ≤ lastI way ∧ lastI way < N := by unfold lastI; rw [fn_get (by omega)]; exact hrange _ (List.getElem_mem _)
    obtain ⟨a1, a2⟩ := cst_fw hr hN e hp (Nat.le_refl _)
    have a3 : fw (costTo rs) N (fn way 0).toNat (lastI way).toNat ≤ s := a1
    have a4 : fw (costTo rs) N (fn way 0).toNat (lastI way).toNat < far := a2
    have p := pot_fw hr h3 N (Nat.le_refl _) (fn way 0).toNat (lastI way).toNat (by omega) (by omega) a4
    rw [Int.toNat_of_nonneg i0.1, Int.toNat_of_nonneg i1.1] at p
    refine ⟨h1, hne, i0, i1, ?_, h2⟩
    unfold nn
    rw [if_neg (by omega)]
    omega
end

end Go.Proofs.YtkbkgkmogbkabaaDoor

/-
  What connects stops, in plain Lean: the law of splitting a tree at a road, and what a least set of roads is.
-/
namespace Go.Proofs.YtkbkgkmogbkabaaDoor
open Go.RowKit

def sumC : List RoadD → Int
  | [] => 0
  | r :: E => r.cost + sumC E
theorem sumC_app : ∀ (E F : List RoadD), sumC (E ++ F) = sumC E + sumC F
  | [], F => by simp [sumC]
  | r :: E, F => by show r.cost + sumC (E ++ F) = r.cost + sumC E + sumC F; rw [sumC_app E F]; omega
theorem foldl_sumC : ∀ (E : List RoadD) (x : Int), E.foldl (fun acc r => acc + r.cost) x = x + sumC E
  | [], x => by simp [sumC]
  | r :: E, x => by show E.foldl _ (x + r.cost) = x + (r.cost + sumC E); rw [foldl_sumC E]; omega
theorem costL_sum (rs : List RoadD) (l : List Int) : costL rs l = sumC (edges rs l) := by unfold costL; rw [foldl_sumC]; omega
theorem sumC_pos : ∀ (E : List RoadD), (∀ r ∈ E, 0 ≤ r.cost) → 0 ≤ sumC E
  | [], _ => Int.le_refl _
  | r :: E, h => by
    have := sumC_pos E (fun q hq => h q (List.mem_cons_of_mem _ hq))
    have := h r (List.mem_cons_self ..)
    show 0 ≤ r.cost + sumC E
    omega
theorem sumC_filter (P : RoadD → Bool) : ∀ (E : List RoadD), sumC (E.filter P) + sumC (E.filter (fun r => !P r)) = sumC E
  | [] => rfl
  | r :: E => by
    have ih := sumC_filter P E
    cases h : P r
    · rw [List.filter_cons_of_neg (by simp [h]), List.filter_cons_of_pos (by simp [h])]
      show _ + (r.cost + _) = r.cost + _
      omega
    · rw [List.filter_cons_of_pos h, List.filter_cons_of_neg (by simp [h])]
      show (r.cost + _) + _ = r.cost + _
      omega
/-- What is connected depends on which roads are there alone. -/
theorem conn_congr {E F : List RoadD} (h : ∀ r, r ∈ E ↔ r ∈ F) {a b : Nat} : Conn E a b ↔ Conn F a b := ⟨Conn.mono (fun r hr => (h r).1 hr), Conn.mono (fun r hr => (h r).2 hr)⟩
theorem Conn.head {E : List RoadD} {a b : Nat} (h : Conn E a b) : a = b ∨ ∃ r ∈ E, r.a.toNat = a ∨ r.b.toNat = a := by
  induction h with
  | refl => exact .inl rfl
  | step _ e ih =>
    rcases ih with rfl | h
    · obtain ⟨r, hr, ⟨h1, -⟩ | ⟨-, h2⟩⟩ := e
      · exact .inr ⟨r, hr, .inl h1⟩
      · exact .inr ⟨r, hr, .inr h2⟩
    · exact .inr h
/-- Only the roads of the part are used. -/
theorem Conn.inside {E : List RoadD} {v x : Nat} (P : RoadD → Bool) (hP : ∀ r ∈ E, Conn E v r.a.toNat → P r = true) (h : Conn E v x) : Conn (E.filter P) v x := by
  have key : Conn E v x ∧ Conn (E.filter P) v x := by
    induction h with
    | refl => exact ⟨.refl, .refl⟩
    | step _ e ih =>
      obtain ⟨r, hr, hh⟩ := e
      refine ⟨ih.1.step ⟨r, hr, hh⟩, ih.2.step ⟨r, List.mem_filter.2 ⟨hr, hP r hr ?_⟩, hh⟩⟩
      rcases hh with ⟨h1, -⟩ | ⟨h1, h2⟩
      · rw [h1]; exact ih.1
      · rw [h1]; exact ih.1.step ⟨r, hr, .inr ⟨h1, h2⟩⟩
  exact key.2

/-- The law of splitting at a road: what holds of a stop alone, goes along a road, and adds up at a stop, holds with the sum of the costs of what connects. -/
theorem rel_tree {Rel : (Nat → Prop) → Nat → Int → Prop} {G : RoadD → Prop} (hG : ∀ r, G r → 0 ≤ r.cost)
    (h0 : ∀ S v c c', Rel S v c → c ≤ c' → Rel S v c')
    (h1 : ∀ (S : Nat → Prop) v, (∀ x, S x ↔ x = v) → Rel S v 0)
    (h2 : ∀ S c r, G r → (Rel S r.a.toNat c → Rel S r.b.toNat (c + r.cost)) ∧ (Rel S r.b.toNat c → Rel S r.a.toNat (c + r.cost)))
    (h3 : ∀ (A B : Nat → Prop) v c c', (∃ x, A x) → (∃ x, B x) → (∀ x, A x → B x → False) → Rel A v c → Rel B v c' → Rel (fun x => A x ∨ B x) v (c + c')) :
    ∀ (n : Nat) (F : List RoadD), F.length ≤ n → (∀ r ∈ F, G r) → ∀ (S : Nat → Prop) (v : Nat), (∃ x, S x) → (∀ x, S x → Conn F v x) → Rel S v (sumC F) := by
  intro n
  induction n with
  | zero =>
    intro F hF hGF S v hne hS
    have e : F = [] := List.eq_nil_of_length_eq_zero (by omega)
    subst e
    have hall : ∀ x, S x → x = v := fun x hx => by
      rcases (hS x hx).head with h | ⟨r, hr, -⟩
      · exact h.symm
      · simp at hr
    obtain ⟨y, hy⟩ := hne
    exact h1 S v (fun x => ⟨hall x, fun h => by rw [h, ← hall y hy]; exact hy⟩)
  | succ n ih =>
    intro F hF hGF S v hne hS
    by_cases hv : ∃ r ∈ F, r.a.toNat = v ∨ r.b.toNat = v
    · obtain ⟨r, hr, hrv⟩ := hv
      obtain ⟨F1, F2, rfl⟩ := List.append_of_mem hr
      have hGr := hGF r hr
      obtain ⟨F', hF'⟩ : ∃ F', F' = F1 ++ F2 := ⟨_, rfl⟩
      have hmem : ∀ q, q ∈ F1 ++ r :: F2 ↔ q ∈ F' ++ [r] := by
        intro q; rw [hF']; simp only [List.mem_append, List.mem_cons, List.not_mem_nil, or_false]
        constructor
        · rintro (h | h | h)
          · exact .inl (.inl h)
          · exact .inr h
          · exact .inl (.inr h)
        · rintro ((h | h) | h)
          · exact .inl h
          · exact .inr (.inr h)
          · exact .inr (.inl h)
      have hsum : sumC (F1 ++ r :: F2) = sumC F' + r.cost := by
        rw [hF', sumC_app, sumC_app]; show _ + (r.cost + _) = _; omega
      have hlen : F'.length ≤ n := by
        rw [hF', List.length_append]
        rw [List.length_append, List.length_cons] at hF; omega
      have hGF' : ∀ q ∈ F', G q := fun q hq => hGF q ((hmem q).2 (List.mem_append_left _ hq))
      have pos' : ∀ q ∈ F', 0 ≤ q.cost := fun q hq => hG q (hGF' q hq)
      -- the other end
      obtain ⟨u, hu, hgo⟩ : ∃ u, ((r.a.toNat = v ∧ r.b.toNat = u) ∨ (r.a.toNat = u ∧ r.b.toNat = v)) ∧ ∀ S c, Rel S u c → Rel S v (c + r.cost) := by
        rcases hrv with h | h
        · exact ⟨r.b.toNat, .inl ⟨h, rfl⟩, fun S c hc => by rw [← h]; exact (h2 S c r hGr).2 hc⟩
        · exact ⟨r.a.toNat, .inr ⟨rfl, h⟩, fun S c hc => by rw [← h]; exact (h2 S c r hGr).1 hc⟩
      have hsp : ∀ x, S x → Conn F' v x ∨ Conn F' u x := by
        intro x hx
        have := (conn_congr hmem).1 (hS x hx)
        rcases conn_push.1 this with h | ⟨-, h⟩
        · exact .inl h
        · rcases hu with ⟨e1, e2⟩ | ⟨e1, e2⟩ <;> rw [e1, e2] at h
          · exact h.imp Conn.symm Conn.symm
          · exact (h.imp Conn.symm Conn.symm).symm
      by_cases hB : ∃ x, S x ∧ ¬ Conn F' v x
      · obtain ⟨x0, hx0, hn0⟩ := hB
        have huv : ¬ Conn F' v u := fun h => hn0 (by
          rcases hsp x0 hx0 with g | g
          · exact g
          · exact h.trans g)
        have dec : ∀ q : RoadD, Decidable (Conn F' v q.a.toNat) := fun q => Classical.propDecidable _
        obtain ⟨P, hP⟩ : ∃ P : RoadD → Bool, ∀ q, P q = true ↔ Conn F' v q.a.toNat := ⟨fun q => @decide _ (dec q), fun q => @decide_eq_true_iff _ (dec q)⟩
        have sA : ∀ x, Conn F' v x → Conn (F'.filter P) v x := fun x h => h.inside P (fun q _ hq => (hP q).2 hq)
        have sB : ∀ x, Conn F' u x → Conn (F'.filter (fun q => !P q)) u x := fun x h => h.inside _ (fun q hq hc => by
          cases e : P q
          · rfl
          · exact absurd (((hP q).1 e).trans hc.symm) huv)
        have hpos : 0 ≤ r.cost := hG r hGr
        have relB : Rel (fun x => S x ∧ ¬ Conn F' v x) v (sumC (F'.filter (fun q => !P q)) + r.cost) := by
          refine hgo _ _ (ih _ (by have := List.length_filter_le (fun q => !P q) F'; omega) (fun q hq => hGF' q (List.mem_filter.1 hq).1) _ u ⟨x0, hx0, hn0⟩ ?_)
          rintro x ⟨hx, hn⟩
          exact sB x ((hsp x hx).resolve_left hn)
        have hf := sumC_filter P F'
        have pA := sumC_pos (F'.filter P) (fun q hq => pos' q (List.mem_filter.1 hq).1)
        by_cases hA : ∃ x, S x ∧ Conn F' v x
        · have relA : Rel (fun x => S x ∧ Conn F' v x) v (sumC (F'.filter P)) :=
            ih _ (by have := List.length_filter_le P F'; omega) (fun q hq => hGF' q (List.mem_filter.1 hq).1) _ v hA (fun x hx => sA x hx.2)
          have := h3 _ _ v _ _ hA ⟨x0, hx0, hn0⟩ (fun x a b => b.2 a.2) relA relB
          have eS : (fun x => (S x ∧ Conn F' v x) ∨ (S x ∧ ¬ Conn F' v x)) = S := by
            funext x
            apply propext
            constructor
            · rintro (h | h) <;> exact h.1
            · intro h
              by_cases g : Conn F' v x
              · exact .inl ⟨h, g⟩
              · exact .inr ⟨h, g⟩
          rw [eS] at this
          exact h0 _ _ _ _ this (by omega)
        · have eS : (fun x => S x ∧ ¬ Conn F' v x) = S := by
            funext x
            apply propext
            exact ⟨fun h => h.1, fun h => ⟨h, fun g => hA ⟨x, h, g⟩⟩⟩
          rw [eS] at relB
          exact h0 _ _ _ _ relB (by omega)
      · have hall : ∀ x, S x → Conn F' v x := fun x hx => Classical.byContradiction fun g => hB ⟨x, hx, g⟩
        have := hG r hGr
        exact h0 _ _ _ _ (ih F' hlen hGF' S v hne hall) (by omega)
    · have hall : ∀ x, S x → x = v := fun x hx => by
        rcases (hS x hx).head with h | h
        · exact h.symm
        · exact absurd h hv
      obtain ⟨y, hy⟩ := hne
      refine h0 _ _ _ _ (h1 S v (fun x => ⟨hall x, fun h => by rw [h, ← hall y hy]; exact hy⟩)) (sumC_pos _ (fun q hq => hG q (hGF q hq)))

end Go.Proofs.YtkbkgkmogbkabaaDoor

/-
  The first tree of a cost and a length, in plain Lean.
-/
namespace Go.Proofs.YtkbkgkmogbkabaaDoor
open Go.RowKit

/-- A tree of a cost and a number of roads. -/
def Tgt (rs : List RoadD) (s : Nat) (c : Int) (n : Nat) (l : List Int) : Prop := treeP rs s l ∧ costL rs l = c ∧ l.length = n
/-- A list that begins as given, and goes on with a number at least as great. -/
def After (l : List Int) (fr : Nat) (l' : List Int) : Prop := l'.take l.length = l ∧ (l.length < l'.length → (fr : Int) ≤ fn l' l.length)
def lexLe (l l' : List Int) : Prop := ∃ k, k ≤ l.length ∧ (∀ j, j < k → fn l j = fn l' j) ∧ (k = l.length ∨ fn l k < fn l' k)
def NoT (rs : List RoadD) (s : Nat) (c : Int) (n : Nat) (l : List Int) (fr : Nat) : Prop := ∀ l', Tgt rs s c n l' → After l fr l' → False
def NoTo (rs : List RoadD) (s : Nat) (c : Int) (n : Nat) (l : List Int) (fr i : Nat) : Prop := ∀ l', Tgt rs s c n l' → After l fr l' → (i : Int) ≤ fn l' l.length
def FirstT (rs : List RoadD) (s : Nat) (c : Int) (n : Nat) (l : List Int) (fr : Nat) (l' : List Int) : Prop := Tgt rs s c n l' ∧ After l fr l' ∧ ∀ l'', Tgt rs s c n l'' → After l fr l'' → lexLe l' l''

variable {rs : List RoadD} {s n : Nat} {c : Int} {l l' : List Int} {fr i : Nat}
theorem lexLe.refl (l : List Int) : lexLe l l := ⟨l.length, Nat.le_refl _, fun _ _ => rfl, .inl rfl⟩
theorem After.self (l : List Int) (fr : Nat) : After l fr l := ⟨List.take_of_length_le (Nat.le_refl _), fun h => by omega⟩
theorem After.same (h : After l fr l') (hl : l'.length = l.length) : l' = l := by
  have := h.1
  rwa [List.take_of_length_le (by omega)] at this
theorem fn_take {l : List Int} {k j : Nat} (h : j < k) : fn (l.take k) j = fn l j := by
  unfold fn intAt
  rw [Int.toNat_natCast, List.getD_eq_getElem?_getD, List.getD_eq_getElem?_getD, List.getElem?_take, if_pos h]
theorem After.at (h : After l fr l') {j : Nat} (hj : j < l.length) : fn l' j = fn l j := by
  have h1 := fn_take (l := l') (k := l.length) hj
  rw [h.1] at h1
  exact h1.symm
theorem After.next (h : After l fr l') (hl : l.length < l'.length) : l'.take (l.length + 1) = l ++ [fn l' l.length] := by
  rw [List.take_succ_eq_append_getElem hl, h.1, fn_get hl]
theorem edges_app (rs : List RoadD) (l m : List Int) : edges rs (l ++ m) = edges rs l ++ edges rs m := by unfold edges; rw [List.map_append]
theorem tgt_next (hok : ∀ r ∈ rs, 0 ≤ r.cost) (ht : Tgt rs s c n l') (h : After l fr l') (hl : l.length < n) :
    (0 ≤ fn l' l.length ∧ fn l' l.length < rs.length) ∧ ¬ Conn (edges rs l) (roadAt rs (fn l' l.length).toNat).a.toNat (roadAt rs (fn l' l.length).toNat).b.toNat ∧
      costL rs l + (roadAt rs (fn l' l.length).toNat).cost ≤ c := by
  obtain ⟨t1, t2, t3⟩ := ht
  have o := t1.1 l.length (by omega)
  refine ⟨⟨o.1.1, o.1.2.1⟩, ?_, ?_⟩
  · have := o.2
    rwa [h.1] at this
  · have e : l' = (l ++ [fn l' l.length]) ++ l'.drop (l.length + 1) := by rw [← h.next (by omega), List.take_append_drop]
    have hc : costL rs l' = costL rs l + (roadAt rs (fn l' l.length).toNat).cost + sumC (edges rs (l'.drop (l.length + 1))) := by
      rw [costL_sum, costL_sum]
      conv => lhs; rw [e]
      rw [edges_app, edges_app, sumC_app, sumC_app]
      show _ + (_ + 0) + _ = _
      rw [Int.add_zero]
    have hp : 0 ≤ sumC (edges rs (l'.drop (l.length + 1))) := by
      refine sumC_pos _ (fun r hr => ?_)
      obtain ⟨x, hx, rfl⟩ := List.mem_map.1 hr
      obtain ⟨j, hj, rfl⟩ := List.getElem_of_mem (List.mem_of_mem_drop hx)
      have := (t1.1 j hj).1
      rw [fn_get hj] at this
      exact hok _ (roadAt_mem (by omega))
    omega
theorem noTo_start (hl : l.length < n) : NoTo rs s c n l fr fr := fun l' ht h => h.2 (by rw [ht.2.2]; exact hl)
theorem noTo_end (hl : l.length < n) (h : NoTo rs s c n l fr rs.length) : NoT rs s c n l fr := fun l' ht ha => by
  have h1 := h l' ht ha
  have h2 := (ht.1.1 l.length (by rw [ht.2.2]; exact hl)).1.2.1
  omega
theorem noTo_cycle (hok : ∀ r ∈ rs, 0 ≤ r.cost) (hl : l.length < n) (h : NoTo rs s c n l fr i) (hc : Conn (edges rs l) (roadAt rs i).a.toNat (roadAt rs i).b.toNat) : NoTo rs s c n l fr (i + 1) := fun l' ht ha => by
  have h1 := h l' ht ha
  by_cases e : fn l' l.length = i
  · exfalso
    have h2 := (tgt_next hok ht ha hl).2.1
    rw [e] at h2
    exact h2 hc
  · omega
theorem noTo_dear (hok : ∀ r ∈ rs, 0 ≤ r.cost) (hl : l.length < n) (h : NoTo rs s c n l fr i) (hc : c < costL rs l + (roadAt rs i).cost) : NoTo rs s c n l fr (i + 1) := fun l' ht ha => by
  have h1 := h l' ht ha
  by_cases e : fn l' l.length = i
  · exfalso
    have h2 := (tgt_next hok ht ha hl).2.2
    rw [e] at h2
    have e2 : ((i : Int)).toNat = i := rfl
    rw [e2] at h2
    omega
  · omega
theorem after_push (hl : l.length < n) (ht : Tgt rs s c n l') (ha : After l fr l') (e : fn l' l.length = i) : After (l ++ [(i : Int)]) (i + 1) l' := by
  constructor
  · rw [List.length_append, List.length_singleton, ha.next (by rw [ht.2.2]; exact hl), e]
  · rw [List.length_append, List.length_singleton]
    intro h
    have := (ht.1.1 (l.length + 1) h).1.2.2 (by omega)
    rw [Nat.add_sub_cancel, e] at this
    omega
theorem noTo_fail (hl : l.length < n) (h : NoTo rs s c n l fr i) (hf : NoT rs s c n (l ++ [(i : Int)]) (i + 1)) : NoTo rs s c n l fr (i + 1) := fun l' ht ha => by
  have h1 := h l' ht ha
  by_cases e : fn l' l.length = i
  · exact absurd (hf l' ht (after_push hl ht ha e)) (fun h => h)
  · omega
theorem first_step (hl : l.length < n) (hi : fr ≤ i) (h : NoTo rs s c n l fr i) (hf : FirstT rs s c n (l ++ [(i : Int)]) (i + 1) l') : FirstT rs s c n l fr l' := by
  obtain ⟨t, a, m⟩ := hf
  have hlen : (l ++ [(i : Int)]).length = l.length + 1 := by simp
  have hn : fn l' l.length = i := by
    rw [a.at (by omega)]
    rw [fn_get (by omega)]
    simp
  have ht : l'.take l.length = l := by
    have := a.1
    rw [hlen] at this
    have h2 := congrArg (fun x => x.take l.length) this
    simp only [List.take_take, List.take_left' rfl] at h2
    rwa [Nat.min_eq_left (by omega)] at h2
  refine ⟨t, ⟨ht, fun _ => by rw [hn]; omega⟩, fun l'' t'' a'' => ?_⟩
  have h1 := h l'' t'' a''
  by_cases e : fn l'' l.length = i
  · exact m l'' t'' (after_push hl t'' a'' e)
  · refine ⟨l.length, by rw [t.2.2]; omega, fun j hj => ?_, .inr (by rw [hn]; omega)⟩
    rw [a''.at hj, a.at (by omega), fn_get (by omega), fn_get hj]
    rw [List.getElem_append_left hj]
theorem first_self (ht : Tgt rs s c n l) : FirstT rs s c n l fr l := ⟨ht, After.self l fr, fun l'' t'' a'' => by rw [a''.same (by rw [t''.2.2, ht.2.2])]; exact lexLe.refl l⟩
theorem no_self (hl : l.length = n) (h : ¬ (treeP rs s l ∧ costL rs l = c)) : NoT rs s c n l fr := fun l' ht ha => by
  have e := ha.same (by rw [ht.2.2, hl])
  subst e
  exact h ⟨ht.1, ht.2.1⟩

end Go.Proofs.YtkbkgkmogbkabaaDoor

/-
  The search of first: its walk.
-/
namespace Go.Proofs.YtkbkgkmogbkabaaDoor
open Go.RowKit

/-- What the search reads, in the world ahead of its boxes. -/
structure GSeen (w0 : World) (N n s : Nat) (c : Int) (pl pm ps pc : Nat) (ao : Option Addr) (cap : Nat) (rs : List RoadD) : Prop where
  cl : w0.cell? ⟨pl, 0, none⟩ = some (.int .i64 n)
  c0 : w0.cell? ⟨pm, 0, none⟩ = some (.int .i64 N)
  c1 : w0.cell? ⟨pm, 1, none⟩ = some (.slice ao rs.length cap)
  cs : w0.cell? ⟨ps, 0, none⟩ = some (.int .i64 s)
  cc : w0.cell? ⟨pc, 0, none⟩ = some (.int .i64 c)
  hv : Roads w0 (.slice ao rs.length cap) rs
  tz : TZ w0
def gptrs (bl pl pm ps pc : Nat) : Array Value := #[.pointer (some ⟨bl, 0, none⟩), .pointer (some ⟨pl, 0, none⟩), .pointer (some ⟨pm, 0, none⟩), .pointer (some ⟨ps, 0, none⟩), .pointer (some ⟨pc, 0, none⟩), .pointer (some ⟨bl + 1, 0, none⟩)]
/-- A world of the search. -/
structure GLive (w0 : World) (bl : Nat) (ps : Array Value) (w : World) : Prop where
  e0 : Ext w0 w
  lt : w0.heap.size ≤ bl
  sz : bl + 2 ≤ w.heap.size
  cg : w.heap[bl + 1]? = some (.cells #[.func (.func 57) #[] ps] 88 (0, 0))
theorem own_ne {B : Nat} {w : World} {v : Value} {xs : List Int} (h : OwnI B w v xs) {b : Nat} {cs : Array Value} {t : TypeId} (hb : w.heap[b]? = some (.cells cs t (0, 0))) (ht : t ≠ 3) : some b ≠ v.ownBlock := by
  intro e
  obtain ⟨-, h | ⟨g, cap, cur, rfl, -, hg, -⟩⟩ := h
  · rw [h.1] at e; simp [Value.ownBlock] at e
  · simp only [Value.ownBlock, Option.some.injEq] at e
    subst e
    rw [hb] at hg
    simp only [Option.some.injEq, Obj.cells.injEq] at hg
    exact ht hg.2.1
theorem GLive.fr {w0 : World} {bl : Nat} {ps : Array Value} {w w' : World} {v : Value} {xs : List Int} (h : GLive w0 bl ps w) (hw : OwnI w0.heap.size w v xs) (f : Fr bl v.ownBlock w w') : GLive w0 bl ps w' := by
  have hs := h.sz
  have hl := h.lt
  have hb := f.below (B := w0.heap.size) hl (by omega) (fun k hk => (hw.lt k hk).1)
  refine ⟨Ext.trans' h.e0 hb (Nat.le_refl _), hl, Nat.le_trans hs f.size, ?_⟩
  rw [f.block (bl + 1) (by omega) (by omega) (own_ne hw h.cg (by decide))]
  exact h.cg
theorem GLive.ext {w0 : World} {bl : Nat} {ps : Array Value} {w w' : World} (h : GLive w0 bl ps w) (e : Ext w w') : GLive w0 bl ps w' :=
  ⟨h.e0.trans e, h.lt, Nat.le_trans h.sz e.size, heap_ext h.cg e⟩
theorem GLive.set {w0 : World} {bl : Nat} {ps : Array Value} {w : World} (h : GLive w0 bl ps w) (u : Value) : GLive w0 bl ps (w.setCell ⟨bl, 0, none⟩ u) :=
  ⟨h.e0.setCell h.lt 0 u, h.lt, by have := h.sz; simpa using this, by rw [Below.heap_setCell _ _ _ _ (show bl + 1 ≠ bl by omega)]; exact h.cg⟩
theorem PBox.fr {w w' : World} {b bl : Nat} {p : Nat → Int} {B : Nat} {v : Value} {xs : List Int} (h : PBox w b p) (hw : OwnI B w v xs) (f : Fr bl v.ownBlock w w') (hb : b ≠ bl) : PBox w' b p := by
  show w'.heap[b]? = _
  rw [f.block b (lt_of_block h) hb (own_ne hw h (by decide))]
  exact h
/-- The box of the list. -/
def LBox (w : World) (bl : Nat) (v : Value) : Prop := w.heap[bl]? = some (.cells #[v] 25 (0, 0))
theorem LBox.cell {w : World} {bl : Nat} {v : Value} (h : LBox w bl v) : w.cell? ⟨bl, 0, none⟩ = some v := cell_of_row w bl 0 _ _ _ h
theorem LBox.free {w : World} {bl : Nat} {v : Value} (h : LBox w bl v) : w.frozen? ⟨bl, 0, none⟩ = false := by
  have h' : w.heap[bl]? = some _ := h
  simp [World.frozen?, h']
theorem LBox.ext {w w' : World} {bl : Nat} {v : Value} (h : LBox w bl v) (e : Ext w w') : LBox w' bl v := heap_ext h e
theorem LBox.set {w : World} {bl : Nat} {v : Value} (h : LBox w bl v) (u : Value) : LBox (w.setCell ⟨bl, 0, none⟩ u) bl u := FoundBox.set h u
theorem Fr.set {bl : Nat} {row : Option Nat} {w w' : World} (h : Fr bl row w w') (u : Value) : Fr bl row w (w'.setCell ⟨bl, 0, none⟩ u) :=
  ⟨h.os, h.tape, h.output, by have := h.size; simpa using this, fun k hk hb hr => by rw [Below.heap_setCell _ _ _ _ hb]; exact h.block k hk hb hr⟩
/-- Where the list's cells lie: where they lay, or in a new block. -/
def OwnTo (row : Option Nat) (w : World) (v : Value) : Prop := v.ownBlock = row ∨ ∃ q, v.ownBlock = some q ∧ w.heap.size ≤ q

/-- What a call of the search answers. -/
def GrowB (rs : List RoadD) (s : Nat) (c : Int) (n : Nat) (l : List Int) (fr B bl : Nat) (row : Option Nat) (w : World) (b : Bool) (w' : World) : Prop :=
  ∃ (l' : List Int) (v' : Value), LBox w' bl v' ∧ OwnI B w' v' l' ∧ Fr bl row w w' ∧ OwnTo row w v' ∧ ((b = true ∧ FirstT rs s c n l fr l') ∨ (b = false ∧ l' = l ∧ NoT rs s c n l fr))
def GrowAns (rs : List RoadD) (s : Nat) (c : Int) (n : Nat) (l : List Int) (fr B bl : Nat) (row : Option Nat) (w : World) (e : Ending) (w' : World) : Prop := ∃ b, e = .returned (.bool b) ∧ GrowB rs s c n l fr B bl row w b w'

set_option maxRecDepth 20000 in
set_option maxHeartbeats 16000000 in
theorem growT_any (w0 : World) (N n s : Nat) (c : Int) (pl pm ps pc bl : Nat) (ao : Option Addr) (cap : Nat) (rs : List RoadD) (hS : GSeen w0 N n s c pl pm ps pc ao cap rs) (hN8 : N ≤ 8) (hrl : rs.length ≤ 16) (hok : ∀ r ∈ rs, roadOk N r = true) (hs0 : 0 < s) (hs : s < 2 ^ N) (hn : n ≤ 100) :
    ∀ (f : Nat) (l : List Int) (fr : Nat) (left : Int) (p : Nat → Int) (v : Value) (w : World), GLive w0 bl (gptrs bl pl pm ps pc) w → LBox w bl v → OwnI w0.heap.size w v l → l.length + f = n → Lab (edges rs l) p → left = c - costL rs l → 0 ≤ left → left ≤ 1048576 → fr ≤ rs.length →
    Calls Tryd.prog 57 (#[.int .i64 fr, .int .i64 left, .agg (partsV p)] ++ gptrs bl pl pm ps pc) w (GrowAns rs s c n l fr w0.heap.size bl v.ownBlock w) := by
  have hCost : Hid (∀ r ∈ rs, 0 ≤ r.cost) := fun r hr => by have := roadOk_iff.1 (hok r hr); omega
  have HS := hid hS
  have HOk := hid hok
  have HSN := hid hs
  clear hS hok hs
  intro f
  induction f with
  | zero =>
    intro l fr left p v w hL hB hO hlen _ _ _ _ _
    have hln : l.length = n := by omega
    have HO := hid hO
    have HL := hid hL
    have HB := hid hB
    obtain ⟨al, cl, rfl⟩ := own_len hO
    have HLn := hid hln
    have E1 := hid (hL.e0.alloc (.cells (partsV p) 69))
    have c0 := E1.out.cell HS.out.c0
    have c1 := E1.out.cell HS.out.c1
    have cs := E1.out.cell HS.out.cs
    have cl' := E1.out.cell HS.out.cl
    have ccc := E1.out.cell HS.out.cc
    have cb := (hB.ext (Ext.ofAlloc w (.cells (partsV p) 69))).cell
    have hnb : ((l.length : Int) == (n : Int)) = true := beq_iff_eq.2 (by omega)
    have HI := hid ((hO.ints (by omega)).ext (Ext.ofAlloc w (.cells (partsV p) 69)))
    have HV := hid (HS.out.hv.ext E1.out)
    have HT := hid (HS.out.tz.ext E1.out)
    unfold gptrs
    unfold partsV at c0 c1 cs cl' ccc cb HI HV HT E1 ⊢
    clear hL hB hO hlen hln
    go_enter Tryd.func57, Tryd.ntmps57
    go_wp2_with (fail)
    refine (tree_any _ _ N rs l s _ HV.out HI.out HOk.out hN8 hrl hs0 HSN.out HT.out).mono ?_
    rintro e w2 ⟨ha, he⟩
    have HA := hid ha
    have HE2 := hid ((Ext.ofAlloc w _).trans he)
    have ccd := he.cell ccc
    have HB2 := hid (HB.out.ext HE2.out)
    have HO2 := hid (ownsRow_ext HO.out HE2.out)
    clear ha he c0 c1 cs cl' ccc cb
    rcases HA.out with ⟨ht, rfl⟩ | ⟨ht, rfl⟩
    · by_cases hcost : costL rs l = c
      · have hcb : (costL rs l == c) = true := beq_iff_eq.2 hcost
        have HR := hid (first_self (rs := rs) (s := s) (c := c) (n := n) (fr := fr) ⟨ht, hcost, HLn.out⟩)
        clear ht hcost HA
        go_wp2
        go_ret
        exact ⟨true, rfl, l, _, HB2.out, HO2.out, Fr.ofExt HE2.out, .inl rfl, .inl ⟨rfl, HR.out⟩⟩
      · have hcb : (costL rs l == c) = false := beq_eq_false_iff_ne.2 hcost
        have HR := hid (no_self (rs := rs) (s := s) (c := c) (fr := fr) HLn.out (fun g => hcost g.2))
        clear ht hcost HA
        go_wp2
        go_ret
        exact ⟨false, rfl, l, _, HB2.out, HO2.out, Fr.ofExt HE2.out, .inl rfl, .inr ⟨rfl, rfl, HR.out⟩⟩
    · have HR := hid (no_self (rs := rs) (s := s) (c := c) (fr := fr) HLn.out (fun g => ht g.1))
      clear ht HA
      go_wp2
      go_ret
      exact ⟨false, rfl, l, _, HB2.out, HO2.out, Fr.ofExt HE2.out, .inl rfl, .inr ⟨rfl, rfl, HR.out⟩⟩
  | succ f ih =>
    intro l fr left p v w hL hB hO hlen hlab hleft hl0 hl1 hfr
    have hln : l.length < n := by omega
    have HIH := hid ih
    obtain ⟨row, hrow⟩ : ∃ row, row = v.ownBlock := ⟨_, rfl⟩
    rw [← hrow]
    have HRow := hid hrow
    have HLn := hid hln
    have HLab := hid hlab
    have HLeft := hid hleft
    have Hlen := hid hlen
    have e1 := Ext.ofAlloc w (.cells (partsV p) 69)
    have hP : PBox (w.alloc (.cells (partsV p) 69)) w.heap.size p := heap_alloc_new w _
    have HL1 := hid (hL.ext e1)
    have HB1 := hid (hB.ext e1)
    have HO1 := hid (ownsRow_ext hO e1)
    have HP1 := hid hP
    have HF1 : Hid (Fr bl row w (w.alloc (.cells (partsV p) 69))) := Fr.ofExt e1
    have hwb : bl + 2 ≤ w.heap.size := hL.sz
    obtain ⟨pp, hpp⟩ : ∃ pp, pp = w.heap.size := ⟨_, rfl⟩
    rw [← hpp] at HP1
    have HPP := hid hpp
    have hppb : pp ≠ bl := by omega
    obtain ⟨al, cl, hvs⟩ := own_len hO
    have hnb : ((l.length : Int) == (n : Int)) = false := beq_eq_false_iff_ne.2 (by omega)
    have cl' := HL1.out.e0.cell HS.out.cl
    have cb := HB1.out.cell
    rw [hvs] at cb
    have HVS := hid hvs
    unfold gptrs
    unfold partsV at cl' cb HL1 HB1 HO1 HP1 HF1 ⊢
    clear hL hB hO hlen hln ih hlab hleft hrow e1 hP hpp hwb hvs
    go_enter Tryd.func57, Tryd.ntmps57
    go_wp2
    rw [← HPP.out]
    clear cl' cb
    generalize w.alloc (.cells #[.int .i64 (p 0), .int .i64 (p 1), .int .i64 (p 2), .int .i64 (p 3), .int .i64 (p 4), .int .i64 (p 5), .int .i64 (p 6), .int .i64 (p 7)] 69) = w1 at HL1 HB1 HO1 HP1 HF1 ⊢
    go_loopg [15] (rs.length - fr) (fun g i wr => ∃ (k : Nat) (u : Value), k + g = rs.length ∧ fr ≤ k ∧ i = .int .i64 k ∧ Hid (GLive w0 bl (gptrs bl pl pm ps pc) wr) ∧ Hid (LBox wr bl u) ∧ Hid (OwnI w0.heap.size wr u l) ∧ Hid (PBox wr pp p) ∧ Hid (Fr bl row w wr) ∧ Hid (OwnTo row w u) ∧ Hid (NoTo rs s c n l fr k))
    case atStart => exact ⟨fr, v, by omega, by omega, rfl, HL1, HB1, HO1, HP1, HF1, .inl HRow.out.symm, noTo_start HLn.out⟩
    case round =>
      clear HL1 HB1 HO1 HP1 HF1
      obtain ⟨k, u, hk, hfk, rfl, HL, HB, HO, HP, HF, HT, HN⟩ := hrel
      have hkl : k ≤ rs.length := by omega
      have Hk := hid hk
      clear hk
      have c1 := HL.out.e0.cell HS.out.c1
      by_cases hlt : k < rs.length
      · have hki : (k : Int) < rs.length := by omega
        obtain ⟨bb, off, rfl, -, hcc⟩ := Roads.get HS.out.hv k hlt
        obtain ⟨q1, q2, q3, q4, -, q6, q7⟩ := roadOk_iff.1 (HOk.out _ (roadAt_mem hlt))
        obtain ⟨r, hr⟩ : ∃ r, r = roadAt rs k := ⟨_, rfl⟩
        rw [← hr] at hcc q1 q2 q3 q4 q6 q7
        have HR := hid hr
        have ha8 : r.a < 8 := by omega
        have hb8 : r.b < 8 := by omega
        have hla : r.a.toNat < 8 := by omega
        have hlb : r.b.toNat < 8 := by omega
        -- the box of the labels ahead of the road
        obtain ⟨d0, d1, d2, d3, d4, d5, d6, d7⟩ : _ ∧ _ ∧ _ ∧ _ ∧ _ ∧ _ ∧ _ ∧ _ := ⟨HP.out.cell (i := 0) (by omega), HP.out.cell (i := 1) (by omega), HP.out.cell (i := 2) (by omega), HP.out.cell (i := 3) (by omega), HP.out.cell (i := 4) (by omega), HP.out.cell (i := 5) (by omega), HP.out.cell (i := 6) (by omega), HP.out.cell (i := 7) (by omega)⟩
        have eA := Ext.ofAlloc wr (.cells (partsV p) 69)
        have hQ : PBox (wr.alloc (.cells (partsV p) 69)) wr.heap.size p := heap_alloc_new wr _
        have hlv := HL.out.sz
        have HLA := hid (HL.out.ext eA)
        obtain ⟨r0, r1, r2⟩ := hcc _ HLA.out.e0
        have c1a := HLA.out.e0.cell HS.out.c1
        unfold partsV at eA hQ HLA r0 r1 r2 c1a
        have HQ := hid hQ
        have EA := hid eA
        have HHCC := hid hcc
        obtain ⟨qb, hqb⟩ : ∃ qb, qb = wr.heap.size := ⟨_, rfl⟩
        have hqbl : qb ≠ bl := by omega
        have hqpp : qb ≠ pp := by have := lt_of_block HP.out; omega
        have HQB := hid hqb
        clear hr eA hQ hcc hqb
        go_wp2_with (fail)
        refine (join_any wr.heap.size p r _ HQ.out q1 ha8 q3 hb8).mono ?_
        rintro e w3 ⟨rfl, hpb, hon⟩
        rw [← HQB.out] at hpb hon ⊢
        have E3 : Hid (Ext wr w3) := hon.ext EA.out (by rw [HQB.out]; exact Nat.le_refl _)
        have HL3 := hid (HL.out.ext E3.out)
        have HB3 := hid (HB.out.ext E3.out)
        have HO3 := hid (ownsRow_ext HO.out E3.out)
        have HP3 := hid (HP.out.ext E3.out)
        have HF3 := hid (HF.out.trans (Fr.ofExt (row := row) (bf := bl) E3.out) (.inl rfl))
        have HQ3 := hid hpb
        have HLI := hid (HLab.out r.a.toNat r.b.toNat hla hlb)
        have HLJ := hid (HLab.out.join hla hlb)
        obtain ⟨g0, g1, g2, g3, g4, g5, g6, g7⟩ : _ ∧ _ ∧ _ ∧ _ ∧ _ ∧ _ ∧ _ ∧ _ := ⟨HQ3.out.cell (i := 0) (by omega), HQ3.out.cell (i := 1) (by omega), HQ3.out.cell (i := 2) (by omega), HQ3.out.cell (i := 3) (by omega), HQ3.out.cell (i := 4) (by omega), HQ3.out.cell (i := 5) (by omega), HQ3.out.cell (i := 6) (by omega), HQ3.out.cell (i := 7) (by omega)⟩
        replace d0 := E3.out.cell d0
        replace d1 := E3.out.cell d1
        replace d2 := E3.out.cell d2
        replace d3 := E3.out.cell d3
        replace d4 := E3.out.cell d4
        replace d5 := E3.out.cell d5
        replace d6 := E3.out.cell d6
        replace d7 := E3.out.cell d7
        clear r0 r1 r2 c1a c1 hpb hon HL HB HO HP HF EA HQ HLA
        by_cases hj : p r.a.toNat = p r.b.toNat
        · have hsame := joinL_same hj
          rw [hsame] at g0 g1 g2 g3 g4 g5 g6 g7
          have heq := run_eql_parts w3 p p
          rw [eql_same] at heq
          unfold partsV at heq
          have HNN := hid (noTo_cycle hCost.out HLn.out HN.out (by rw [← HR.out]; exact HLI.out.1 hj))
          clear hj hsame
          go_wp2
          clear d0 d1 d2 d3 d4 d5 d6 d7 g0 g1 g2 g3 g4 g5 g6 g7 heq
          go_roundg (gk - 1)
          case rel => exact ⟨k + 1, u, by have := Hk.out; omega, by omega, by go_num, HL3, HB3, HO3, HP3, HF3, HT, HNN⟩
          case measure => have := Hk.out; omega
        · have heq := run_eql_parts w3 (joinL p r.a.toNat r.b.toNat) p
          rw [eql_joined hla hlb hj] at heq
          unfold partsV at heq
          have HJ := hid hj
          obtain ⟨q, hq⟩ : ∃ q, q = joinL p r.a.toNat r.b.toNat := ⟨_, rfl⟩
          rw [← hq] at g0 g1 g2 g3 g4 g5 g6 g7 heq HQ3 HLJ
          clear hj hq
          obtain ⟨r0, r1, r2⟩ := HHCC.out _ HL3.out.e0
          have c1 := HL3.out.e0.cell HS.out.c1
          by_cases hd : r.cost > left
          · have HNN := hid (noTo_dear hCost.out HLn.out HN.out (by rw [← HR.out, show c = left + costL rs l by have := HLeft.out; omega]; omega))
            go_wp2
            clear d0 d1 d2 d3 d4 d5 d6 d7 g0 g1 g2 g3 g4 g5 g6 g7 heq r0 r1 r2 c1
            go_roundg (gk - 1)
            case rel => exact ⟨k + 1, u, by have := Hk.out; omega, by omega, by go_num, HL3, HB3, HO3, HP3, HF3, HT, HNN⟩
            case measure => have := Hk.out; omega
          · obtain ⟨au, cu, hus⟩ := own_len HO3.out
            have cb := HB3.out.cell
            rw [hus] at cb
            have hcba := (Ext.ofAlloc w3 (.cells #[.int .i64 k] 3)).cell cb
            have hl100 : l.length ≤ 100 := by have := Hlen.out; omega
            have HUS := hid hus
            have HO3' := HO3.out
            rw [hus] at HO3'
            have HOA := hid HO3'
            obtain ⟨i0, hi, hz0, hz1, hz2⟩ := info_parts info_int
            have hsz0 := HL3.out.e0.size
            have hf1 : fr < rs.length := by omega
            clear hus HO3'
            go_wp2_with (at_builtin; go_must (refine wpList_append_own_at _ rfl _ _ 25 rfl w0.heap.size 3 i0 (.int .i64 0) 1 8 Tryd.underlying25 hi hz0 hz1 hz2 rfl (by decide) _ _ _ rfl (HOA.out.alloc _) ⟨w3.heap.size, 0, none⟩ 1 1 [.int .i64 k] rfl rfl (cell_one_new _ _ _) (by intro x hx; simp at hx; subst hx; rfl) ?c3 ?c4 ?c5 ?_))
            case c3 => unfold maxLen; omega
            case c4 => omega
            case c5 => simp; omega
            intro v' w5 hown' hgr _ hat
            obtain ⟨l2, hl2⟩ : ∃ l2, l2 = l ++ [(k : Int)] := ⟨_, rfl⟩
            have hown2 : OwnI w0.heap.size w5 v' l2 := by rw [hl2]; exact OwnI.push rfl hown'
            have hl2len : l2.length = l.length + 1 := by rw [hl2]; simp
            have hF5 : Fr bl (Value.slice au l.length cu).ownBlock w3 w5 := (Fr.ofExt (Ext.ofAlloc w3 (.cells #[.int .i64 k] 3))).trans (Fr.ofGrown hgr) (.inl rfl)
            have hto5 : OwnTo (Value.slice au l.length cu).ownBlock w3 v' := hat.imp id (fun h => ⟨_, h, by simp⟩)
            have HL5 := hid (HL3.out.fr HOA.out hF5)
            have HP5 := hid (HP3.out.fr HOA.out hF5 hppb)
            have HQ5 := hid (HQ3.out.fr HOA.out hF5 hqbl)
            have hB5 : LBox w5 bl u := by
              show w5.heap[bl]? = _
              rw [hgr.block bl (by have := lt_of_block HB3.out; simp; omega) (fun e => own_ne HOA.out HB3.out (by decide) e)]
              exact heap_ext HB3.out (Ext.ofAlloc w3 _)
            have cb5 := hB5.cell
            have fb5 := hB5.free
            rw [HUS.out] at cb5
            have HB6 := hid (hB5.set v')
            have HL6 := hid (HL5.out.set v')
            have HP6 : Hid (PBox (w5.setCell ⟨bl, 0, none⟩ v') pp p) := HP5.out.other (fun e => hppb e.symm) _ _
            have HQ6 : Hid (PBox (w5.setCell ⟨bl, 0, none⟩ v') qb q) := HQ5.out.other (fun e => hqbl e.symm) _ _
            have HO6 : Hid (OwnI w0.heap.size (w5.setCell ⟨bl, 0, none⟩ v') v' l2) := ownsRow_setCell_other hown2 (a := ⟨bl, 0, none⟩) (fun e => own_ne hown2 hB5 (by decide) e.symm) _
            have hrow3 : OwnTo row w (Value.slice au l.length cu) := by rw [← HUS.out]; exact HT.out
            have hsz3 := HF3.out.size
            have HF6 : Hid (Fr bl row w (w5.setCell ⟨bl, 0, none⟩ v')) := (HF3.out.trans hF5 hrow3).set v'
            have HT6 : Hid (OwnTo row w v') := by
              rcases hto5 with e | ⟨x, e, hx⟩
              · rw [OwnTo, e]; exact hrow3
              · exact .inr ⟨x, e, by omega⟩
            obtain ⟨av, cv, hvs'⟩ := own_len hown2
            have hvv : Hid (v' = .slice av l2.length cv) := hvs'
            have HL2 := hid hl2
            have HLL := hid hl2len
            have HED : Hid (edges rs l2 = edges rs l ++ [r]) := by
              show _ = _
              rw [hl2, edges_app, HR.out]; rfl
            clear hown' hgr hat hown2 hF5 hto5 hB5 HL5 HP5 HQ5 hrow3 hsz3 hvs' hl2 hl2len hcba hsz0 cb
            rw [hvv.out] at HB6 HL6 HP6 HQ6 HO6 HF6 HT6 ⊢
            go_wp2
            clear d0 d1 d2 d3 d4 d5 d6 d7 g0 g1 g2 g3 g4 g5 g6 g7 r0 r1 r2 c1 heq cb5 fb5
            generalize w5.setCell ⟨bl, 0, none⟩ (.slice av l2.length cv) = W6 at HB6 HL6 HP6 HQ6 HO6 HF6 HT6 ⊢
            obtain ⟨g0, g1, g2, g3, g4, g5, g6, g7⟩ : _ ∧ _ ∧ _ ∧ _ ∧ _ ∧ _ ∧ _ ∧ _ := ⟨HQ6.out.cell (i := 0) (by omega), HQ6.out.cell (i := 1) (by omega), HQ6.out.cell (i := 2) (by omega), HQ6.out.cell (i := 3) (by omega), HQ6.out.cell (i := 4) (by omega), HQ6.out.cell (i := 5) (by omega), HQ6.out.cell (i := 6) (by omega), HQ6.out.cell (i := 7) (by omega)⟩
            obtain ⟨-, -, r2⟩ := HHCC.out _ HL6.out.e0
            have c1 := HL6.out.e0.cell HS.out.c1
            have cg := cell_of_row W6 (bl + 1) 0 _ _ _ HL6.out.cg
            have hwl : IntKind.i64.wrap (left - r.cost) = left - r.cost := by rw [IntKind.wrap_i64]; omega
            have hwk : IntKind.i64.wrap ((k : Int) + 1) = ((k + 1 : Nat) : Int) := by rw [IntKind.wrap_i64]; omega
            have IHx := HIH.out l2 (k + 1) (left - r.cost) q (.slice av l2.length cv) W6.drew (HL6.out.ext (Ext.refl _).drew) (HB6.out.ext (Ext.refl _).drew) (ownsRow_ext HO6.out (Ext.refl _).drew) (by rw [HLL.out]; have := Hlen.out; omega) (by rw [HED.out]; exact HLJ.out)
              (by rw [HLeft.out, costL_sum, costL_sum, HED.out, sumC_app]; show _ = _ - (_ + (_ + 0)); omega) (by omega) (by omega) (by omega)
            unfold gptrs partsV at IHx
            have HI := hid IHx
            clear IHx hd
            simp only [gptrs] at cg
            refine wp_region_held_drew (S := (fun w' => w'.cell? ⟨bl + 1, 0, none⟩ = some (.func (.func 57) #[] #[.pointer (some ⟨bl, 0, none⟩), .pointer (some ⟨pl, 0, none⟩), .pointer (some ⟨pm, 0, none⟩), .pointer (some ⟨ps, 0, none⟩), .pointer (some ⟨pc, 0, none⟩), .pointer (some ⟨bl + 1, 0, none⟩)]) ∧ w'.cell? ⟨pm, 1, none⟩ = some (.slice (some ⟨bb, off, none⟩) rs.length cap) ∧ w'.cell? ⟨bb, off + k * 3 + 2, none⟩ = some (.int .i64 r.cost) ∧ w'.cell? ⟨qb, 0, none⟩ = some (.int .i64 (q 0)) ∧ w'.cell? ⟨qb, 1, none⟩ = some (.int .i64 (q 1)) ∧ w'.cell? ⟨qb, 2, none⟩ = some (.int .i64 (q 2)) ∧ w'.cell? ⟨qb, 3, none⟩ = some (.int .i64 (q 3)) ∧ w'.cell? ⟨qb, 4, none⟩ = some (.int .i64 (q 4)) ∧ w'.cell? ⟨qb, 5, none⟩ = some (.int .i64 (q 5)) ∧ w'.cell? ⟨qb, 6, none⟩ = some (.int .i64 (q 6)) ∧ w'.cell? ⟨qb, 7, none⟩ = some (.int .i64 (q 7)))) (by kernel_rfl) ?hSa0 (fun hHeld => ?_)
            case hSa0 => (first | (exact ⟨cg, c1, r2, g0, g1, g2, g3, g4, g5, g6, g7⟩) | ((try dsimp only); exact ⟨cg, c1, r2, g0, g1, g2, g3, g4, g5, g6, g7⟩))
            refine wpAnyH_tk 0 (v := ?va0) rfl (by kernel_rfl) (by kernel_rfl) (by kernel_rfl) (fun _ _ _ h => h) (by rfl) ?hya0 (by assumption) ?_
            case hya0 => (intro w hSw; (try dsimp only at hSw); go_simp <;> with_reducible rfl)
            (try simp only [Act.put, List.setIfInBounds_toArray, List.set_cons_zero, List.set_cons_succ])
            refine wpAnyH_tk 1 (v := ?va1) rfl (by kernel_rfl) (by kernel_rfl) (by kernel_rfl) (fun _ _ _ h => h) (by rfl) ?hya1 (by assumption) ?_
            case hya1 => (intro w hSw; (try dsimp only at hSw); go_simp <;> with_reducible rfl)
            (try simp only [Act.put, List.setIfInBounds_toArray, List.set_cons_zero, List.set_cons_succ])
            refine wpAnyH_tk 2 (v := ?va2) rfl (by kernel_rfl) (by kernel_rfl) (by kernel_rfl) (fun _ _ _ h => h) (by rfl) ?hya2 (by assumption) ?_
            case hya2 => (intro w hSw; (try dsimp only at hSw); go_simp <;> with_reducible rfl)
            (try simp only [Act.put, List.setIfInBounds_toArray, List.set_cons_zero, List.set_cons_succ])
            refine wpAnyH_tk 3 (v := ?va3) rfl (by kernel_rfl) (by kernel_rfl) (by kernel_rfl) (fun _ _ _ h => h) (by rfl) ?hya3 (by assumption) ?_
            case hya3 => (intro w hSw; (try dsimp only at hSw); go_simp <;> with_reducible rfl)
            (try simp only [Act.put, List.setIfInBounds_toArray, List.set_cons_zero, List.set_cons_succ])
            refine wpAnyH_tk 4 (v := ?va4) rfl (by kernel_rfl) (by kernel_rfl) (by kernel_rfl) (fun _ _ _ h => h) (by rfl) ?hya4 (by assumption) ?_
            case hya4 => (intro w hSw; (try dsimp only at hSw); go_simp <;> with_reducible rfl)
            (try simp only [Act.put, List.setIfInBounds_toArray, List.set_cons_zero, List.set_cons_succ])
            refine wpAnyH_tk 5 (v := ?va5) rfl (by kernel_rfl) (by kernel_rfl) (by kernel_rfl) (fun _ _ _ h => h) (by rfl) ?hya5 (by assumption) ?_
            case hya5 => (intro w hSw; (try dsimp only at hSw); go_simp <;> with_reducible rfl)
            (try simp only [Act.put, List.setIfInBounds_toArray, List.set_cons_zero, List.set_cons_succ])
            refine wpAnyH_tk 6 (v := ?va6) rfl (by kernel_rfl) (by kernel_rfl) (by kernel_rfl) (fun _ _ _ h => h) (by rfl) ?hya6 (by assumption) ?_
            case hya6 => (intro w hSw; (try dsimp only at hSw); go_simp <;> with_reducible rfl)
            (try simp only [Act.put, List.setIfInBounds_toArray, List.set_cons_zero, List.set_cons_succ])
            refine wpAnyH_tk 7 (v := ?va7) rfl (by kernel_rfl) (by kernel_rfl) (by kernel_rfl) (fun _ _ _ h => h) (by rfl) ?hya7 (by assumption) ?_
            case hya7 => (intro w hSw; (try dsimp only at hSw); go_simp <;> with_reducible rfl)
            (try simp only [Act.put, List.setIfInBounds_toArray, List.set_cons_zero, List.set_cons_succ])
            refine wpAnyH_tk 8 (v := ?va8) rfl (by kernel_rfl) (by kernel_rfl) (by kernel_rfl) (fun _ _ _ h => h) (by rfl) ?hya8 (by assumption) ?_
            case hya8 => (intro w hSw; (try dsimp only at hSw); go_simp <;> with_reducible rfl)
            (try simp only [Act.put, List.setIfInBounds_toArray, List.set_cons_zero, List.set_cons_succ])
            refine wpAnyH_tk 9 (v := ?va9) rfl (by kernel_rfl) (by kernel_rfl) (by kernel_rfl) (fun _ _ _ h => h) (by rfl) ?hya9 (by assumption) ?_
            case hya9 => (intro w hSw; (try dsimp only at hSw); go_simp <;> with_reducible rfl)
            (try simp only [Act.put, List.setIfInBounds_toArray, List.set_cons_zero, List.set_cons_succ])
            refine wpAnyH_tk 10 (v := ?va10) rfl (by kernel_rfl) (by kernel_rfl) (by kernel_rfl) (fun _ _ _ h => h) (by rfl) ?hya10 (by assumption) ?_
            case hya10 => (intro w hSw; (try dsimp only at hSw); go_simp <;> with_reducible rfl)
            (try simp only [Act.put, List.setIfInBounds_toArray, List.set_cons_zero, List.set_cons_succ])
            refine wpAnyH_tk 11 (v := ?va11) rfl (by kernel_rfl) (by kernel_rfl) (by kernel_rfl) (fun _ _ _ h => h) (by rfl) ?hya11 (by assumption) ?_
            case hya11 => (intro w hSw; (try dsimp only at hSw); go_simp <;> with_reducible rfl)
            (try simp only [Act.put, List.setIfInBounds_toArray, List.set_cons_zero, List.set_cons_succ])
            refine wpAnyH_one 12 rfl (by kernel_rfl) (by rfl) (fun K hK => ?_)
            go_simp
            (refine HI.out.mono ?_; rintro e w7 ⟨b7, rfl, hga⟩; have HGA := hid hga; have HL7 := hid (GLive.fr (HL6.out.ext (Ext.refl _).drew) (ownsRow_ext HO6.out (Ext.refl _).drew) (by obtain ⟨_, _, _, _, hF, _⟩ := hga; exact hF)); have HQ7 := hid (PBox.fr (HQ6.out.ext (Ext.refl _).drew) (ownsRow_ext HO6.out (Ext.refl _).drew) (by obtain ⟨_, _, _, _, hF, _⟩ := hga; exact hF) hqbl); clear hga)
            refine hK.out _ _ ?hSa13 (fun hHeld => ?_)
            case hSa13 => (first | (exact ⟨cell_of_row w7 (bl + 1) 0 _ _ _ HL7.out.cg, HL7.out.e0.cell HS.out.c1, (HHCC.out _ HL7.out.e0).2.2, HQ7.out.cell (i := 0) (by omega), HQ7.out.cell (i := 1) (by omega), HQ7.out.cell (i := 2) (by omega), HQ7.out.cell (i := 3) (by omega), HQ7.out.cell (i := 4) (by omega), HQ7.out.cell (i := 5) (by omega), HQ7.out.cell (i := 6) (by omega), HQ7.out.cell (i := 7) (by omega)⟩) | ((try dsimp only); exact ⟨cell_of_row w7 (bl + 1) 0 _ _ _ HL7.out.cg, HL7.out.e0.cell HS.out.c1, (HHCC.out _ HL7.out.e0).2.2, HQ7.out.cell (i := 0) (by omega), HQ7.out.cell (i := 1) (by omega), HQ7.out.cell (i := 2) (by omega), HQ7.out.cell (i := 3) (by omega), HQ7.out.cell (i := 4) (by omega), HQ7.out.cell (i := 5) (by omega), HQ7.out.cell (i := 6) (by omega), HQ7.out.cell (i := 7) (by omega)⟩))
            clear hK K
            (try simp only [Act.put, List.setIfInBounds_toArray, List.set_cons_zero, List.set_cons_succ])
            refine wpAnyH_done (by kernel_rfl) ?_ _
            clear g0 g1 g2 g3 g4 g5 g6 g7 r2 c1 cg hwl hwk hHeld
            obtain ⟨l7, v7, HB7, HO7, HF7, HT7, HA7⟩ := HGA.out
            have HFR7 := hid (HF6.out.trans ((Fr.ofExt (Ext.refl W6).drew).trans HF7 (.inl rfl)) HT6.out)
            have hs67 := HF6.out.size
            have HTT7 : Hid (OwnTo row w v7) := by
              rcases HT7 with e | ⟨x, e, hx⟩
              · rw [OwnTo, e]; exact HT6.out
              · exact .inr ⟨x, e, by rw [World.size_drew] at hx; omega⟩
            have HB7' := hid HB7
            have HO7' := hid HO7
            rcases HA7 with ⟨rfl, hfirst⟩ | ⟨rfl, rfl, hno⟩
            · have HFS := hid (first_step HLn.out hfk HN.out (by rw [← HL2.out]; exact hfirst))
              clear hfirst HF7 HT7 HB7 HO7 HGA
              go_wp2
              go_ret
              exact ⟨true, rfl, l7, v7, HB7'.out, HO7'.out, HFR7.out, HTT7.out, .inl ⟨rfl, HFS.out⟩⟩
            · have HNN := hid (noTo_fail HLn.out HN.out (by rw [← HL2.out]; exact hno))
              have HP7 := hid (PBox.fr (HP6.out.ext (Ext.refl _).drew) (ownsRow_ext HO6.out (Ext.refl _).drew) HF7 hppb)
              have hO7 := HO7
              rw [HL2.out] at hO7
              obtain ⟨g7, c7, hv7⟩ : ∃ g7 c7, v7 = .slice (some ⟨g7, 0, none⟩) (l.length + 1) c7 := by
                obtain ⟨-, ⟨-, h⟩ | ⟨g, cp, cur, h, -⟩⟩ := hO7
                · simp at h
                · exact ⟨g, cp, by rw [h]; simp⟩
              rw [hv7] at hO7
              have hcap7 : l.length + 1 ≤ c7 := by
                obtain ⟨-, ⟨h, -⟩ | ⟨g, cp, cur, h, -, -, hcp, -⟩⟩ := hO7
                · simp at h
                · simp only [Value.slice.injEq] at h
                  rw [h.2.2]; simpa using hcp
              have hO8 := row_prefix rfl hO7
              have cb7 := HB7.cell
              have fb7 := HB7.free
              rw [hv7] at cb7
              have HB8 := hid (HB7.set (.slice (some ⟨g7, 0, none⟩) l.length c7))
              have HL8 := hid (HL7.out.set (.slice (some ⟨g7, 0, none⟩) l.length c7))
              have HP8 : Hid (PBox (_ : World) pp p) := HP7.out.other (fun e => hppb e.symm) 0 (.slice (some ⟨g7, 0, none⟩) l.length c7)
              have HO8 : Hid (OwnI w0.heap.size (_ : World) (.slice (some ⟨g7, 0, none⟩) l.length c7) l) := ownsRow_setCell_other hO8 (a := ⟨bl, 0, none⟩) (fun e => own_ne hO8 HB7 (by decide) e.symm) (.slice (some ⟨g7, 0, none⟩) l.length c7)
              have HF8 := hid (HFR7.out.set (.slice (some ⟨g7, 0, none⟩) l.length c7))
              have HT8 : Hid (OwnTo row w (.slice (some ⟨g7, 0, none⟩) l.length c7)) := by
                have h := HTT7.out
                rw [hv7] at h; exact h
              have hli : ((l.length + 1 : Nat) : Int) - 1 = (l.length : Int) := by omega
              have hlc : l.length ≤ c7 := by omega
              have hlc2 : (l.length : Int) ≤ c7 := by omega
              clear hno HF7 HT7 HB7 HO7 HGA hO7 hO8 HB7' HO7' HFR7 HTT7 HL7 HP7 hv7
              go_wp2
              go_roundg (gk - 1)
              case rel => exact ⟨k + 1, _, by have := Hk.out; omega, by omega, by go_num, HL8, HB8, HO8, HP8, HF8, HT8, HNN⟩
              case measure => have := Hk.out; omega
      · have ek : k = rs.length := by omega
        have hN2 := HN.out
        rw [ek] at hN2
        have HNN := hid (noTo_end HLn.out hN2)
        have hki : ¬ ((k : Int) < rs.length) := by omega
        clear ek hN2 hlt
        go_wp2
        go_ret
        exact ⟨false, rfl, l, u, HB.out, HO.out, HF.out, HT.out, .inr ⟨rfl, rfl, HNN.out⟩⟩

end Go.Proofs.YtkbkgkmogbkabaaDoor

/-
  Contract of first.
-/
namespace Go.Proofs.YtkbkgkmogbkabaaDoor
open Go.RowKit

/-- Of the trees of a cost the first one of those with the fewest roads. -/
def IsFirst (rs : List RoadD) (s : Nat) (c : Int) (l : List Int) : Prop := (treeP rs s l ∧ costL rs l = c) ∧ ∀ l', treeP rs s l' → costL rs l' = c → l.length < l'.length ∨ (l.length = l'.length ∧ lexLe l l')
theorem isFirst_of {rs : List RoadD} {s n : Nat} {c : Int} {l : List Int} (h : FirstT rs s c n [] 0 l) (hn : ∀ l', treeP rs s l' → costL rs l' = c → n ≤ l'.length) : IsFirst rs s c l := by
  obtain ⟨⟨h1, h2, h3⟩, -, h4⟩ := h
  refine ⟨⟨h1, h2⟩, fun l' t' c' => ?_⟩
  have h5 := hn l' t' c'
  by_cases e : l'.length = n
  · refine .inr ⟨by omega, h4 l' ⟨t', c', e⟩ ⟨rfl, fun h => (t'.1 0 h).1.1⟩⟩
  · exact .inl (by omega)

set_option maxRecDepth 20000 in
set_option maxHeartbeats 16000000 in
theorem first_any (vr : Value) (N : Nat) (rs : List RoadD) (s : Nat) (c : Int) (w : World) (hv : Roads w vr rs) (hN8 : N ≤ 8) (hrl : rs.length ≤ 16) (hok : ∀ r ∈ rs, roadOk N r = true) (hs0 : 0 < s) (hs : s < 2 ^ N) (hTZ : TZ w) (hc0 : 0 ≤ c) (hc : c ≤ 1048576) (l0 : List Int) (ht0 : treeP rs s l0) (hl0 : costL rs l0 = c) :
    Calls Tryd.prog 44 #[.agg #[.int .i64 N, vr], .int .i64 s, .int .i64 c] w fun e w' => ∃ v l, e = .returned v ∧ OwnI w.heap.size w' v l ∧ Hid (IsFirst rs s c l) ∧ Ext w w' := by
  obtain ⟨ao, cap, rfl⟩ := hv.shape
  have HV := hid hv
  have HOk := hid hok
  have HTZ := hid hTZ
  have HsN := hid hs
  have hm16 : l0.length ≤ 16 := by have := treeP_len ht0; omega
  obtain ⟨m, hm⟩ : ∃ m, m = l0.length := ⟨_, rfl⟩
  have HT0 : Hid (∃ l', (treeP rs s l' ∧ costL rs l' = c) ∧ l'.length = m) := ⟨l0, ⟨ht0, hl0⟩, hm.symm⟩
  rw [← hm] at hm16
  have X0 := hid (Box2.alloc w 31 (.int .i64 N) (.slice ao rs.length cap))
  have e1 := Ext.ofAlloc w (.cells #[.int .i64 N, .slice ao rs.length cap] 31)
  have e2 := Ext.ofAlloc (w.alloc (.cells #[.int .i64 N, .slice ao rs.length cap] 31)) (.cells #[.int .i64 s] 3)
  have e3 := Ext.ofAlloc ((w.alloc (.cells #[.int .i64 N, .slice ao rs.length cap] 31)).alloc (.cells #[.int .i64 s] 3)) (.cells #[.int .i64 c] 3)
  have e4 := Ext.ofAlloc (((w.alloc (.cells #[.int .i64 N, .slice ao rs.length cap] 31)).alloc (.cells #[.int .i64 s] 3)).alloc (.cells #[.int .i64 c] 3)) (.cells #[.int .i64 0] 3)
  have k0 := (e2.trans (e3.trans e4)).cell X0.out.cells.1
  have k1 := (e2.trans (e3.trans e4)).cell X0.out.cells.2
  have ks := (e3.trans e4).cell (cell_of_row _ _ 0 _ _ _ (heap_alloc_new (w.alloc (.cells #[.int .i64 N, .slice ao rs.length cap] 31)) (.cells #[.int .i64 s] 3)))
  have kc := e4.cell (cell_of_row _ _ 0 _ _ _ (heap_alloc_new ((w.alloc (.cells #[.int .i64 N, .slice ao rs.length cap] 31)).alloc (.cells #[.int .i64 s] 3)) (.cells #[.int .i64 c] 3)))
  have kl := heap_alloc_new (((w.alloc (.cells #[.int .i64 N, .slice ao rs.length cap] 31)).alloc (.cells #[.int .i64 s] 3)).alloc (.cells #[.int .i64 c] 3)) (.cells #[.int .i64 0] 3)
  have e14 := hid (e1.trans (e2.trans (e3.trans e4)))
  simp only [World.size_alloc] at k0 k1 ks kc kl
  have K0 := hid k0
  have K1 := hid k1
  have KS := hid ks
  have KC := hid kc
  have KL : Hid (_ = some (Obj.cells #[Value.int .i64 ((0 : Nat) : Int)] 3 (0, 0))) := hid kl
  clear hv hok hTZ hs ht0 hl0 hm X0 e1 e2 e3 e4 k0 k1 ks kc kl
  go_enter Tryd.func44, Tryd.ntmps44
  go_wp2
  generalize (((w.alloc (.cells #[.int .i64 N, .slice ao rs.length cap] 31)).alloc (.cells #[.int .i64 s] 3)).alloc (.cells #[.int .i64 c] 3)).alloc (.cells #[.int .i64 0] 3) = W at K0 K1 KS KC KL e14 ⊢
  obtain ⟨pm, hpm⟩ : ∃ p, p = w.heap.size := ⟨_, rfl⟩
  obtain ⟨ps, hps⟩ : ∃ p, p = w.heap.size + 1 := ⟨_, rfl⟩
  obtain ⟨pc, hpc⟩ : ∃ p, p = w.heap.size + 1 + 1 := ⟨_, rfl⟩
  obtain ⟨pl0, hpl⟩ : ∃ p, p = w.heap.size + 1 + 1 + 1 := ⟨_, rfl⟩
  have HPM := hid hpm
  rw [← hpl] at KL
  rw [← hpl, ← hpc, ← hps, ← hpm]
  rw [← hpc] at KC
  rw [← hps] at KS
  rw [← hpm] at K0 K1
  clear hpm hps hpc hpl
  go_loopg [7] m (fun g t wr => ∃ (n pl : Nat), n + g = m ∧ t = .pointer (some ⟨pl, 0, none⟩) ∧ Hid (wr.heap[pl]? = some (.cells #[.int .i64 n] 3 (0, 0))) ∧ Hid (∀ l', treeP rs s l' → costL rs l' = c → n ≤ l'.length) ∧ Hid (Ext W wr))
  case atStart => exact ⟨0, pl0, by omega, rfl, KL, fun l' _ _ => Nat.zero_le _, Ext.refl _⟩
  case round =>
    clear KL
    obtain ⟨n, pl, hn, rfl, KL, NO, E⟩ := hrel
    have hnm : n ≤ m := by omega
    have Hn := hid hn
    clear hn
    have HSeen : Hid (GSeen wr N n s c pl pm ps pc ao cap rs) := ⟨cell_of_row wr pl 0 _ _ _ KL.out, E.out.cell K0.out, E.out.cell K1.out, E.out.cell KS.out, E.out.cell KC.out, HV.out.ext (e14.out.trans E.out), HTZ.out.ext (e14.out.trans E.out)⟩
    have eA := Ext.ofAlloc wr (.cells #[] 3)
    have eB := Ext.ofAlloc (wr.alloc (.cells #[] 3)) (.cells #[.slice (some ⟨wr.heap.size, 0, none⟩) 0 0] 25)
    have eC := Ext.ofAlloc ((wr.alloc (.cells #[] 3)).alloc (.cells #[.slice (some ⟨wr.heap.size, 0, none⟩) 0 0] 25)) (.cells #[.func (.func 57) #[] (gptrs (wr.heap.size + 1) pl pm ps pc)] 88)
    have hcg := heap_alloc_new ((wr.alloc (.cells #[] 3)).alloc (.cells #[.slice (some ⟨wr.heap.size, 0, none⟩) 0 0] 25)) (.cells #[.func (.func 57) #[] (gptrs (wr.heap.size + 1) pl pm ps pc)] 88)
    have hlb := heap_ext (heap_alloc_new (wr.alloc (.cells #[] 3)) (.cells #[.slice (some ⟨wr.heap.size, 0, none⟩) 0 0] 25)) eC
    simp only [World.size_alloc] at hcg hlb
    have hown : OwnI wr.heap.size (wr.alloc (.cells #[] 3)) (.slice (some ⟨wr.heap.size, 0, none⟩) 0 0) [] := World.ownsRow_lit wr #[] 0 (Nat.le_refl _) (by decide) rfl
    have hown2 := ownsRow_ext hown (eB.trans eC)
    have hsz : wr.heap.size + 3 ≤ (((wr.alloc (.cells #[] 3)).alloc (.cells #[.slice (some ⟨wr.heap.size, 0, none⟩) 0 0] 25)).alloc (.cells #[.func (.func 57) #[] (gptrs (wr.heap.size + 1) pl pm ps pc)] 88)).heap.size := by simp
    have HGL : Hid (GLive wr (wr.heap.size + 1) (gptrs (wr.heap.size + 1) pl pm ps pc) _) := ⟨eA.trans (eB.trans eC), by omega, by omega, hcg⟩
    have HLB : Hid (LBox _ (wr.heap.size + 1) (.slice (some ⟨wr.heap.size, 0, none⟩) 0 0)) := hlb
    have HOW := hid hown2
    have HEW := hid (eA.trans (eB.trans eC))
    have cg := cell_of_row _ _ 0 _ _ _ hcg
    have cc := HEW.out.cell (E.out.cell KC.out)
    unfold gptrs at HGL cg cc HLB HOW HEW
    clear eA eB eC hcg hlb hown hown2 hsz
    go_wp2
    generalize ((wr.alloc (.cells #[] 3)).alloc (.cells #[.slice (some ⟨wr.heap.size, 0, none⟩) 0 0] 25)).alloc (.cells #[.func (.func 57) #[] #[.pointer (some ⟨wr.heap.size + 1, 0, none⟩), .pointer (some ⟨pl, 0, none⟩), .pointer (some ⟨pm, 0, none⟩), .pointer (some ⟨ps, 0, none⟩), .pointer (some ⟨pc, 0, none⟩), .pointer (some ⟨wr.heap.size + 1 + 1, 0, none⟩)]] 88) = V at HGL HLB HOW HEW cg cc ⊢
    obtain ⟨h0, hh0⟩ : ∃ h, h = wr.heap.size := ⟨_, rfl⟩
    obtain ⟨bl, hbl⟩ : ∃ b, b = wr.heap.size + 1 := ⟨_, rfl⟩
    rw [← hbl] at HGL HLB cg ⊢
    have HBL := hid hbl
    have hn100 : n ≤ 100 := by omega
    clear hbl
    refine wp_region_held_drew (S := (fun w' => w'.cell? ⟨bl + 1, 0, none⟩ = some (.func (.func 57) #[] #[.pointer (some ⟨bl, 0, none⟩), .pointer (some ⟨pl, 0, none⟩), .pointer (some ⟨pm, 0, none⟩), .pointer (some ⟨ps, 0, none⟩), .pointer (some ⟨pc, 0, none⟩), .pointer (some ⟨bl + 1, 0, none⟩)]) ∧ w'.cell? ⟨pc, 0, none⟩ = some (.int .i64 c))) (by kernel_rfl) ?hSa0 (fun hHeld => ?_)
    case hSa0 => (first | (exact ⟨cg, cc⟩) | ((try dsimp only); exact ⟨cg, cc⟩))
    refine wpAnyH_tk 0 (v := ?va0) rfl (by kernel_rfl) (by kernel_rfl) (by kernel_rfl) (fun _ _ _ h => h) (by rfl) ?hya0 (by assumption) ?_
    case hya0 => (intro w hSw; (try dsimp only at hSw); go_simp <;> with_reducible rfl)
    (try simp only [Act.put, List.setIfInBounds_toArray, List.set_cons_zero, List.set_cons_succ])
    refine wpAnyH_tk 1 (v := ?va1) rfl (by kernel_rfl) (by kernel_rfl) (by kernel_rfl) (fun _ _ _ h => h) (by rfl) ?hya1 (by assumption) ?_
    case hya1 => (intro w hSw; (try dsimp only at hSw); go_simp <;> with_reducible rfl)
    (try simp only [Act.put, List.setIfInBounds_toArray, List.set_cons_zero, List.set_cons_succ])
    refine wpAnyH_one 2 rfl (by kernel_rfl) (by rfl) (fun K hK => ?_)
    go_simp
    (refine (apart_any _).mono ?_; rintro e V6 ⟨rfl, he6⟩; have hd6 := (Ext.refl V).drew.trans he6; have HGL6 := hid (HGL.out.ext hd6); have HLB6 := hid (HLB.out.ext hd6); have HO6 := hid (ownsRow_ext HOW.out hd6); have HE6 := hid (HEW.out.trans hd6); have cg6 := hd6.cell cg; have cc6 := hd6.cell cc; have HI := hid (growT_any wr N n s c pl pm ps pc bl ao cap rs HSeen.out hN8 hrl HOk.out hs0 HsN.out hn100 n [] 0 c (fun i => (i : Int)) _ V6 HGL6.out HLB6.out HO6.out (by simp) Lab.nil (by show c = c - 0; omega) hc0 hc (Nat.zero_le _)); unfold gptrs partsV at HI; clear hd6 he6)
    refine hK.out _ _ ?hSa3 (fun hHeld => ?_)
    case hSa3 => (first | (exact ⟨cg6, cc6⟩) | ((try dsimp only); exact ⟨cg6, cc6⟩))
    clear hK K
    (try simp only [Act.put, List.setIfInBounds_toArray, List.set_cons_zero, List.set_cons_succ])
    refine wpAnyH_one 3 rfl (by kernel_rfl) (by rfl) (fun K hK => ?_)
    go_simp
    (refine HI.out.mono ?_; rintro e w7 ⟨b7, rfl, hga⟩; have HGA := hid hga; have hfr : Fr bl _ V6 w7 := (by obtain ⟨_, _, _, _, hF, _⟩ := hga; exact hF); have HL7 := hid (GLive.fr HGL6.out HO6.out hfr); clear hga hfr)
    refine hK.out _ _ ?hSa4 (fun hHeld => ?_)
    case hSa4 => (first | (exact ⟨cell_of_row w7 (bl + 1) 0 _ _ _ HL7.out.cg, HL7.out.e0.cell (E.out.cell KC.out)⟩) | ((try dsimp only); exact ⟨cell_of_row w7 (bl + 1) 0 _ _ _ HL7.out.cg, HL7.out.e0.cell (E.out.cell KC.out)⟩))
    clear hK K
    (try simp only [Act.put, List.setIfInBounds_toArray, List.set_cons_zero, List.set_cons_succ])
    refine wpAnyH_done (by kernel_rfl) ?_ _
    clear cg cc hHeld
    obtain ⟨l7, v7, HB7, HO7, HF7, HT7, HA7⟩ := HGA.out
    have hE7 : Ext wr w7 := by
      have hb : Below wr.heap.size V6 w7 := HF7.below (by rw [HBL.out]; omega) (by have := HE6.out.size; exact this) (fun k hk => (HO6.out.lt k hk).1)
      exact Ext.trans' HE6.out hb (Nat.le_refl _)
    have HE7 := hid (E.out.trans hE7)
    have HB7' := hid HB7
    have HO7' := hid HO7
    have hszw := (e14.out.trans E.out).size
    rcases HA7 with ⟨rfl, hfirst⟩ | ⟨rfl, rfl, hno⟩
    · have HFS := hid (isFirst_of hfirst NO.out)
      have cb := HB7.cell
      obtain ⟨av, cv, hv7⟩ := own_len HO7
      have HV7 := hid hv7
      rw [hv7] at cb
      clear hfirst HF7 HT7 HB7 HO7 HGA hE7 hv7
      go_wp2
      go_ret
      exact ⟨_, rfl, l7, by rw [← HV7.out]; exact ownsRow_base HO7'.out hszw, HFS.out, e14.out.trans HE7.out⟩
    · have hne : ∀ l', treeP rs s l' → costL rs l' = c → n + 1 ≤ l'.length := by
        intro l' t' c'
        have h1 := NO.out l' t' c'
        by_cases e : l'.length = n
        · exact absurd (hno l' ⟨t', c', e⟩ ⟨rfl, fun h => (t'.1 0 h).1.1⟩) (fun h => h)
        · omega
      have HNE := hid hne
      have hnm1 : n + 1 ≤ m := by
        obtain ⟨l', ⟨a1, a2⟩, a3⟩ := HT0.out
        have := hne l' a1 a2
        omega
      have cl := hE7.cell (cell_of_row wr pl 0 _ _ _ KL.out)
      have HKS : Hid ((w7.alloc (.cells #[.int .i64 ((n : Int) + 1)] 3)).heap[w7.heap.size]? = some (.cells #[.int .i64 ((n + 1 : Nat) : Int)] 3 (0, 0))) := heap_alloc_new w7 _
      have HE8 := hid (HE7.out.alloc (.cells #[.int .i64 ((n : Int) + 1)] 3))
      clear hno HF7 HT7 HB7 HO7 HGA hE7 hne
      go_wp2
      go_roundg (m - (n + 1))
      case rel => exact ⟨n + 1, w7.heap.size, by omega, rfl, HKS, HNE, HE8⟩
      case measure => have := Hn.out; omega

end Go.Proofs.YtkbkgkmogbkabaaDoor

/-
  What steiner computes, as a plain function; its bounds.
-/
namespace Go.Proofs.YtkbkgkmogbkabaaDoor
open Go.RowKit

/-- The parts of a set, in the order in which the program comes to them. -/
def partsF (m : Nat) : Nat → Nat → List Nat
  | 0, _ => []
  | f + 1, p => if p = 0 then [] else p :: partsF m f ((p - 1) &&& m)
def partsOf (m : Nat) : List Nat := partsF m 256 ((m - 1) &&& m)

def foldMn (g : Nat → Int) (l : List Nat) (x : Int) : Int := l.foldl (fun x u => mn x (g u)) x
theorem foldMn_le (g : Nat → Int) : ∀ (l : List Nat) (x : Int), foldMn g l x ≤ x ∧ (∀ u ∈ l, foldMn g l x ≤ g u) ∧ (foldMn g l x = x ∨ ∃ u ∈ l, foldMn g l x = g u)
  | [], x => ⟨Int.le_refl _, fun u h => by simp at h, .inl rfl⟩
  | a :: l, x => by
    obtain ⟨h1, h2, h3⟩ := foldMn_le g l (mn x (g a))
    have e : foldMn g (a :: l) x = foldMn g l (mn x (g a)) := rfl
    have m := mn_le x (g a)
    rw [e]
    refine ⟨by omega, fun u hu => ?_, ?_⟩
    · rcases List.mem_cons.1 hu with rfl | hu
      · omega
      · exact h2 u hu
    · rcases h3 with h | ⟨u, hu, h⟩
      · rcases mn_or x (g a) with q | q
        · exact .inl (by rw [h, q])
        · exact .inr ⟨a, List.mem_cons_self .., by rw [h, q]⟩
      · exact .inr ⟨u, List.mem_cons_of_mem _ hu, h⟩

/-- A set of one stop, or none, ahead of the parts. -/
def baseV (D : Nat → Nat → Int) (m v : Nat) : Int := if m &&& (m - 1) = 0 then D (Nat.log2 m) v else far
def partV (L : Nat → Nat → Int) (m v p : Nat) : Int := L p v + L (andn m p) v
def mergeV (L D : Nat → Nat → Int) (m v : Nat) : Int := foldMn (partV L m v) (partsOf m) (baseV D m v)
def closeV (D : Nat → Nat → Int) (N : Nat) (M : Nat → Int) (v : Nat) : Int := foldMn (fun u => M u + D u v) (List.range N) (M v)
def newRow (s : Nat) (D : Nat → Nat → Int) (N : Nat) (L : Nat → Nat → Int) (m : Nat) : Nat → Int := if andn m s ≠ 0 ∨ m = 0 then fun _ => far else closeV D N (mergeV L D m)
def tabTo (s : Nat) (D : Nat → Nat → Int) (N : Nat) : Nat → Nat → Nat → Int
  | 0 => fun _ _ => far
  | k + 1 => fun a => if a = k then newRow s D N (tabTo s D N k) k else tabTo s D N k a

theorem parts_in {m : Nat} : ∀ (f p : Nat), p &&& m = p → p < m → ∀ q ∈ partsF m f p, q &&& m = q ∧ 0 < q ∧ q < m
  | 0, _, _, _, q, hq => by simp [partsF] at hq
  | f + 1, p, h1, h2, q, hq => by
    unfold partsF at hq
    split at hq
    · simp at hq
    · rename_i hp
      rcases List.mem_cons.1 hq with rfl | hq
      · exact ⟨h1, by omega, h2⟩
      · refine parts_in f ((p - 1) &&& m) ?_ ?_ q hq
        · rw [Nat.and_assoc, Nat.and_self]
        · have : (p - 1) &&& m ≤ p - 1 := Nat.and_le_left
          omega
theorem partsOf_in {m : Nat} (hm : 0 < m) {q : Nat} (hq : q ∈ partsOf m) : q &&& m = q ∧ 0 < q ∧ q < m := by
  refine parts_in 256 ((m - 1) &&& m) ?_ ?_ q hq
  · rw [Nat.and_assoc, Nat.and_self]
  · have : (m - 1) &&& m ≤ m - 1 := Nat.and_le_left
    omega
theorem andn_mem {m p : Nat} (h1 : p &&& m = p) (h0 : 0 < p) (hp : p < m) : 0 < andn m p ∧ andn m p < m := by
  have hbit : ∀ i, p.testBit i = true → m.testBit i = true := by
    intro i hi
    rw [← h1, Nat.testBit_and, Bool.and_eq_true] at hi
    exact hi.2
  have hsub : andn m p &&& m = andn m p := by
    apply Nat.eq_of_testBit_eq
    intro i
    rw [Nat.testBit_and, andn_bit]
    cases m.testBit i <;> cases p.testBit i <;> rfl
  have hle : andn m p ≤ m := by
    have : andn m p &&& m ≤ m := Nat.and_le_right
    omega
  constructor
  · rcases Nat.eq_zero_or_pos (andn m p) with h | h
    · exfalso
      have hz := (andn_zero m p).1 h
      have : p = m := by
        apply Nat.eq_of_testBit_eq
        intro i
        cases e1 : p.testBit i <;> cases e2 : m.testBit i
        · rfl
        · rw [hz i e2] at e1; simp at e1
        · rw [hbit i e1] at e2; simp at e2
        · rfl
      omega
    · exact h
  · rcases Nat.lt_or_ge (andn m p) m with h | h
    · exact h
    · exfalso
      have e : andn m p = m := by omega
      obtain ⟨i, hi⟩ := Nat.exists_testBit_of_ne_zero (show p ≠ 0 by omega)
      have h2 := andn_bit m p i
      rw [e, hbit i hi, hi] at h2
      simp at h2

/-- The bounds of a table. -/
def BdL (N : Nat) (L : Nat → Nat → Int) : Prop := ∀ a v, v < N → 0 ≤ L a v ∧ L a v ≤ far
theorem mergeV_bd {N : Nat} {L D : Nat → Nat → Int} (hL : BdL N L) (hD : Good N D) {m : Nat} (hm : 0 < m) (hmN : m < 2 ^ N) {v : Nat} (hv : v < N) : 0 ≤ mergeV L D m v ∧ mergeV L D m v ≤ far := by
  have hb : 0 ≤ baseV D m v ∧ baseV D m v ≤ far := by
    unfold baseV
    split
    · have hl : Nat.log2 m < N := (Nat.log2_lt (by omega)).2 hmN
      exact ⟨hD.lo _ _ hl hv, hD.hi _ _ hl hv⟩
    · unfold far; omega
  obtain ⟨h1, -, h3⟩ := foldMn_le (partV L m v) (partsOf m) (baseV D m v)
  unfold mergeV
  refine ⟨?_, by omega⟩
  rcases h3 with h | ⟨u, -, h⟩
  · omega
  · rw [h]
    unfold partV
    have := hL u v hv
    have := hL (andn m u) v hv
    omega
theorem closeV_bd {N : Nat} {D : Nat → Nat → Int} (hD : Good N D) {M : Nat → Int} (hM : ∀ v, v < N → 0 ≤ M v ∧ M v ≤ far) {v : Nat} (hv : v < N) : 0 ≤ closeV D N M v ∧ closeV D N M v ≤ far := by
  obtain ⟨h1, -, h3⟩ := foldMn_le (fun u => M u + D u v) (List.range N) (M v)
  have := hM v hv
  unfold closeV
  refine ⟨?_, by omega⟩
  rcases h3 with h | ⟨u, hu, h⟩
  · omega
  · rw [h]
    have := hM u (List.mem_range.1 hu)
    have := hD.lo u v (List.mem_range.1 hu) hv
    omega
theorem tab_bd {s N : Nat} {D : Nat → Nat → Int} (hD : Good N D) : ∀ k, k ≤ 2 ^ N → BdL N (tabTo s D N k)
  | 0, _ => fun _ _ _ => by show 0 ≤ far ∧ far ≤ far; unfold far; omega
  | k + 1, hk => fun a v hv => by
    have ih := tab_bd (s := s) hD k (by omega)
    show 0 ≤ (if a = k then newRow s D N (tabTo s D N k) k else tabTo s D N k a) v ∧ (if a = k then newRow s D N (tabTo s D N k) k else tabTo s D N k a) v ≤ far
    by_cases e : a = k
    · rw [if_pos e]
      unfold newRow
      by_cases c : andn k s ≠ 0 ∨ k = 0
      · rw [if_pos c]; unfold far; omega
      · rw [if_neg c]
        exact closeV_bd hD (fun u hu => mergeV_bd ih hD (by omega) (by omega) hu) hv
    · rw [if_neg e]; exact ih a v hv
theorem tab_keep {s N : Nat} {D : Nat → Nat → Int} {a : Nat} : ∀ j, tabTo s D N (a + 1 + j) a = tabTo s D N (a + 1) a
  | 0 => rfl
  | j + 1 => by
    show (if a = a + 1 + j then _ else tabTo s D N (a + 1 + j) a) = _
    rw [if_neg (by omega)]
    exact tab_keep j
theorem tab_row {s N : Nat} {D : Nat → Nat → Int} {a k : Nat} (h : a < k) : tabTo s D N k a = newRow s D N (tabTo s D N a) a := by
  obtain ⟨j, rfl⟩ : ∃ j, k = a + 1 + j := ⟨k - (a + 1), by omega⟩
  rw [tab_keep]
  show (if a = a then _ else _) = _
  rw [if_pos rfl]

end Go.Proofs.YtkbkgkmogbkabaaDoor

/-
  A table of the call's own, of more rows than a row has numbers, of which the first rows are made.
-/
namespace Go.Proofs.YtkbkgkmogbkabaaDoor
open Go.RowKit

/-- v has M rows; the first i are rows of n numbers, D, of the call's own, and apart; the others are nil. -/
def HalfR (B : Nat) (w : World) (v : Value) (i M n : Nat) (D : Nat → Nat → Int) : Prop :=
  ∃ gs : List Nat, gs.length = i ∧ i ≤ M ∧ gs.Nodup ∧ w.ownsRow B 25 1 v M (gs.map (rowV n) ++ List.replicate (M - i) (.slice none 0 0)) ∧ (∀ g ∈ gs, B ≤ g ∧ v.ownBlock ≠ some g ∧ g < w.heap.size) ∧ ∀ k, (h : k < gs.length) → IntBlock w gs[k] (rowL n (D k))

theorem HalfR.ext {B : Nat} {w w' : World} {v : Value} {i M n : Nat} {D : Nat → Nat → Int} (h : HalfR B w v i M n D) (e : Ext w w') : HalfR B w' v i M n D := by
  obtain ⟨gs, h1, h0, h2, h3, h4, h5⟩ := h
  exact ⟨gs, h1, h0, h2, ownsRow_ext h3 e, fun g hg => ⟨(h4 g hg).1, (h4 g hg).2.1, Nat.lt_of_lt_of_le (h4 g hg).2.2 e.size⟩, fun k hk => (h5 k hk).ext e⟩
theorem HalfR.congr {B : Nat} {w : World} {v : Value} {i M n : Nat} {D D' : Nat → Nat → Int} (h : HalfR B w v i M n D) (e : ∀ k j, k < i → j < n → D k j = D' k j) : HalfR B w v i M n D' := by
  obtain ⟨gs, h1, h0, h2, h3, h4, h5⟩ := h
  refine ⟨gs, h1, h0, h2, h3, h4, fun k hk => ?_⟩
  have he : rowL n (D k) = rowL n (D' k) := by
    unfold rowL
    exact List.map_congr_left fun j hj => e k j (by omega) (List.mem_range.1 hj)
  rw [← he]; exact h5 k hk
theorem HalfR.mat {B : Nat} {w : World} {v : Value} {M n : Nat} {D : Nat → Nat → Int} (h : HalfR B w v M M n D) : Mat B w v M n D := by
  obtain ⟨gs, h1, h0, h2, h3, h4, h5⟩ := h
  rw [Nat.sub_self, List.replicate_zero, List.append_nil] at h3
  exact ⟨gs, h1, h2, h3, fun g hg => ⟨(h4 g hg).1, (h4 g hg).2.1⟩, h5⟩
theorem HalfR.zero {B M n : Nat} (w : World) (D : Nat → Nat → Int) (hB : B ≤ w.heap.size) (hn : M ≤ 1000) :
    HalfR B (w.alloc (.cells (madeCells #[Value.slice none 0 0] M) 25)) (.slice (some ⟨w.heap.size, 0, none⟩) M M) 0 M n D := by
  have h := World.ownsRow_lit (base := B) (e := 25) (size := 1) w (madeCells #[Value.slice none 0 0] M) M hB (by unfold maxLen; omega) (by
    rw [← Array.length_toList, toList_madeCells_one]; simp)
  rw [toList_madeCells_one] at h
  exact ⟨[], rfl, Nat.zero_le _, List.nodup_nil, h, fun g hg => by simp at hg, fun k hk => by simp at hk⟩
/-- Where the next row goes. -/
theorem HalfR.next {B : Nat} {w : World} {b i M n : Nat} {D : Nat → Nat → Int} (h : HalfR B w (.slice (some ⟨b, 0, none⟩) M M) i M n D) (hi : i < M) :
    w.cell? ⟨b, i, none⟩ = some (.slice none 0 0) ∧ w.frozen? ⟨b, i, none⟩ = false ∧ B ≤ b := by
  obtain ⟨gs, h1, h0, h2, h3, h4, h5⟩ := h
  refine ⟨?_, World.ownsRow.frozenAt h3 i, ?_⟩
  · rw [World.ownsRow.cellAt h3 i (by omega), List.getElem?_append_right (by simp; omega)]
    rw [List.length_map, h1, Nat.sub_self, List.getElem?_replicate, if_pos (by omega)]
  · obtain ⟨-, ⟨h, -⟩ | ⟨g, cap, cur, h, hB, -⟩⟩ := h3
    · simp at h
    · simp only [Value.slice.injEq, Option.some.injEq, Addr.mk.injEq, and_true] at h
      rw [h.1]; exact hB
/-- A row more. -/
theorem HalfR.make {B : Nat} {w w1 : World} {b g i M n : Nat} {D : Nat → Nat → Int} (h : HalfR B w (.slice (some ⟨b, 0, none⟩) M M) i M n D) (hi : i < M) (e : Ext w w1) (hg : w.heap.size ≤ g) (hB : B ≤ w.heap.size) {f : Nat → Int} (hb : IntBlock w1 g (rowL n f)) :
    HalfR B (w1.setCell ⟨b, i, none⟩ (rowV n g)) (.slice (some ⟨b, 0, none⟩) M M) (i + 1) M n (fun a => if a = i then f else D a) := by
  have hbw : b < w.heap.size := World.block_lt_of_cell? _ _ (h.next hi).1
  obtain ⟨gs, h1, h0, h2, h3, h4, h5⟩ := h
  subst h1
  have hst := (World.ownsRow.stored (ownsRow_ext h3 e) gs.length (rowV n g)).1
  have hset : (gs.map (rowV n) ++ List.replicate (M - gs.length) (Value.slice none 0 0)).set gs.length (rowV n g) = (gs ++ [g]).map (rowV n) ++ List.replicate (M - (gs.length + 1)) (.slice none 0 0) := by
    obtain ⟨m, hm⟩ : ∃ m, M - gs.length = m + 1 := ⟨M - gs.length - 1, by omega⟩
    have hm2 : M - (gs.length + 1) = m := by omega
    rw [hm, hm2, List.set_append_right _ _ (by simp), List.length_map, Nat.sub_self, List.replicate_succ, List.set_cons_zero, List.map_append, List.append_assoc]
    rfl
  rw [hset] at hst
  have hgl := hb.lt
  refine ⟨gs ++ [g], by simp, by omega, ?_, hst, ?_, ?_⟩
  · rw [List.nodup_append]
    refine ⟨h2, by simp, fun a ha b' hb' => ?_⟩
    simp at hb'
    subst hb'
    have := (h4 a ha).2.2
    omega
  · intro x hx
    rcases List.mem_append.1 hx with hx | hx
    · refine ⟨(h4 x hx).1, (h4 x hx).2.1, ?_⟩
      have := (h4 x hx).2.2
      have := e.size
      simp; omega
    · simp at hx
      subst hx
      refine ⟨by omega, ?_, by simpa using hgl⟩
      simp only [Value.ownBlock, ne_eq, Option.some.injEq]
      omega
  · intro k hk
    by_cases hik : k < gs.length
    · have e1 : (gs ++ [g])[k] = gs[k] := List.getElem_append_left hik
      show IntBlock _ (gs ++ [g])[k] (rowL n (if k = gs.length then f else D k))
      rw [if_neg (by omega), e1]
      refine ((h5 k hik).ext e).other (fun h => ?_) _ _
      have := (h4 _ (List.getElem_mem hik)).2.1
      rw [← h] at this
      exact this rfl
    · have hi2 : k = gs.length := by simp at hk; omega
      subst hi2
      have e1 : (gs ++ [g])[gs.length]'hk = g := by simp
      show IntBlock _ ((gs ++ [g])[gs.length]'hk) (rowL n (if gs.length = gs.length then f else D gs.length))
      rw [if_pos rfl, e1]
      exact hb.other (by omega) _ _
/-- A row that is made: where it is, and that it may be written. -/
theorem HalfR.row {B : Nat} {w : World} {b i M n : Nat} {D : Nat → Nat → Int} (h : HalfR B w (.slice (some ⟨b, 0, none⟩) M M) i M n D) {k : Nat} (hk : k < i) :
    ∃ g, w.cell? ⟨b, k, none⟩ = some (.slice (some ⟨g, 0, none⟩) n n) ∧ IntBlock w g (rowL n (D k)) ∧ B ≤ g ∧ b ≠ g ∧
      (∀ k2, k2 < i → k2 ≠ k → ∃ g2, g2 ≠ g ∧ w.cell? ⟨b, k2, none⟩ = some (.slice (some ⟨g2, 0, none⟩) n n) ∧ IntBlock w g2 (rowL n (D k2))) ∧
      ∀ (j : Nat) (x : Int), j < n → HalfR B (w.setCell ⟨g, j, none⟩ (.int .i64 x)) (.slice (some ⟨b, 0, none⟩) M M) i M n (updM D k j x) := by
  obtain ⟨gs, h1, h0, h2, h3, h4, h5⟩ := h
  subst h1
  have cellAt : ∀ a, (ha : a < gs.length) → w.cell? ⟨b, a, none⟩ = some (rowV n gs[a]) := by
    intro a ha
    rw [World.ownsRow.cellAt h3 a (by omega), List.getElem?_append_left (by simpa using ha), List.getElem?_map, List.getElem?_eq_getElem ha]; rfl
  have hc := cellAt k hk
  have hne : b ≠ gs[k] := fun e => (h4 gs[k] (List.getElem_mem hk)).2.1 (by rw [← e]; rfl)
  refine ⟨gs[k], hc, h5 k hk, (h4 _ (List.getElem_mem hk)).1, hne, fun k2 hk2 hne2 => ⟨gs[k2], fun h => hne2 ((List.getElem_inj h2).1 h), cellAt k2 hk2, h5 k2 hk2⟩, fun j x hj => ?_⟩
  refine ⟨gs, rfl, h0, h2, ownsRow_setCell_other h3 (a := ⟨gs[k], j, none⟩) ?_ _, fun g hg => ⟨(h4 g hg).1, (h4 g hg).2.1, by have := (h4 g hg).2.2; simpa using this⟩, fun a ha => ?_⟩
  · exact (h4 _ (List.getElem_mem hk)).2.1
  · by_cases e : a = k
    · subst e
      have := (h5 a ha).set j x
      rw [rowL_set] at this
      have e2 : updM D a j x a = updF (D a) j x := by unfold updM; rw [if_pos rfl]
      rw [e2]; exact this
    · have e2 : updM D k j x a = D a := by unfold updM; rw [if_neg e]
      rw [e2]
      exact (h5 a ha).other (fun h => e ((List.getElem_inj h2).1 h).symm) _ _

end Go.Proofs.YtkbkgkmogbkabaaDoor
