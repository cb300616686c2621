/-
  Contracts of turns.Plan.atLeast, of the closure of turns.Covers, and of turns.Covers.
-/
import Derived.Test.YtkdfbbkonbgfmaaStableTop
import Derived.Test.YtkdfbbkonbgfmaaSidesPlain
import Derived.Test.YtkdfbbkonbgfmaaPairs
namespace Go.Proofs.Ytkdfbbkonbgfmaa
open Go.RowKit

theorem leM_succ {p : PlanD} {a b : List Int} {k : Nat} (h : ∀ x : Nat, x < k → rankP (rowAt p.hands x) (fn a x) ≤ rankP (rowAt p.hands x) (fn b x)) (e : rankP (rowAt p.hands k) (fn a k) ≤ rankP (rowAt p.hands k) (fn b k)) :
    ∀ x : Nat, x < k + 1 → rankP (rowAt p.hands x) (fn a x) ≤ rankP (rowAt p.hands x) (fn b x) := by
  intro x hx
  rcases Nat.lt_or_ge x k with h' | h'
  · exact h x h'
  · obtain rfl : x = k := by omega
    exact e

set_option maxRecDepth 20000 in
set_option maxHeartbeats 4000000 in
theorem atLeast_any (vh vs vp va vb : Value) (p : PlanD) (a b : List Int) (w : World) (hp : PlanR w vh vs vp p) (hva : Ints w va a) (hvb : Ints w vb b) (h1 : 1 ≤ p.hands.length) (hla : a.length = p.hands.length) (hlb : b.length = p.hands.length) :
    Calls Try.prog 73 #[.agg #[vh, vs, vp], va, vb] w fun e w' => e = .returned (.bool (leB p a b)) ∧ Ext w w' := by
  obtain ⟨aoh, caph, aos, caps, aop, capp, rfl, rfl, rfl⟩ := planR_shape hp
  have HP := hid hp
  have HA := hid hva
  have HB := hid hvb
  have Hla := hid hla
  have Hlb := hid hlb
  have hpl := hp.1.1
  obtain ⟨-, aoa, capa, rfl, -⟩ := id hva
  obtain ⟨-, aob, capb, rfl, -⟩ := id hvb
  obtain ⟨ba, oa, rfl, -⟩ := hva.get 0 (by omega)
  obtain ⟨bb, ob, rfl, -⟩ := hvb.get 0 (by omega)
  obtain ⟨bh, oh, -, -, rfl, -, -⟩ := hp.1.at 0 (by omega) (by omega)
  have e0 := hid (Ext.ofAlloc w (.cells #[.slice (some ⟨bh, oh, none⟩) p.hands.length caph, .slice aos p.shifts.length caps, .slice aop p.places.length capp] 29))
  clear hp hva hvb hla hlb
  go_enter Try.func73, Try.ntmps73
  go_wp2
  generalize w.alloc (.cells #[.slice (some ⟨bh, oh, none⟩) p.hands.length caph, .slice aos p.shifts.length caps, .slice aop p.places.length capp] 29) = W at *
  go_loopg [12] p.hands.length (fun g i wr => ∃ k : Nat, k + g = p.hands.length ∧ i = .int .i64 k ∧ Hid (∀ x : Nat, x < k → rankP (rowAt p.hands x) (fn a x) ≤ rankP (rowAt p.hands x) (fn b x)) ∧ Hid (Ext W wr))
  case atStart => exact ⟨0, by omega, rfl, fun x hx => by omega, Ext.refl _⟩
  case round =>
    obtain ⟨h, hk, rfl, G, E⟩ := hrel
    have hkl : h ≤ p.hands.length := by omega
    have Hk := hid hk
    clear hk
    by_cases hlt : h < p.hands.length
    · obtain ⟨-, ar, cr, hrow, hri⟩ := HP.out.1.row h hlt
      have dr := hrow _ (e0.out.trans E.out)
      have Hrh := hid hri
      have da := (HA.out.get' h (by have := Hla.out; omega)).2 _ (e0.out.trans E.out)
      have db := (HB.out.get' h (by have := Hlb.out; omega)).2 _ (e0.out.trans E.out)
      have hh0 : (0 : Int) ≤ (h : Int) := by omega
      have ha1 : (h : Int) < a.length := by have := Hla.out; omega
      have hb1 : (h : Int) < b.length := by have := Hlb.out; omega
      clear hrow hri
      go_wp2
      clear dr
      by_cases hle : rankP (rowAt p.hands h) (fn a h) ≤ rankP (rowAt p.hands h) (fn b h)
      · have G2 := hid (leM_succ G.out hle)
        have hd : ¬ rankP (rowAt p.hands h) (fn b h) < rankP (rowAt p.hands h) (fn a h) := by omega
        refine wp_region_held_drew (S := (fun w' => w'.cell? ⟨ba, oa + h, none⟩ = some (.int .i64 (fn a h)) ∧ w'.cell? ⟨bb, ob + h, none⟩ = some (.int .i64 (fn b h)))) (by kernel_rfl) ?hSa0 (fun hHeld => ?_)
        case hSa0 => (first | (exact ⟨da, db⟩) | ((try dsimp only); exact ⟨da, db⟩))
        refine wpAnyH_tk 0 (v := ?va0) rfl (by kernel_rfl) (by kernel_rfl) (by kernel_rfl) (fun _ _ _ h => h) (by rfl) ?hya0 (by assumption) ?_
        case hya0 => (intro w hSw; (try dsimp only at hSw); go_simp <;> with_reducible rfl)
        (try simp only [Act.put, List.setIfInBounds_toArray, List.set_cons_zero, List.set_cons_succ])
        refine wpAnyH_tk 1 (v := ?va1) rfl (by kernel_rfl) (by kernel_rfl) (by kernel_rfl) (fun _ _ _ h => h) (by rfl) ?hya1 (by assumption) ?_
        case hya1 => (intro w hSw; (try dsimp only at hSw); go_simp <;> with_reducible rfl)
        (try simp only [Act.put, List.setIfInBounds_toArray, List.set_cons_zero, List.set_cons_succ])
        refine wpAnyH_tk 2 (v := ?va2) rfl (by kernel_rfl) (by kernel_rfl) (by kernel_rfl) (fun _ _ _ h => h) (by rfl) ?hya2 (by assumption) ?_
        case hya2 => (intro w hSw; (try dsimp only at hSw); go_simp <;> with_reducible rfl)
        (try simp only [Act.put, List.setIfInBounds_toArray, List.set_cons_zero, List.set_cons_succ])
        refine wpAnyH_tk 3 (v := ?va3) rfl (by kernel_rfl) (by kernel_rfl) (by kernel_rfl) (fun _ _ _ h => h) (by rfl) ?hya3 (by assumption) ?_
        case hya3 => (intro w hSw; (try dsimp only at hSw); go_simp <;> with_reducible rfl)
        (try simp only [Act.put, List.setIfInBounds_toArray, List.set_cons_zero, List.set_cons_succ])
        refine wpAnyH_tk 4 (v := ?va4) rfl (by kernel_rfl) (by kernel_rfl) (by kernel_rfl) (fun _ _ _ h => h) (by rfl) ?hya4 (by assumption) ?_
        case hya4 => (intro w hSw; (try dsimp only at hSw); go_simp <;> with_reducible rfl)
        (try simp only [Act.put, List.setIfInBounds_toArray, List.set_cons_zero, List.set_cons_succ])
        refine wpAnyH_tk 6 (v := ?va6) rfl (by kernel_rfl) (by kernel_rfl) (by kernel_rfl) (fun _ _ _ h => h) (by rfl) ?hya6 (by assumption) ?_
        case hya6 => (intro w hSw; (try dsimp only at hSw); go_simp <;> with_reducible rfl)
        (try simp only [Act.put, List.setIfInBounds_toArray, List.set_cons_zero, List.set_cons_succ])
        refine wpAnyH_tk 7 (v := ?va7) rfl (by kernel_rfl) (by kernel_rfl) (by kernel_rfl) (fun _ _ _ h => h) (by rfl) ?hya7 (by assumption) ?_
        case hya7 => (intro w hSw; (try dsimp only at hSw); go_simp <;> with_reducible rfl)
        (try simp only [Act.put, List.setIfInBounds_toArray, List.set_cons_zero, List.set_cons_succ])
        refine wpAnyH_tk 8 (v := ?va8) rfl (by kernel_rfl) (by kernel_rfl) (by kernel_rfl) (fun _ _ _ h => h) (by rfl) ?hya8 (by assumption) ?_
        case hya8 => (intro w hSw; (try dsimp only at hSw); go_simp <;> with_reducible rfl)
        (try simp only [Act.put, List.setIfInBounds_toArray, List.set_cons_zero, List.set_cons_succ])
        refine wpAnyH_tk 9 (v := ?va9) rfl (by kernel_rfl) (by kernel_rfl) (by kernel_rfl) (fun _ _ _ h => h) (by rfl) ?hya9 (by assumption) ?_
        case hya9 => (intro w hSw; (try dsimp only at hSw); go_simp <;> with_reducible rfl)
        (try simp only [Act.put, List.setIfInBounds_toArray, List.set_cons_zero, List.set_cons_succ])
        refine wpAnyH_tk 10 (v := ?va10) rfl (by kernel_rfl) (by kernel_rfl) (by kernel_rfl) (fun _ _ _ h => h) (by rfl) ?hya10 (by assumption) ?_
        case hya10 => (intro w hSw; (try dsimp only at hSw); go_simp <;> with_reducible rfl)
        (try simp only [Act.put, List.setIfInBounds_toArray, List.set_cons_zero, List.set_cons_succ])
        refine wpAnyH_one 5 rfl (by kernel_rfl) (by rfl) (fun K hK => ?_)
        go_simp
        (go_at_call 80; refine (rank_any _ (rowAt p.hands h) (fn a h) _ (Hrh.out.ext (e0.out.trans E.out).drew)).mono ?_; rintro e w' ⟨rfl, rfl⟩)
        refine hK.out _ _ ?hSa6 (fun hHeld => ?_)
        case hSa6 => (first | (exact ⟨da, db⟩) | ((try dsimp only); exact ⟨da, db⟩))
        clear hK K
        (try simp only [Act.put, List.setIfInBounds_toArray, List.set_cons_zero, List.set_cons_succ])
        refine wpAnyH_one 11 rfl (by kernel_rfl) (by rfl) (fun K hK => ?_)
        go_simp
        (go_at_call 80; refine (rank_any _ (rowAt p.hands h) (fn b h) _ (Hrh.out.ext (e0.out.trans E.out).drew)).mono ?_; rintro e w' ⟨rfl, rfl⟩)
        refine hK.out _ _ ?hSa12 (fun hHeld => ?_)
        case hSa12 => (first | (exact ⟨da, db⟩) | ((try dsimp only); exact ⟨da, db⟩))
        clear hK K
        (try simp only [Act.put, List.setIfInBounds_toArray, List.set_cons_zero, List.set_cons_succ])
        refine wpAnyH_tk 12 (v := ?va12) rfl (by kernel_rfl) (by kernel_rfl) (by kernel_rfl) (fun _ _ _ h => h) (by rfl) ?hya12 (by assumption) ?_
        case hya12 => (intro w hSw; (try dsimp only at hSw); go_simp <;> with_reducible rfl)
        (try simp only [Act.put, List.setIfInBounds_toArray, List.set_cons_zero, List.set_cons_succ])
        refine wpAnyH_done (by kernel_rfl) ?_ _
        clear da db
        go_wp2
        go_roundg (gk - 1)
        case rel => exact ⟨h + 1, by have := Hk.out; omega, by go_num, G2.out, E.out.drew⟩
        case measure => have := Hk.out; omega
      · have Hf : Hid (leB p a b = false) := leB_no (fun hl => hle (hl h hlt))
        have hd : rankP (rowAt p.hands h) (fn b h) < rankP (rowAt p.hands h) (fn a h) := by omega
        refine wp_region_held_drew (S := (fun w' => w'.cell? ⟨ba, oa + h, none⟩ = some (.int .i64 (fn a h)) ∧ w'.cell? ⟨bb, ob + h, none⟩ = some (.int .i64 (fn b h)))) (by kernel_rfl) ?hSb0 (fun hHeld => ?_)
        case hSb0 => (first | (exact ⟨da, db⟩) | ((try dsimp only); exact ⟨da, db⟩))
        refine wpAnyH_tk 0 (v := ?vb0) rfl (by kernel_rfl) (by kernel_rfl) (by kernel_rfl) (fun _ _ _ h => h) (by rfl) ?hyb0 (by assumption) ?_
        case hyb0 => (intro w hSw; (try dsimp only at hSw); go_simp <;> with_reducible rfl)
        (try simp only [Act.put, List.setIfInBounds_toArray, List.set_cons_zero, List.set_cons_succ])
        refine wpAnyH_tk 1 (v := ?vb1) rfl (by kernel_rfl) (by kernel_rfl) (by kernel_rfl) (fun _ _ _ h => h) (by rfl) ?hyb1 (by assumption) ?_
        case hyb1 => (intro w hSw; (try dsimp only at hSw); go_simp <;> with_reducible rfl)
        (try simp only [Act.put, List.setIfInBounds_toArray, List.set_cons_zero, List.set_cons_succ])
        refine wpAnyH_tk 2 (v := ?vb2) rfl (by kernel_rfl) (by kernel_rfl) (by kernel_rfl) (fun _ _ _ h => h) (by rfl) ?hyb2 (by assumption) ?_
        case hyb2 => (intro w hSw; (try dsimp only at hSw); go_simp <;> with_reducible rfl)
        (try simp only [Act.put, List.setIfInBounds_toArray, List.set_cons_zero, List.set_cons_succ])
        refine wpAnyH_tk 3 (v := ?vb3) rfl (by kernel_rfl) (by kernel_rfl) (by kernel_rfl) (fun _ _ _ h => h) (by rfl) ?hyb3 (by assumption) ?_
        case hyb3 => (intro w hSw; (try dsimp only at hSw); go_simp <;> with_reducible rfl)
        (try simp only [Act.put, List.setIfInBounds_toArray, List.set_cons_zero, List.set_cons_succ])
        refine wpAnyH_tk 4 (v := ?vb4) rfl (by kernel_rfl) (by kernel_rfl) (by kernel_rfl) (fun _ _ _ h => h) (by rfl) ?hyb4 (by assumption) ?_
        case hyb4 => (intro w hSw; (try dsimp only at hSw); go_simp <;> with_reducible rfl)
        (try simp only [Act.put, List.setIfInBounds_toArray, List.set_cons_zero, List.set_cons_succ])
        refine wpAnyH_tk 6 (v := ?vb6) rfl (by kernel_rfl) (by kernel_rfl) (by kernel_rfl) (fun _ _ _ h => h) (by rfl) ?hyb6 (by assumption) ?_
        case hyb6 => (intro w hSw; (try dsimp only at hSw); go_simp <;> with_reducible rfl)
        (try simp only [Act.put, List.setIfInBounds_toArray, List.set_cons_zero, List.set_cons_succ])
        refine wpAnyH_tk 7 (v := ?vb7) rfl (by kernel_rfl) (by kernel_rfl) (by kernel_rfl) (fun _ _ _ h => h) (by rfl) ?hyb7 (by assumption) ?_
        case hyb7 => (intro w hSw; (try dsimp only at hSw); go_simp <;> with_reducible rfl)
        (try simp only [Act.put, List.setIfInBounds_toArray, List.set_cons_zero, List.set_cons_succ])
        refine wpAnyH_tk 8 (v := ?vb8) rfl (by kernel_rfl) (by kernel_rfl) (by kernel_rfl) (fun _ _ _ h => h) (by rfl) ?hyb8 (by assumption) ?_
        case hyb8 => (intro w hSw; (try dsimp only at hSw); go_simp <;> with_reducible rfl)
        (try simp only [Act.put, List.setIfInBounds_toArray, List.set_cons_zero, List.set_cons_succ])
        refine wpAnyH_tk 9 (v := ?vb9) rfl (by kernel_rfl) (by kernel_rfl) (by kernel_rfl) (fun _ _ _ h => h) (by rfl) ?hyb9 (by assumption) ?_
        case hyb9 => (intro w hSw; (try dsimp only at hSw); go_simp <;> with_reducible rfl)
        (try simp only [Act.put, List.setIfInBounds_toArray, List.set_cons_zero, List.set_cons_succ])
        refine wpAnyH_tk 10 (v := ?vb10) rfl (by kernel_rfl) (by kernel_rfl) (by kernel_rfl) (fun _ _ _ h => h) (by rfl) ?hyb10 (by assumption) ?_
        case hyb10 => (intro w hSw; (try dsimp only at hSw); go_simp <;> with_reducible rfl)
        (try simp only [Act.put, List.setIfInBounds_toArray, List.set_cons_zero, List.set_cons_succ])
        refine wpAnyH_one 5 rfl (by kernel_rfl) (by rfl) (fun K hK => ?_)
        go_simp
        (go_at_call 80; refine (rank_any _ (rowAt p.hands h) (fn a h) _ (Hrh.out.ext (e0.out.trans E.out).drew)).mono ?_; rintro e w' ⟨rfl, rfl⟩)
        refine hK.out _ _ ?hSb6 (fun hHeld => ?_)
        case hSb6 => (first | (exact ⟨da, db⟩) | ((try dsimp only); exact ⟨da, db⟩))
        clear hK K
        (try simp only [Act.put, List.setIfInBounds_toArray, List.set_cons_zero, List.set_cons_succ])
        refine wpAnyH_one 11 rfl (by kernel_rfl) (by rfl) (fun K hK => ?_)
        go_simp
        (go_at_call 80; refine (rank_any _ (rowAt p.hands h) (fn b h) _ (Hrh.out.ext (e0.out.trans E.out).drew)).mono ?_; rintro e w' ⟨rfl, rfl⟩)
        refine hK.out _ _ ?hSb12 (fun hHeld => ?_)
        case hSb12 => (first | (exact ⟨da, db⟩) | ((try dsimp only); exact ⟨da, db⟩))
        clear hK K
        (try simp only [Act.put, List.setIfInBounds_toArray, List.set_cons_zero, List.set_cons_succ])
        refine wpAnyH_tk 12 (v := ?vb12) rfl (by kernel_rfl) (by kernel_rfl) (by kernel_rfl) (fun _ _ _ h => h) (by rfl) ?hyb12 (by assumption) ?_
        case hyb12 => (intro w hSw; (try dsimp only at hSw); go_simp <;> with_reducible rfl)
        (try simp only [Act.put, List.setIfInBounds_toArray, List.set_cons_zero, List.set_cons_succ])
        refine wpAnyH_done (by kernel_rfl) ?_ _
        clear da db
        go_wp2
        go_ret
        exact ⟨ret_bool Hf.out.symm, e0.out.trans E.out.drew⟩
    · have Hf : Hid (leB p a b = true) := leB_iff.2 (fun x hx => G.out x (by omega))
      go_wp2
      go_ret
      exact ⟨ret_bool Hf.out.symm, e0.out.trans E.out⟩

/-- Of two in a list: the first is at least as good, and not the same. -/
noncomputable def overL (p : PlanD) (L : List (List Int)) (i j : Nat) : Bool := decide (i ≠ j) && leB p (rowAt L i) (rowAt L j)
/-- Nothing among the first n lies between. -/
noncomputable def midTo (p : PlanD) (L : List (List Int)) (i j n : Nat) : Bool := (List.range n).any (fun k => overL p L i k && overL p L k j)
noncomputable def covB (p : PlanD) (L : List (List Int)) (i j : Nat) : Bool := overL p L i j && !midTo p L i j L.length
theorem midTo_succ (p : PlanD) (L : List (List Int)) (i j n : Nat) : midTo p L i j (n + 1) = (midTo p L i j n || (overL p L i n && overL p L n j)) := by
  unfold midTo; rw [List.range_succ, List.any_append]; simp
theorem midTo_hit {p : PlanD} {L : List (List Int)} {i j n : Nat} (hn : n < L.length) (h : (overL p L i n && overL p L n j) = true) : midTo p L i j L.length = true := by
  unfold midTo; rw [List.any_eq_true]; exact ⟨n, List.mem_range.2 hn, h⟩

/-- Pairs that a test lets by, row by row. -/
def prRow (P : Nat → Nat → Bool) (i k : Nat) : List (Int × Int) := ((List.range k).filter (P i)).map (fun s : Nat => ((i : Int), (s : Int)))
def prTo (P : Nat → Nat → Bool) (n j : Nat) : List (Int × Int) := (List.range j).flatMap (fun i => prRow P i n)
theorem prRow_yes {P : Nat → Nat → Bool} {i k : Nat} (e : P i k = true) : prRow P i (k + 1) = prRow P i k ++ [((i : Int), (k : Int))] := by
  unfold prRow; rw [List.range_succ, List.filter_append, List.map_append]; simp [e]
theorem prRow_no {P : Nat → Nat → Bool} {i k : Nat} (e : P i k = false) : prRow P i (k + 1) = prRow P i k := by
  unfold prRow; rw [List.range_succ, List.filter_append, List.map_append]; simp [e]
theorem prTo_succ {P : Nat → Nat → Bool} {n j : Nat} : prTo P n (j + 1) = prTo P n j ++ prRow P j n := by
  unfold prTo; rw [List.range_succ, List.flatMap_append, List.flatMap_singleton]
theorem prRow_len {P : Nat → Nat → Bool} {i k : Nat} : (prRow P i k).length ≤ k := by
  unfold prRow; rw [List.length_map]
  exact Nat.le_trans (List.length_filter_le _ _) (by simp)
theorem prTo_len {P : Nat → Nat → Bool} {n j : Nat} : (prTo P n j).length ≤ j * n := by
  unfold prTo
  have := flatMap_len (f := fun i => prRow P i n) (c := n) (List.range j) (fun x _ => prRow_len)
  rwa [List.length_range] at this
theorem prSum_len {P : Nat → Nat → Bool} {n j k : Nat} (hn : n ≤ 15625) (hj : j < n) (hk : k ≤ n) : (prTo P n j ++ prRow P j k).length ≤ 1000000000 := by
  rw [List.length_append]
  have h1 := prTo_len (P := P) (n := n) (j := j)
  have h2 := prRow_len (P := P) (i := j) (k := k)
  have h3 : j * n ≤ 15625 * 15625 := Nat.mul_le_mul (by omega) hn
  omega

set_option maxRecDepth 20000 in
set_option maxHeartbeats 4000000 in
theorem overL_any (vh vs vp : Value) (p : PlanD) (L : List (List Int)) (i j bx bl bL oL cL : Nat) (w : World) (hp : PlanR w vh vs vp p) (hbx : Box3 w bx 29 vh vs vp)
    (hcl : w.cell? ⟨bl, 0, none⟩ = some (.slice (some ⟨bL, oL, none⟩) L.length cL)) (hL : Rows2 w (.slice (some ⟨bL, oL, none⟩) L.length cL) L) (hp1 : 1 ≤ p.hands.length) (hln : ∀ k, k < L.length → (rowAt L k).length = p.hands.length) (hi : i < L.length) (hj : j < L.length) :
    Calls Try.prog 72 #[.int .i64 i, .int .i64 j, .pointer (some ⟨bx, 0, none⟩), .pointer (some ⟨bl, 0, none⟩)] w fun e w' => e = .returned (.bool (overL p L i j)) ∧ Ext w w' := by
  obtain ⟨aoh, caph, aos, caps, aop, capp, rfl, rfl, rfl⟩ := planR_shape hp
  have HP := hid hp
  obtain ⟨c0, c1, c2⟩ := hbx.cells
  have cl := hcl
  obtain ⟨-, ari, cri, hrowi, hrii⟩ := hL.row i hi
  obtain ⟨-, arj, crj, hrowj, hrij⟩ := hL.row j hj
  have di := hrowi _ (Ext.refl _)
  have dj := hrowj _ (Ext.refl _)
  have HI := hid hrii
  have HJ := hid hrij
  have hli : Hid ((rowAt L i).length = p.hands.length) := hln i hi
  have hlj : Hid ((rowAt L j).length = p.hands.length) := hln j hj
  have hi0 : (0 : Int) ≤ (i : Int) := by omega
  have hj0 : (0 : Int) ≤ (j : Int) := by omega
  have hi1 : (i : Int) < L.length := by omega
  have hj1 : (j : Int) < L.length := by omega
  clear hp hbx hcl hL hrowi hrowj hrii hrij hln
  by_cases e : i = j
  · have Hf : Hid (overL p L i j = false) := by show _ = _; unfold overL; rw [decide_eq_false (by simpa using e)]; rfl
    have he : ((i : Int) != (j : Int)) = false := by rw [e]; simp
    clear e
    go_enter Try.func72, Try.ntmps72
    go_wp2
    go_quiet (fail)
    go_wp2
    go_ret
    exact ⟨ret_bool Hf.out.symm, (Ext.refl _).drewN _⟩
  · have Hf : Hid (overL p L i j = leB p (rowAt L i) (rowAt L j)) := by show _ = _; unfold overL; rw [decide_eq_true (by simpa using e)]; rfl
    have he : ((i : Int) != (j : Int)) = true := by rw [bne_iff_ne]; omega
    clear e
    go_enter Try.func72, Try.ntmps72
    go_wp2
    refine wp_region_held_drew (S := (fun w' => w'.cell? ⟨bx, 0, none⟩ = some (.slice aoh p.hands.length caph) ∧ w'.cell? ⟨bx, 1, none⟩ = some (.slice aos p.shifts.length caps) ∧ w'.cell? ⟨bx, 2, none⟩ = some (.slice aop p.places.length capp) ∧ w'.cell? ⟨bl, 0, none⟩ = some (.slice (some ⟨bL, oL, none⟩) L.length cL) ∧ w'.cell? ⟨bL, oL + i, none⟩ = some (.slice ari (rowAt L i).length cri) ∧ w'.cell? ⟨bL, oL + j, none⟩ = some (.slice arj (rowAt L j).length crj))) (by kernel_rfl) ?hSc0 (fun hHeld => ?_)
    case hSc0 => (first | (first | exact ⟨c0, c1, c2, cl, di, dj⟩ | exact ⟨he5.cell c0, he5.cell c1, he5.cell c2, he5.cell cl, he5.cell di, he5.cell dj⟩) | ((try dsimp only); first | exact ⟨c0, c1, c2, cl, di, dj⟩ | exact ⟨he5.cell c0, he5.cell c1, he5.cell c2, he5.cell cl, he5.cell di, he5.cell dj⟩))
    refine wpAnyH_tk 0 (v := ?vc0) rfl (by kernel_rfl) (by kernel_rfl) (by kernel_rfl) (fun _ _ _ h => h) (by rfl) ?hyc0 (by assumption) ?_
    case hyc0 => (intro w hSw; (try dsimp only at hSw); go_simp <;> with_reducible rfl)
    (try simp only [Act.put, List.setIfInBounds_toArray, List.set_cons_zero, List.set_cons_succ])
    refine wpAnyH_tk 1 (v := ?vc1) rfl (by kernel_rfl) (by kernel_rfl) (by kernel_rfl) (fun _ _ _ h => h) (by rfl) ?hyc1 (by assumption) ?_
    case hyc1 => (intro w hSw; (try dsimp only at hSw); go_simp <;> with_reducible rfl)
    (try simp only [Act.put, List.setIfInBounds_toArray, List.set_cons_zero, List.set_cons_succ])
    refine wpAnyH_tk 2 (v := ?vc2) rfl (by kernel_rfl) (by kernel_rfl) (by kernel_rfl) (fun _ _ _ h => h) (by rfl) ?hyc2 (by assumption) ?_
    case hyc2 => (intro w hSw; (try dsimp only at hSw); go_simp <;> with_reducible rfl)
    (try simp only [Act.put, List.setIfInBounds_toArray, List.set_cons_zero, List.set_cons_succ])
    refine wpAnyH_tk 3 (v := ?vc3) rfl (by kernel_rfl) (by kernel_rfl) (by kernel_rfl) (fun _ _ _ h => h) (by rfl) ?hyc3 (by assumption) ?_
    case hyc3 => (intro w hSw; (try dsimp only at hSw); go_simp <;> with_reducible rfl)
    (try simp only [Act.put, List.setIfInBounds_toArray, List.set_cons_zero, List.set_cons_succ])
    refine wpAnyH_tk 4 (v := ?vc4) rfl (by kernel_rfl) (by kernel_rfl) (by kernel_rfl) (fun _ _ _ h => h) (by rfl) ?hyc4 (by assumption) ?_
    case hyc4 => (intro w hSw; (try dsimp only at hSw); go_simp <;> with_reducible rfl)
    (try simp only [Act.put, List.setIfInBounds_toArray, List.set_cons_zero, List.set_cons_succ])
    refine wpAnyH_tk 5 (v := ?vc5) rfl (by kernel_rfl) (by kernel_rfl) (by kernel_rfl) (fun _ _ _ h => h) (by rfl) ?hyc5 (by assumption) ?_
    case hyc5 => (intro w hSw; (try dsimp only at hSw); go_simp <;> with_reducible rfl)
    (try simp only [Act.put, List.setIfInBounds_toArray, List.set_cons_zero, List.set_cons_succ])
    refine wpAnyH_tk 6 (v := ?vc6) rfl (by kernel_rfl) (by kernel_rfl) (by kernel_rfl) (fun _ _ _ h => h) (by rfl) ?hyc6 (by assumption) ?_
    case hyc6 => (intro w hSw; (try dsimp only at hSw); go_simp <;> with_reducible rfl)
    (try simp only [Act.put, List.setIfInBounds_toArray, List.set_cons_zero, List.set_cons_succ])
    refine wpAnyH_tk 7 (v := ?vc7) rfl (by kernel_rfl) (by kernel_rfl) (by kernel_rfl) (fun _ _ _ h => h) (by rfl) ?hyc7 (by assumption) ?_
    case hyc7 => (intro w hSw; (try dsimp only at hSw); go_simp <;> with_reducible rfl)
    (try simp only [Act.put, List.setIfInBounds_toArray, List.set_cons_zero, List.set_cons_succ])
    refine wpAnyH_tk 8 (v := ?vc8) rfl (by kernel_rfl) (by kernel_rfl) (by kernel_rfl) (fun _ _ _ h => h) (by rfl) ?hyc8 (by assumption) ?_
    case hyc8 => (intro w hSw; (try dsimp only at hSw); go_simp <;> with_reducible rfl)
    (try simp only [Act.put, List.setIfInBounds_toArray, List.set_cons_zero, List.set_cons_succ])
    refine wpAnyH_tk 9 (v := ?vc9) rfl (by kernel_rfl) (by kernel_rfl) (by kernel_rfl) (fun _ _ _ h => h) (by rfl) ?hyc9 (by assumption) ?_
    case hyc9 => (intro w hSw; (try dsimp only at hSw); go_simp <;> with_reducible rfl)
    (try simp only [Act.put, List.setIfInBounds_toArray, List.set_cons_zero, List.set_cons_succ])
    refine wpAnyH_tk 10 (v := ?vc10) rfl (by kernel_rfl) (by kernel_rfl) (by kernel_rfl) (fun _ _ _ h => h) (by rfl) ?hyc10 (by assumption) ?_
    case hyc10 => (intro w hSw; (try dsimp only at hSw); go_simp <;> with_reducible rfl)
    (try simp only [Act.put, List.setIfInBounds_toArray, List.set_cons_zero, List.set_cons_succ])
    refine wpAnyH_tk 11 (v := ?vc11) rfl (by kernel_rfl) (by kernel_rfl) (by kernel_rfl) (fun _ _ _ h => h) (by rfl) ?hyc11 (by assumption) ?_
    case hyc11 => (intro w hSw; (try dsimp only at hSw); go_simp <;> with_reducible rfl)
    (try simp only [Act.put, List.setIfInBounds_toArray, List.set_cons_zero, List.set_cons_succ])
    refine wpAnyH_tk 12 (v := ?vc12) rfl (by kernel_rfl) (by kernel_rfl) (by kernel_rfl) (fun _ _ _ h => h) (by rfl) ?hyc12 (by assumption) ?_
    case hyc12 => (intro w hSw; (try dsimp only at hSw); go_simp <;> with_reducible rfl)
    (try simp only [Act.put, List.setIfInBounds_toArray, List.set_cons_zero, List.set_cons_succ])
    refine wpAnyH_one 13 rfl (by kernel_rfl) (by rfl) (fun K hK => ?_)
    go_simp
    (go_at_call 73; refine (atLeast_any _ _ _ _ _ p (rowAt L i) (rowAt L j) _ (HP.out.ext (Ext.refl _).drew) (HI.out.ext (Ext.refl _).drew) (HJ.out.ext (Ext.refl _).drew) hp1 hli.out hlj.out).mono ?_; rintro e w5 ⟨rfl, he5⟩)
    refine hK.out _ _ ?hSc14 (fun hHeld => ?_)
    case hSc14 => (first | (first | exact ⟨c0, c1, c2, cl, di, dj⟩ | exact ⟨he5.cell c0, he5.cell c1, he5.cell c2, he5.cell cl, he5.cell di, he5.cell dj⟩) | ((try dsimp only); first | exact ⟨c0, c1, c2, cl, di, dj⟩ | exact ⟨he5.cell c0, he5.cell c1, he5.cell c2, he5.cell cl, he5.cell di, he5.cell dj⟩))
    clear hK K
    (try simp only [Act.put, List.setIfInBounds_toArray, List.set_cons_zero, List.set_cons_succ])
    refine wpAnyH_tk 14 (v := ?vc14) rfl (by kernel_rfl) (by kernel_rfl) (by kernel_rfl) (fun _ _ _ h => h) (by rfl) ?hyc14 (by assumption) ?_
    case hyc14 => (intro w hSw; (try dsimp only at hSw); go_simp <;> with_reducible rfl)
    (try simp only [Act.put, List.setIfInBounds_toArray, List.set_cons_zero, List.set_cons_succ])
    refine wpAnyH_tk 15 (v := ?vc15) rfl (by kernel_rfl) (by kernel_rfl) (by kernel_rfl) (fun _ _ _ h => h) (by rfl) ?hyc15 (by assumption) ?_
    case hyc15 => (intro w hSw; (try dsimp only at hSw); go_simp <;> with_reducible rfl)
    (try simp only [Act.put, List.setIfInBounds_toArray, List.set_cons_zero, List.set_cons_succ])
    refine wpAnyH_done (by kernel_rfl) ?_ _
    have HE := hid ((Ext.refl w).drew.trans he5)
    clear c0 c1 c2 cl di dj he5
    go_wp2
    go_ret
    exact ⟨ret_bool Hf.out.symm, HE.out⟩

set_option maxHeartbeats 1000000 in
theorem Covers_bad (vh vs vp : Value) (p : PlanD) (w : World) (hp : PlanR w vh vs vp p) (hb : planOk p = false) :
    Calls Try.prog 39 #[.agg #[vh, vs, vp]] w fun e w' => e = .returned (.tuple #[.slice none 0 0, .int .i64 2]) ∧ Ext w w' := by
  obtain ⟨aoh, caph, aos, caps, aop, capp, rfl, rfl, rfl⟩ := planR_shape hp
  have HP := hid hp
  clear hp
  go_enter Try.func39, Try.ntmps39
  go_wp2_with (fail)
  refine (valid_any _ _ _ p _ (HP.out.ext (Ext.ofAlloc _ _))).mono ?_
  rw [hb]
  rintro e w1 ⟨rfl, he⟩
  have HE := hid ((Ext.ofAlloc w _).trans he)
  clear he
  go_wp2
  go_ret2
  exact ⟨rfl, HE.out⟩

set_option maxRecDepth 20000 in
set_option maxHeartbeats 4000000 in
theorem Covers_ok (vh vs vp : Value) (p : PlanD) (hok : PlanOk p) (w : World) (hp : PlanR w vh vs vp p) :
    Calls Try.prog 39 #[.agg #[vh, vs, vp]] w fun e w' => ∃ u, e = .returned (.tuple #[u, .int .i64 0]) ∧ OwnPr w.heap.size w' u (prTo (covB p (stAll p hok)) (stAll p hok).length (stAll p hok).length) ∧ Ext w w' := by
  obtain ⟨aoh, caph, aos, caps, aop, capp, rfl, rfl, rfl⟩ := planR_shape hp
  have HP := hid hp
  have hb : planOk p = true := planOk_iff.2 hok
  have hp1 := hok.h1
  have X0 := hid (Box3.alloc w 29 (.slice aoh p.hands.length caph) (.slice aos p.shifts.length caps) (.slice aop p.places.length capp))
  have hmf : ∀ (fn : Fn) (first cap : Array Value) (w : World), (Instr.makeFunc fn first cap).run Try.prog w = .ok (.func fn first cap) w := fun _ _ _ _ => rfl
  obtain ⟨i0, hi, hz0, hz1, hz2⟩ := info_parts info_pair
  clear hp
  go_enter Try.func39, Try.ntmps39
  go_wp2_with (fail)
  refine (valid_any _ _ _ p _ (HP.out.ext (Ext.ofAlloc _ _))).mono ?_
  rw [hb]
  rintro e w1 ⟨rfl, he⟩
  have X1 := hid (X0.out.ext he)
  have HE1 := hid ((Ext.ofAlloc w _).trans he)
  obtain ⟨c0, c1, c2⟩ := X1.out.cells
  clear he hb
  go_wp2_with (fail)
  refine (stable_any _ _ _ p hok _ (HP.out.ext HE1.out)).mono ?_
  rintro e w2 ⟨ul, rfl, hul, he2⟩
  obtain ⟨L, hL⟩ : ∃ L, L = stAll p hok := ⟨_, rfl⟩
  rw [← hL] at hul
  have hL1 : 0 < L.length := by rw [hL]; exact stAll_pos
  have hL2 : L.length ≤ 15625 := by rw [hL]; exact stAll_le
  have hLn : Hid (∀ k : Nat, k < L.length → (rowAt L k).length = p.hands.length) := fun k hk => (mem_stAll.1 (show rowAt L k ∈ stAll p hok by rw [← hL]; exact rowAt_mem (Int.natCast_nonneg k) (by exact_mod_cast hk))).1
  have hr := hul.rows2 (by omega)
  obtain ⟨-, aol, capl, rfl, -⟩ := id hr
  obtain ⟨bL, oL, -, -, rfl, -, -⟩ := hr.at 0 (by omega) (by omega)
  have XW := hid ((X1.out.ext he2).ext (Ext.ofAlloc w2 (.cells #[.slice (some ⟨bL, oL, none⟩) L.length capl] 22)))
  have HEW := hid ((HE1.out.trans he2).alloc (.cells #[.slice (some ⟨bL, oL, none⟩) L.length capl] 22))
  have HRW := hid (hr.ext (Ext.ofAlloc w2 (.cells #[.slice (some ⟨bL, oL, none⟩) L.length capl] 22)))
  have HCW := hid (heap_alloc_new w2 (.cells #[.slice (some ⟨bL, oL, none⟩) L.length capl] 22))
  have HL := hid hL
  clear he2 hul hr c0 c1 c2 hL
  go_wp2
  have hbl : w2.heap.size = w2.heap.size := rfl
  generalize w2.alloc (.cells #[.slice (some ⟨bL, oL, none⟩) L.length capl] 22) = W at *
  generalize w2.heap.size = bl at *
  clear hbl
  have hszW := HEW.out.size
  go_loopg [18, 6] L.length (fun g i v wr => ∃ k : Nat, k + g = L.length ∧ i = .int .i64 k ∧ Hid (OwnPr W.heap.size wr v (prTo (covB p L) L.length k)) ∧ Hid (Ext W wr))
  case atStart => exact ⟨0, by omega, rfl, World.ownsRow_nil _ _ _ _, Ext.refl _⟩
  case round =>
    obtain ⟨i, hk, rfl, OWN, E⟩ := hrel
    have hkl : i ≤ L.length := by omega
    have Hk := hid hk
    clear hk
    by_cases hlt : i < L.length
    · have cl := cell_of_one (heap_ext HCW.out E.out)
      go_wp2
      go_step3
      go_wp2
      go_step3
      go_wp2
      clear cl
      go_loopg [23, 6] L.length (fun g i2 v wr => ∃ j : Nat, j + g = L.length ∧ i2 = .int .i64 j ∧ Hid (OwnPr W.heap.size wr v (prTo (covB p L) L.length i ++ prRow (covB p L) i j)) ∧ Hid (Ext W wr))
      case atStart => exact ⟨0, by omega, rfl, hid (by have := OWN.out; simpa [prRow] using this), E⟩
      case round =>
        clear OWN E
        obtain ⟨j, hj, rfl, OWN, E⟩ := hrel
        have hjl : j ≤ L.length := by omega
        have Hj := hid hj
        clear hj
        by_cases hjlt : j < L.length
        · go_wp2_with (fail)
          refine (overL_any _ _ _ p L i j _ _ bL oL capl _ (HP.out.ext (HEW.out.trans E.out)) (XW.out.ext E.out) (cell_of_one (heap_ext HCW.out E.out)) (HRW.out.ext E.out) hp1 hLn.out hlt hjlt).mono ?_
          cases ho : overL p L i j
          · have Hno := hid (prRow_no (P := covB p L) (i := i) (k := j) (by unfold covB; rw [ho]; rfl))
            rintro e w5 ⟨rfl, he5⟩
            have O5 := hid (ownsRow_ext OWN.out he5)
            have E5 := hid (E.out.trans he5)
            clear he5
            go_wp2
            go_roundg (gk - 1)
            case rel => exact ⟨j + 1, by have := Hj.out; omega, by go_num, by rw [Hno.out]; exact O5.out, E5⟩
            case measure => have := Hj.out; omega
          · rintro e w5 ⟨rfl, he5⟩
            have O5 := hid (ownsRow_ext OWN.out he5)
            have E5 := hid (E.out.trans he5)
            have cl := cell_of_one (heap_ext HCW.out E5.out)
            have Ho := hid ho
            clear he5 ho
            go_wp2
            clear cl
            go_loopg [33] L.length (fun g i3 wr => ∃ k : Nat, k + g = L.length ∧ i3 = .int .i64 k ∧ Hid (midTo p L i j k = false) ∧ Hid (OwnPr W.heap.size wr u6 (prTo (covB p L) L.length i ++ prRow (covB p L) i j)) ∧ Hid (Ext W wr))
            case atStart => exact ⟨0, by omega, rfl, rfl, O5, E5⟩
            case round =>
              obtain ⟨k, hkk, rfl, M, O6, E6⟩ := hrel
              have hkkl : k ≤ L.length := by omega
              have Hkk := hid hkk
              clear hkk
              by_cases hkt : k < L.length
              · have Ms := hid (midTo_succ p L i j k)
                go_wp2_with (fail)
                refine (overL_any _ _ _ p L i k _ _ bL oL capl _ (HP.out.ext (HEW.out.trans E6.out)) (XW.out.ext E6.out) (cell_of_one (heap_ext HCW.out E6.out)) (HRW.out.ext E6.out) hp1 hLn.out hlt hkt).mono ?_
                cases h1 : overL p L i k
                · rw [h1, M.out] at Ms
                  rintro e w7 ⟨rfl, he7⟩
                  have O7 := hid (ownsRow_ext O6.out he7)
                  have E7 := hid (E6.out.trans he7)
                  clear he7
                  go_wp2
                  go_roundg (gk - 1)
                  case rel => exact ⟨k + 1, by have := Hkk.out; omega, by go_num, Ms, O7, E7⟩
                  case measure => have := Hkk.out; omega
                · rintro e w7 ⟨rfl, he7⟩
                  have O7 := hid (ownsRow_ext O6.out he7)
                  have E7 := hid (E6.out.trans he7)
                  clear he7
                  go_wp2_with (fail)
                  refine (overL_any _ _ _ p L k j _ _ bL oL capl _ (HP.out.ext (HEW.out.trans E7.out)) (XW.out.ext E7.out) (cell_of_one (heap_ext HCW.out E7.out)) (HRW.out.ext E7.out) hp1 hLn.out hkt hjlt).mono ?_
                  cases h2 : overL p L k j
                  · rw [h1, h2, M.out] at Ms
                    rintro e w8 ⟨rfl, he8⟩
                    have O8 := hid (ownsRow_ext O7.out he8)
                    have E8 := hid (E7.out.trans he8)
                    clear he8
                    go_wp2
                    go_roundg (gk - 1)
                    case rel => exact ⟨k + 1, by have := Hkk.out; omega, by go_num, Ms, O8, E8⟩
                    case measure => have := Hkk.out; omega
                  · have hmid := midTo_hit (p := p) (L := L) (i := i) (j := j) hkt (by rw [h1, h2]; rfl)
                    have Hno := hid (prRow_no (P := covB p L) (i := i) (k := j) (by unfold covB; rw [hmid]; simp))
                    clear hmid
                    rintro e w8 ⟨rfl, he8⟩
                    have O8 := hid (ownsRow_ext O7.out he8)
                    have E8 := hid (E7.out.trans he8)
                    clear he8
                    go_wp2
                    go_roundg (L.length - (j + 1))
                    case rel => exact ⟨j + 1, by omega, by go_num, by rw [Hno.out]; exact O8.out, E8⟩
                    case measure => have := Hj.out; omega
              · have Hyes := hid (prRow_yes (P := covB p L) (i := i) (k := j) (by
                  have hm := M.out
                  have ek : k = L.length := by omega
                  rw [ek] at hm
                  unfold covB; rw [Ho.out, hm]; rfl))
                have Hbs := hid (prSum_len (P := covB p L) hL2 hlt hjl)
                have hsz6 := E6.out.size
                go_wp2_with (at_builtin; go_must (refine wpList_append_own _ rfl _ _ 46 rfl W.heap.size 52 i0 (.agg #[.int .i64 0, .int .i64 0]) 2 16 Try.underlying46 hi hz0 hz1 hz2 rfl (by decide) _ _ _ rfl (O6.out.alloc _) ⟨wr.heap.size, 0, none⟩ 1 1 [.int .i64 i, .int .i64 j] rfl rfl ?c1 ?c2 ?c3 ?c4 ?c5 ?_))
                case c1 => exact cell_two_new _ _ _ _
                case c2 => intro u hu; simp at hu; rcases hu with rfl | rfl <;> rfl
                case c3 => have := Hbs.out; unfold maxLen; omega
                case c4 => have := Hbs.out; omega
                case c5 => simp; omega
                intro v' w' hown' hg _
                have hR := OwnPr.push (by rw [List.length_append]) hown'
                rw [List.append_assoc, ← Hyes.out] at hR
                have hE := Ext.push E6.out O6.out (Nat.le_refl _) hg
                have HR := hid hR
                have HE := hid hE
                clear hown' hg hR hE
                go_wp2
                go_roundg (L.length - (j + 1))
                case rel => exact ⟨j + 1, by omega, by go_num, HR.out, HE.out⟩
                case measure => have := Hj.out; omega
        · have hO := OWN.out
          have ej : j = L.length := by omega
          rw [ej, ← prTo_succ] at hO
          have HO := hid hO
          clear hO ej
          go_wp2
          rw [Exit.noGoto_normal]
          go_wp2
          go_roundg (L.length - (i + 1))
          case rel => exact ⟨i + 1, by omega, by go_num, HO.out, E⟩
          case measure => have := Hk.out; omega
    · have ei : i = L.length := by omega
      have hO := OWN.out
      rw [ei] at hO
      have HO := hid hO
      clear hO ei
      go_wp2
      go_ret2
      exact ⟨_, rfl, by rw [← HL.out]; exact ownsRow_base HO.out hszW, HEW.out.trans E.out⟩

end Go.Proofs.Ytkdfbbkonbgfmaa
