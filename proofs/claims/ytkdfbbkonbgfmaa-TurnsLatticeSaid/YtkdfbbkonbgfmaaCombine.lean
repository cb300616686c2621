/-
  Contracts of turns.Plan.combine, turns.Join and turns.Meet.
-/
import Derived.Test.YtkdfbbkonbgfmaaStableTop
import Derived.Test.YtkdfbbkonbgfmaaOrder
import Derived.Test.YtkdfbbkonbgfmaaSkips
namespace Go.Proofs.Ytkdfbbkonbgfmaa
open Go.RowKit

set_option maxHeartbeats 400000 in
theorem least_any (v : Value) (x y : Int) (w : World) (hv : Ints w v [x, y]) :
    Calls Try.prog 62 #[v] w fun e w' => e = .returned (.int .i64 (min x y)) ∧ w = w' := by
  obtain ⟨-, ao, cap, rfl, -⟩ := id hv
  have Hv := hid hv
  clear hv
  go_enter Try.func62, Try.ntmps62
  go_wp2_with (fail)
  refine (Min_any _ [x, y] _ Hv.out (by simp)).mono ?_
  rintro e w' ⟨rfl, rfl⟩
  go_wp2
  go_ret
  exact ⟨rfl, rfl⟩
set_option maxHeartbeats 400000 in
theorem most_any (v : Value) (x y : Int) (w : World) (hv : Ints w v [x, y]) :
    Calls Try.prog 63 #[v] w fun e w' => e = .returned (.int .i64 (max x y)) ∧ w = w' := by
  obtain ⟨-, ao, cap, rfl, -⟩ := id hv
  have Hv := hid hv
  clear hv
  go_enter Try.func63, Try.ntmps63
  go_wp2_with (fail)
  refine (Max_any _ [x, y] _ Hv.out (by simp)).mono ?_
  rintro e w' ⟨rfl, rfl⟩
  go_wp2
  go_ret
  exact ⟨rfl, rfl⟩

/-- What a hand has, by its rank. -/
theorem pick_in {p : PlanD} (hp : PlanOk p) {h : Nat} {x : Int} (hx : x = -1 ∨ possB p h x = true) :
    (x = -1 ∧ rankP (rowAt p.hands h) x = (rowAt p.hands h).length) ∨ (x ≠ -1 ∧ 0 ≤ rankP (rowAt p.hands h) x ∧ rankP (rowAt p.hands h) x < (rowAt p.hands h).length ∧ fn (rowAt p.hands h) (rankP (rowAt p.hands h) x).toNat = x) := by
  have hno : (-1 : Int) ∉ rowAt p.hands h := fun hm => by have := ((hp.row (h := h) (by omega)).1 _ hm).1; omega
  rcases hx with rfl | hx
  · exact .inl ⟨rfl, rankP_out hno⟩
  · have hm := (possB_iff.1 hx).1
    have h0 := ((hp.row (h := h) (by omega)).1 _ hm).1
    have hl := List.idxOf_lt_length_of_mem hm
    refine .inr ⟨by omega, rankP_nonneg _ _, rankP_lt hm, ?_⟩
    rw [rankP_mem hm, Int.toNat_natCast, fn_get hl, List.getElem_idxOf hl]
theorem joinI_cases (p : PlanD) (h x y : Int) : (joinI p h x y = x ∨ joinI p h x y = y) ∧ min (rankP (rowAt p.hands h) x) (rankP (rowAt p.hands h) y) = rankP (rowAt p.hands h) (joinI p h x y) := by
  unfold joinI; split
  · exact ⟨.inr rfl, by omega⟩
  · exact ⟨.inl rfl, by omega⟩
theorem meetI_cases (p : PlanD) (h x y : Int) : (meetI p h x y = x ∨ meetI p h x y = y) ∧ max (rankP (rowAt p.hands h) x) (rankP (rowAt p.hands h) y) = rankP (rowAt p.hands h) (meetI p h x y) := by
  unfold meetI; split
  · exact ⟨.inl rfl, by omega⟩
  · exact ⟨.inr rfl, by omega⟩

set_option maxHeartbeats 1000000 in
theorem combine_bad (vh vs vp va vb vc : Value) (p : PlanD) (a b : List Int) (w : World) (hp : PlanR w vh vs vp p) (hva : Ints w va a) (hvb : Ints w vb b) (hb : planOk p = false) :
    Calls Try.prog 61 #[.agg #[vh, vs, vp], va, vb, vc] w fun e w' => e = .returned (.tuple #[.slice none 0 0, .int .i64 2]) ∧ Ext w w' := by
  obtain ⟨aoh, caph, aos, caps, aop, capp, rfl, rfl, rfl⟩ := planR_shape hp
  have HP := hid hp
  obtain ⟨-, aoa, capa, rfl, -⟩ := id hva
  obtain ⟨-, aob, capb, rfl, -⟩ := id hvb
  clear hp hva hvb
  go_enter Try.func61, Try.ntmps61
  go_wp2_with (fail)
  refine (valid_any _ _ _ p _ (HP.out.ext (Ext.ofAlloc _ _))).mono ?_
  rw [hb]
  rintro e w1 ⟨rfl, he⟩
  have HE := hid ((Ext.ofAlloc w _).trans he)
  clear he
  go_wp2
  go_ret2
  exact ⟨rfl, HE.out⟩

set_option maxHeartbeats 2000000 in
theorem combine_arg (vh vs vp va vb vc : Value) (p : PlanD) (hok : PlanOk p) (a b : List Int) (w : World) (hp : PlanR w vh vs vp p) (hva : Ints w va a) (hvb : Ints w vb b) (hb : (matB p hok a && matB p hok b) = false) :
    Calls Try.prog 61 #[.agg #[vh, vs, vp], va, vb, vc] w fun e w' => e = .returned (.tuple #[.slice none 0 0, .int .i64 2]) ∧ Ext w w' := by
  obtain ⟨aoh, caph, aos, caps, aop, capp, rfl, rfl, rfl⟩ := planR_shape hp
  have HP := hid hp
  have HA := hid hva
  have HB := hid hvb
  have hv : planOk p = true := planOk_iff.2 hok
  obtain ⟨-, aoa, capa, rfl, -⟩ := id hva
  obtain ⟨-, aob, capb, rfl, -⟩ := id hvb
  have X0 := hid (Box3.alloc w 29 (.slice aoh p.hands.length caph) (.slice aos p.shifts.length caps) (.slice aop p.places.length capp))
  clear hp hva hvb
  go_enter Try.func61, Try.ntmps61
  go_wp2_with (fail)
  refine (valid_any _ _ _ p _ (HP.out.ext (Ext.ofAlloc _ _))).mono ?_
  rw [hv]
  rintro e w1 ⟨rfl, he⟩
  have X1 := hid (X0.out.ext he)
  obtain ⟨c0, c1, c2⟩ := X1.out.cells
  have HE := hid ((Ext.ofAlloc w _).trans he)
  clear he
  go_wp2_with (fail)
  refine (matching_any _ _ _ _ p hok a _ (HP.out.ext HE.out) (HA.out.ext HE.out)).mono ?_
  cases ha : matB p hok a
  · rintro e w2 ⟨rfl, he2⟩
    have HE2 := hid (HE.out.trans he2)
    clear he2 c0 c1 c2
    go_wp2
    go_ret2
    exact ⟨rfl, HE2.out⟩
  · have hb2 : matB p hok b = false := by rw [ha] at hb; simpa using hb
    rintro e w2 ⟨rfl, he2⟩
    have HE2 := hid (HE.out.trans he2)
    have X2 := hid (X1.out.ext he2)
    clear he2 c0 c1 c2 hb
    obtain ⟨c0, c1, c2⟩ := X2.out.cells
    go_wp2_with (fail)
    refine (matching_any _ _ _ _ p hok b _ (HP.out.ext HE2.out) (HB.out.ext HE2.out)).mono ?_
    rw [hb2]
    rintro e w3 ⟨rfl, he3⟩
    have HE3 := hid (HE2.out.trans he3)
    clear he3 c0 c1 c2
    go_wp2
    go_ret2
    exact ⟨rfl, HE3.out⟩

set_option maxHeartbeats 2000000 in
theorem combine_state (vh vs vp va vb vc : Value) (p : PlanD) (hok : PlanOk p) (a b : List Int) (w : World) (hp : PlanR w vh vs vp p) (hva : Ints w va a) (hvb : Ints w vb b) (hma : matB p hok a = true) (hmb : matB p hok b = true) (hb : (stB p hok a && stB p hok b) = false) :
    Calls Try.prog 61 #[.agg #[vh, vs, vp], va, vb, vc] w fun e w' => e = .returned (.tuple #[.slice none 0 0, .int .i64 5]) ∧ Ext w w' := by
  obtain ⟨aoh, caph, aos, caps, aop, capp, rfl, rfl, rfl⟩ := planR_shape hp
  have HP := hid hp
  have HA := hid hva
  have HB := hid hvb
  have hv : planOk p = true := planOk_iff.2 hok
  obtain ⟨-, aoa, capa, rfl, -⟩ := id hva
  obtain ⟨-, aob, capb, rfl, -⟩ := id hvb
  have X0 := hid (Box3.alloc w 29 (.slice aoh p.hands.length caph) (.slice aos p.shifts.length caps) (.slice aop p.places.length capp))
  clear hp hva hvb
  go_enter Try.func61, Try.ntmps61
  go_wp2_with (fail)
  refine (valid_any _ _ _ p _ (HP.out.ext (Ext.ofAlloc _ _))).mono ?_
  rw [hv]
  rintro e w1 ⟨rfl, he⟩
  have X1 := hid (X0.out.ext he)
  obtain ⟨c0, c1, c2⟩ := X1.out.cells
  have HE := hid ((Ext.ofAlloc w _).trans he)
  clear he
  go_wp2_with (fail)
  refine (matching_any _ _ _ _ p hok a _ (HP.out.ext HE.out) (HA.out.ext HE.out)).mono ?_
  rw [hma]
  rintro e w2 ⟨rfl, he2⟩
  have HE2 := hid (HE.out.trans he2)
  have X2 := hid (X1.out.ext he2)
  clear he2 c0 c1 c2
  obtain ⟨c0, c1, c2⟩ := X2.out.cells
  go_wp2_with (fail)
  refine (matching_any _ _ _ _ p hok b _ (HP.out.ext HE2.out) (HB.out.ext HE2.out)).mono ?_
  rw [hmb]
  rintro e w3 ⟨rfl, he3⟩
  have HE3 := hid (HE2.out.trans he3)
  have X3 := hid (X2.out.ext he3)
  clear he3 c0 c1 c2
  obtain ⟨c0, c1, c2⟩ := X3.out.cells
  go_wp2_with (fail)
  refine (isStable_any _ _ _ _ p hok a _ (HP.out.ext HE3.out) (HA.out.ext HE3.out)).mono ?_
  cases ha : stB p hok a
  · rintro e w4 ⟨rfl, he4⟩
    have HE4 := hid (HE3.out.trans he4)
    clear he4 c0 c1 c2
    go_wp2
    go_ret2
    exact ⟨rfl, HE4.out⟩
  · have hb2 : stB p hok b = false := by rw [ha] at hb; simpa using hb
    rintro e w4 ⟨rfl, he4⟩
    have HE4 := hid (HE3.out.trans he4)
    have X4 := hid (X3.out.ext he4)
    clear he4 c0 c1 c2 hb
    obtain ⟨c0, c1, c2⟩ := X4.out.cells
    go_wp2_with (fail)
    refine (isStable_any _ _ _ _ p hok b _ (HP.out.ext HE4.out) (HB.out.ext HE4.out)).mono ?_
    rw [hb2]
    rintro e w5 ⟨rfl, he5⟩
    have HE5 := hid (HE4.out.trans he5)
    clear he5 c0 c1 c2
    go_wp2
    go_ret2
    exact ⟨rfl, HE5.out⟩

set_option maxRecDepth 20000 in
set_option maxHeartbeats 4000000 in
theorem combine_join (vh vs vp va vb : Value) (p : PlanD) (hok : PlanOk p) (a b : List Int) (w : World) (hp : PlanR w vh vs vp p) (hva : Ints w va a) (hvb : Ints w vb b) (hsa : StL p hok a) (hsb : StL p hok b) :
    Calls Try.prog 61 #[.agg #[vh, vs, vp], va, vb, .func (.func 62) #[] #[]] w fun e w' => ∃ u, e = .returned (.tuple #[u, .int .i64 0]) ∧ OwnI w.heap.size w' u (joinL p a b) ∧ Ext w w' := by
  obtain ⟨aoh, caph, aos, caps, aop, capp, rfl, rfl, rfl⟩ := planR_shape hp
  have HP := hid hp
  have HA := hid hva
  have HB := hid hvb
  have hv : planOk p = true := planOk_iff.2 hok
  have hma : matB p hok a = true := matB_iff.2 hsa.mat
  have hmb : matB p hok b = true := matB_iff.2 hsb.mat
  have hta : stB p hok a = true := stB_iff.2 hsa
  have htb : stB p hok b = true := stB_iff.2 hsb
  have HSa := hid hsa
  have HSb := hid hsb
  have Hok := hid hok
  have hn6 := hok.h6
  have hs4 := hok.s4
  obtain ⟨-, aoa, capa, rfl, -⟩ := id hva
  obtain ⟨-, aob, capb, rfl, -⟩ := id hvb
  obtain ⟨ba, oa, rfl, -⟩ := hva.get 0 (by rw [hsa.1]; exact hok.h1)
  obtain ⟨bb, ob, rfl, -⟩ := hvb.get 0 (by rw [hsb.1]; exact hok.h1)
  obtain ⟨bh, oh, -, -, rfl, -, -⟩ := hp.1.at 0 (by omega) (by have := hok.h1; omega)
  have hla : Hid (a.length = p.hands.length) := hsa.1
  have hlb : Hid (b.length = p.hands.length) := hsb.1
  have X0 := hid (Box3.alloc w 29 (.slice (some ⟨bh, oh, none⟩) p.hands.length caph) (.slice aos p.shifts.length caps) (.slice aop p.places.length capp))
  obtain ⟨i0, hi, hz0, hz1, hz2⟩ := info_parts info_int
  clear hp hva hvb hsa hsb
  go_enter Try.func61, Try.ntmps61
  go_wp2_with (fail)
  refine (valid_any _ _ _ p _ (HP.out.ext (Ext.ofAlloc _ _))).mono ?_
  rw [hv]
  rintro e w1 ⟨rfl, he⟩
  have X1 := hid (X0.out.ext he)
  obtain ⟨c0, c1, c2⟩ := X1.out.cells
  have HE := hid ((Ext.ofAlloc w _).trans he)
  clear he
  go_wp2_with (fail)
  refine (matching_any _ _ _ _ p hok a _ (HP.out.ext HE.out) (HA.out.ext HE.out)).mono ?_
  rw [hma]
  rintro e w2 ⟨rfl, he2⟩
  have HE2 := hid (HE.out.trans he2)
  have X2 := hid (X1.out.ext he2)
  clear he2 c0 c1 c2
  obtain ⟨c0, c1, c2⟩ := X2.out.cells
  go_wp2_with (fail)
  refine (matching_any _ _ _ _ p hok b _ (HP.out.ext HE2.out) (HB.out.ext HE2.out)).mono ?_
  rw [hmb]
  rintro e w3 ⟨rfl, he3⟩
  have HE3 := hid (HE2.out.trans he3)
  have X3 := hid (X2.out.ext he3)
  clear he3 c0 c1 c2
  obtain ⟨c0, c1, c2⟩ := X3.out.cells
  go_wp2_with (fail)
  refine (isStable_any _ _ _ _ p hok a _ (HP.out.ext HE3.out) (HA.out.ext HE3.out)).mono ?_
  rw [hta]
  rintro e w4 ⟨rfl, he4⟩
  have HE4 := hid (HE3.out.trans he4)
  have X4 := hid (X3.out.ext he4)
  clear he4 c0 c1 c2
  obtain ⟨c0, c1, c2⟩ := X4.out.cells
  go_wp2_with (fail)
  refine (isStable_any _ _ _ _ p hok b _ (HP.out.ext HE4.out) (HB.out.ext HE4.out)).mono ?_
  rw [htb]
  rintro e W ⟨rfl, he5⟩
  have HE5 := hid (HE4.out.trans he5)
  have X5 := hid (X4.out.ext he5)
  clear he5 c0 c1 c2
  obtain ⟨c0, c1, c2⟩ := X5.out.cells
  have hszW := HE5.out.size
  clear hv hma hmb hta htb
  go_wp2
  clear c0 c1 c2
  go_loopg [42, 10] p.hands.length (fun g i v wr => ∃ k : Nat, k + g = p.hands.length ∧ i = .int .i64 k ∧ Hid (OwnI W.heap.size wr v (joinTo p a b k)) ∧ Hid (Ext w wr) ∧ Hid (W.heap.size ≤ wr.heap.size))
  case atStart => exact ⟨0, by omega, rfl, World.ownsRow_nil _ _ _ _, HE5.out, Nat.le_refl _⟩
  case round =>
    obtain ⟨h, hk, rfl, OWN, E, SZ⟩ := hrel
    have hkl : h ≤ p.hands.length := by omega
    have Hk := hid hk
    clear hk
    by_cases hlt : h < p.hands.length
    · obtain ⟨-, ar, cr, hrow, hri⟩ := HP.out.1.row h hlt
      have dr := hrow _ E.out
      have Hrh := hid hri
      have hrl : (rowAt p.hands h).length ≤ 4 := by have := rowOk_short (rowAt_ok Hok.out.hs (i := h) (by omega)); omega
      have da := (HA.out.get' h (by have := hla.out; omega)).2 _ E.out
      have db := (HB.out.get' h (by have := hlb.out; omega)).2 _ E.out
      have hh0 : (0 : Int) ≤ (h : Int) := by omega
      have ha1 : (h : Int) < a.length := by have := hla.out; omega
      have hb1 : (h : Int) < b.length := by have := hlb.out; omega
      have Hs := hid (joinTo_succ p a b h)
      have hcs := joinI_cases p h (fn a h) (fn b h)
      have hpk := pick_in Hok.out (h := h) (x := joinI p h (fn a h) (fn b h)) (by
        rcases hcs.1 with e | e <;> rw [e]
        · exact HSa.out.2.m.ok h hlt
        · exact HSb.out.2.m.ok h hlt)
      have Hmin := hid hcs.2
      have hjl : (joinTo p a b h).length ≤ 6 := by unfold joinTo; simp; omega
      have hszr := SZ.out
      clear hrow hri hcs
      go_wp2
      clear dr
      refine wp_region_held_drew (S := (fun w' => w'.cell? ⟨ba, oa + h, none⟩ = some (.int .i64 (fn a h)) ∧ w'.cell? ⟨bb, ob + h, none⟩ = some (.int .i64 (fn b h)))) (by kernel_rfl) ?hSa0 (fun hHeld => ?_)
      case hSa0 => (first | (exact ⟨da, db⟩) | ((try dsimp only); exact ⟨da, db⟩))
      refine wpAnyH_tk 0 (v := ?va0) rfl (by kernel_rfl) (by kernel_rfl) (by kernel_rfl) (fun _ _ _ h => h) (by rfl) ?hya0 (by assumption) ?_
      case hya0 => (intro w hSw; (try dsimp only at hSw); go_simp <;> with_reducible rfl)
      (try simp only [Act.put, List.setIfInBounds_toArray, List.set_cons_zero, List.set_cons_succ])
      refine wpAnyH_tk 1 (v := ?va1) rfl (by kernel_rfl) (by kernel_rfl) (by kernel_rfl) (fun _ _ _ h => h) (by rfl) ?hya1 (by assumption) ?_
      case hya1 => (intro w hSw; (try dsimp only at hSw); go_simp <;> with_reducible rfl)
      (try simp only [Act.put, List.setIfInBounds_toArray, List.set_cons_zero, List.set_cons_succ])
      refine wpAnyH_tk 2 (v := ?va2) rfl (by kernel_rfl) (by kernel_rfl) (by kernel_rfl) (fun _ _ _ h => h) (by rfl) ?hya2 (by assumption) ?_
      case hya2 => (intro w hSw; (try dsimp only at hSw); go_simp <;> with_reducible rfl)
      (try simp only [Act.put, List.setIfInBounds_toArray, List.set_cons_zero, List.set_cons_succ])
      refine wpAnyH_tk 3 (v := ?va3) rfl (by kernel_rfl) (by kernel_rfl) (by kernel_rfl) (fun _ _ _ h => h) (by rfl) ?hya3 (by assumption) ?_
      case hya3 => (intro w hSw; (try dsimp only at hSw); go_simp <;> with_reducible rfl)
      (try simp only [Act.put, List.setIfInBounds_toArray, List.set_cons_zero, List.set_cons_succ])
      refine wpAnyH_tk 4 (v := ?va4) rfl (by kernel_rfl) (by kernel_rfl) (by kernel_rfl) (fun _ _ _ h => h) (by rfl) ?hya4 (by assumption) ?_
      case hya4 => (intro w hSw; (try dsimp only at hSw); go_simp <;> with_reducible rfl)
      (try simp only [Act.put, List.setIfInBounds_toArray, List.set_cons_zero, List.set_cons_succ])
      refine wpAnyH_tk 5 (v := ?va5) rfl (by kernel_rfl) (by kernel_rfl) (by kernel_rfl) (fun _ _ _ h => h) (by rfl) ?hya5 (by assumption) ?_
      case hya5 => (intro w hSw; (try dsimp only at hSw); go_simp <;> with_reducible rfl)
      (try simp only [Act.put, List.setIfInBounds_toArray, List.set_cons_zero, List.set_cons_succ])
      refine wpAnyH_tk 7 (v := ?va7) rfl (by kernel_rfl) (by kernel_rfl) (by kernel_rfl) (fun _ _ _ h => h) (by rfl) ?hya7 (by assumption) ?_
      case hya7 => (intro w hSw; (try dsimp only at hSw); go_simp <;> with_reducible rfl)
      (try simp only [Act.put, List.setIfInBounds_toArray, List.set_cons_zero, List.set_cons_succ])
      refine wpAnyH_tk 8 (v := ?va8) rfl (by kernel_rfl) (by kernel_rfl) (by kernel_rfl) (fun _ _ _ h => h) (by rfl) ?hya8 (by assumption) ?_
      case hya8 => (intro w hSw; (try dsimp only at hSw); go_simp <;> with_reducible rfl)
      (try simp only [Act.put, List.setIfInBounds_toArray, List.set_cons_zero, List.set_cons_succ])
      refine wpAnyH_tk 9 (v := ?va9) rfl (by kernel_rfl) (by kernel_rfl) (by kernel_rfl) (fun _ _ _ h => h) (by rfl) ?hya9 (by assumption) ?_
      case hya9 => (intro w hSw; (try dsimp only at hSw); go_simp <;> with_reducible rfl)
      (try simp only [Act.put, List.setIfInBounds_toArray, List.set_cons_zero, List.set_cons_succ])
      refine wpAnyH_tk 10 (v := ?va10) rfl (by kernel_rfl) (by kernel_rfl) (by kernel_rfl) (fun _ _ _ h => h) (by rfl) ?hya10 (by assumption) ?_
      case hya10 => (intro w hSw; (try dsimp only at hSw); go_simp <;> with_reducible rfl)
      (try simp only [Act.put, List.setIfInBounds_toArray, List.set_cons_zero, List.set_cons_succ])
      refine wpAnyH_tk 11 (v := ?va11) rfl (by kernel_rfl) (by kernel_rfl) (by kernel_rfl) (fun _ _ _ h => h) (by rfl) ?hya11 (by assumption) ?_
      case hya11 => (intro w hSw; (try dsimp only at hSw); go_simp <;> with_reducible rfl)
      (try simp only [Act.put, List.setIfInBounds_toArray, List.set_cons_zero, List.set_cons_succ])
      refine wpAnyH_one 6 rfl (by kernel_rfl) (by rfl) (fun K hK => ?_)
      go_simp
      (go_at_call 80; refine (rank_any _ (rowAt p.hands h) (fn a h) _ (Hrh.out.ext E.out.drew)).mono ?_; rintro e w' ⟨rfl, rfl⟩)
      refine hK.out _ _ ?hSa7 (fun hHeld => ?_)
      case hSa7 => (first | (exact ⟨da, db⟩) | ((try dsimp only); exact ⟨da, db⟩))
      clear hK K
      (try simp only [Act.put, List.setIfInBounds_toArray, List.set_cons_zero, List.set_cons_succ])
      refine wpAnyH_one 12 rfl (by kernel_rfl) (by rfl) (fun K hK => ?_)
      go_simp
      (go_at_call 80; refine (rank_any _ (rowAt p.hands h) (fn b h) _ (Hrh.out.ext E.out.drew)).mono ?_; rintro e w' ⟨rfl, rfl⟩)
      refine hK.out _ _ ?hSa13 (fun hHeld => ?_)
      case hSa13 => (first | (exact ⟨da, db⟩) | ((try dsimp only); exact ⟨da, db⟩))
      clear hK K
      (try simp only [Act.put, List.setIfInBounds_toArray, List.set_cons_zero, List.set_cons_succ])
      refine wpAnyH_one 13 rfl (by kernel_rfl) (by rfl) (fun K hK => ?_)
      go_simp
      refine hK.out _ _ ?hSa14 (fun hHeld => ?_)
      case hSa14 => (first | (exact ⟨(Ext.ofAlloc _ _).cell da, (Ext.ofAlloc _ _).cell db⟩) | ((try dsimp only); exact ⟨(Ext.ofAlloc _ _).cell da, (Ext.ofAlloc _ _).cell db⟩))
      clear hK K
      (try simp only [Act.put, List.setIfInBounds_toArray, List.set_cons_zero, List.set_cons_succ])
      refine wpAnyH_one 14 rfl (by kernel_rfl) (by rfl) (fun K hK => ?_)
      go_simp
      (refine (least_any _ (rankP (rowAt p.hands h) (fn a h)) (rankP (rowAt p.hands h) (fn b h)) _ (IntBlock.ints (IntBlock.alloc wr.drew [_, _]) rfl (by simp))).mono ?_; rintro e w' ⟨rfl, rfl⟩)
      refine hK.out _ _ ?hSa15 (fun hHeld => ?_)
      case hSa15 => (first | (exact ⟨(Ext.ofAlloc _ _).cell da, (Ext.ofAlloc _ _).cell db⟩) | ((try dsimp only); exact ⟨(Ext.ofAlloc _ _).cell da, (Ext.ofAlloc _ _).cell db⟩))
      clear hK K
      (try simp only [Act.put, List.setIfInBounds_toArray, List.set_cons_zero, List.set_cons_succ])
      refine wpAnyH_tk 15 (v := ?va15) rfl (by kernel_rfl) (by kernel_rfl) (by kernel_rfl) (fun _ _ _ h => h) (by rfl) ?hya15 (by assumption) ?_
      case hya15 => (intro w hSw; (try dsimp only at hSw); go_simp <;> with_reducible rfl)
      (try simp only [Act.put, List.setIfInBounds_toArray, List.set_cons_zero, List.set_cons_succ])
      refine wpAnyH_done (by kernel_rfl) ?_ _
      rw [Hmin.out]
      clear da db
      generalize hj : joinI p h (fn a h) (fn b h) = x at *
      have Hj := hid hj
      clear hj
      have E9 := hid (E.out.drew.alloc (.cells ([rankP (rowAt p.hands h) (fn a h), rankP (rowAt p.hands h) (fn b h)].map (Value.int .i64)).toArray 3))
      have O9 := hid (ownsRow_ext OWN.out ((Ext.refl wr).drew.alloc (.cells ([rankP (rowAt p.hands h) (fn a h), rankP (rowAt p.hands h) (fn b h)].map (Value.int .i64)).toArray 3)))
      have hsz9 : W.heap.size ≤ (wr.drew.alloc (.cells ([rankP (rowAt p.hands h) (fn a h), rankP (rowAt p.hands h) (fn b h)].map (Value.int .i64)).toArray 3)).heap.size := by simp; omega
      generalize wr.drew.alloc (.cells ([rankP (rowAt p.hands h) (fn a h), rankP (rowAt p.hands h) (fn b h)].map (Value.int .i64)).toArray 3) = w9 at *
      rcases hpk with ⟨e1, e2⟩ | ⟨e1, e2, e3, e4⟩
      · have e2' : (rankP (rowAt p.hands h) x == ((rowAt p.hands h).length : Int)) = true := by rw [e2]; simp
        have He1 := hid e1
        clear e1 e2
        go_wp2_with (at_builtin; go_must (refine wpList_append_own _ rfl _ _ 23 rfl W.heap.size 3 i0 (.int .i64 0) 1 8 Try.underlying23 hi hz0 hz1 hz2 rfl (by decide) _ _ _ rfl (O9.out.alloc _) ⟨w9.heap.size, 0, none⟩ 1 1 [.int .i64 (-1)] rfl rfl ?c1 ?c2 ?c3 ?c4 ?c5 ?_))
        case c1 => exact cell_one_new _ _ _
        case c2 => intro u hu; simp at hu; subst hu; rfl
        case c3 => unfold maxLen; omega
        case c4 => omega
        case c5 => simp; omega
        intro v' w' hown' hg _
        have hR := OwnI.push rfl hown'
        rw [← He1.out, ← Hs.out] at hR
        have hE := Ext.push E9.out O9.out hszW hg
        have hsz' := hg.size
        have HR := hid hR
        have HE := hid hE
        have HSZ : Hid (W.heap.size ≤ w'.heap.size) := by rw [World.size_alloc] at hsz'; exact Nat.le_trans hsz9 (by omega)
        clear hown' hg hR hE hsz'
        go_wp2
        go_roundg (gk - 1)
        case rel => exact ⟨h + 1, by have := Hk.out; omega, by go_num, HR.out, HE.out, HSZ⟩
        case measure => have := Hk.out; omega
      · have e2' : (rankP (rowAt p.hands h) x == ((rowAt p.hands h).length : Int)) = false := by simp; omega
        obtain ⟨br, orr, rfl, hbr, hcr⟩ := Hrh.out.get (rankP (rowAt p.hands h) x).toNat (by omega)
        have dx := hcr _ E9.out
        rw [e4] at dx
        have He1 := hid e1
        clear e1 hcr e4
        go_wp2_with (at_builtin; go_must (refine wpList_append_own _ rfl _ _ 23 rfl W.heap.size 3 i0 (.int .i64 0) 1 8 Try.underlying23 hi hz0 hz1 hz2 rfl (by decide) _ _ _ rfl (O9.out.alloc _) ⟨w9.heap.size, 0, none⟩ 1 1 [.int .i64 x] rfl rfl ?c1 ?c2 ?c3 ?c4 ?c5 ?_))
        case c1 => exact cell_one_new _ _ _
        case c2 => intro u hu; simp at hu; subst hu; rfl
        case c3 => unfold maxLen; omega
        case c4 => omega
        case c5 => simp; omega
        intro v' w' hown' hg _
        have hR := OwnI.push rfl hown'
        rw [← Hs.out] at hR
        have hE := Ext.push E9.out O9.out hszW hg
        have hsz' := hg.size
        have HR := hid hR
        have HE := hid hE
        have HSZ : Hid (W.heap.size ≤ w'.heap.size) := by rw [World.size_alloc] at hsz'; exact Nat.le_trans hsz9 (by omega)
        clear hown' hg hR hE hsz'
        go_wp2
        go_roundg (gk - 1)
        case rel => exact ⟨h + 1, by have := Hk.out; omega, by go_num, HR.out, HE.out, HSZ⟩
        case measure => have := Hk.out; omega
    · have ek : h = p.hands.length := by omega
      subst ek
      go_wp2
      go_ret2
      exact ⟨_, rfl, ownsRow_base OWN.out hszW, E.out⟩

set_option maxHeartbeats 1000000 in
theorem Join_bad (vh vs vp va vb : Value) (p : PlanD) (a b : List Int) (w : World) (hp : PlanR w vh vs vp p) (hva : Ints w va a) (hvb : Ints w vb b) (hb : planOk p = false) :
    Calls Try.prog 27 #[.agg #[vh, vs, vp], va, vb] w fun e w' => e = .returned (.tuple #[.slice none 0 0, .int .i64 2]) ∧ Ext w w' := by
  obtain ⟨aoh, caph, aos, caps, aop, capp, rfl, rfl, rfl⟩ := planR_shape hp
  have HP := hid hp
  have HA := hid hva
  have HB := hid hvb
  obtain ⟨-, aoa, capa, rfl, -⟩ := id hva
  obtain ⟨-, aob, capb, rfl, -⟩ := id hvb
  clear hp hva hvb
  go_enter Try.func27, Try.ntmps27
  go_wp2_with (fail)
  refine (combine_bad _ _ _ _ _ _ p a b _ (HP.out.ext (Ext.ofAlloc _ _)) (HA.out.ext (Ext.ofAlloc _ _)) (HB.out.ext (Ext.ofAlloc _ _)) hb).mono ?_
  rintro e w1 ⟨rfl, he⟩
  have HE := hid ((Ext.ofAlloc w _).trans he)
  clear he
  go_wp2
  go_ret2
  exact ⟨rfl, HE.out⟩
set_option maxHeartbeats 1000000 in
theorem Join_arg (vh vs vp va vb : Value) (p : PlanD) (hok : PlanOk p) (a b : List Int) (w : World) (hp : PlanR w vh vs vp p) (hva : Ints w va a) (hvb : Ints w vb b) (hb : (matB p hok a && matB p hok b) = false) :
    Calls Try.prog 27 #[.agg #[vh, vs, vp], va, vb] w fun e w' => e = .returned (.tuple #[.slice none 0 0, .int .i64 2]) ∧ Ext w w' := by
  obtain ⟨aoh, caph, aos, caps, aop, capp, rfl, rfl, rfl⟩ := planR_shape hp
  have HP := hid hp
  have HA := hid hva
  have HB := hid hvb
  obtain ⟨-, aoa, capa, rfl, -⟩ := id hva
  obtain ⟨-, aob, capb, rfl, -⟩ := id hvb
  clear hp hva hvb
  go_enter Try.func27, Try.ntmps27
  go_wp2_with (fail)
  refine (combine_arg _ _ _ _ _ _ p hok a b _ (HP.out.ext (Ext.ofAlloc _ _)) (HA.out.ext (Ext.ofAlloc _ _)) (HB.out.ext (Ext.ofAlloc _ _)) hb).mono ?_
  rintro e w1 ⟨rfl, he⟩
  have HE := hid ((Ext.ofAlloc w _).trans he)
  clear he
  go_wp2
  go_ret2
  exact ⟨rfl, HE.out⟩
set_option maxHeartbeats 1000000 in
theorem Join_state (vh vs vp va vb : Value) (p : PlanD) (hok : PlanOk p) (a b : List Int) (w : World) (hp : PlanR w vh vs vp p) (hva : Ints w va a) (hvb : Ints w vb b) (hma : matB p hok a = true) (hmb : matB p hok b = true) (hb : (stB p hok a && stB p hok b) = false) :
    Calls Try.prog 27 #[.agg #[vh, vs, vp], va, vb] w fun e w' => e = .returned (.tuple #[.slice none 0 0, .int .i64 5]) ∧ Ext w w' := by
  obtain ⟨aoh, caph, aos, caps, aop, capp, rfl, rfl, rfl⟩ := planR_shape hp
  have HP := hid hp
  have HA := hid hva
  have HB := hid hvb
  obtain ⟨-, aoa, capa, rfl, -⟩ := id hva
  obtain ⟨-, aob, capb, rfl, -⟩ := id hvb
  clear hp hva hvb
  go_enter Try.func27, Try.ntmps27
  go_wp2_with (fail)
  refine (combine_state _ _ _ _ _ _ p hok a b _ (HP.out.ext (Ext.ofAlloc _ _)) (HA.out.ext (Ext.ofAlloc _ _)) (HB.out.ext (Ext.ofAlloc _ _)) hma hmb hb).mono ?_
  rintro e w1 ⟨rfl, he⟩
  have HE := hid ((Ext.ofAlloc w _).trans he)
  clear he
  go_wp2
  go_ret2
  exact ⟨rfl, HE.out⟩
set_option maxHeartbeats 1000000 in
theorem Join_ok (vh vs vp va vb : Value) (p : PlanD) (hok : PlanOk p) (a b : List Int) (w : World) (hp : PlanR w vh vs vp p) (hva : Ints w va a) (hvb : Ints w vb b) (hsa : StL p hok a) (hsb : StL p hok b) :
    Calls Try.prog 27 #[.agg #[vh, vs, vp], va, vb] w fun e w' => ∃ u, e = .returned (.tuple #[u, .int .i64 0]) ∧ OwnI w.heap.size w' u (joinL p a b) ∧ Ext w w' := by
  obtain ⟨aoh, caph, aos, caps, aop, capp, rfl, rfl, rfl⟩ := planR_shape hp
  have HP := hid hp
  have HA := hid hva
  have HB := hid hvb
  obtain ⟨-, aoa, capa, rfl, -⟩ := id hva
  obtain ⟨-, aob, capb, rfl, -⟩ := id hvb
  clear hp hva hvb
  go_enter Try.func27, Try.ntmps27
  go_wp2_with (fail)
  refine (combine_join _ _ _ _ _ p hok a b _ (HP.out.ext (Ext.ofAlloc _ _)) (HA.out.ext (Ext.ofAlloc _ _)) (HB.out.ext (Ext.ofAlloc _ _)) hsa hsb).mono ?_
  rintro e w1 ⟨u, rfl, hu, he⟩
  have HU := hid hu
  have HE := hid ((Ext.ofAlloc w _).trans he)
  clear hu he
  go_wp2
  go_ret2
  exact ⟨_, rfl, ownsRow_base HU.out (by simp), HE.out⟩

set_option maxRecDepth 20000 in
set_option maxHeartbeats 4000000 in
theorem combine_meet (vh vs vp va vb : Value) (p : PlanD) (hok : PlanOk p) (a b : List Int) (w : World) (hp : PlanR w vh vs vp p) (hva : Ints w va a) (hvb : Ints w vb b) (hsa : StL p hok a) (hsb : StL p hok b) :
    Calls Try.prog 61 #[.agg #[vh, vs, vp], va, vb, .func (.func 63) #[] #[]] w fun e w' => ∃ u, e = .returned (.tuple #[u, .int .i64 0]) ∧ OwnI w.heap.size w' u (meetL p a b) ∧ Ext w w' := by
  obtain ⟨aoh, caph, aos, caps, aop, capp, rfl, rfl, rfl⟩ := planR_shape hp
  have HP := hid hp
  have HA := hid hva
  have HB := hid hvb
  have hv : planOk p = true := planOk_iff.2 hok
  have hma : matB p hok a = true := matB_iff.2 hsa.mat
  have hmb : matB p hok b = true := matB_iff.2 hsb.mat
  have hta : stB p hok a = true := stB_iff.2 hsa
  have htb : stB p hok b = true := stB_iff.2 hsb
  have HSa := hid hsa
  have HSb := hid hsb
  have Hok := hid hok
  have hn6 := hok.h6
  have hs4 := hok.s4
  obtain ⟨-, aoa, capa, rfl, -⟩ := id hva
  obtain ⟨-, aob, capb, rfl, -⟩ := id hvb
  obtain ⟨ba, oa, rfl, -⟩ := hva.get 0 (by rw [hsa.1]; exact hok.h1)
  obtain ⟨bb, ob, rfl, -⟩ := hvb.get 0 (by rw [hsb.1]; exact hok.h1)
  obtain ⟨bh, oh, -, -, rfl, -, -⟩ := hp.1.at 0 (by omega) (by have := hok.h1; omega)
  have hla : Hid (a.length = p.hands.length) := hsa.1
  have hlb : Hid (b.length = p.hands.length) := hsb.1
  have X0 := hid (Box3.alloc w 29 (.slice (some ⟨bh, oh, none⟩) p.hands.length caph) (.slice aos p.shifts.length caps) (.slice aop p.places.length capp))
  obtain ⟨i0, hi, hz0, hz1, hz2⟩ := info_parts info_int
  clear hp hva hvb hsa hsb
  go_enter Try.func61, Try.ntmps61
  go_wp2_with (fail)
  refine (valid_any _ _ _ p _ (HP.out.ext (Ext.ofAlloc _ _))).mono ?_
  rw [hv]
  rintro e w1 ⟨rfl, he⟩
  have X1 := hid (X0.out.ext he)
  obtain ⟨c0, c1, c2⟩ := X1.out.cells
  have HE := hid ((Ext.ofAlloc w _).trans he)
  clear he
  go_wp2_with (fail)
  refine (matching_any _ _ _ _ p hok a _ (HP.out.ext HE.out) (HA.out.ext HE.out)).mono ?_
  rw [hma]
  rintro e w2 ⟨rfl, he2⟩
  have HE2 := hid (HE.out.trans he2)
  have X2 := hid (X1.out.ext he2)
  clear he2 c0 c1 c2
  obtain ⟨c0, c1, c2⟩ := X2.out.cells
  go_wp2_with (fail)
  refine (matching_any _ _ _ _ p hok b _ (HP.out.ext HE2.out) (HB.out.ext HE2.out)).mono ?_
  rw [hmb]
  rintro e w3 ⟨rfl, he3⟩
  have HE3 := hid (HE2.out.trans he3)
  have X3 := hid (X2.out.ext he3)
  clear he3 c0 c1 c2
  obtain ⟨c0, c1, c2⟩ := X3.out.cells
  go_wp2_with (fail)
  refine (isStable_any _ _ _ _ p hok a _ (HP.out.ext HE3.out) (HA.out.ext HE3.out)).mono ?_
  rw [hta]
  rintro e w4 ⟨rfl, he4⟩
  have HE4 := hid (HE3.out.trans he4)
  have X4 := hid (X3.out.ext he4)
  clear he4 c0 c1 c2
  obtain ⟨c0, c1, c2⟩ := X4.out.cells
  go_wp2_with (fail)
  refine (isStable_any _ _ _ _ p hok b _ (HP.out.ext HE4.out) (HB.out.ext HE4.out)).mono ?_
  rw [htb]
  rintro e W ⟨rfl, he5⟩
  have HE5 := hid (HE4.out.trans he5)
  have X5 := hid (X4.out.ext he5)
  clear he5 c0 c1 c2
  obtain ⟨c0, c1, c2⟩ := X5.out.cells
  have hszW := HE5.out.size
  clear hv hma hmb hta htb
  go_wp2
  clear c0 c1 c2
  go_loopg [42, 10] p.hands.length (fun g i v wr => ∃ k : Nat, k + g = p.hands.length ∧ i = .int .i64 k ∧ Hid (OwnI W.heap.size wr v (meetTo p a b k)) ∧ Hid (Ext w wr) ∧ Hid (W.heap.size ≤ wr.heap.size))
  case atStart => exact ⟨0, by omega, rfl, World.ownsRow_nil _ _ _ _, HE5.out, Nat.le_refl _⟩
  case round =>
    obtain ⟨h, hk, rfl, OWN, E, SZ⟩ := hrel
    have hkl : h ≤ p.hands.length := by omega
    have Hk := hid hk
    clear hk
    by_cases hlt : h < p.hands.length
    · obtain ⟨-, ar, cr, hrow, hri⟩ := HP.out.1.row h hlt
      have dr := hrow _ E.out
      have Hrh := hid hri
      have hrl : (rowAt p.hands h).length ≤ 4 := by have := rowOk_short (rowAt_ok Hok.out.hs (i := h) (by omega)); omega
      have da := (HA.out.get' h (by have := hla.out; omega)).2 _ E.out
      have db := (HB.out.get' h (by have := hlb.out; omega)).2 _ E.out
      have hh0 : (0 : Int) ≤ (h : Int) := by omega
      have ha1 : (h : Int) < a.length := by have := hla.out; omega
      have hb1 : (h : Int) < b.length := by have := hlb.out; omega
      have Hs := hid (meetTo_succ p a b h)
      have hcs := meetI_cases p h (fn a h) (fn b h)
      have hpk := pick_in Hok.out (h := h) (x := meetI p h (fn a h) (fn b h)) (by
        rcases hcs.1 with e | e <;> rw [e]
        · exact HSa.out.2.m.ok h hlt
        · exact HSb.out.2.m.ok h hlt)
      have Hmin := hid hcs.2
      have hjl : (meetTo p a b h).length ≤ 6 := by unfold meetTo; simp; omega
      have hszr := SZ.out
      clear hrow hri hcs
      go_wp2
      clear dr
      refine wp_region_held_drew (S := (fun w' => w'.cell? ⟨ba, oa + h, none⟩ = some (.int .i64 (fn a h)) ∧ w'.cell? ⟨bb, ob + h, none⟩ = some (.int .i64 (fn b h)))) (by kernel_rfl) ?hSb0 (fun hHeld => ?_)
      case hSb0 => (first | (exact ⟨da, db⟩) | ((try dsimp only); exact ⟨da, db⟩))
      refine wpAnyH_tk 0 (v := ?vb0) rfl (by kernel_rfl) (by kernel_rfl) (by kernel_rfl) (fun _ _ _ h => h) (by rfl) ?hyb0 (by assumption) ?_
      case hyb0 => (intro w hSw; (try dsimp only at hSw); go_simp <;> with_reducible rfl)
      (try simp only [Act.put, List.setIfInBounds_toArray, List.set_cons_zero, List.set_cons_succ])
      refine wpAnyH_tk 1 (v := ?vb1) rfl (by kernel_rfl) (by kernel_rfl) (by kernel_rfl) (fun _ _ _ h => h) (by rfl) ?hyb1 (by assumption) ?_
      case hyb1 => (intro w hSw; (try dsimp only at hSw); go_simp <;> with_reducible rfl)
      (try simp only [Act.put, List.setIfInBounds_toArray, List.set_cons_zero, List.set_cons_succ])
      refine wpAnyH_tk 2 (v := ?vb2) rfl (by kernel_rfl) (by kernel_rfl) (by kernel_rfl) (fun _ _ _ h => h) (by rfl) ?hyb2 (by assumption) ?_
      case hyb2 => (intro w hSw; (try dsimp only at hSw); go_simp <;> with_reducible rfl)
      (try simp only [Act.put, List.setIfInBounds_toArray, List.set_cons_zero, List.set_cons_succ])
      refine wpAnyH_tk 3 (v := ?vb3) rfl (by kernel_rfl) (by kernel_rfl) (by kernel_rfl) (fun _ _ _ h => h) (by rfl) ?hyb3 (by assumption) ?_
      case hyb3 => (intro w hSw; (try dsimp only at hSw); go_simp <;> with_reducible rfl)
      (try simp only [Act.put, List.setIfInBounds_toArray, List.set_cons_zero, List.set_cons_succ])
      refine wpAnyH_tk 4 (v := ?vb4) rfl (by kernel_rfl) (by kernel_rfl) (by kernel_rfl) (fun _ _ _ h => h) (by rfl) ?hyb4 (by assumption) ?_
      case hyb4 => (intro w hSw; (try dsimp only at hSw); go_simp <;> with_reducible rfl)
      (try simp only [Act.put, List.setIfInBounds_toArray, List.set_cons_zero, List.set_cons_succ])
      refine wpAnyH_tk 5 (v := ?vb5) rfl (by kernel_rfl) (by kernel_rfl) (by kernel_rfl) (fun _ _ _ h => h) (by rfl) ?hyb5 (by assumption) ?_
      case hyb5 => (intro w hSw; (try dsimp only at hSw); go_simp <;> with_reducible rfl)
      (try simp only [Act.put, List.setIfInBounds_toArray, List.set_cons_zero, List.set_cons_succ])
      refine wpAnyH_tk 7 (v := ?vb7) rfl (by kernel_rfl) (by kernel_rfl) (by kernel_rfl) (fun _ _ _ h => h) (by rfl) ?hyb7 (by assumption) ?_
      case hyb7 => (intro w hSw; (try dsimp only at hSw); go_simp <;> with_reducible rfl)
      (try simp only [Act.put, List.setIfInBounds_toArray, List.set_cons_zero, List.set_cons_succ])
      refine wpAnyH_tk 8 (v := ?vb8) rfl (by kernel_rfl) (by kernel_rfl) (by kernel_rfl) (fun _ _ _ h => h) (by rfl) ?hyb8 (by assumption) ?_
      case hyb8 => (intro w hSw; (try dsimp only at hSw); go_simp <;> with_reducible rfl)
      (try simp only [Act.put, List.setIfInBounds_toArray, List.set_cons_zero, List.set_cons_succ])
      refine wpAnyH_tk 9 (v := ?vb9) rfl (by kernel_rfl) (by kernel_rfl) (by kernel_rfl) (fun _ _ _ h => h) (by rfl) ?hyb9 (by assumption) ?_
      case hyb9 => (intro w hSw; (try dsimp only at hSw); go_simp <;> with_reducible rfl)
      (try simp only [Act.put, List.setIfInBounds_toArray, List.set_cons_zero, List.set_cons_succ])
      refine wpAnyH_tk 10 (v := ?vb10) rfl (by kernel_rfl) (by kernel_rfl) (by kernel_rfl) (fun _ _ _ h => h) (by rfl) ?hyb10 (by assumption) ?_
      case hyb10 => (intro w hSw; (try dsimp only at hSw); go_simp <;> with_reducible rfl)
      (try simp only [Act.put, List.setIfInBounds_toArray, List.set_cons_zero, List.set_cons_succ])
      refine wpAnyH_tk 11 (v := ?vb11) rfl (by kernel_rfl) (by kernel_rfl) (by kernel_rfl) (fun _ _ _ h => h) (by rfl) ?hyb11 (by assumption) ?_
      case hyb11 => (intro w hSw; (try dsimp only at hSw); go_simp <;> with_reducible rfl)
      (try simp only [Act.put, List.setIfInBounds_toArray, List.set_cons_zero, List.set_cons_succ])
      refine wpAnyH_one 6 rfl (by kernel_rfl) (by rfl) (fun K hK => ?_)
      go_simp
      (go_at_call 80; refine (rank_any _ (rowAt p.hands h) (fn a h) _ (Hrh.out.ext E.out.drew)).mono ?_; rintro e w' ⟨rfl, rfl⟩)
      refine hK.out _ _ ?hSb7 (fun hHeld => ?_)
      case hSb7 => (first | (exact ⟨da, db⟩) | ((try dsimp only); exact ⟨da, db⟩))
      clear hK K
      (try simp only [Act.put, List.setIfInBounds_toArray, List.set_cons_zero, List.set_cons_succ])
      refine wpAnyH_one 12 rfl (by kernel_rfl) (by rfl) (fun K hK => ?_)
      go_simp
      (go_at_call 80; refine (rank_any _ (rowAt p.hands h) (fn b h) _ (Hrh.out.ext E.out.drew)).mono ?_; rintro e w' ⟨rfl, rfl⟩)
      refine hK.out _ _ ?hSb13 (fun hHeld => ?_)
      case hSb13 => (first | (exact ⟨da, db⟩) | ((try dsimp only); exact ⟨da, db⟩))
      clear hK K
      (try simp only [Act.put, List.setIfInBounds_toArray, List.set_cons_zero, List.set_cons_succ])
      refine wpAnyH_one 13 rfl (by kernel_rfl) (by rfl) (fun K hK => ?_)
      go_simp
      refine hK.out _ _ ?hSb14 (fun hHeld => ?_)
      case hSb14 => (first | (exact ⟨(Ext.ofAlloc _ _).cell da, (Ext.ofAlloc _ _).cell db⟩) | ((try dsimp only); exact ⟨(Ext.ofAlloc _ _).cell da, (Ext.ofAlloc _ _).cell db⟩))
      clear hK K
      (try simp only [Act.put, List.setIfInBounds_toArray, List.set_cons_zero, List.set_cons_succ])
      refine wpAnyH_one 14 rfl (by kernel_rfl) (by rfl) (fun K hK => ?_)
      go_simp
      (refine (most_any _ (rankP (rowAt p.hands h) (fn a h)) (rankP (rowAt p.hands h) (fn b h)) _ (IntBlock.ints (IntBlock.alloc wr.drew [_, _]) rfl (by simp))).mono ?_; rintro e w' ⟨rfl, rfl⟩)
      refine hK.out _ _ ?hSb15 (fun hHeld => ?_)
      case hSb15 => (first | (exact ⟨(Ext.ofAlloc _ _).cell da, (Ext.ofAlloc _ _).cell db⟩) | ((try dsimp only); exact ⟨(Ext.ofAlloc _ _).cell da, (Ext.ofAlloc _ _).cell db⟩))
      clear hK K
      (try simp only [Act.put, List.setIfInBounds_toArray, List.set_cons_zero, List.set_cons_succ])
      refine wpAnyH_tk 15 (v := ?vb15) rfl (by kernel_rfl) (by kernel_rfl) (by kernel_rfl) (fun _ _ _ h => h) (by rfl) ?hyb15 (by assumption) ?_
      case hyb15 => (intro w hSw; (try dsimp only at hSw); go_simp <;> with_reducible rfl)
      (try simp only [Act.put, List.setIfInBounds_toArray, List.set_cons_zero, List.set_cons_succ])
      refine wpAnyH_done (by kernel_rfl) ?_ _
      rw [Hmin.out]
      clear da db
      generalize hj : meetI p h (fn a h) (fn b h) = x at *
      have Hj := hid hj
      clear hj
      have E9 := hid (E.out.drew.alloc (.cells ([rankP (rowAt p.hands h) (fn a h), rankP (rowAt p.hands h) (fn b h)].map (Value.int .i64)).toArray 3))
      have O9 := hid (ownsRow_ext OWN.out ((Ext.refl wr).drew.alloc (.cells ([rankP (rowAt p.hands h) (fn a h), rankP (rowAt p.hands h) (fn b h)].map (Value.int .i64)).toArray 3)))
      have hsz9 : W.heap.size ≤ (wr.drew.alloc (.cells ([rankP (rowAt p.hands h) (fn a h), rankP (rowAt p.hands h) (fn b h)].map (Value.int .i64)).toArray 3)).heap.size := by simp; omega
      generalize wr.drew.alloc (.cells ([rankP (rowAt p.hands h) (fn a h), rankP (rowAt p.hands h) (fn b h)].map (Value.int .i64)).toArray 3) = w9 at *
      rcases hpk with ⟨e1, e2⟩ | ⟨e1, e2, e3, e4⟩
      · have e2' : (rankP (rowAt p.hands h) x == ((rowAt p.hands h).length : Int)) = true := by rw [e2]; simp
        have He1 := hid e1
        clear e1 e2
        go_wp2_with (at_builtin; go_must (refine wpList_append_own _ rfl _ _ 23 rfl W.heap.size 3 i0 (.int .i64 0) 1 8 Try.underlying23 hi hz0 hz1 hz2 rfl (by decide) _ _ _ rfl (O9.out.alloc _) ⟨w9.heap.size, 0, none⟩ 1 1 [.int .i64 (-1)] rfl rfl ?c1 ?c2 ?c3 ?c4 ?c5 ?_))
        case c1 => exact cell_one_new _ _ _
        case c2 => intro u hu; simp at hu; subst hu; rfl
        case c3 => unfold maxLen; omega
        case c4 => omega
        case c5 => simp; omega
        intro v' w' hown' hg _
        have hR := OwnI.push rfl hown'
        rw [← He1.out, ← Hs.out] at hR
        have hE := Ext.push E9.out O9.out hszW hg
        have hsz' := hg.size
        have HR := hid hR
        have HE := hid hE
        have HSZ : Hid (W.heap.size ≤ w'.heap.size) := by rw [World.size_alloc] at hsz'; exact Nat.le_trans hsz9 (by omega)
        clear hown' hg hR hE hsz'
        go_wp2
        go_roundg (gk - 1)
        case rel => exact ⟨h + 1, by have := Hk.out; omega, by go_num, HR.out, HE.out, HSZ⟩
        case measure => have := Hk.out; omega
      · have e2' : (rankP (rowAt p.hands h) x == ((rowAt p.hands h).length : Int)) = false := by simp; omega
        obtain ⟨br, orr, rfl, hbr, hcr⟩ := Hrh.out.get (rankP (rowAt p.hands h) x).toNat (by omega)
        have dx := hcr _ E9.out
        rw [e4] at dx
        have He1 := hid e1
        clear e1 hcr e4
        go_wp2_with (at_builtin; go_must (refine wpList_append_own _ rfl _ _ 23 rfl W.heap.size 3 i0 (.int .i64 0) 1 8 Try.underlying23 hi hz0 hz1 hz2 rfl (by decide) _ _ _ rfl (O9.out.alloc _) ⟨w9.heap.size, 0, none⟩ 1 1 [.int .i64 x] rfl rfl ?c1 ?c2 ?c3 ?c4 ?c5 ?_))
        case c1 => exact cell_one_new _ _ _
        case c2 => intro u hu; simp at hu; subst hu; rfl
        case c3 => unfold maxLen; omega
        case c4 => omega
        case c5 => simp; omega
        intro v' w' hown' hg _
        have hR := OwnI.push rfl hown'
        rw [← Hs.out] at hR
        have hE := Ext.push E9.out O9.out hszW hg
        have hsz' := hg.size
        have HR := hid hR
        have HE := hid hE
        have HSZ : Hid (W.heap.size ≤ w'.heap.size) := by rw [World.size_alloc] at hsz'; exact Nat.le_trans hsz9 (by omega)
        clear hown' hg hR hE hsz'
        go_wp2
        go_roundg (gk - 1)
        case rel => exact ⟨h + 1, by have := Hk.out; omega, by go_num, HR.out, HE.out, HSZ⟩
        case measure => have := Hk.out; omega
    · have ek : h = p.hands.length := by omega
      subst ek
      go_wp2
      go_ret2
      exact ⟨_, rfl, ownsRow_base OWN.out hszW, E.out⟩

set_option maxHeartbeats 1000000 in
theorem Meet_bad (vh vs vp va vb : Value) (p : PlanD) (a b : List Int) (w : World) (hp : PlanR w vh vs vp p) (hva : Ints w va a) (hvb : Ints w vb b) (hb : planOk p = false) :
    Calls Try.prog 28 #[.agg #[vh, vs, vp], va, vb] w fun e w' => e = .returned (.tuple #[.slice none 0 0, .int .i64 2]) ∧ Ext w w' := by
  obtain ⟨aoh, caph, aos, caps, aop, capp, rfl, rfl, rfl⟩ := planR_shape hp
  have HP := hid hp
  have HA := hid hva
  have HB := hid hvb
  obtain ⟨-, aoa, capa, rfl, -⟩ := id hva
  obtain ⟨-, aob, capb, rfl, -⟩ := id hvb
  clear hp hva hvb
  go_enter Try.func28, Try.ntmps28
  go_wp2_with (fail)
  refine (combine_bad _ _ _ _ _ _ p a b _ (HP.out.ext (Ext.ofAlloc _ _)) (HA.out.ext (Ext.ofAlloc _ _)) (HB.out.ext (Ext.ofAlloc _ _)) hb).mono ?_
  rintro e w1 ⟨rfl, he⟩
  have HE := hid ((Ext.ofAlloc w _).trans he)
  clear he
  go_wp2
  go_ret2
  exact ⟨rfl, HE.out⟩
set_option maxHeartbeats 1000000 in
theorem Meet_arg (vh vs vp va vb : Value) (p : PlanD) (hok : PlanOk p) (a b : List Int) (w : World) (hp : PlanR w vh vs vp p) (hva : Ints w va a) (hvb : Ints w vb b) (hb : (matB p hok a && matB p hok b) = false) :
    Calls Try.prog 28 #[.agg #[vh, vs, vp], va, vb] w fun e w' => e = .returned (.tuple #[.slice none 0 0, .int .i64 2]) ∧ Ext w w' := by
  obtain ⟨aoh, caph, aos, caps, aop, capp, rfl, rfl, rfl⟩ := planR_shape hp
  have HP := hid hp
  have HA := hid hva
  have HB := hid hvb
  obtain ⟨-, aoa, capa, rfl, -⟩ := id hva
  obtain ⟨-, aob, capb, rfl, -⟩ := id hvb
  clear hp hva hvb
  go_enter Try.func28, Try.ntmps28
  go_wp2_with (fail)
  refine (combine_arg _ _ _ _ _ _ p hok a b _ (HP.out.ext (Ext.ofAlloc _ _)) (HA.out.ext (Ext.ofAlloc _ _)) (HB.out.ext (Ext.ofAlloc _ _)) hb).mono ?_
  rintro e w1 ⟨rfl, he⟩
  have HE := hid ((Ext.ofAlloc w _).trans he)
  clear he
  go_wp2
  go_ret2
  exact ⟨rfl, HE.out⟩
set_option maxHeartbeats 1000000 in
theorem Meet_state (vh vs vp va vb : Value) (p : PlanD) (hok : PlanOk p) (a b : List Int) (w : World) (hp : PlanR w vh vs vp p) (hva : Ints w va a) (hvb : Ints w vb b) (hma : matB p hok a = true) (hmb : matB p hok b = true) (hb : (stB p hok a && stB p hok b) = false) :
    Calls Try.prog 28 #[.agg #[vh, vs, vp], va, vb] w fun e w' => e = .returned (.tuple #[.slice none 0 0, .int .i64 5]) ∧ Ext w w' := by
  obtain ⟨aoh, caph, aos, caps, aop, capp, rfl, rfl, rfl⟩ := planR_shape hp
  have HP := hid hp
  have HA := hid hva
  have HB := hid hvb
  obtain ⟨-, aoa, capa, rfl, -⟩ := id hva
  obtain ⟨-, aob, capb, rfl, -⟩ := id hvb
  clear hp hva hvb
  go_enter Try.func28, Try.ntmps28
  go_wp2_with (fail)
  refine (combine_state _ _ _ _ _ _ p hok a b _ (HP.out.ext (Ext.ofAlloc _ _)) (HA.out.ext (Ext.ofAlloc _ _)) (HB.out.ext (Ext.ofAlloc _ _)) hma hmb hb).mono ?_
  rintro e w1 ⟨rfl, he⟩
  have HE := hid ((Ext.ofAlloc w _).trans he)
  clear he
  go_wp2
  go_ret2
  exact ⟨rfl, HE.out⟩
set_option maxHeartbeats 1000000 in
theorem Meet_ok (vh vs vp va vb : Value) (p : PlanD) (hok : PlanOk p) (a b : List Int) (w : World) (hp : PlanR w vh vs vp p) (hva : Ints w va a) (hvb : Ints w vb b) (hsa : StL p hok a) (hsb : StL p hok b) :
    Calls Try.prog 28 #[.agg #[vh, vs, vp], va, vb] w fun e w' => ∃ u, e = .returned (.tuple #[u, .int .i64 0]) ∧ OwnI w.heap.size w' u (meetL p a b) ∧ Ext w w' := by
  obtain ⟨aoh, caph, aos, caps, aop, capp, rfl, rfl, rfl⟩ := planR_shape hp
  have HP := hid hp
  have HA := hid hva
  have HB := hid hvb
  obtain ⟨-, aoa, capa, rfl, -⟩ := id hva
  obtain ⟨-, aob, capb, rfl, -⟩ := id hvb
  clear hp hva hvb
  go_enter Try.func28, Try.ntmps28
  go_wp2_with (fail)
  refine (combine_meet _ _ _ _ _ p hok a b _ (HP.out.ext (Ext.ofAlloc _ _)) (HA.out.ext (Ext.ofAlloc _ _)) (HB.out.ext (Ext.ofAlloc _ _)) hsa hsb).mono ?_
  rintro e w1 ⟨u, rfl, hu, he⟩
  have HU := hid hu
  have HE := hid ((Ext.ofAlloc w _).trans he)
  clear hu he
  go_wp2
  go_ret2
  exact ⟨_, rfl, ownsRow_base HU.out (by simp), HE.out⟩

end Go.Proofs.Ytkdfbbkonbgfmaa
