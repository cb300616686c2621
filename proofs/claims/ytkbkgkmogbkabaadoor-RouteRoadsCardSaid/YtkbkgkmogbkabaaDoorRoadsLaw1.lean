/-
  The statement RouteRoads is proved: for every map, every road and every number the call returns true, and its arguments read afterwards as before. No condition but the library's table, tied to the program's text.
-/
import Derived.Test.YtkbkgkmogbkabaaDoorK12
import Derived.Test.YtkbkgkmogbkabaaDoorK7
import Derived.Test.YtkbkgkmogbkabaaDoorK9
import Derived.Test.YtkbkgkmogbkabaaDoorK5
import Derived.Test.YtkbkgkmogbkabaaDoorK14
import Derived.Test.YtkbkgkmogbkabaaDoorCards
import Derived.Test.YtkbkgkmogbkabaaDoorTie
/-
  The statement RouteRoads: its walk.
-/
namespace Go.Proofs.YtkbkgkmogbkabaaDoor
open Go.RowKit

theorem cost_sym : ∀ (rs : List RoadD) {N : Nat} (D : Nat → Nat → Int), (∀ r ∈ rs, roadOk N r = true) → (∀ i j, D i j = D j i) → ∀ i j, rs.foldl costStep D i j = rs.foldl costStep D j i
  | [], _, _, _, h, i, j => h i j
  | r :: rs, _, D, hr, h, i, j => cost_sym rs (costStep D r) (fun x hx => hr x (List.mem_cons_of_mem _ hx)) (fun i j => (costStep_le (hr r (List.mem_cons_self ..)) h i j).2) i j
theorem fw_mono {N : Nat} {D D' : Nat → Nat → Int} (h : ∀ i j, D' i j ≤ D i j) : ∀ k i j, fw D' k i j ≤ fw D k i j
  | 0, i, j => h i j
  | k + 1, i, j => by
    have h1 := fw_mono (N := N) h k i j
    have h2 := fw_mono (N := N) h k i k
    have h3 := fw_mono (N := N) h k k j
    show mn (fw D' k i j) (fw D' k i k + fw D' k k j) ≤ mn (fw D k i j) (fw D k i k + fw D k k j)
    have m := mn_le (fw D' k i j) (fw D' k i k + fw D' k k j)
    rcases mn_or (fw D k i j) (fw D k i k + fw D k k j) with e | e <;> rw [e] <;> omega
theorem road_more {rs : List RoadD} {N : Nat} {r : RoadD} (hr : ∀ q ∈ rs ++ [r], roadOk N q = true) (i j : Nat) : fw (costTo (rs ++ [r])) N i j ≤ fw (costTo rs) N i j := by
  have h1 : ∀ q ∈ rs, roadOk N q = true := fun q hq => hr q (List.mem_append_left _ hq)
  refine fw_mono (N := N) (fun a b => ?_) N i j
  have e : costTo (rs ++ [r]) = costStep (costTo rs) r := by unfold costTo; rw [List.foldl_append]; rfl
  rw [e]
  exact (costStep_le (hr r (by simp)) (cost_sym rs cost0 h1 (fun a b => by unfold cost0; by_cases e : b = a; · rw [e]
                                                                           · rw [if_neg e, if_neg (fun h => e h.symm)])) a b).1
theorem nn_more {rs : List RoadD} {N : Nat} {r : RoadD} (hr : ∀ q ∈ rs ++ [r], roadOk N q = true) {i j : Nat} (hi : i < N) (hj : j < N) (h0 : 0 ≤ nn (fw (costTo rs) N i j)) :
    0 ≤ nn (fw (costTo (rs ++ [r])) N i j) ∧ nn (fw (costTo (rs ++ [r])) N i j) ≤ nn (fw (costTo rs) N i j) := by
  have h1 := road_more hr i j
  have h2 := (dist_good (N := N) hr).lo i j hi hj
  unfold nn at h0 ⊢
  split at h0
  · omega
  · rw [if_neg (by omega)]
    split <;> omega
theorem more_bad {m : MapD} {r : RoadD} (h : mapOk m = false) : mapOk ⟨m.n, m.roads.take 18 ++ [r]⟩ = false := by
  rw [Bool.eq_false_iff]
  intro g
  have hc := mapOk_cut m
  rw [h] at hc
  unfold mapOk at g
  rw [Bool.and_eq_true, decide_eq_true_iff, List.all_eq_true] at g
  obtain ⟨⟨a, b, c⟩, d⟩ := g
  dsimp only at a b c d
  have : mapOk (cutM m) = true := by
    unfold mapOk cutM
    rw [Bool.and_eq_true, decide_eq_true_iff, List.all_eq_true]
    dsimp only
    rw [List.length_append] at c
    exact ⟨⟨a, b, by omega⟩, fun q hq => d q (List.mem_append_left _ hq)⟩
  rw [this] at hc
  simp at hc
theorem roads_facts {rs : List RoadD} {N s : Nat} {r : RoadD} (hok : mapOk ⟨N, rs⟩ = true) (hok2 : mapOk ⟨N, rs ++ [r]⟩ = true) (hs : stopsB N s = true) (hn : Cn rs s) : Cn (rs ++ [r]) s ∧ steinerV (rs ++ [r]) N s ≤ steinerV rs N s := by
  obtain ⟨h1, h8, h16, hall, a0, aN⟩ := ok_parts hok hs
  obtain ⟨-, -, h16', hall', -, -⟩ := ok_parts hok2 hs
  refine ⟨fun x y hx hy => (hn x y hx hy).left, ?_⟩
  obtain ⟨l, ⟨t1, t2⟩, -, -, -⟩ := steiner_opt hall h1 h8 h16 a0 aN hn
  have k := steiner_le hall' h1 h8 a0 aN (fun q hq => List.mem_append_left _ (treeP_in t1 q hq)) (treeP_cn t1)
  rw [← costL_sum, t2] at k
  exact k

set_option maxRecDepth 20000 in
set_option maxHeartbeats 16000000 in
theorem RouteRoads_any (vr : Value) (m : MapD) (r : RoadD) (st : Int) (w : World) (hm : MapR w vr m) (hTZ : TZ w) :
    Calls Tryd.prog 6 #[.agg #[.int .i64 m.n, vr], .agg #[.int .i64 r.a, .int .i64 r.b, .int .i64 r.cost], .int .i64 st] w fun e w' => e = .returned (.bool true) ∧ Ext w w' := by
  obtain ⟨ao, cap, rfl⟩ := hm.shape
  have HM := hid hm
  have HTZ := hid hTZ
  obtain ⟨i0, hi, hz0, hz1, hz2⟩ := info_parts info_road
  have X0 := (Box2.alloc w 24 (.int .i64 m.n) (.slice ao m.roads.length cap)).ext (Ext.ofAlloc _ (.cells #[.int .i64 r.a, .int .i64 r.b, .int .i64 r.cost] 51))
  have RB := Box3.alloc (w.alloc (.cells #[.int .i64 m.n, .slice ao m.roads.length cap] 24)) 51 (.int .i64 r.a) (.int .i64 r.b) (.int .i64 r.cost)
  simp only [World.size_alloc] at RB
  clear hm hTZ
  by_cases hb : mapOk m = true
  · obtain ⟨n, rs⟩ := m
    have hok2 := hb
    unfold mapOk at hok2
    rw [Bool.and_eq_true, decide_eq_true_iff, List.all_eq_true] at hok2
    obtain ⟨⟨h1, h8, h16⟩, hall⟩ := hok2
    dsimp only at h1 h8 h16 hall
    obtain ⟨N, rfl⟩ := Int.eq_ofNat_of_zero_le (show 0 ≤ n by omega)
    have hN1 : 1 ≤ N := by omega
    have hN8 : N ≤ 8 := by omega
    have HB := hid hb
    have HAll := hid hall
    have HTK : Hid (rs.take 18 = rs) := congrArg MapD.roads (cutM_id hb)
    dsimp only at X0 HM
    clear hb hall
    have RB2 := RB
    by_cases hb2 : mapOk ⟨N, rs ++ [r]⟩ = true
    · have HB2 := hid hb2
      have HAll2 : Hid (∀ q ∈ rs ++ [r], roadOk N q = true) := by
        have h := hb2
        unfold mapOk at h
        rw [Bool.and_eq_true, List.all_eq_true] at h
        exact h.2
      clear hb2 RB2
      go_enter Tryd.func6, Tryd.ntmps6
      have RB_0 := hid (RB)
      go_wp2_with (fail)
      refine (Of_any _ ⟨N, rs⟩ _ (MapR.ext HM.out ((Ext.ofAlloc w _).trans (Ext.ofAlloc _ _)))).mono ?_
      rintro e w1 ⟨uU, rfl, hu, he1⟩
      dsimp only at hu
      rw [HTK.out] at hu
      have X1 := hid (X0.ext he1)
      have RB_1 := hid (RB_0.out.ext he1)
      have E1 := hid (((Ext.ofAlloc w _).trans (Ext.ofAlloc _ _)).trans he1)
      clear he1
      obtain ⟨c0, c1⟩ := X1.out.cells
      have U_1 := hid (hu.roads (by omega))
      clear hu
      go_wp2_with (fail)
      refine (Distances_ok _ N rs _ U_1.out HB.out).mono ?_
      rintro e w2 ⟨vd, rfl, hm, he2⟩
      have hrows := hm.rows2 (by omega) (by omega)
      obtain ⟨gb, kb, rfl, -⟩ := hm.head (by omega)
      clear hm
      clear c0 c1
      have X2 := hid (X1.out.ext he2)
      have RB_2 := hid (RB_1.out.ext he2)
      have U_2 := hid (U_1.out.ext he2)
      have E2 := hid (E1.out.trans he2)
      clear he2
      obtain ⟨c0, c1⟩ := X2.out.cells
      have T_2 := hid (hrows)
      clear hrows
      go_wp2_with (fail)
      refine (Of_any _ ⟨N, rs⟩ _ (MapR.ext HM.out E2.out)).mono ?_
      rintro e w3 ⟨uM, rfl, huM, he3⟩
      dsimp only at huM
      rw [HTK.out] at huM
      clear c0 c1
      have X3 := hid (X2.out.ext he3)
      have RB_3 := hid (RB_2.out.ext he3)
      have T_3 := hid (T_2.out.ext he3)
      have E3 := hid (E2.out.trans he3)
      have HEW_3 := hid he3
      clear he3
      obtain ⟨c0, c1⟩ := X3.out.cells
      obtain ⟨aM, nM, cM, rfl⟩ := own_shape huM
      have HUM := hid huM
      have heW : Ext w2 w3 := HEW_3.out
      have eB := Ext.ofAlloc w3 (.cells #[.int .i64 N, .slice aM nM cM] 31)
      have MB0 := Box2.alloc w3 31 (.int .i64 N) (.slice aM nM cM)
      obtain ⟨b0, b1⟩ := MB0.cells
      obtain ⟨r0, r1, r2⟩ := (RB_3.out.ext eB).cells
      replace c0 := eB.cell c0
      replace c1 := eB.cell c1
      have hlr : rs.length ≤ 18 := by omega
      go_wp2_with (at_builtin; go_must (refine wpList_append_own_at _ rfl _ _ 29 rfl w2.heap.size 55 i0 (.agg #[.int .i64 0, .int .i64 0, .int .i64 0]) 3 24 Tryd.underlying29 hi hz0 hz1 hz2 rfl (by decide) _ _ _ rfl ((World.ownsRow.alloc HUM.out (.cells #[.int .i64 N, .slice aM nM cM] 31)).alloc (.cells #[.int .i64 r.a, .int .i64 r.b, .int .i64 r.cost] 55)) ⟨w3.heap.size + 1, 0, none⟩ 1 1 [.int .i64 r.a, .int .i64 r.b, .int .i64 r.cost] rfl rfl ?c1 ?c2 ?c3 ?c4 ?c5 ?_))
      case c1 =>
        have h := cell_three_new (w3.alloc (.cells #[.int .i64 N, .slice aM nM cM] 31)) 55 (.int .i64 r.a) (.int .i64 r.b) (.int .i64 r.cost)
        rw [World.size_alloc] at h
        exact h
      case c2 => intro u hu; simp at hu; rcases hu with rfl | rfl | rfl <;> rfl
      case c3 => unfold maxLen; omega
      case c4 => omega
      case c5 =>
        have := heW.size
        simp; omega
      intro v' wA hown' hg _ hat
      have hlt := HUM.out.lt
      have heA : Ext w2 wA := Ext.push (heW.alloc (.cells #[.int .i64 N, .slice aM nM cM] 31)) (World.ownsRow.alloc HUM.out (.cells #[.int .i64 N, .slice aM nM cM] 31)) (Nat.le_refl _) hg
      have hR := OwnRd.push rfl hown'
      have hsz := heW.size
      have hMB : Box2 wA w3.heap.size 31 (.int .i64 N) (.slice aM nM cM) := by
        show wA.heap[_]? = _
        rw [hg.block _ (by simp; omega) (fun e => by have := (hlt _ e.symm).2; omega)]
        exact MB0.ext (Ext.ofAlloc _ _)
      have hne : v'.ownBlock ≠ some w3.heap.size := by
        rcases hat with e | e
        · rw [e]; intro h; have := (hlt _ h).2; omega
        · rw [e]; simp only [ne_eq, Option.some.injEq]; omega
      obtain ⟨q0, q1⟩ := hMB.cells
      have f1 := hMB.free 1
      obtain ⟨aV, nV, cV, rfl⟩ := own_shape hR
      have MB_3 := hid (hMB.set1 (.slice aV nV cV))
      have MR_3 := hid (OwnRd.roads (ownsRow_setCell_other hR (a := ⟨w3.heap.size, 1, none⟩) hne (.slice aV nV cV)) (by rw [List.length_append]; show _ + 1 ≤ _; omega))
      have EF := hid (heA.setCell (show w2.heap.size ≤ w3.heap.size from hsz) 1 (.slice aV nV cV))
      have HBM := hid (rfl : w3.heap.size = w3.heap.size)
      clear hown' hg hat hlt heA hR hsz hMB hne b0 b1 r0 r1 r2 c0 c1 huM heW eB MB0
      obtain ⟨m0, m1⟩ := MB_3.out.cells
      go_wp2_with (fail)
      clear q0 q1 f1 m0 m1
      generalize wA.setCell ⟨w3.heap.size, 1, none⟩ (.slice aV nV cV) = WF at MB_3 MR_3 EF ⊢
      generalize w3.heap.size = bm at MB_3 ⊢
      have eF3 := hid (EF.out)
      have X4 := hid (X2.out.ext eF3.out)
      have RB_4 := hid (RB_2.out.ext eF3.out)
      have T_4 := hid (T_2.out.ext eF3.out)
      have E4 := hid (E2.out.trans eF3.out)
      obtain ⟨m0, m1⟩ := MB_3.out.cells
      obtain ⟨c0, c1⟩ := X4.out.cells
      refine (Distances_ok _ N (rs ++ [r]) _ MR_3.out HB2.out).mono ?_
      rintro e w5 ⟨vx, rfl, hx, he5⟩
      have hrowx := hx.rows2 (by omega) (by omega)
      obtain ⟨gx, kx, rfl, -⟩ := hx.head (by omega)
      clear hx
      clear c0 c1
      have X5 := hid (X4.out.ext he5)
      have RB_5 := hid (RB_4.out.ext he5)
      have T_5 := hid (T_4.out.ext he5)
      have MB_5 := hid (MB_3.out.ext he5)
      have MR_5 := hid (MR_3.out.ext he5)
      have E5 := hid (E4.out.trans he5)
      clear he5
      obtain ⟨c0, c1⟩ := X5.out.cells
      clear m0 m1
      obtain ⟨m0, m1⟩ := MB_5.out.cells
      have T2_5 := hid (hrowx)
      clear hrowx
      go_wp2
      clear c0 c1 m0 m1
      obtain ⟨WL, hWL⟩ : ∃ x, x = w5 := ⟨_, rfl⟩
      have hEL : Ext WL w5 := by rw [hWL]; exact Ext.refl _
      have ET := hid hEL
      have LRB := RB_5
      rw [← hWL] at LRB
      have LT := T_5
      rw [← hWL] at LT
      have LMB := MB_5
      rw [← hWL] at LMB
      have LMR := MR_5
      rw [← hWL] at LMR
      have LT2 := T2_5
      rw [← hWL] at LT2
      have LX := X5
      rw [← hWL] at LX
      have LE := hid E5.out
      rw [← hWL] at LE
      clear hWL hEL
      go_loopg [60] N (fun g i wr => ∃ a : Nat, a + g = N ∧ i = .int .i64 a ∧ Hid (Ext WL wr))
      case atStart => exact ⟨0, by omega, rfl, ET⟩
      case round =>
        clear ET
        obtain ⟨a, ha, rfl, E⟩ := hrel
        have haN : a ≤ N := by omega
        have Ha := hid ha
        clear ha
        by_cases hla : a < N
        · have hai : (a : Int) < N := by omega
          go_wp2
          go_loopg [65] N (fun g i wr => ∃ b : Nat, b + g = N ∧ i = .int .i64 b ∧ Hid (Ext WL wr))
          case atStart => exact ⟨0, by omega, rfl, E⟩
          case round =>
            clear E
            obtain ⟨b, hb, rfl, E⟩ := hrel
            have hbN : b ≤ N := by omega
            have Hb := hid hb
            clear hb
            by_cases hlb : b < N
            · have hbi : (b : Int) < N := by omega
              obtain ⟨-, ard, crd, hrd, hid1⟩ := LT.out.row a (by simp; omega)
              obtain ⟨-, arx, crx, hrx, hid2⟩ := LT2.out.row a (by simp; omega)
              rw [rowAt_tab hla] at hrd hid1 hrx hid2
              obtain ⟨rD, oRD, rfl, -, hcD⟩ := hid1.get b (by rw [rowL_len]; exact hlb)
              obtain ⟨rX, oRX, rfl, -, hcX⟩ := hid2.get b (by rw [rowL_len]; exact hlb)
              rw [rowL_fn hlb] at hcD hcX
              rw [rowL_len] at hrd hrx
              rw [Nat.zero_add] at hrd hrx
              have o1 := hrd _ E.out
              have o2 := hrx _ E.out
              have o3 := hcD _ E.out
              have o4 := hcX _ E.out
              have E2 := hid E.out.drew
              have hmono := nn_more HAll2.out hla hlb
              obtain ⟨d, hd⟩ : ∃ d, d = nn (fw (costTo rs) N a b) := ⟨_, rfl⟩
              obtain ⟨x, hx⟩ : ∃ x, x = nn (fw (costTo (rs ++ [r])) N a b) := ⟨_, rfl⟩
              rw [← hd] at o3 hmono
              rw [← hx] at o4 hmono
              clear hrd hrx hid1 hid2 hcD hcX hd hx
              by_cases hd0 : 0 ≤ d
              · obtain ⟨g1, g2⟩ := hmono hd0
                have hd0b : decide (d ≥ 0) = true := decide_eq_true hd0
                have hx0b : decide (x < 0) = false := decide_eq_false (by omega)
                have hx1b : decide (x > d) = false := decide_eq_false (by omega)
                have hx1b2 : decide (d < x) = false := decide_eq_false (by omega)
                clear hmono
                go_wp2
                refine wp_region_held_drew (S := (fun w' => w'.cell? ⟨gb, a, none⟩ = some (.slice (some ⟨rD, oRD, none⟩) N crd) ∧ w'.cell? ⟨gx, a, none⟩ = some (.slice (some ⟨rX, oRX, none⟩) N crx) ∧ w'.cell? ⟨rD, oRD + b, none⟩ = some (.int .i64 d) ∧ w'.cell? ⟨rX, oRX + b, none⟩ = some (.int .i64 x))) (by kernel_rfl) ?hSa0 (fun hHeld => ?_)
                case hSa0 => (first | (exact ⟨o1, o2, o3, o4⟩) | ((try dsimp only); exact ⟨o1, o2, o3, o4⟩))
                refine wpAnyH_tk 0 (v := ?va0) rfl (by kernel_rfl) (by kernel_rfl) (by kernel_rfl) (fun _ _ _ h => h) (by rfl) ?hya0 (by assumption) ?_
                case hya0 => (intro w hSw; (try dsimp only at hSw); go_simp <;> with_reducible rfl)
                (try simp only [Act.put, List.setIfInBounds_toArray, List.set_cons_zero, List.set_cons_succ])
                refine wpAnyH_tk 1 (v := ?va1) rfl (by kernel_rfl) (by kernel_rfl) (by kernel_rfl) (fun _ _ _ h => h) (by rfl) ?hya1 (by assumption) ?_
                case hya1 => (intro w hSw; (try dsimp only at hSw); go_simp <;> with_reducible rfl)
                (try simp only [Act.put, List.setIfInBounds_toArray, List.set_cons_zero, List.set_cons_succ])
                refine wpAnyH_tk 2 (v := ?va2) rfl (by kernel_rfl) (by kernel_rfl) (by kernel_rfl) (fun _ _ _ h => h) (by rfl) ?hya2 (by assumption) ?_
                case hya2 => (intro w hSw; (try dsimp only at hSw); go_simp <;> with_reducible rfl)
                (try simp only [Act.put, List.setIfInBounds_toArray, List.set_cons_zero, List.set_cons_succ])
                refine wpAnyH_tk 3 (v := ?va3) rfl (by kernel_rfl) (by kernel_rfl) (by kernel_rfl) (fun _ _ _ h => h) (by rfl) ?hya3 (by assumption) ?_
                case hya3 => (intro w hSw; (try dsimp only at hSw); go_simp <;> with_reducible rfl)
                (try simp only [Act.put, List.setIfInBounds_toArray, List.set_cons_zero, List.set_cons_succ])
                refine wpAnyH_tk 4 (v := ?va4) rfl (by kernel_rfl) (by kernel_rfl) (by kernel_rfl) (fun _ _ _ h => h) (by rfl) ?hya4 (by assumption) ?_
                case hya4 => (intro w hSw; (try dsimp only at hSw); go_simp <;> with_reducible rfl)
                (try simp only [Act.put, List.setIfInBounds_toArray, List.set_cons_zero, List.set_cons_succ])
                refine wpAnyH_tk 5 (v := ?va5) rfl (by kernel_rfl) (by kernel_rfl) (by kernel_rfl) (fun _ _ _ h => h) (by rfl) ?hya5 (by assumption) ?_
                case hya5 => (intro w hSw; (try dsimp only at hSw); go_simp <;> with_reducible rfl)
                (try simp only [Act.put, List.setIfInBounds_toArray, List.set_cons_zero, List.set_cons_succ])
                refine wpAnyH_tk 6 (v := ?va6) rfl (by kernel_rfl) (by kernel_rfl) (by kernel_rfl) (fun _ _ _ h => h) (by rfl) ?hya6 (by assumption) ?_
                case hya6 => (intro w hSw; (try dsimp only at hSw); go_simp <;> with_reducible rfl)
                (try simp only [Act.put, List.setIfInBounds_toArray, List.set_cons_zero, List.set_cons_succ])
                refine wpAnyH_tk 7 (v := ?va7) rfl (by kernel_rfl) (by kernel_rfl) (by kernel_rfl) (fun _ _ _ h => h) (by rfl) ?hya7 (by assumption) ?_
                case hya7 => (intro w hSw; (try dsimp only at hSw); go_simp <;> with_reducible rfl)
                (try simp only [Act.put, List.setIfInBounds_toArray, List.set_cons_zero, List.set_cons_succ])
                refine wpAnyH_tk 8 (v := ?va8) rfl (by kernel_rfl) (by kernel_rfl) (by kernel_rfl) (fun _ _ _ h => h) (by rfl) ?hya8 (by assumption) ?_
                case hya8 => (intro w hSw; (try dsimp only at hSw); go_simp <;> with_reducible rfl)
                (try simp only [Act.put, List.setIfInBounds_toArray, List.set_cons_zero, List.set_cons_succ])
                refine wpAnyH_tk 9 (v := ?va9) rfl (by kernel_rfl) (by kernel_rfl) (by kernel_rfl) (fun _ _ _ h => h) (by rfl) ?hya9 (by assumption) ?_
                case hya9 => (intro w hSw; (try dsimp only at hSw); go_simp <;> with_reducible rfl)
                (try simp only [Act.put, List.setIfInBounds_toArray, List.set_cons_zero, List.set_cons_succ])
                refine wpAnyH_tk 10 (v := ?va10) rfl (by kernel_rfl) (by kernel_rfl) (by kernel_rfl) (fun _ _ _ h => h) (by rfl) ?hya10 (by assumption) ?_
                case hya10 => (intro w hSw; (try dsimp only at hSw); go_simp <;> with_reducible rfl)
                (try simp only [Act.put, List.setIfInBounds_toArray, List.set_cons_zero, List.set_cons_succ])
                refine wpAnyH_tk 11 (v := ?va11) rfl (by kernel_rfl) (by kernel_rfl) (by kernel_rfl) (fun _ _ _ h => h) (by rfl) ?hya11 (by assumption) ?_
                case hya11 => (intro w hSw; (try dsimp only at hSw); go_simp <;> with_reducible rfl)
                (try simp only [Act.put, List.setIfInBounds_toArray, List.set_cons_zero, List.set_cons_succ])
                refine wpAnyH_tk 12 (v := ?va12) rfl (by kernel_rfl) (by kernel_rfl) (by kernel_rfl) (fun _ _ _ h => h) (by rfl) ?hya12 (by assumption) ?_
                case hya12 => (intro w hSw; (try dsimp only at hSw); go_simp <;> with_reducible rfl)
                (try simp only [Act.put, List.setIfInBounds_toArray, List.set_cons_zero, List.set_cons_succ])
                refine wpAnyH_tk 13 (v := ?va13) rfl (by kernel_rfl) (by kernel_rfl) (by kernel_rfl) (fun _ _ _ h => h) (by rfl) ?hya13 (by assumption) ?_
                case hya13 => (intro w hSw; (try dsimp only at hSw); go_simp <;> with_reducible rfl)
                (try simp only [Act.put, List.setIfInBounds_toArray, List.set_cons_zero, List.set_cons_succ])
                refine wpAnyH_tk 14 (v := ?va14) rfl (by kernel_rfl) (by kernel_rfl) (by kernel_rfl) (fun _ _ _ h => h) (by rfl) ?hya14 (by assumption) ?_
                case hya14 => (intro w hSw; (try dsimp only at hSw); go_simp <;> with_reducible rfl)
                (try simp only [Act.put, List.setIfInBounds_toArray, List.set_cons_zero, List.set_cons_succ])
                refine wpAnyH_tk 15 (v := ?va15) rfl (by kernel_rfl) (by kernel_rfl) (by kernel_rfl) (fun _ _ _ h => h) (by rfl) ?hya15 (by assumption) ?_
                case hya15 => (intro w hSw; (try dsimp only at hSw); go_simp <;> with_reducible rfl)
                (try simp only [Act.put, List.setIfInBounds_toArray, List.set_cons_zero, List.set_cons_succ])
                refine wpAnyH_tk 16 (v := ?va16) rfl (by kernel_rfl) (by kernel_rfl) (by kernel_rfl) (fun _ _ _ h => h) (by rfl) ?hya16 (by assumption) ?_
                case hya16 => (intro w hSw; (try dsimp only at hSw); go_simp <;> with_reducible rfl)
                (try simp only [Act.put, List.setIfInBounds_toArray, List.set_cons_zero, List.set_cons_succ])
                refine wpAnyH_tk 17 (v := ?va17) rfl (by kernel_rfl) (by kernel_rfl) (by kernel_rfl) (fun _ _ _ h => h) (by rfl) ?hya17 (by assumption) ?_
                case hya17 => (intro w hSw; (try dsimp only at hSw); go_simp <;> with_reducible rfl)
                (try simp only [Act.put, List.setIfInBounds_toArray, List.set_cons_zero, List.set_cons_succ])
                refine wpAnyH_tk 18 (v := ?va18) rfl (by kernel_rfl) (by kernel_rfl) (by kernel_rfl) (fun _ _ _ h => h) (by rfl) ?hya18 (by assumption) ?_
                case hya18 => (intro w hSw; (try dsimp only at hSw); go_simp <;> with_reducible rfl)
                (try simp only [Act.put, List.setIfInBounds_toArray, List.set_cons_zero, List.set_cons_succ])
                refine wpAnyH_tk 19 (v := ?va19) rfl (by kernel_rfl) (by kernel_rfl) (by kernel_rfl) (fun _ _ _ h => h) (by rfl) ?hya19 (by assumption) ?_
                case hya19 => (intro w hSw; (try dsimp only at hSw); go_simp <;> with_reducible rfl)
                (try simp only [Act.put, List.setIfInBounds_toArray, List.set_cons_zero, List.set_cons_succ])
                refine wpAnyH_tk 20 (v := ?va20) rfl (by kernel_rfl) (by kernel_rfl) (by kernel_rfl) (fun _ _ _ h => h) (by rfl) ?hya20 (by assumption) ?_
                case hya20 => (intro w hSw; (try dsimp only at hSw); go_simp <;> with_reducible rfl)
                (try simp only [Act.put, List.setIfInBounds_toArray, List.set_cons_zero, List.set_cons_succ])
                refine wpAnyH_tk 21 (v := ?va21) rfl (by kernel_rfl) (by kernel_rfl) (by kernel_rfl) (fun _ _ _ h => h) (by rfl) ?hya21 (by assumption) ?_
                case hya21 => (intro w hSw; (try dsimp only at hSw); go_simp <;> with_reducible rfl)
                (try simp only [Act.put, List.setIfInBounds_toArray, List.set_cons_zero, List.set_cons_succ])
                refine wpAnyH_tk 22 (v := ?va22) rfl (by kernel_rfl) (by kernel_rfl) (by kernel_rfl) (fun _ _ _ h => h) (by rfl) ?hya22 (by assumption) ?_
                case hya22 => (intro w hSw; (try dsimp only at hSw); go_simp <;> with_reducible rfl)
                (try simp only [Act.put, List.setIfInBounds_toArray, List.set_cons_zero, List.set_cons_succ])
                refine wpAnyH_tk 23 (v := ?va23) rfl (by kernel_rfl) (by kernel_rfl) (by kernel_rfl) (fun _ _ _ h => h) (by rfl) ?hya23 (by assumption) ?_
                case hya23 => (intro w hSw; (try dsimp only at hSw); go_simp <;> with_reducible rfl)
                (try simp only [Act.put, List.setIfInBounds_toArray, List.set_cons_zero, List.set_cons_succ])
                refine wpAnyH_tk 24 (v := ?va24) rfl (by kernel_rfl) (by kernel_rfl) (by kernel_rfl) (fun _ _ _ h => h) (by rfl) ?hya24 (by assumption) ?_
                case hya24 => (intro w hSw; (try dsimp only at hSw); go_simp <;> with_reducible rfl)
                (try simp only [Act.put, List.setIfInBounds_toArray, List.set_cons_zero, List.set_cons_succ])
                refine wpAnyH_tk 25 (v := ?va25) rfl (by kernel_rfl) (by kernel_rfl) (by kernel_rfl) (fun _ _ _ h => h) (by rfl) ?hya25 (by assumption) ?_
                case hya25 => (intro w hSw; (try dsimp only at hSw); go_simp <;> with_reducible rfl)
                (try simp only [Act.put, List.setIfInBounds_toArray, List.set_cons_zero, List.set_cons_succ])
                refine wpAnyH_tk 26 (v := ?va26) rfl (by kernel_rfl) (by kernel_rfl) (by kernel_rfl) (fun _ _ _ h => h) (by rfl) ?hya26 (by assumption) ?_
                case hya26 => (intro w hSw; (try dsimp only at hSw); go_simp <;> with_reducible rfl)
                (try simp only [Act.put, List.setIfInBounds_toArray, List.set_cons_zero, List.set_cons_succ])
                refine wpAnyH_tk 27 (v := ?va27) rfl (by kernel_rfl) (by kernel_rfl) (by kernel_rfl) (fun _ _ _ h => h) (by rfl) ?hya27 (by assumption) ?_
                case hya27 => (intro w hSw; (try dsimp only at hSw); go_simp <;> with_reducible rfl)
                (try simp only [Act.put, List.setIfInBounds_toArray, List.set_cons_zero, List.set_cons_succ])
                refine wpAnyH_tk 28 (v := ?va28) rfl (by kernel_rfl) (by kernel_rfl) (by kernel_rfl) (fun _ _ _ h => h) (by rfl) ?hya28 (by assumption) ?_
                case hya28 => (intro w hSw; (try dsimp only at hSw); go_simp <;> with_reducible rfl)
                (try simp only [Act.put, List.setIfInBounds_toArray, List.set_cons_zero, List.set_cons_succ])
                refine wpAnyH_tk 29 (v := ?va29) rfl (by kernel_rfl) (by kernel_rfl) (by kernel_rfl) (fun _ _ _ h => h) (by rfl) ?hya29 (by assumption) ?_
                case hya29 => (intro w hSw; (try dsimp only at hSw); go_simp <;> with_reducible rfl)
                (try simp only [Act.put, List.setIfInBounds_toArray, List.set_cons_zero, List.set_cons_succ])
                refine wpAnyH_tk 30 (v := ?va30) rfl (by kernel_rfl) (by kernel_rfl) (by kernel_rfl) (fun _ _ _ h => h) (by rfl) ?hya30 (by assumption) ?_
                case hya30 => (intro w hSw; (try dsimp only at hSw); go_simp <;> with_reducible rfl)
                (try simp only [Act.put, List.setIfInBounds_toArray, List.set_cons_zero, List.set_cons_succ])
                refine wpAnyH_tk 31 (v := ?va31) rfl (by kernel_rfl) (by kernel_rfl) (by kernel_rfl) (fun _ _ _ h => h) (by rfl) ?hya31 (by assumption) ?_
                case hya31 => (intro w hSw; (try dsimp only at hSw); go_simp <;> with_reducible rfl)
                (try simp only [Act.put, List.setIfInBounds_toArray, List.set_cons_zero, List.set_cons_succ])
                refine wpAnyH_tk 32 (v := ?va32) rfl (by kernel_rfl) (by kernel_rfl) (by kernel_rfl) (fun _ _ _ h => h) (by rfl) ?hya32 (by assumption) ?_
                case hya32 => (intro w hSw; (try dsimp only at hSw); go_simp <;> with_reducible rfl)
                (try simp only [Act.put, List.setIfInBounds_toArray, List.set_cons_zero, List.set_cons_succ])
                refine wpAnyH_tk 33 (v := ?va33) rfl (by kernel_rfl) (by kernel_rfl) (by kernel_rfl) (fun _ _ _ h => h) (by rfl) ?hya33 (by assumption) ?_
                case hya33 => (intro w hSw; (try dsimp only at hSw); go_simp <;> with_reducible rfl)
                (try simp only [Act.put, List.setIfInBounds_toArray, List.set_cons_zero, List.set_cons_succ])
                refine wpAnyH_tk 34 (v := ?va34) rfl (by kernel_rfl) (by kernel_rfl) (by kernel_rfl) (fun _ _ _ h => h) (by rfl) ?hya34 (by assumption) ?_
                case hya34 => (intro w hSw; (try dsimp only at hSw); go_simp <;> with_reducible rfl)
                (try simp only [Act.put, List.setIfInBounds_toArray, List.set_cons_zero, List.set_cons_succ])
                refine wpAnyH_done (by kernel_rfl) ?_ _
                clear hHeld o1 o2 o3 o4
                go_wp2
                go_roundg (gk - 1)
                case rel => exact ⟨b + 1, by have := Hb.out; omega, by go_num, E2.out⟩
                case measure => have := Hb.out; omega
              · have hd0b : decide (d ≥ 0) = false := decide_eq_false (by omega)
                clear hmono hd0
                go_wp2
                refine wp_region_held_drew (S := (fun w' => w'.cell? ⟨gb, a, none⟩ = some (.slice (some ⟨rD, oRD, none⟩) N crd) ∧ w'.cell? ⟨gx, a, none⟩ = some (.slice (some ⟨rX, oRX, none⟩) N crx) ∧ w'.cell? ⟨rD, oRD + b, none⟩ = some (.int .i64 d) ∧ w'.cell? ⟨rX, oRX + b, none⟩ = some (.int .i64 x))) (by kernel_rfl) ?hSb0 (fun hHeld => ?_)
                case hSb0 => (first | (exact ⟨o1, o2, o3, o4⟩) | ((try dsimp only); exact ⟨o1, o2, o3, o4⟩))
                refine wpAnyH_tk 0 (v := ?vb0) rfl (by kernel_rfl) (by kernel_rfl) (by kernel_rfl) (fun _ _ _ h => h) (by rfl) ?hyb0 (by assumption) ?_
                case hyb0 => (intro w hSw; (try dsimp only at hSw); go_simp <;> with_reducible rfl)
                (try simp only [Act.put, List.setIfInBounds_toArray, List.set_cons_zero, List.set_cons_succ])
                refine wpAnyH_tk 1 (v := ?vb1) rfl (by kernel_rfl) (by kernel_rfl) (by kernel_rfl) (fun _ _ _ h => h) (by rfl) ?hyb1 (by assumption) ?_
                case hyb1 => (intro w hSw; (try dsimp only at hSw); go_simp <;> with_reducible rfl)
                (try simp only [Act.put, List.setIfInBounds_toArray, List.set_cons_zero, List.set_cons_succ])
                refine wpAnyH_tk 2 (v := ?vb2) rfl (by kernel_rfl) (by kernel_rfl) (by kernel_rfl) (fun _ _ _ h => h) (by rfl) ?hyb2 (by assumption) ?_
                case hyb2 => (intro w hSw; (try dsimp only at hSw); go_simp <;> with_reducible rfl)
                (try simp only [Act.put, List.setIfInBounds_toArray, List.set_cons_zero, List.set_cons_succ])
                refine wpAnyH_tk 3 (v := ?vb3) rfl (by kernel_rfl) (by kernel_rfl) (by kernel_rfl) (fun _ _ _ h => h) (by rfl) ?hyb3 (by assumption) ?_
                case hyb3 => (intro w hSw; (try dsimp only at hSw); go_simp <;> with_reducible rfl)
                (try simp only [Act.put, List.setIfInBounds_toArray, List.set_cons_zero, List.set_cons_succ])
                refine wpAnyH_tk 4 (v := ?vb4) rfl (by kernel_rfl) (by kernel_rfl) (by kernel_rfl) (fun _ _ _ h => h) (by rfl) ?hyb4 (by assumption) ?_
                case hyb4 => (intro w hSw; (try dsimp only at hSw); go_simp <;> with_reducible rfl)
                (try simp only [Act.put, List.setIfInBounds_toArray, List.set_cons_zero, List.set_cons_succ])
                refine wpAnyH_tk 5 (v := ?vb5) rfl (by kernel_rfl) (by kernel_rfl) (by kernel_rfl) (fun _ _ _ h => h) (by rfl) ?hyb5 (by assumption) ?_
                case hyb5 => (intro w hSw; (try dsimp only at hSw); go_simp <;> with_reducible rfl)
                (try simp only [Act.put, List.setIfInBounds_toArray, List.set_cons_zero, List.set_cons_succ])
                refine wpAnyH_tk 6 (v := ?vb6) rfl (by kernel_rfl) (by kernel_rfl) (by kernel_rfl) (fun _ _ _ h => h) (by rfl) ?hyb6 (by assumption) ?_
                case hyb6 => (intro w hSw; (try dsimp only at hSw); go_simp <;> with_reducible rfl)
                (try simp only [Act.put, List.setIfInBounds_toArray, List.set_cons_zero, List.set_cons_succ])
                refine wpAnyH_tk 7 (v := ?vb7) rfl (by kernel_rfl) (by kernel_rfl) (by kernel_rfl) (fun _ _ _ h => h) (by rfl) ?hyb7 (by assumption) ?_
                case hyb7 => (intro w hSw; (try dsimp only at hSw); go_simp <;> with_reducible rfl)
                (try simp only [Act.put, List.setIfInBounds_toArray, List.set_cons_zero, List.set_cons_succ])
                refine wpAnyH_tk 8 (v := ?vb8) rfl (by kernel_rfl) (by kernel_rfl) (by kernel_rfl) (fun _ _ _ h => h) (by rfl) ?hyb8 (by assumption) ?_
                case hyb8 => (intro w hSw; (try dsimp only at hSw); go_simp <;> with_reducible rfl)
                (try simp only [Act.put, List.setIfInBounds_toArray, List.set_cons_zero, List.set_cons_succ])
                refine wpAnyH_skips 8 true 76 17 (by kernel_rfl) rfl (fun _ _ _ _ _ h => h) [9, 10, 11, 12, 13, 14, 15, 16, 17] [77, 78, 79, 80, 81, 82, 83, 84, 85] _ _ _ rfl (by kernel_rfl) (by rfl) (by assumption) ?_
                (try simp only [putsAll, List.foldl, Act.put, List.setIfInBounds_toArray, List.set_cons_zero, List.set_cons_succ])
                refine wpAnyH_skipsU 17 false 85 2 (by kernel_rfl) rfl (fun _ _ _ _ _ h => h) [18, 19, 20, 21, 22, 23, 24, 25, 26, 27, 28, 29, 30, 31, 32] [86, 87, 88, 89, 90, 91, 92, 93, 94, 95, 96, 97, 98, 99, 100] _ _ _ rfl (by kernel_rfl) (by rfl) (by assumption) ?_
                (try simp only [putsAll, List.foldl, Act.put, List.setIfInBounds_toArray, List.set_cons_zero, List.set_cons_succ])
                refine wpAnyH_skips 8 true 76 1 (by kernel_rfl) rfl (fun _ _ _ _ _ h => h) [33] [101] _ _ _ rfl (by kernel_rfl) (by rfl) (by assumption) ?_
                (try simp only [putsAll, List.foldl, Act.put, List.setIfInBounds_toArray, List.set_cons_zero, List.set_cons_succ])
                refine wpAnyH_tk 34 (v := ?vb34) rfl (by kernel_rfl) (by kernel_rfl) (by kernel_rfl) (fun _ _ _ h => h) (by rfl) ?hyb34 (by assumption) ?_
                case hyb34 => (intro w hSw; (try dsimp only at hSw); go_simp <;> with_reducible rfl)
                (try simp only [Act.put, List.setIfInBounds_toArray, List.set_cons_zero, List.set_cons_succ])
                refine wpAnyH_done (by kernel_rfl) ?_ _
                clear hHeld o1 o2 o3 o4
                go_wp2
                go_roundg (gk - 1)
                case rel => exact ⟨b + 1, by have := Hb.out; omega, by go_num, E2.out⟩
                case measure => have := Hb.out; omega
            · go_wp2
              go_roundg (N - (a + 1))
              case rel => exact ⟨a + 1, by omega, by go_num, E.out⟩
              case measure => have := Ha.out; omega
        · have hai : ¬ ((a : Int) < N) := by omega
          clear hla
          by_cases hst : stopsB N st = true
          · obtain ⟨s, rfl⟩ := Int.eq_ofNat_of_zero_le (show 0 ≤ st by unfold stopsB at hst; rw [decide_eq_true_iff] at hst; omega)
            have HST := hid hst
            by_cases hcn : Cn rs s
            · obtain ⟨hcn2, hle⟩ := roads_facts HB.out HB2.out hst hcn
              have HCN := hid hcn
              have HCN2 := hid hcn2
              obtain ⟨y, hy⟩ : ∃ y, y = steinerV rs N s := ⟨_, rfl⟩
              obtain ⟨z, hz⟩ : ∃ z, z = steinerV (rs ++ [r]) N s := ⟨_, rfl⟩
              rw [← hy, ← hz] at hle
              have HY : Hid (steinerV rs N s = y) := hy.symm
              have HZ : Hid (steinerV (rs ++ [r]) N s = z) := hz.symm
              clear hst hcn hcn2 hy hz
              have eL := hid (E.out)
              have X101 := hid (LX.out.ext eL.out)
              have RB_101 := hid (LRB.out.ext eL.out)
              have T_101 := hid (LT.out.ext eL.out)
              have MB_101 := hid (LMB.out.ext eL.out)
              have MR_101 := hid (LMR.out.ext eL.out)
              have T2_101 := hid (LT2.out.ext eL.out)
              have E101 := hid (LE.out.trans eL.out)
              obtain ⟨c0, c1⟩ := X101.out.cells
              obtain ⟨m0, m1⟩ := MB_101.out.cells
              skip
              go_wp2_with (fail)
              refine (Of_any _ ⟨N, rs⟩ _ (MapR.ext HM.out E101.out)).mono ?_
              rintro e w102 ⟨uU, rfl, hu, he102⟩
              dsimp only at hu
              rw [HTK.out] at hu
              clear c0 c1
              have X102 := hid (X101.out.ext he102)
              have RB_102 := hid (RB_101.out.ext he102)
              have T_102 := hid (T_101.out.ext he102)
              have MB_102 := hid (MB_101.out.ext he102)
              have MR_102 := hid (MR_101.out.ext he102)
              have T2_102 := hid (T2_101.out.ext he102)
              have E102 := hid (E101.out.trans he102)
              clear he102
              obtain ⟨c0, c1⟩ := X102.out.cells
              have U_102 := hid (hu.roads (by omega))
              clear hu
              clear m0 m1
              obtain ⟨m0, m1⟩ := MB_102.out.cells
              go_wp2_with (fail)
              refine (Tree_ok _ N rs s _ U_102.out HB.out HST.out (HTZ.out.ext E102.out) HCN.out).mono ?_
              rintro e w103 ⟨v, l, rfl, ho, hbest, he103⟩
              have HBEST := hid hbest.out
              obtain ⟨av, cv, rfl⟩ := own_len ho
              have HO := hid (ho.ints (by have := treeP_len HBEST.out.1; omega))
              clear ho hbest
              clear c0 c1
              have X103 := hid (X102.out.ext he103)
              have RB_103 := hid (RB_102.out.ext he103)
              have T_103 := hid (T_102.out.ext he103)
              have MB_103 := hid (MB_102.out.ext he103)
              have MR_103 := hid (MR_102.out.ext he103)
              have T2_103 := hid (T2_102.out.ext he103)
              have U_103 := hid (U_102.out.ext he103)
              have E103 := hid (E102.out.trans he103)
              clear he103
              obtain ⟨c0, c1⟩ := X103.out.cells
              clear m0 m1
              obtain ⟨m0, m1⟩ := MB_103.out.cells
              have O_103 := hid (HO.out)
              clear HO
              go_wp2_with (fail)
              refine (Tree_ok _ N (rs ++ [r]) s _ MR_103.out HB2.out HST.out (HTZ.out.ext E103.out) HCN2.out).mono ?_
              rintro e w104 ⟨v2, l2, rfl, ho2, hbest2, he104⟩
              have HBEST2 := hid hbest2.out
              obtain ⟨av2, cv2, rfl⟩ := own_len ho2
              have HO2 := hid (ho2.ints (by have h := treeP_len HBEST2.out.1; rw [List.length_append, List.length_singleton] at h; omega))
              clear ho2 hbest2
              clear c0 c1
              have X104 := hid (X103.out.ext he104)
              have RB_104 := hid (RB_103.out.ext he104)
              have T_104 := hid (T_103.out.ext he104)
              have MB_104 := hid (MB_103.out.ext he104)
              have MR_104 := hid (MR_103.out.ext he104)
              have T2_104 := hid (T2_103.out.ext he104)
              have O_104 := hid (O_103.out.ext he104)
              have E104 := hid (E103.out.trans he104)
              clear he104
              obtain ⟨c0, c1⟩ := X104.out.cells
              clear m0 m1
              obtain ⟨m0, m1⟩ := MB_104.out.cells
              have O2_104 := hid (HO2.out)
              clear HO2
              go_wp2_with (fail)
              refine (Of_any _ ⟨N, rs⟩ _ (MapR.ext HM.out E104.out)).mono ?_
              rintro e w105 ⟨uU, rfl, hu, he105⟩
              dsimp only at hu
              rw [HTK.out] at hu
              clear c0 c1
              have X105 := hid (X104.out.ext he105)
              have RB_105 := hid (RB_104.out.ext he105)
              have T_105 := hid (T_104.out.ext he105)
              have MB_105 := hid (MB_104.out.ext he105)
              have MR_105 := hid (MR_104.out.ext he105)
              have T2_105 := hid (T2_104.out.ext he105)
              have O_105 := hid (O_104.out.ext he105)
              have O2_105 := hid (O2_104.out.ext he105)
              have E105 := hid (E104.out.trans he105)
              clear he105
              obtain ⟨c0, c1⟩ := X105.out.cells
              have U_105 := hid (hu.roads (by omega))
              clear hu
              clear m0 m1
              obtain ⟨m0, m1⟩ := MB_105.out.cells
              go_wp2_with (fail)
              refine (CheckTree_ok _ _ N rs s _ _ U_105.out O_105.out HB.out HST.out (HTZ.out.ext E105.out) (.inl ⟨HBEST.out.1, rfl, rfl⟩)).mono ?_
              rw [best_cost HB.out HST.out HCN.out HBEST.out, HY.out]
              rintro e w106 ⟨rfl, he106⟩
              clear c0 c1
              have X106 := hid (X105.out.ext he106)
              have RB_106 := hid (RB_105.out.ext he106)
              have T_106 := hid (T_105.out.ext he106)
              have MB_106 := hid (MB_105.out.ext he106)
              have MR_106 := hid (MR_105.out.ext he106)
              have T2_106 := hid (T2_105.out.ext he106)
              have O_106 := hid (O_105.out.ext he106)
              have O2_106 := hid (O2_105.out.ext he106)
              have U_106 := hid (U_105.out.ext he106)
              have E106 := hid (E105.out.trans he106)
              clear he106
              obtain ⟨c0, c1⟩ := X106.out.cells
              clear m0 m1
              obtain ⟨m0, m1⟩ := MB_106.out.cells
              go_wp2_with (fail)
              refine (CheckTree_ok _ _ N (rs ++ [r]) s _ _ MR_106.out O2_106.out HB2.out HST.out (HTZ.out.ext E106.out) (.inl ⟨HBEST2.out.1, rfl, rfl⟩)).mono ?_
              rw [best_cost HB2.out HST.out HCN2.out HBEST2.out, HZ.out]
              rintro e w107 ⟨rfl, he107⟩
              clear c0 c1
              have X107 := hid (X106.out.ext he107)
              have RB_107 := hid (RB_106.out.ext he107)
              have T_107 := hid (T_106.out.ext he107)
              have MB_107 := hid (MB_106.out.ext he107)
              have MR_107 := hid (MR_106.out.ext he107)
              have T2_107 := hid (T2_106.out.ext he107)
              have O2_107 := hid (O2_106.out.ext he107)
              have E107 := hid (E106.out.trans he107)
              clear he107
              obtain ⟨c0, c1⟩ := X107.out.cells
              clear m0 m1
              obtain ⟨m0, m1⟩ := MB_107.out.cells
              go_wp2_with (fail)
              refine (awake_any _).mono ?_
              rintro e w108 ⟨rfl, he108⟩
              clear c0 c1
              have E108 := hid (E107.out.trans he108)
              clear he108
              go_wp2
              go_ret
              exact ⟨rfl, E108.out⟩
            · have HCN := hid hcn
              clear hst hcn
              by_cases hcn2 : Cn (rs ++ [r]) s
              · have HCN2 := hid hcn2
                clear hcn2
                have eL := hid (E.out)
                have X101 := hid (LX.out.ext eL.out)
                have RB_101 := hid (LRB.out.ext eL.out)
                have T_101 := hid (LT.out.ext eL.out)
                have MB_101 := hid (LMB.out.ext eL.out)
                have MR_101 := hid (LMR.out.ext eL.out)
                have T2_101 := hid (LT2.out.ext eL.out)
                have E101 := hid (LE.out.trans eL.out)
                obtain ⟨c0, c1⟩ := X101.out.cells
                obtain ⟨m0, m1⟩ := MB_101.out.cells
                skip
                go_wp2_with (fail)
                refine (Of_any _ ⟨N, rs⟩ _ (MapR.ext HM.out E101.out)).mono ?_
                rintro e w102 ⟨uU, rfl, hu, he102⟩
                dsimp only at hu
                rw [HTK.out] at hu
                clear c0 c1
                have X102 := hid (X101.out.ext he102)
                have RB_102 := hid (RB_101.out.ext he102)
                have T_102 := hid (T_101.out.ext he102)
                have MB_102 := hid (MB_101.out.ext he102)
                have MR_102 := hid (MR_101.out.ext he102)
                have T2_102 := hid (T2_101.out.ext he102)
                have E102 := hid (E101.out.trans he102)
                clear he102
                obtain ⟨c0, c1⟩ := X102.out.cells
                have U_102 := hid (hu.roads (by omega))
                clear hu
                clear m0 m1
                obtain ⟨m0, m1⟩ := MB_102.out.cells
                go_wp2_with (fail)
                refine (Tree_none _ N rs s _ U_102.out HB.out HST.out (HTZ.out.ext E102.out) HCN.out).mono ?_
                rintro e w103 ⟨rfl, he103⟩
                clear c0 c1
                have X103 := hid (X102.out.ext he103)
                have RB_103 := hid (RB_102.out.ext he103)
                have T_103 := hid (T_102.out.ext he103)
                have MB_103 := hid (MB_102.out.ext he103)
                have MR_103 := hid (MR_102.out.ext he103)
                have T2_103 := hid (T2_102.out.ext he103)
                have U_103 := hid (U_102.out.ext he103)
                have E103 := hid (E102.out.trans he103)
                clear he103
                obtain ⟨c0, c1⟩ := X103.out.cells
                clear m0 m1
                obtain ⟨m0, m1⟩ := MB_103.out.cells
                go_wp2_with (fail)
                refine (Tree_ok _ N (rs ++ [r]) s _ MR_103.out HB2.out HST.out (HTZ.out.ext E103.out) HCN2.out).mono ?_
                rintro e w104 ⟨v2, l2, rfl, ho2, -, he104⟩
                obtain ⟨av2, cv2, rfl⟩ := own_len ho2
                clear ho2
                clear c0 c1
                have X104 := hid (X103.out.ext he104)
                have RB_104 := hid (RB_103.out.ext he104)
                have T_104 := hid (T_103.out.ext he104)
                have MB_104 := hid (MB_103.out.ext he104)
                have MR_104 := hid (MR_103.out.ext he104)
                have T2_104 := hid (T2_103.out.ext he104)
                have E104 := hid (E103.out.trans he104)
                clear he104
                obtain ⟨c0, c1⟩ := X104.out.cells
                clear m0 m1
                obtain ⟨m0, m1⟩ := MB_104.out.cells
                go_wp2_with (fail)
                refine (awake_any _).mono ?_
                rintro e w105 ⟨rfl, he105⟩
                clear c0 c1
                have E105 := hid (E104.out.trans he105)
                clear he105
                go_wp2
                go_ret
                exact ⟨rfl, E105.out⟩
              · have HCN2 := hid hcn2
                clear hcn2
                have eL := hid (E.out)
                have X101 := hid (LX.out.ext eL.out)
                have RB_101 := hid (LRB.out.ext eL.out)
                have T_101 := hid (LT.out.ext eL.out)
                have MB_101 := hid (LMB.out.ext eL.out)
                have MR_101 := hid (LMR.out.ext eL.out)
                have T2_101 := hid (LT2.out.ext eL.out)
                have E101 := hid (LE.out.trans eL.out)
                obtain ⟨c0, c1⟩ := X101.out.cells
                obtain ⟨m0, m1⟩ := MB_101.out.cells
                skip
                go_wp2_with (fail)
                refine (Of_any _ ⟨N, rs⟩ _ (MapR.ext HM.out E101.out)).mono ?_
                rintro e w102 ⟨uU, rfl, hu, he102⟩
                dsimp only at hu
                rw [HTK.out] at hu
                clear c0 c1
                have X102 := hid (X101.out.ext he102)
                have RB_102 := hid (RB_101.out.ext he102)
                have T_102 := hid (T_101.out.ext he102)
                have MB_102 := hid (MB_101.out.ext he102)
                have MR_102 := hid (MR_101.out.ext he102)
                have T2_102 := hid (T2_101.out.ext he102)
                have E102 := hid (E101.out.trans he102)
                clear he102
                obtain ⟨c0, c1⟩ := X102.out.cells
                have U_102 := hid (hu.roads (by omega))
                clear hu
                clear m0 m1
                obtain ⟨m0, m1⟩ := MB_102.out.cells
                go_wp2_with (fail)
                refine (Tree_none _ N rs s _ U_102.out HB.out HST.out (HTZ.out.ext E102.out) HCN.out).mono ?_
                rintro e w103 ⟨rfl, he103⟩
                clear c0 c1
                have X103 := hid (X102.out.ext he103)
                have RB_103 := hid (RB_102.out.ext he103)
                have T_103 := hid (T_102.out.ext he103)
                have MB_103 := hid (MB_102.out.ext he103)
                have MR_103 := hid (MR_102.out.ext he103)
                have T2_103 := hid (T2_102.out.ext he103)
                have U_103 := hid (U_102.out.ext he103)
                have E103 := hid (E102.out.trans he103)
                clear he103
                obtain ⟨c0, c1⟩ := X103.out.cells
                clear m0 m1
                obtain ⟨m0, m1⟩ := MB_103.out.cells
                go_wp2_with (fail)
                refine (Tree_none _ N (rs ++ [r]) s _ MR_103.out HB2.out HST.out (HTZ.out.ext E103.out) HCN2.out).mono ?_
                rintro e w104 ⟨rfl, he104⟩
                clear c0 c1
                have X104 := hid (X103.out.ext he104)
                have RB_104 := hid (RB_103.out.ext he104)
                have T_104 := hid (T_103.out.ext he104)
                have MB_104 := hid (MB_103.out.ext he104)
                have MR_104 := hid (MR_103.out.ext he104)
                have T2_104 := hid (T2_103.out.ext he104)
                have E104 := hid (E103.out.trans he104)
                clear he104
                obtain ⟨c0, c1⟩ := X104.out.cells
                clear m0 m1
                obtain ⟨m0, m1⟩ := MB_104.out.cells
                go_wp2_with (fail)
                refine (awake_any _).mono ?_
                rintro e w105 ⟨rfl, he105⟩
                clear c0 c1
                have E105 := hid (E104.out.trans he105)
                clear he105
                go_wp2
                go_ret
                exact ⟨rfl, E105.out⟩
          · have hsf : stopsB N st = false := by rw [Bool.eq_false_iff]; exact hst
            have HST := hid hsf
            clear hst hsf
            have eL := hid (E.out)
            have X101 := hid (LX.out.ext eL.out)
            have RB_101 := hid (LRB.out.ext eL.out)
            have T_101 := hid (LT.out.ext eL.out)
            have MB_101 := hid (LMB.out.ext eL.out)
            have MR_101 := hid (LMR.out.ext eL.out)
            have T2_101 := hid (LT2.out.ext eL.out)
            have E101 := hid (LE.out.trans eL.out)
            obtain ⟨c0, c1⟩ := X101.out.cells
            obtain ⟨m0, m1⟩ := MB_101.out.cells
            skip
            go_wp2_with (fail)
            refine (Of_any _ ⟨N, rs⟩ _ (MapR.ext HM.out E101.out)).mono ?_
            rintro e w102 ⟨uU, rfl, hu, he102⟩
            dsimp only at hu
            rw [HTK.out] at hu
            clear c0 c1
            have X102 := hid (X101.out.ext he102)
            have RB_102 := hid (RB_101.out.ext he102)
            have T_102 := hid (T_101.out.ext he102)
            have MB_102 := hid (MB_101.out.ext he102)
            have MR_102 := hid (MR_101.out.ext he102)
            have T2_102 := hid (T2_101.out.ext he102)
            have E102 := hid (E101.out.trans he102)
            clear he102
            obtain ⟨c0, c1⟩ := X102.out.cells
            have U_102 := hid (hu.roads (by omega))
            clear hu
            clear m0 m1
            obtain ⟨m0, m1⟩ := MB_102.out.cells
            go_wp2_with (fail)
            refine (Tree_bad _ ⟨N, rs⟩ st _ U_102.out (.inr ⟨HB.out, HST.out⟩)).mono ?_
            rintro e w103 ⟨rfl, he103⟩
            clear c0 c1
            have X103 := hid (X102.out.ext he103)
            have RB_103 := hid (RB_102.out.ext he103)
            have T_103 := hid (T_102.out.ext he103)
            have MB_103 := hid (MB_102.out.ext he103)
            have MR_103 := hid (MR_102.out.ext he103)
            have T2_103 := hid (T2_102.out.ext he103)
            have U_103 := hid (U_102.out.ext he103)
            have E103 := hid (E102.out.trans he103)
            clear he103
            obtain ⟨c0, c1⟩ := X103.out.cells
            clear m0 m1
            obtain ⟨m0, m1⟩ := MB_103.out.cells
            go_wp2_with (fail)
            refine (Tree_bad _ ⟨N, rs ++ [r]⟩ st _ MR_103.out (.inr ⟨HB2.out, HST.out⟩)).mono ?_
            rintro e w104 ⟨rfl, he104⟩
            clear c0 c1
            have X104 := hid (X103.out.ext he104)
            have RB_104 := hid (RB_103.out.ext he104)
            have T_104 := hid (T_103.out.ext he104)
            have MB_104 := hid (MB_103.out.ext he104)
            have MR_104 := hid (MR_103.out.ext he104)
            have T2_104 := hid (T2_103.out.ext he104)
            have E104 := hid (E103.out.trans he104)
            clear he104
            obtain ⟨c0, c1⟩ := X104.out.cells
            clear m0 m1
            obtain ⟨m0, m1⟩ := MB_104.out.cells
            go_wp2_with (fail)
            refine (awake_any _).mono ?_
            rintro e w105 ⟨rfl, he105⟩
            clear c0 c1
            have E105 := hid (E104.out.trans he105)
            clear he105
            go_wp2
            go_ret
            exact ⟨rfl, E105.out⟩
    · have HB2 := hid (show mapOk ⟨N, rs ++ [r]⟩ = false by rw [Bool.eq_false_iff]; exact hb2)
      clear hb2 RB2
      go_enter Tryd.func6, Tryd.ntmps6
      have RB_0 := hid (RB)
      go_wp2_with (fail)
      refine (Of_any _ ⟨N, rs⟩ _ (MapR.ext HM.out ((Ext.ofAlloc w _).trans (Ext.ofAlloc _ _)))).mono ?_
      rintro e w1 ⟨uU, rfl, hu, he1⟩
      dsimp only at hu
      rw [HTK.out] at hu
      have X1 := hid (X0.ext he1)
      have RB_1 := hid (RB_0.out.ext he1)
      have E1 := hid (((Ext.ofAlloc w _).trans (Ext.ofAlloc _ _)).trans he1)
      clear he1
      obtain ⟨c0, c1⟩ := X1.out.cells
      have U_1 := hid (hu.roads (by omega))
      clear hu
      go_wp2_with (fail)
      refine (Distances_ok _ N rs _ U_1.out HB.out).mono ?_
      rintro e w2 ⟨vd, rfl, hm, he2⟩
      have hrows := hm.rows2 (by omega) (by omega)
      obtain ⟨gb, kb, rfl, -⟩ := hm.head (by omega)
      clear hm
      clear c0 c1
      have X2 := hid (X1.out.ext he2)
      have RB_2 := hid (RB_1.out.ext he2)
      have U_2 := hid (U_1.out.ext he2)
      have E2 := hid (E1.out.trans he2)
      clear he2
      obtain ⟨c0, c1⟩ := X2.out.cells
      have T_2 := hid (hrows)
      clear hrows
      go_wp2_with (fail)
      refine (Of_any _ ⟨N, rs⟩ _ (MapR.ext HM.out E2.out)).mono ?_
      rintro e w3 ⟨uM, rfl, huM, he3⟩
      dsimp only at huM
      rw [HTK.out] at huM
      clear c0 c1
      have X3 := hid (X2.out.ext he3)
      have RB_3 := hid (RB_2.out.ext he3)
      have T_3 := hid (T_2.out.ext he3)
      have E3 := hid (E2.out.trans he3)
      have HEW_3 := hid he3
      clear he3
      obtain ⟨c0, c1⟩ := X3.out.cells
      obtain ⟨aM, nM, cM, rfl⟩ := own_shape huM
      have HUM := hid huM
      have heW : Ext w2 w3 := HEW_3.out
      have eB := Ext.ofAlloc w3 (.cells #[.int .i64 N, .slice aM nM cM] 31)
      have MB0 := Box2.alloc w3 31 (.int .i64 N) (.slice aM nM cM)
      obtain ⟨b0, b1⟩ := MB0.cells
      obtain ⟨r0, r1, r2⟩ := (RB_3.out.ext eB).cells
      replace c0 := eB.cell c0
      replace c1 := eB.cell c1
      have hlr : rs.length ≤ 18 := by omega
      go_wp2_with (at_builtin; go_must (refine wpList_append_own_at _ rfl _ _ 29 rfl w2.heap.size 55 i0 (.agg #[.int .i64 0, .int .i64 0, .int .i64 0]) 3 24 Tryd.underlying29 hi hz0 hz1 hz2 rfl (by decide) _ _ _ rfl ((World.ownsRow.alloc HUM.out (.cells #[.int .i64 N, .slice aM nM cM] 31)).alloc (.cells #[.int .i64 r.a, .int .i64 r.b, .int .i64 r.cost] 55)) ⟨w3.heap.size + 1, 0, none⟩ 1 1 [.int .i64 r.a, .int .i64 r.b, .int .i64 r.cost] rfl rfl ?c1 ?c2 ?c3 ?c4 ?c5 ?_))
      case c1 =>
        have h := cell_three_new (w3.alloc (.cells #[.int .i64 N, .slice aM nM cM] 31)) 55 (.int .i64 r.a) (.int .i64 r.b) (.int .i64 r.cost)
        rw [World.size_alloc] at h
        exact h
      case c2 => intro u hu; simp at hu; rcases hu with rfl | rfl | rfl <;> rfl
      case c3 => unfold maxLen; omega
      case c4 => omega
      case c5 =>
        have := heW.size
        simp; omega
      intro v' wA hown' hg _ hat
      have hlt := HUM.out.lt
      have heA : Ext w2 wA := Ext.push (heW.alloc (.cells #[.int .i64 N, .slice aM nM cM] 31)) (World.ownsRow.alloc HUM.out (.cells #[.int .i64 N, .slice aM nM cM] 31)) (Nat.le_refl _) hg
      have hR := OwnRd.push rfl hown'
      have hsz := heW.size
      have hMB : Box2 wA w3.heap.size 31 (.int .i64 N) (.slice aM nM cM) := by
        show wA.heap[_]? = _
        rw [hg.block _ (by simp; omega) (fun e => by have := (hlt _ e.symm).2; omega)]
        exact MB0.ext (Ext.ofAlloc _ _)
      have hne : v'.ownBlock ≠ some w3.heap.size := by
        rcases hat with e | e
        · rw [e]; intro h; have := (hlt _ h).2; omega
        · rw [e]; simp only [ne_eq, Option.some.injEq]; omega
      obtain ⟨q0, q1⟩ := hMB.cells
      have f1 := hMB.free 1
      obtain ⟨aV, nV, cV, rfl⟩ := own_shape hR
      have MB_3 := hid (hMB.set1 (.slice aV nV cV))
      have MR_3 := hid (OwnRd.roads (ownsRow_setCell_other hR (a := ⟨w3.heap.size, 1, none⟩) hne (.slice aV nV cV)) (by rw [List.length_append]; show _ + 1 ≤ _; omega))
      have EF := hid (heA.setCell (show w2.heap.size ≤ w3.heap.size from hsz) 1 (.slice aV nV cV))
      have HBM := hid (rfl : w3.heap.size = w3.heap.size)
      clear hown' hg hat hlt heA hR hsz hMB hne b0 b1 r0 r1 r2 c0 c1 huM heW eB MB0
      obtain ⟨m0, m1⟩ := MB_3.out.cells
      go_wp2_with (fail)
      clear q0 q1 f1 m0 m1
      generalize wA.setCell ⟨w3.heap.size, 1, none⟩ (.slice aV nV cV) = WF at MB_3 MR_3 EF ⊢
      generalize w3.heap.size = bm at MB_3 ⊢
      have eF3 := hid (EF.out)
      have X4 := hid (X2.out.ext eF3.out)
      have RB_4 := hid (RB_2.out.ext eF3.out)
      have T_4 := hid (T_2.out.ext eF3.out)
      have E4 := hid (E2.out.trans eF3.out)
      obtain ⟨m0, m1⟩ := MB_3.out.cells
      obtain ⟨c0, c1⟩ := X4.out.cells
      refine (Distances_bad _ ⟨N, rs ++ [r]⟩ _ MR_3.out HB2.out).mono ?_
      rintro e w5 ⟨rfl, he5⟩
      clear c0 c1
      have X5 := hid (X4.out.ext he5)
      have RB_5 := hid (RB_4.out.ext he5)
      have T_5 := hid (T_4.out.ext he5)
      have MB_5 := hid (MB_3.out.ext he5)
      have MR_5 := hid (MR_3.out.ext he5)
      have E5 := hid (E4.out.trans he5)
      clear he5
      obtain ⟨c0, c1⟩ := X5.out.cells
      clear m0 m1
      obtain ⟨m0, m1⟩ := MB_5.out.cells
      go_wp2_with (fail)
      refine (awake_any _).mono ?_
      rintro e w6 ⟨rfl, he6⟩
      clear c0 c1
      have E6 := hid (E5.out.trans he6)
      clear he6
      go_wp2
      go_ret
      exact ⟨rfl, E6.out⟩
  · have hbf : mapOk m = false := by rw [Bool.eq_false_iff]; exact hb
    have HBC : Hid (mapOk (cutM m) = false) := by show _ = _; rw [mapOk_cut, hbf]
    have hbm2 := more_bad (r := r) hbf
    obtain ⟨rs0, hrs0⟩ : ∃ x, x = m.roads.take 18 := ⟨_, rfl⟩
    rw [← hrs0] at hbm2
    have HBM2 := hid hbm2
    have HRL : Hid (rs0.length ≤ 18) := by show _ ≤ _; rw [hrs0, List.length_take]; omega
    have HRS0 := hid hrs0
    clear hrs0 hbm2
    clear hb hbf
    go_enter Tryd.func6, Tryd.ntmps6
    have RB_0 := hid (RB)
    go_wp2_with (fail)
    refine (Of_any _ m _ (MapR.ext HM.out ((Ext.ofAlloc w _).trans (Ext.ofAlloc _ _)))).mono ?_
    rintro e w1 ⟨uU, rfl, hu, he1⟩
    have X1 := hid (X0.ext he1)
    have RB_1 := hid (RB_0.out.ext he1)
    have E1 := hid (((Ext.ofAlloc w _).trans (Ext.ofAlloc _ _)).trans he1)
    clear he1
    obtain ⟨c0, c1⟩ := X1.out.cells
    have U_1 := hid (hu.roads (by rw [List.length_take]; omega))
    clear hu
    go_wp2_with (fail)
    refine (Distances_bad _ (cutM m) _ U_1.out HBC.out).mono ?_
    rintro e w2 ⟨rfl, he2⟩
    clear c0 c1
    have X2 := hid (X1.out.ext he2)
    have RB_2 := hid (RB_1.out.ext he2)
    have U_2 := hid (U_1.out.ext he2)
    have E2 := hid (E1.out.trans he2)
    clear he2
    obtain ⟨c0, c1⟩ := X2.out.cells
    go_wp2_with (fail)
    refine (Of_any _ m _ (MapR.ext HM.out E2.out)).mono ?_
    rintro e w3 ⟨uM, rfl, huM, he3⟩
    rw [← HRS0.out] at huM
    clear c0 c1
    have X3 := hid (X2.out.ext he3)
    have RB_3 := hid (RB_2.out.ext he3)
    have E3 := hid (E2.out.trans he3)
    have HEW_3 := hid he3
    clear he3
    obtain ⟨c0, c1⟩ := X3.out.cells
    obtain ⟨aM, nM, cM, rfl⟩ := own_shape huM
    have HUM := hid huM
    have heW : Ext w2 w3 := HEW_3.out
    have eB := Ext.ofAlloc w3 (.cells #[.int .i64 m.n, .slice aM nM cM] 31)
    have MB0 := Box2.alloc w3 31 (.int .i64 m.n) (.slice aM nM cM)
    obtain ⟨b0, b1⟩ := MB0.cells
    obtain ⟨r0, r1, r2⟩ := (RB_3.out.ext eB).cells
    replace c0 := eB.cell c0
    replace c1 := eB.cell c1
    have hlr : rs0.length ≤ 18 := by exact HRL.out
    go_wp2_with (at_builtin; go_must (refine wpList_append_own_at _ rfl _ _ 29 rfl w2.heap.size 55 i0 (.agg #[.int .i64 0, .int .i64 0, .int .i64 0]) 3 24 Tryd.underlying29 hi hz0 hz1 hz2 rfl (by decide) _ _ _ rfl ((World.ownsRow.alloc HUM.out (.cells #[.int .i64 m.n, .slice aM nM cM] 31)).alloc (.cells #[.int .i64 r.a, .int .i64 r.b, .int .i64 r.cost] 55)) ⟨w3.heap.size + 1, 0, none⟩ 1 1 [.int .i64 r.a, .int .i64 r.b, .int .i64 r.cost] rfl rfl ?c1 ?c2 ?c3 ?c4 ?c5 ?_))
    case c1 =>
      have h := cell_three_new (w3.alloc (.cells #[.int .i64 m.n, .slice aM nM cM] 31)) 55 (.int .i64 r.a) (.int .i64 r.b) (.int .i64 r.cost)
      rw [World.size_alloc] at h
      exact h
    case c2 => intro u hu; simp at hu; rcases hu with rfl | rfl | rfl <;> rfl
    case c3 => unfold maxLen; omega
    case c4 => omega
    case c5 =>
      have := heW.size
      simp; omega
    intro v' wA hown' hg _ hat
    have hlt := HUM.out.lt
    have heA : Ext w2 wA := Ext.push (heW.alloc (.cells #[.int .i64 m.n, .slice aM nM cM] 31)) (World.ownsRow.alloc HUM.out (.cells #[.int .i64 m.n, .slice aM nM cM] 31)) (Nat.le_refl _) hg
    have hR := OwnRd.push rfl hown'
    have hsz := heW.size
    have hMB : Box2 wA w3.heap.size 31 (.int .i64 m.n) (.slice aM nM cM) := by
      show wA.heap[_]? = _
      rw [hg.block _ (by simp; omega) (fun e => by have := (hlt _ e.symm).2; omega)]
      exact MB0.ext (Ext.ofAlloc _ _)
    have hne : v'.ownBlock ≠ some w3.heap.size := by
      rcases hat with e | e
      · rw [e]; intro h; have := (hlt _ h).2; omega
      · rw [e]; simp only [ne_eq, Option.some.injEq]; omega
    obtain ⟨q0, q1⟩ := hMB.cells
    have f1 := hMB.free 1
    obtain ⟨aV, nV, cV, rfl⟩ := own_shape hR
    have MB_3 := hid (hMB.set1 (.slice aV nV cV))
    have MR_3 := hid (OwnRd.roads (ownsRow_setCell_other hR (a := ⟨w3.heap.size, 1, none⟩) hne (.slice aV nV cV)) (by rw [List.length_append]; show _ + 1 ≤ _; omega))
    have EF := hid (heA.setCell (show w2.heap.size ≤ w3.heap.size from hsz) 1 (.slice aV nV cV))
    have HBM := hid (rfl : w3.heap.size = w3.heap.size)
    clear hown' hg hat hlt heA hR hsz hMB hne b0 b1 r0 r1 r2 c0 c1 huM heW eB MB0
    obtain ⟨m0, m1⟩ := MB_3.out.cells
    go_wp2_with (fail)
    clear q0 q1 f1 m0 m1
    generalize wA.setCell ⟨w3.heap.size, 1, none⟩ (.slice aV nV cV) = WF at MB_3 MR_3 EF ⊢
    generalize w3.heap.size = bm at MB_3 ⊢
    have eF3 := hid (EF.out)
    have X4 := hid (X2.out.ext eF3.out)
    have RB_4 := hid (RB_2.out.ext eF3.out)
    have E4 := hid (E2.out.trans eF3.out)
    obtain ⟨m0, m1⟩ := MB_3.out.cells
    obtain ⟨c0, c1⟩ := X4.out.cells
    refine (Distances_bad _ ⟨m.n, rs0 ++ [r]⟩ _ MR_3.out HBM2.out).mono ?_
    rintro e w5 ⟨rfl, he5⟩
    clear c0 c1
    have X5 := hid (X4.out.ext he5)
    have RB_5 := hid (RB_4.out.ext he5)
    have MB_5 := hid (MB_3.out.ext he5)
    have MR_5 := hid (MR_3.out.ext he5)
    have E5 := hid (E4.out.trans he5)
    clear he5
    obtain ⟨c0, c1⟩ := X5.out.cells
    clear m0 m1
    obtain ⟨m0, m1⟩ := MB_5.out.cells
    go_wp2_with (fail)
    refine (awake_any _).mono ?_
    rintro e w6 ⟨rfl, he6⟩
    clear c0 c1
    have E6 := hid (E5.out.trans he6)
    clear he6
    go_wp2
    go_ret
    exact ⟨rfl, E6.out⟩

end Go.Proofs.YtkbkgkmogbkabaaDoor

/-
  How the arguments of the statements are opened: a road.
-/
namespace Go.Proofs.YtkbkgkmogbkabaaDoor
open Go.ChangeShapes Go.WideShapes Go.ChangeAt Go.RowKit Go.Joins Go.Deep

section
variable {H : Type} {enc : TypeId × Value → H} {W : World}
set_option maxRecDepth 100000 in
theorem road_of_arg {r : Reach} {b0 : Nat} {v : Value} {d : DataW H} {ps : List MemPlace} (hv : Value.okWide Tryd.prog W r b0 51 v)
    (h : DataW.Trod enc Tryd.prog W 0 (fun _ => true) true 51 v d ps) : ∃ rd : RoadD, v = .agg #[.int .i64 rd.a, .int .i64 rd.b, .int .i64 rd.cost] := by
  obtain ⟨c0, c1, c2, y0, y1, y2, n, rfl, rfl, rfl, hy0, hy1, hy2⟩ := open_agg3 Tryd.underlying51 (by kernel_rfl) cells_road hv h
  obtain ⟨a, ha, -⟩ := DataW.trod_int Tryd.underlying3 hy0
  obtain ⟨b, hb, -⟩ := DataW.trod_int Tryd.underlying3 hy1
  obtain ⟨c, hc, -⟩ := DataW.trod_int Tryd.underlying3 hy2
  simp only [List.cons.injEq, and_true] at ha hb hc
  exact ⟨⟨a, b, c⟩, by rw [ha, hb, hc]⟩
end

end Go.Proofs.YtkbkgkmogbkabaaDoor

/-
  The statement RouteRoads is proved: for every map, every road and every number the call returns true, and its arguments read afterwards as before. No condition but the library's table, tied to the program's text.
-/
namespace Go.Proofs.YtkbkgkmogbkabaaDoor
open Go.ChangeShapes Go.WideShapes Go.ChangeAt Go.RowKit

set_option maxRecDepth 100000 in
theorem routeRoads_lifted (os : Os) (started : os.Started) (H : Type) (enc : TypeId × Value → H) :
    ReturnsInHanded {} Tryd.checked os 6 .any (fun w args => (Rows.routeRoadsSpec.pre enc Tryd.prog Tryd.f6 [] false w args ∧ laidMetH Tryd.prog laid2 w) ∧ sizedMet enc Tryd.prog Tryd.f6 (OpenSpec.ofChange Rows.routeRoadsSpec) false w args) (Rows.routeRoadsSpec.post enc Tryd.prog Tryd.f6 false true false false) := by
  refine returnsInHanded_of_change_and (C := Tryd.checked) (X := fun w _ => laidMetH Tryd.prog laid2 w) (fun _ _ _ hh h => h.of_heap hh) own started (by kernel_rfl) Tryd.func6
    (ChangeSpec.witness_shaped (enc := enc) (C := Tryd.checked) (os := os) (X := fun w _ => laidMetH Tryd.prog laid2 w) false (World.doorLaid Tryd.prog 400 os) #[.agg #[.int .i64 0, .slice none 0 0], .agg #[.int .i64 0, .int .i64 0, .int .i64 0], .int .i64 0] 8 rfl (World.shaped_of_RefB (by kernel_rfl) (by kernel_rfl)) (by kernel_rfl) (by kernel_rfl) (by kernel_rfl) (door_met os _)) ?_
  intro W base args ds gs before hval0 hW _ hsz0 hLd _
  have hTZ := TZ.of (tab_of_laid hLd)
  have hsz : (DataW.weightsEach Tryd.prog (Tryd.f6.params.toList ++ Rows.routeRoadsSpec.plain.varTypes Tryd.prog) (ds ++ gs)).all (· ≤ reachBytes) = true := hsz0
  clear hsz0
  have hval : ∀ (j : Nat) t v, Tryd.f6.params[j]? = some t → args[j]? = some v → Value.okWide Tryd.prog W .any base t v := hval0
  have hW' := hW
  obtain ⟨p, q, hA0, hV, rfl, _, _⟩ := hW
  have hA : DataW.TrodAll enc Tryd.prog W 0 (fun _ => true) true Tryd.f6.params.toList args.toList ds p := hA0
  rw [Tryd.params6] at hA hval hsz
  obtain ⟨v0, vs0, d0, ds0, p0, q0, hargs, rfl, rfl, h0, r0⟩ := trodAll_cons hA
  obtain ⟨v1, vs1, d1, ds1, p1, q1, rfl, rfl, rfl, h1, r1⟩ := trodAll_cons r0
  obtain ⟨v2, vs2, d2, ds2, p2, q2, rfl, rfl, rfl, h2, r2⟩ := trodAll_cons r1
  obtain ⟨rfl, rfl, rfl⟩ := trodAll_nil r2
  obtain rfl : args = #[v0, v1, v2] := by cases args; simp_all
  obtain ⟨rfl, rfl⟩ := trodVars_none hV
  have k0 := h0
  have lt0 : ∀ x ∈ p0, x.block < W.heap.size := by obtain ⟨m, hm⟩ := k0; exact DataW.trod_lt m _ _ _ hm
  have k1 := h1
  have lt1 : ∀ x ∈ p1, x.block < W.heap.size := by obtain ⟨m, hm⟩ := k1; exact DataW.trod_lt m _ _ _ hm
  obtain ⟨vr, mp, rfl, hm⟩ := map_of_trod (hval 0 _ v0 rfl rfl) h0 (weights_at hsz (j := 0) rfl rfl)
  obtain ⟨rd1, rfl⟩ := road_of_arg (hval 1 _ v1 rfl rfl) h1
  obtain ⟨a2, rfl, rfl, rfl, w2⟩ := open_int Tryd.underlying3 (hval 2 _ v2 rfl rfl) h2
  clear hA0 hval0
  refine (RouteRoads_any vr mp rd1 a2 W hm hTZ).mono fun e W' ⟨he, bel⟩ => ?_
  subst he
  exact ⟨_, rfl, _, _, _, [], _, [], hW', trodAll_mk1 (shut_bool Tryd.underlying4 _),
    (trodAll_cons_mk (Below.trod laidOut (by kernel_rfl) (of_decide_eq_true (by kernel_rfl)) k0 bel lt0) (trodAll_cons_mk (Below.trod laidOut (by kernel_rfl) (of_decide_eq_true (by kernel_rfl)) k1 bel lt1) (trodAll_cons_mk (shut_int Tryd.underlying3 w2) trodAll_mk0))), rfl, bel.frame _, fun h => by cases h⟩

theorem routeRoads_row : Rows.RouteRoadsSaid :=
  OpenClaim.holds_of_wide 6 Tryd.f6 rfl rfl rfl rfl rfl rfl rfl ⟨rfl, rfl, rfl, rfl, rfl⟩ rfl rfl rfl rfl rfl (by kernel_rfl) Tryd.func6 (by kernel_rfl)
    (of_decide_eq_true (by kernel_rfl)) (by unfold Func.isWrapper; first | (rw [if_pos (by decide +kernel)]; kernel_rfl) | (rw [if_neg (by decide +kernel)]; exact ⟨rfl, rfl⟩))
    (fun os started H enc _ => routeRoads_lifted os started H enc)

theorem routeRoads_holds : Rows.RouteRoadsCardSaid :=
  Claim7.holds_tied_plain_at .later [] [.data, .data] true (true, "21947a5a87ddc905c2c0e4241b411cf4012465f53c335e9effae5daa1c3095b2") false
    routeRoads_row (fun _ h => by cases h) (by kernel_rfl) (fun _ h => by cases h) routeRoads_row_tie rfl ⟨rfl, rfl⟩ (by kernel_rfl) rfl
    (fun f fn hf hfn => by
      obtain rfl : f = 6 := Option.some.inj ((show Tryd.prog.funcNamed "corrody/corrodylaw05.RouteRoads" = some 6 by kernel_rfl).symm.trans hf) |>.symm
      obtain rfl : fn = Tryd.f6 := (Option.some.inj (Tryd.func6.symm.trans hfn)).symm
      exact ⟨by kernel_rfl, fun j t ht => by
        rw [Tryd.params6] at ht
        have hm : t ∈ [24, 51, 3] := by simpa using Array.mem_of_getElem? ht
        have hall : ([24, 51, 3].all fun u => !Tryd.prog.wantsStandIn u) = true := by kernel_rfl
        exact (show Tryd.prog.wantsStandIn t = false by simpa using List.all_eq_true.1 hall t hm)⟩)
    (by kernel_rfl)

end Go.Proofs.YtkbkgkmogbkabaaDoor

#print axioms Go.Proofs.YtkbkgkmogbkabaaDoor.routeRoads_holds
