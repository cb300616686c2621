/-
  RouteTwice: the cost of Tree for a set is at least half of the least cost of a tree on the map of the set's stops with their distances as roads, and at most that. Conditions: those of the card.
-/
import Derived.Test.YtkbkgkmogbkabaaDoorK14
import Derived.Test.YtkbkgkmogbkabaaDoorK5
import Derived.Test.YtkbkgkmogbkabaaDoorCards
import Derived.Test.YtkbkgkmogbkabaaDoorTie
import Derived.Test.YtkbkgkmogbkabaaDoorTwiceLaw2
/-
  The statement RouteTwice: its walk.
-/
namespace Go.Proofs.YtkbkgkmogbkabaaDoor
open Go.RowKit

def atI (N s : Nat) : List Int := (atL N s).map (fun (x : Nat) => (x : Int))
theorem atI_len (N s : Nat) : (atI N s).length = (atL N s).length := by unfold atI; simp
theorem atI_fn {N s i : Nat} (h : i < (atL N s).length) : fn (atI N s) i = (atN (atL N s) i : Int) := by
  unfold atI
  rw [fn_get (by simpa using h), List.getElem_map, atN_get h]
theorem atI_yes {n s : Nat} (h : s.testBit n = true) : atI (n + 1) s = atI n s ++ [(n : Int)] := by
  unfold atI; rw [atL_succ, if_pos h, List.map_append]; rfl
theorem atI_no {n s : Nat} (h : ¬ s.testBit n = true) : atI (n + 1) s = atI n s := by
  unfold atI; rw [atL_succ, if_neg h, List.append_nil]
theorem atI_hi (n s : Nat) : (atI n s).length ≤ n := by
  rw [atI_len]; unfold atL
  have := List.length_filter_le (fun x => s.testBit x) (List.range n)
  rwa [List.length_range] at this

set_option maxRecDepth 20000 in
set_option maxHeartbeats 16000000 in
theorem RouteTwice_any (vr : Value) (m : MapD) (st : Int) (w : World) (hm : MapR w vr m) (hTZ : TZ w) :
    Calls Tryd.prog 10 #[.agg #[.int .i64 m.n, vr], .int .i64 st] w fun e w' => e = .returned (.bool true) ∧ Ext w w' := by
  obtain ⟨ao, cap, rfl⟩ := hm.shape
  have HM := hid hm
  have HTZ := hid hTZ
  have X0 := Box2.alloc w 24 (.int .i64 m.n) (.slice ao m.roads.length cap)
  clear hm hTZ
  by_cases hb : mapOk m = true
  · obtain ⟨n, rs⟩ := m
    have hok2 := hb
    unfold mapOk at hok2
    rw [Bool.and_eq_true, decide_eq_true_iff, List.all_eq_true] at hok2
    obtain ⟨⟨h1, h8, h16⟩, hall⟩ := hok2
    dsimp only at h1 h8 h16 hall
    obtain ⟨N, rfl⟩ := Int.eq_ofNat_of_zero_le (show 0 ≤ n by omega)
    have hN1 : 1 ≤ N := by omega
    have hN8 : N ≤ 8 := by omega
    have HB := hid hb
    have HAll := hid hall
    have HTK : Hid (rs.take 18 = rs) := congrArg MapD.roads (cutM_id hb)
    dsimp only at X0 HM
    clear hb hall
    by_cases hst : stopsB N st = true
    · obtain ⟨s, rfl⟩ := Int.eq_ofNat_of_zero_le (show 0 ≤ st by unfold stopsB at hst; rw [decide_eq_true_iff] at hst; omega)
      have HST := hid hst
      obtain ⟨-, -, -, -, s0, sN⟩ := ok_parts HB.out hst
      have p8 : (2 : Nat) ^ N ≤ 2 ^ 8 := Nat.pow_le_pow_right (by decide) hN8
      have e8 : (2 : Nat) ^ 8 = 256 := by decide
      have hs256 : s < 256 := by omega
      obtain ⟨c, o, hcv⟩ := CostVal.ex rs N s
      have HCV := hid hcv
      cases o
      · clear hcv hst sN p8 e8
        go_enter Tryd.func10, Tryd.ntmps10
        go_wp2_with (fail)
        refine (Of_any _ ⟨N, rs⟩ _ (MapR.ext HM.out (Ext.ofAlloc w _))).mono ?_
        rintro e w1 ⟨uU, rfl, hu, he1⟩
        dsimp only at hu
        rw [HTK.out] at hu
        have X1 := hid (X0.ext he1)
        have E1 := hid ((Ext.ofAlloc w _).trans he1)
        clear he1
        obtain ⟨c0, c1⟩ := X1.out.cells
        have U_1 := hid (hu.roads (by omega))
        clear hu
        go_wp2_with (fail)
        refine (Distances_ok _ N rs _ U_1.out HB.out).mono ?_
        rintro e w2 ⟨vd, rfl, hmat, he2⟩
        obtain ⟨gb, kb, rfl, -⟩ := hmat.head (by omega)
        clear c0 c1
        have X2 := hid (X1.out.ext he2)
        have U_2 := hid (U_1.out.ext he2)
        have E2 := hid (E1.out.trans he2)
        clear he2
        obtain ⟨c0, c1⟩ := X2.out.cells
        have T_2 := hid (hmat)
        clear hmat
        go_wp2_with (fail)
        refine (RValid_any _ ⟨N, rs⟩ _ (MapR.ext HM.out E2.out)).mono ?_
        rw [HB.out]
        rintro e w3 ⟨rfl, he3⟩
        clear c0 c1
        have X3 := hid (X2.out.ext he3)
        have T_3 := hid (T_2.out.ext he3)
        have E3 := hid (E2.out.trans he3)
        clear he3
        obtain ⟨c0, c1⟩ := X3.out.cells
        go_wp2_with (fail)
        refine (RStops_any _ ⟨N, rs⟩ s _ (MapR.ext HM.out E3.out) (by show (0 : Int) ≤ N; omega) (by show (N : Int) ≤ 8; omega)).mono ?_
        rw [HST.out]
        rintro e w4 ⟨rfl, he4⟩
        clear c0 c1
        have X4 := hid (X3.out.ext he4)
        have T_4 := hid (T_3.out.ext he4)
        have E4 := hid (E3.out.trans he4)
        clear he4
        obtain ⟨c0, c1⟩ := X4.out.cells
        go_wp2_with (fail)
        refine (lawcost_any _ N rs s _ (MapR.ext HM.out E4.out) HB.out HST.out (HTZ.out.ext E4.out) HCV.out).mono ?_
        rintro e w5 ⟨rfl, he5⟩
        clear c0 c1
        have X5 := hid (X4.out.ext he5)
        have T_5 := hid (T_4.out.ext he5)
        have E5 := hid (E4.out.trans he5)
        clear he5
        obtain ⟨c0, c1⟩ := X5.out.cells
        go_wp2_with (fail)
        refine (awake_any _).mono ?_
        rintro e w6 ⟨rfl, he6⟩
        clear c0 c1
        have E6 := hid (E5.out.trans he6)
        clear he6
        go_wp2
        go_ret
        exact ⟨rfl, E6.out⟩
      · have hcv2 : Cn rs s ∧ c = steinerV rs N s := by
          rcases hcv with ⟨a, b, -⟩ | ⟨-, -, h⟩
          · exact ⟨a, b⟩
          · simp at h
        have HCN := hid hcv2.1
        have HCC := hid hcv2.2
        have HSN := hid sN
        clear hcv hcv2 hst sN p8 e8
        go_enter Tryd.func10, Tryd.ntmps10
        go_wp2_with (fail)
        refine (Of_any _ ⟨N, rs⟩ _ (MapR.ext HM.out (Ext.ofAlloc w _))).mono ?_
        rintro e w1 ⟨uU, rfl, hu, he1⟩
        dsimp only at hu
        rw [HTK.out] at hu
        have X1 := hid (X0.ext he1)
        have E1 := hid ((Ext.ofAlloc w _).trans he1)
        clear he1
        obtain ⟨c0, c1⟩ := X1.out.cells
        have U_1 := hid (hu.roads (by omega))
        clear hu
        go_wp2_with (fail)
        refine (Distances_ok _ N rs _ U_1.out HB.out).mono ?_
        rintro e w2 ⟨vd, rfl, hmat, he2⟩
        obtain ⟨gb, kb, rfl, -⟩ := hmat.head (by omega)
        clear c0 c1
        have X2 := hid (X1.out.ext he2)
        have U_2 := hid (U_1.out.ext he2)
        have E2 := hid (E1.out.trans he2)
        clear he2
        obtain ⟨c0, c1⟩ := X2.out.cells
        have T_2 := hid (hmat)
        clear hmat
        go_wp2_with (fail)
        refine (RValid_any _ ⟨N, rs⟩ _ (MapR.ext HM.out E2.out)).mono ?_
        rw [HB.out]
        rintro e w3 ⟨rfl, he3⟩
        clear c0 c1
        have X3 := hid (X2.out.ext he3)
        have T_3 := hid (T_2.out.ext he3)
        have E3 := hid (E2.out.trans he3)
        clear he3
        obtain ⟨c0, c1⟩ := X3.out.cells
        go_wp2_with (fail)
        refine (RStops_any _ ⟨N, rs⟩ s _ (MapR.ext HM.out E3.out) (by show (0 : Int) ≤ N; omega) (by show (N : Int) ≤ 8; omega)).mono ?_
        rw [HST.out]
        rintro e w4 ⟨rfl, he4⟩
        clear c0 c1
        have X4 := hid (X3.out.ext he4)
        have T_4 := hid (T_3.out.ext he4)
        have E4 := hid (E3.out.trans he4)
        clear he4
        obtain ⟨c0, c1⟩ := X4.out.cells
        go_wp2_with (fail)
        refine (lawcost_any _ N rs s _ (MapR.ext HM.out E4.out) HB.out HST.out (HTZ.out.ext E4.out) HCV.out).mono ?_
        rintro e w5 ⟨rfl, he5⟩
        clear c0 c1
        have X5 := hid (X4.out.ext he5)
        have T_5 := hid (T_4.out.ext he5)
        have E5 := hid (E4.out.trans he5)
        clear he5
        obtain ⟨c0, c1⟩ := X5.out.cells
        go_wp2
        clear c0 c1
        obtain ⟨i0, hi, hz0, hz1, hz2⟩ := info_parts info_int
        go_loopg [58, 9] N (fun g i v wr => ∃ (k : Nat) (z : Value), k + g = N ∧ i = .int .i64 k ∧ v = z ∧ Hid (OwnI w5.heap.size wr z (atI k s)) ∧ Hid (Ext w5 wr))
        case atStart => exact ⟨0, _, by omega, rfl, rfl, World.ownsRow_nil _ _ _ _, Ext.refl _⟩
        case round =>
          obtain ⟨k, vA, hk, rfl, hvz, HO, E⟩ := hrel
          have hvz2 := hvz.symm
          subst hvz2
          have hkn : k ≤ N := by omega
          have Hk := hid hk
          clear hk
          by_cases hlt : k < N
          · have hki : (k : Int) < N := by omega
            obtain ⟨u0, u1⟩ := div_in s k (by omega) (by omega)
            have ub := bits_one _ u0 (by omega)
            rw [bit_zero] at ub
            clear u0 u1
            by_cases hbit : s.testBit k = true
            · rw [if_pos hbit] at ub
              have HY := hid (atI_yes hbit)
              obtain ⟨av, nv, cv, rfl⟩ := own_shape HO.out
              have hsz := E.out.size
              have hrl := atI_hi k s
              clear hbit
              go_wp2_with (at_builtin; go_must (refine wpList_append_own_at _ rfl _ _ 25 rfl w5.heap.size 3 i0 (.int .i64 0) 1 8 Tryd.underlying25 hi hz0 hz1 hz2 rfl (by decide) _ _ _ rfl (HO.out.alloc _) ⟨wr.heap.size, 0, none⟩ 1 1 [.int .i64 k] rfl rfl (cell_one_new _ _ _) (by intro x hx; simp at hx; subst hx; rfl) ?c3 ?c4 ?c5 ?_))
              case c3 => unfold maxLen; omega
              case c4 => omega
              case c5 => simp; omega
              intro v' wA hown' hg _ _
              have hR := OwnI.push (xs := atI k s) rfl hown'
              rw [← HY.out] at hR
              have HR := hid hR
              have HE5 := hid (Ext.push E.out HO.out (Nat.le_refl _) hg)
              clear hown' hg hR hsz hrl
              go_wp2
              go_roundg (gk - 1)
              case rel => exact ⟨k + 1, _, by have := Hk.out; omega, by go_num, rfl, HR, HE5⟩
              case measure => have := Hk.out; omega
            · rw [if_neg hbit] at ub
              have HY := hid (atI_no hbit)
              have HR : Hid (OwnI w5.heap.size wr vA (atI (k + 1) s)) := by show OwnI _ _ _ _; rw [HY.out]; exact HO.out
              clear hbit
              go_wp2
              go_roundg (gk - 1)
              case rel => exact ⟨k + 1, _, by have := Hk.out; omega, by go_num, rfl, HR, E⟩
              case measure => have := Hk.out; omega
          · have ek : k = N := by omega
            have hki : ¬ ((k : Int) < N) := by omega
            have ho := HO.out
            rw [ek] at ho
            clear HO
            have HO := hid ho
            obtain ⟨av, cv, rfl⟩ := own_len ho
            obtain ⟨nK, hnK⟩ : ∃ nK, nK = (atI N s).length := ⟨_, rfl⟩
            have HK := hid hnK
            have hKN := atI_hi N s
            rw [← hnK] at hKN ⊢
            clear ek ho hnK hlt
            by_cases h6 : nK ≤ 6
            · have h6i : ¬ (6 < (nK : Int)) := by omega
              obtain ⟨WL, hWL⟩ : ∃ x, x = wr := ⟨_, rfl⟩
              have LA := HO
              have LE := hid (E5.out.trans E.out)
              have LT := hid (T_5.out.ext E.out)
              have LX := hid (X5.out.ext E.out)
              rw [← hWL] at LA LE LT LX
              have hKl : nK = (atL N s).length := by rw [HK.out, atI_len]
              have HKL := hid hKl
              have hK0 : 0 < nK := by
                obtain ⟨v, hv⟩ := Nat.exists_testBit_of_ne_zero (show s ≠ 0 by omega)
                have := List.length_pos_of_mem (atL_mem.2 ⟨bit_lt HSN.out hv, hv⟩)
                omega
              obtain ⟨ga, oa, rfl, -, -⟩ := (OwnI.ints LA.out (by have := HK.out; omega)).get 0 (by have := HK.out; omega)
              have LI := hid (OwnI.ints LA.out (by have := HK.out; omega))
              have hbx := Box2.alloc wr 31 (.int .i64 nK) (.slice none 0 0)
              have hEx := Ext.ofAlloc wr (.cells #[.int .i64 nK, .slice none 0 0] 31)
              have hsz0 : (wr.alloc (.cells #[.int .i64 nK, .slice none 0 0] 31)).heap.size = wr.heap.size + 1 := by simp
              have hown0 : (wr.alloc (.cells #[.int .i64 nK, .slice none 0 0] 31)).ownsRow (wr.heap.size + 1) 55 3 (.slice none 0 0) 0 [] := World.ownsRow_nil _ _ _ _
              have HBX := hid hbx
              have HEX := hid hEx
              have HS0 := hid hsz0
              have HO0 := hid hown0
              obtain ⟨j0, hj, hy0, hy1, hy2⟩ := info_parts info_road
              clear hbx hEx hsz0 hown0 hKl
              go_wp2
              generalize wr.alloc (.cells #[.int .i64 nK, .slice none 0 0] 31) = W0 at HBX HEX HS0 HO0 ⊢
              rw [← hWL] at HBX HEX HS0 HO0 ⊢
              obtain ⟨bs, hbs⟩ : ∃ b, b = WL.heap.size := ⟨_, rfl⟩
              rw [← hbs] at HBX HS0 HO0 ⊢
              have HBS := hid hbs
              have HSZ0 : Hid (bs + 1 ≤ W0.heap.size) := Nat.le_of_eq HS0.out.symm
              clear hWL hbs HS0 HO E HK
              go_loopg [80] nK (fun g i wr => ∃ (k : Nat) (v : Value), k + g = nK ∧ i = .int .i64 k ∧ Hid (OwnRd (bs + 1) wr v (smallR (fw (costTo rs) N) (atL N s) k)) ∧ Hid (Box2 wr bs 31 (.int .i64 nK) v) ∧ Hid (bs + 1 ≤ wr.heap.size) ∧ Hid (Ext WL wr) ∧ Hid (∀ i j, j < i → i < k → fw (costTo rs) N (atN (atL N s) i) (atN (atL N s) j) ≤ 50))
              case atStart => exact ⟨0, _, by omega, rfl, HO0, HBX, HSZ0, HEX, fun i j _ h => by omega⟩
              case round =>
                clear HO0 HBX HSZ0 HEX
                obtain ⟨k, v, hk, rfl, OWN, BX, SZ, E, HD⟩ := hrel
                have hkn : k ≤ nK := by omega
                have Hk := hid hk
                clear hk
                by_cases hlt : k < nK
                · have hki : (k : Int) < nK := by omega
                  have hkl : k < (atL N s).length := by rw [← HKL.out]; exact hlt
                  have dk := (LI.out.get' k (by rw [atI_len]; exact hkl)).2 _ E.out
                  rw [atI_fn hkl] at dk
                  have HXM := hid (atN_mem hkl)
                  obtain ⟨x, hx⟩ : ∃ x, x = atN (atL N s) k := ⟨_, rfl⟩
                  rw [← hx] at dk HXM
                  have HX := hid hx
                  have hxN : x < N := (atL_mem.1 HXM.out).1
                  have hxi : (x : Int) < N := by omega
                  have OW0 : Hid (OwnRd (bs + 1) wr v (smallR (fw (costTo rs) N) (atL N s) k ++ smallRow (fw (costTo rs) N) (atL N s) k 0)) := by
                    show OwnRd _ _ _ (_ ++ smallRow _ _ _ 0)
                    unfold smallRow
                    rw [List.range_zero, List.map_nil, List.append_nil]; exact OWN.out
                  clear hx OWN
                  go_wp2
                  clear dk
                  go_loopg [86] k (fun g i wr => ∃ (j : Nat) (v : Value), j + g = k ∧ i = .int .i64 j ∧ Hid (OwnRd (bs + 1) wr v (smallR (fw (costTo rs) N) (atL N s) k ++ smallRow (fw (costTo rs) N) (atL N s) k j)) ∧ Hid (Box2 wr bs 31 (.int .i64 nK) v) ∧ Hid (bs + 1 ≤ wr.heap.size) ∧ Hid (Ext WL wr) ∧ Hid (∀ i, i < j → fw (costTo rs) N (atN (atL N s) k) (atN (atL N s) i) ≤ 50))
                  case atStart => exact ⟨0, _, by omega, rfl, OW0, BX, SZ, E, fun i h => by omega⟩
                  case round =>
                    clear OW0 BX SZ E
                    obtain ⟨j, v, hjk, rfl, OWN, BX, SZ, E, HD2⟩ := hrel
                    have hjn : j ≤ k := by omega
                    have Hj := hid hjk
                    clear hjk
                    by_cases hjt : j < k
                    · have hji : (j : Int) < k := by omega
                      have hjK : (j : Int) < nK := by omega
                      have hjl : j < (atL N s).length := by rw [← HKL.out]; omega
                      have dj := (LI.out.get' j (by rw [atI_len]; exact hjl)).2 _ E.out
                      rw [atI_fn hjl] at dj
                      have HYM := hid (atN_mem hjl)
                      obtain ⟨y, hy⟩ : ∃ y, y = atN (atL N s) j := ⟨_, rfl⟩
                      rw [← hy] at dj HYM
                      have HY := hid hy
                      have hyN : y < N := (atL_mem.1 HYM.out).1
                      have hyi : (y : Int) < N := by omega
                      obtain ⟨gr, ca, ia, -⟩ := LT.out.row hxN
                      have CA : Hid (WL.cell? ⟨gb, x, none⟩ = some (.slice (some ⟨gr, 0, none⟩) N N)) := ca
                      have dd := ia.cell (i := y) (by rw [rowL_len]; exact hyN)
                      obtain ⟨e1, e2⟩ := at_dist HAll.out hN1 hN8 h16 HCN.out HXM.out HYM.out
                      rw [rowL_fn hyN] at dd
                      obtain ⟨d, hd⟩ : ∃ d, d = fw (costTo rs) N x y := ⟨_, rfl⟩
                      rw [← hd] at dd e1 e2
                      have hnn : nn d = d := by unfold nn; rw [if_neg (by omega)]
                      rw [hnn] at dd
                      have DD := hid dd
                      have HDD := hid hd
                      have ca' := E.out.cell CA.out
                      have dd' := E.out.cell DD.out
                      clear hy ca ia hd hnn dd e1 e2
                      by_cases h50 : d ≤ 50
                      · have h50b : decide (d > 50) = false := decide_eq_false (by omega)
                        have h50c : ¬ (50 < d) := by omega
                        have HD3 : Hid (∀ i, i < j + 1 → fw (costTo rs) N (atN (atL N s) k) (atN (atL N s) i) ≤ 50) := by
                          intro i hi
                          by_cases e : i = j
                          · rw [e, ← HX.out, ← HY.out, ← HDD.out]; exact h50
                          · exact HD2.out i (by omega)
                        obtain ⟨R, hR⟩ : ∃ R, R = smallR (fw (costTo rs) N) (atL N s) k ++ smallRow (fw (costTo rs) N) (atL N s) k j := ⟨_, rfl⟩
                        have hRl : R.length ≤ 14 := by
                          have := (smallR_len (fw (costTo rs) N) (atL N s) k (by omega)).2 (j + 1) (by omega) (by omega)
                          rw [hR, List.length_append, smallRow_len]; omega
                        rw [← hR] at OWN
                        have HR : Hid (R ++ [⟨(k : Int), (j : Int), d⟩] = smallR (fw (costTo rs) N) (atL N s) k ++ smallRow (fw (costTo rs) N) (atL N s) k (j + 1)) := by
                          show _ = _
                          rw [hR, smallRow_succ, ← List.append_assoc]
                          unfold smallAt
                          rw [← HX.out, ← HY.out, ← HDD.out]
                        obtain ⟨av, nv, cv', rfl⟩ := own_shape OWN.out
                        have EA := hid E.out.drew
                        have EB := hid (E.out.alloc (.cells #[.int .i64 k, .int .i64 j, .int .i64 d] 55)).drew
                        have O2 := hid (ownsRow_ext (World.ownsRow.alloc OWN.out (.cells #[.int .i64 k, .int .i64 j, .int .i64 d] 55)) (Ext.refl _).drew)
                        have B1 := hid (BX.out.ext (Ext.refl wr).drew)
                        have B2 := hid (BX.out.ext (Ext.ofAlloc wr (.cells #[.int .i64 k, .int .i64 j, .int .i64 d] 55)).drew)
                        have SZ2 := hid (show bs + 1 ≤ (wr.alloc (.cells #[.int .i64 k, .int .i64 j, .int .i64 d] 55)).drew.heap.size by have := SZ.out; simp; omega)
                        have EB0 := EB
                        obtain ⟨WB, hWB⟩ : ∃ x, x = (wr.alloc (.cells #[.int .i64 k, .int .i64 j, .int .i64 d] 55)).drew := ⟨_, rfl⟩
                        rw [← hWB] at EB O2 B2 SZ2
                        have HCT := hid (fun (q : Nat) (u : Value) hq => (Ext.refl (wr.alloc (.cells #[.int .i64 k, .int .i64 j, .int .i64 d] 55))).drew.cell (cell_three_new wr 55 (.int .i64 k) (.int .i64 j) (.int .i64 d) q u hq))
                        rw [← hWB] at HCT
                        have HWB := hid hWB
                        clear h50 hR hWB
                        go_wp2
                        clear dj ca' dd'
                        refine wp_region_held_drew (S := (fun w' => w'.cell? ⟨gb, x, none⟩ = some (.slice (some ⟨gr, 0, none⟩) N N) ∧ w'.cell? ⟨gr, y, none⟩ = some (.int .i64 d))) (by kernel_rfl) ?hSa0 (fun hHeld => ?_)
                        case hSa0 => exact ⟨EA.out.cell CA.out, EA.out.cell DD.out⟩
                        refine wpAnyH_tk 0 (v := ?va0x1) rfl (by kernel_rfl) (by kernel_rfl) (by kernel_rfl) (fun _ _ _ h => h) (by rfl) ?hya0x1 (by assumption) ?_
                        case hya0x1 => (intro w hSw; (try dsimp only at hSw); go_simp <;> with_reducible rfl)
                        (try simp only [Act.put, List.setIfInBounds_toArray, List.set_cons_zero, List.set_cons_succ])
                        refine wpAnyH_tk 2 (v := ?va2x2) rfl (by kernel_rfl) (by kernel_rfl) (by kernel_rfl) (fun _ _ _ h => h) (by rfl) ?hya2x2 (by assumption) ?_
                        case hya2x2 => (intro w hSw; (try dsimp only at hSw); go_simp <;> with_reducible rfl)
                        (try simp only [Act.put, List.setIfInBounds_toArray, List.set_cons_zero, List.set_cons_succ])
                        refine wpAnyH_tk 3 (v := ?va3x3) rfl (by kernel_rfl) (by kernel_rfl) (by kernel_rfl) (fun _ _ _ h => h) (by rfl) ?hya3x3 (by assumption) ?_
                        case hya3x3 => (intro w hSw; (try dsimp only at hSw); go_simp <;> with_reducible rfl)
                        (try simp only [Act.put, List.setIfInBounds_toArray, List.set_cons_zero, List.set_cons_succ])
                        refine wpAnyH_tk 4 (v := ?va4x4) rfl (by kernel_rfl) (by kernel_rfl) (by kernel_rfl) (fun _ _ _ h => h) (by rfl) ?hya4x4 (by assumption) ?_
                        case hya4x4 => (intro w hSw; (try dsimp only at hSw); go_simp <;> with_reducible rfl)
                        (try simp only [Act.put, List.setIfInBounds_toArray, List.set_cons_zero, List.set_cons_succ])
                        refine wpAnyH_tk 5 (v := ?va5x5) rfl (by kernel_rfl) (by kernel_rfl) (by kernel_rfl) (fun _ _ _ h => h) (by rfl) ?hya5x5 (by assumption) ?_
                        case hya5x5 => (intro w hSw; (try dsimp only at hSw); go_simp <;> with_reducible rfl)
                        (try simp only [Act.put, List.setIfInBounds_toArray, List.set_cons_zero, List.set_cons_succ])
                        refine wpAnyH_tk 6 (v := ?va6x6) rfl (by kernel_rfl) (by kernel_rfl) (by kernel_rfl) (fun _ _ _ h => h) (by rfl) ?hya6x6 (by assumption) ?_
                        case hya6x6 => (intro w hSw; (try dsimp only at hSw); go_simp <;> with_reducible rfl)
                        (try simp only [Act.put, List.setIfInBounds_toArray, List.set_cons_zero, List.set_cons_succ])
                        refine wpAnyH_tk 7 (v := ?va7x7) rfl (by kernel_rfl) (by kernel_rfl) (by kernel_rfl) (fun _ _ _ h => h) (by rfl) ?hya7x7 (by assumption) ?_
                        case hya7x7 => (intro w hSw; (try dsimp only at hSw); go_simp <;> with_reducible rfl)
                        (try simp only [Act.put, List.setIfInBounds_toArray, List.set_cons_zero, List.set_cons_succ])
                        refine wpAnyH_tk 8 (v := ?va8x8) rfl (by kernel_rfl) (by kernel_rfl) (by kernel_rfl) (fun _ _ _ h => h) (by rfl) ?hya8x8 (by assumption) ?_
                        case hya8x8 => (intro w hSw; (try dsimp only at hSw); go_simp <;> with_reducible rfl)
                        (try simp only [Act.put, List.setIfInBounds_toArray, List.set_cons_zero, List.set_cons_succ])
                        refine wpAnyH_tk 9 (v := ?va9x9) rfl (by kernel_rfl) (by kernel_rfl) (by kernel_rfl) (fun _ _ _ h => h) (by rfl) ?hya9x9 (by assumption) ?_
                        case hya9x9 => (intro w hSw; (try dsimp only at hSw); go_simp <;> with_reducible rfl)
                        (try simp only [Act.put, List.setIfInBounds_toArray, List.set_cons_zero, List.set_cons_succ])
                        refine wpAnyH_tk 10 (v := ?va10x10) rfl (by kernel_rfl) (by kernel_rfl) (by kernel_rfl) (fun _ _ _ h => h) (by rfl) ?hya10x10 (by assumption) ?_
                        case hya10x10 => (intro w hSw; (try dsimp only at hSw); go_simp <;> with_reducible rfl)
                        (try simp only [Act.put, List.setIfInBounds_toArray, List.set_cons_zero, List.set_cons_succ])
                        refine wpAnyH_tk 11 (v := ?va11x11) rfl (by kernel_rfl) (by kernel_rfl) (by kernel_rfl) (fun _ _ _ h => h) (by rfl) ?hya11x11 (by assumption) ?_
                        case hya11x11 => (intro w hSw; (try dsimp only at hSw); go_simp <;> with_reducible rfl)
                        (try simp only [Act.put, List.setIfInBounds_toArray, List.set_cons_zero, List.set_cons_succ])
                        refine wpAnyH_two 1 12 rfl rfl (by kernel_rfl) (by rfl) (by rfl) (fun K hK => ?_) (fun K hK => ?_)
                        · skip
                          have q1 := B1.out.cells.2
                          have q2 := BX.out.cells.2
                          go_simp
                          clear q1 q2
                          refine hK.out _ _ ?hSa1x12 (fun hHeld => ?_)
                          case hSa1x12 => exact ⟨EA.out.cell CA.out, EA.out.cell DD.out⟩
                          clear hK K
                          (try simp only [Act.put, List.setIfInBounds_toArray, List.set_cons_zero, List.set_cons_succ])
                          refine wpAnyH_one 12 rfl (by kernel_rfl) (by rfl) (fun K hK => ?_)
                          go_simp
                          refine hK.out _ _ ?hSa12x13 (fun hHeld => ?_)
                          case hSa12x13 => exact ⟨EB0.out.cell CA.out, EB0.out.cell DD.out⟩
                          clear hK K
                          (try simp only [Act.put, List.setIfInBounds_toArray, List.set_cons_zero, List.set_cons_succ])
                          rw [← HWB.out]
                          refine wpAnyH_one 13 rfl (by kernel_rfl) (by rfl) (fun K hK => ?_)
                          refine wp_append_own _ _ _ 29 rfl (bs + 1) 55 j0 (.agg #[.int .i64 0, .int .i64 0, .int .i64 0]) 3 24 Tryd.underlying29 hj hy0 hy1 hy2 rfl (by decide) _ _ _ rfl O2.out ⟨wr.heap.size, 0, none⟩ 1 1 [.int .i64 k, .int .i64 j, .int .i64 d] rfl rfl HCT.out ?c2 ?c3 ?c4 ?c5 ?_
                          case c2 => intro u hu; simp at hu; rcases hu with rfl | rfl | rfl <;> rfl
                          case c3 => unfold maxLen; omega
                          case c4 => omega
                          case c5 => exact SZ2.out
                          intro v' w7 hown' hg _
                          have hR7 := OwnRd.push (r := ⟨(k : Int), (j : Int), d⟩) rfl hown'
                          have hB := (Below.refl (bs + 1) _).grown hg SZ2.out (fun k hk => (O2.out.lt k hk).1)
                          have h3 := B2.out.below hB (by omega)
                          have E7 : Hid (Ext WL w7) := EB.out.trans' hB (by have := HBS.out; omega)
                          have SZ7 : Hid (bs + 1 ≤ w7.heap.size) := Nat.le_trans SZ2.out hB.size
                          rw [HR.out] at hR7
                          have R7 := hid hR7
                          have B7 := hid h3
                          obtain ⟨a7, n7, c7, rfl⟩ := own_shape hown'
                          have R8 := hid (ownsRow_setCell_below R7.out (a := ⟨bs, 1, none⟩) (by show bs < bs + 1; omega) (.slice a7 n7 c7))
                          have B8 := hid (B7.out.set1 (.slice a7 n7 c7))
                          have E8 := hid (E7.out.setCell (by have := HBS.out; omega : WL.heap.size ≤ bs) 1 (.slice a7 n7 c7))
                          have SZ8 : Hid (bs + 1 ≤ (w7.setCell ⟨bs, 1, none⟩ (.slice a7 n7 c7)).heap.size) := by show _ ≤ _; have := SZ7.out; simpa using this
                          clear hown' hg hR7 hB h3
                          refine hK.out _ _ ?hSa13x14 (fun hHeld => ?_)
                          case hSa13x14 => exact ⟨E7.out.cell CA.out, E7.out.cell DD.out⟩
                          clear hK K
                          (try simp only [Act.put, List.setIfInBounds_toArray, List.set_cons_zero, List.set_cons_succ])
                          refine wpAnyH_tk 14 (v := ?va14x15) rfl (by kernel_rfl) (by kernel_rfl) (by kernel_rfl) (fun _ _ _ h => h) (by rfl) ?hya14x15 (by assumption) ?_
                          case hya14x15 => (intro w hSw; (try dsimp only at hSw); go_simp <;> with_reducible rfl)
                          (try simp only [Act.put, List.setIfInBounds_toArray, List.set_cons_zero, List.set_cons_succ])
                          obtain ⟨q0, q1⟩ := B7.out.cells
                          have f1 := B7.out.free 1
                          refine wpAnyH_one 15 rfl (by kernel_rfl) (by rfl) (fun K hK => ?_)
                          go_simp
                          clear q0 q1 f1
                          refine hK.out _ _ ?hSa15x16 (fun hHeld => ?_)
                          case hSa15x16 => exact ⟨E8.out.cell CA.out, E8.out.cell DD.out⟩
                          clear hK K
                          (try simp only [Act.put, List.setIfInBounds_toArray, List.set_cons_zero, List.set_cons_succ])
                          refine wpAnyH_done (by kernel_rfl) ?_ _
                          clear hHeld
                          go_wp2
                          go_roundg (gk - 1)
                          case rel => exact ⟨j + 1, _, by have := Hj.out; omega, by go_num, R8, B8, SZ8, E8, HD3⟩
                          case measure => have := Hj.out; omega
                        · skip
                          go_simp
                          refine hK.out _ _ ?hSa12x17 (fun hHeld => ?_)
                          case hSa12x17 => exact ⟨EB0.out.cell CA.out, EB0.out.cell DD.out⟩
                          clear hK K
                          (try simp only [Act.put, List.setIfInBounds_toArray, List.set_cons_zero, List.set_cons_succ])
                          rw [← HWB.out]
                          have q1 := B2.out.cells.2
                          have q2 := BX.out.cells.2
                          refine wpAnyH_one 1 rfl (by kernel_rfl) (by rfl) (fun K hK => ?_)
                          go_simp
                          clear q1 q2
                          refine hK.out _ _ ?hSa1x18 (fun hHeld => ?_)
                          case hSa1x18 => exact ⟨EB.out.cell CA.out, EB.out.cell DD.out⟩
                          clear hK K
                          (try simp only [Act.put, List.setIfInBounds_toArray, List.set_cons_zero, List.set_cons_succ])
                          refine wpAnyH_one 13 rfl (by kernel_rfl) (by rfl) (fun K hK => ?_)
                          refine wp_append_own _ _ _ 29 rfl (bs + 1) 55 j0 (.agg #[.int .i64 0, .int .i64 0, .int .i64 0]) 3 24 Tryd.underlying29 hj hy0 hy1 hy2 rfl (by decide) _ _ _ rfl O2.out ⟨wr.heap.size, 0, none⟩ 1 1 [.int .i64 k, .int .i64 j, .int .i64 d] rfl rfl HCT.out ?c2 ?c3 ?c4 ?c5 ?_
                          case c2 => intro u hu; simp at hu; rcases hu with rfl | rfl | rfl <;> rfl
                          case c3 => unfold maxLen; omega
                          case c4 => omega
                          case c5 => exact SZ2.out
                          intro v' w7 hown' hg _
                          have hR7 := OwnRd.push (r := ⟨(k : Int), (j : Int), d⟩) rfl hown'
                          have hB := (Below.refl (bs + 1) _).grown hg SZ2.out (fun k hk => (O2.out.lt k hk).1)
                          have h3 := B2.out.below hB (by omega)
                          have E7 : Hid (Ext WL w7) := EB.out.trans' hB (by have := HBS.out; omega)
                          have SZ7 : Hid (bs + 1 ≤ w7.heap.size) := Nat.le_trans SZ2.out hB.size
                          rw [HR.out] at hR7
                          have R7 := hid hR7
                          have B7 := hid h3
                          obtain ⟨a7, n7, c7, rfl⟩ := own_shape hown'
                          have R8 := hid (ownsRow_setCell_below R7.out (a := ⟨bs, 1, none⟩) (by show bs < bs + 1; omega) (.slice a7 n7 c7))
                          have B8 := hid (B7.out.set1 (.slice a7 n7 c7))
                          have E8 := hid (E7.out.setCell (by have := HBS.out; omega : WL.heap.size ≤ bs) 1 (.slice a7 n7 c7))
                          have SZ8 : Hid (bs + 1 ≤ (w7.setCell ⟨bs, 1, none⟩ (.slice a7 n7 c7)).heap.size) := by show _ ≤ _; have := SZ7.out; simpa using this
                          clear hown' hg hR7 hB h3
                          refine hK.out _ _ ?hSa13x19 (fun hHeld => ?_)
                          case hSa13x19 => exact ⟨E7.out.cell CA.out, E7.out.cell DD.out⟩
                          clear hK K
                          (try simp only [Act.put, List.setIfInBounds_toArray, List.set_cons_zero, List.set_cons_succ])
                          refine wpAnyH_tk 14 (v := ?va14x20) rfl (by kernel_rfl) (by kernel_rfl) (by kernel_rfl) (fun _ _ _ h => h) (by rfl) ?hya14x20 (by assumption) ?_
                          case hya14x20 => (intro w hSw; (try dsimp only at hSw); go_simp <;> with_reducible rfl)
                          (try simp only [Act.put, List.setIfInBounds_toArray, List.set_cons_zero, List.set_cons_succ])
                          obtain ⟨q0, q1⟩ := B7.out.cells
                          have f1 := B7.out.free 1
                          refine wpAnyH_one 15 rfl (by kernel_rfl) (by rfl) (fun K hK => ?_)
                          go_simp
                          clear q0 q1 f1
                          refine hK.out _ _ ?hSa15x21 (fun hHeld => ?_)
                          case hSa15x21 => exact ⟨E8.out.cell CA.out, E8.out.cell DD.out⟩
                          clear hK K
                          (try simp only [Act.put, List.setIfInBounds_toArray, List.set_cons_zero, List.set_cons_succ])
                          refine wpAnyH_done (by kernel_rfl) ?_ _
                          clear hHeld
                          go_wp2
                          go_roundg (gk - 1)
                          case rel => exact ⟨j + 1, _, by have := Hj.out; omega, by go_num, R8, B8, SZ8, E8, HD3⟩
                          case measure => have := Hj.out; omega
                      · have h50b : decide (d > 50) = true := decide_eq_true (by omega)
                        have h50c : 50 < d := by omega
                        clear h50
                        have eZ := hid (E.out)
                        have X101 := hid (LX.out.ext eZ.out)
                        have E101 := hid (LE.out.trans eZ.out)
                        obtain ⟨c0, c1⟩ := X101.out.cells
                        go_wp2_with (fail)
                        refine (awake_any _).mono ?_
                        rintro e w102 ⟨rfl, he102⟩
                        clear c0 c1
                        have E102 := hid (E101.out.trans he102)
                        clear he102
                        go_wp2
                        go_ret
                        exact ⟨rfl, E102.out⟩
                    · have ej : j = k := by omega
                      have hji : ¬ ((j : Int) < k) := by omega
                      have ow := OWN.out
                      rw [ej] at ow
                      have OW := hid ow
                      have hd2 := HD2.out
                      rw [ej] at hd2
                      have HD3 : Hid (∀ i j, j < i → i < k + 1 → fw (costTo rs) N (atN (atL N s) i) (atN (atL N s) j) ≤ 50) := by
                        intro i j h1 h2
                        by_cases e : i = k
                        · rw [e]; exact hd2 j (by omega)
                        · exact HD.out i j h1 (by omega)
                      clear ej hjt ow hd2
                      go_wp2
                      go_roundg (nK - (k + 1))
                      case rel => exact ⟨k + 1, _, by omega, by go_num, OW, BX, SZ, E, HD3⟩
                      case measure => have := Hk.out; omega
                · have ek : k = nK := by omega
                  have hki : ¬ ((k : Int) < nK) := by omega
                  have ow := OWN.out
                  have hd := HD.out
                  rw [ek, HKL.out] at ow hd
                  have HSM := hid (smallR_len (fw (costTo rs) N) (atL N s) (atL N s).length (by rw [← HKL.out]; exact h6)).1
                  obtain ⟨k1, k2, k3⟩ := small_ok HAll.out hN1 hN8 h16 s0 HSN.out HCN.out (by rw [← HKL.out]; exact h6) hd
                  obtain ⟨t1, t2⟩ := twice_plain HAll.out hN1 hN8 h16 s0 HSN.out HCN.out (by rw [← HKL.out]; exact h6) hd
                  have hcn := small_cn (rs := rs) (N := N) (s := s)
                  rw [← HCC.out] at t1 t2
                  rw [← HKL.out] at k1 k3 t1 t2 hcn
                  obtain ⟨sm, hsm⟩ : ∃ sm, sm = smallM rs N s := ⟨_, rfl⟩
                  rw [← hsm] at k2 k3 t1 t2 hcn
                  have HB2 : Hid (mapOk ⟨nK, sm⟩ = true) := by
                    show _ = _
                    unfold mapOk
                    rw [Bool.and_eq_true, decide_eq_true_iff, List.all_eq_true]
                    exact ⟨⟨by show (1 : Int) ≤ nK; omega, by show (nK : Int) ≤ 8; omega, by show sm.length ≤ 16; omega⟩, k3⟩
                  have HCN2 := hid hcn
                  have ow2 : OwnRd (bs + 1) wr v sm := by rw [hsm]; exact ow
                  have HSMR := hid (ow2.roads (by omega))
                  obtain ⟨asm, csm, hvs⟩ := HSMR.out.shape
                  subst hvs
                  obtain ⟨a0, aN, a256⟩ := allN_in hK0 (show nK ≤ 8 by omega)
                  have HSA := hid (stops_of a0 aN)
                  obtain ⟨S, hS⟩ : ∃ S, S = allN nK := ⟨_, rfl⟩
                  have HSS := hid hS
                  have hp : (2 : Int) ^ nK = ((S + 1 : Nat) : Int) := by
                    have e : ((2 : Int) ^ nK) = ((2 ^ nK : Nat) : Int) := by simp
                    have e2 : 2 ^ nK = S + 1 := by rw [hS]; unfold allN; have : 0 < 2 ^ nK := Nat.pow_pos (by decide); omega
                    rw [e, e2]
                  rw [← hS] at a0 a256 HSA
                  have wS3 := hid (show IntKind.i64.wrap (S : Int) = (S : Int) from wraps_i64_62 _ (by omega) (by omega))
                  have wS1 := hid (show IntKind.i64.wrap (2 ^ nK) = ((S + 1 : Nat) : Int) by rw [hp]; exact wraps_i64_62 _ (by omega) (by omega))
                  have wS4 : Hid (IntKind.i64.wrap ((S : Int) + 1 - 1) = (S : Int)) := by show _ = _; rw [show (S : Int) + 1 - 1 = (S : Int) by omega]; exact wS3.out
                  obtain ⟨n, hn⟩ : ∃ n, n = steinerV sm nK (allN nK) := ⟨_, rfl⟩
                  rw [← hn] at t1 t2
                  have HN := hid hn
                  have hc0 : 0 ≤ c ∧ c ≤ 1048576 := by
                    rw [HCC.out]
                    obtain ⟨-, -, -, g1, g2⟩ := steiner_opt HAll.out hN1 hN8 h16 s0 HSN.out HCN.out
                    exact ⟨g1, g2⟩
                  obtain ⟨hc0, hc1⟩ := hc0
                  have T1 := hid t1
                  have T2 := hid t2
                  clear ek ow hd HSM k1 k3 t1 t2 hcn hsm ow2 aN hS hp hn OWN HD hlt
                  obtain ⟨m0, m1⟩ := BX.out.cells
                  have eZ := hid (E.out)
                  have X101 := hid (LX.out.ext eZ.out)
                  have E101 := hid (LE.out.trans eZ.out)
                  obtain ⟨c0, c1⟩ := X101.out.cells
                  go_wp2_with (fail)
                  refine (Spanning_ok _ nK sm _ HSMR.out HB2.out (HTZ.out.ext E101.out) HCN2.out).mono ?_
                  rintro e w102 ⟨vs, ls, rfl, hos, hbs, he102⟩
                  have HBS2 := hid hbs.out
                  obtain ⟨as_, cs, rfl⟩ := own_len hos
                  have HOS := hid (hos.ints (by have := treeP_len HBS2.out.1; omega))
                  clear hos hbs
                  clear c0 c1
                  have X102 := hid (X101.out.ext he102)
                  have BX_102 := hid (BX.out.ext he102)
                  have SM_102 := hid (HSMR.out.ext he102)
                  have E102 := hid (E101.out.trans he102)
                  clear he102
                  obtain ⟨c0, c1⟩ := X102.out.cells
                  have OS_102 := hid (HOS.out)
                  clear HOS
                  clear m0 m1
                  obtain ⟨m0, m1⟩ := BX_102.out.cells
                  have ws1 := wS1.out
                  have ws3 := wS3.out
                  have ws4 := wS4.out
                  have HNS : Hid (n = steinerV sm nK S) := by show _ = _; rw [HSS.out]; exact HN.out
                  go_wp2
                  refine wp_region_held_drew (S := (fun w' => w'.cell? ⟨w.heap.size, 0, none⟩ = some (.int .i64 N) ∧ w'.cell? ⟨w.heap.size, 1, none⟩ = some (.slice ao rs.length cap) ∧ w'.cell? ⟨bs, 0, none⟩ = some (.int .i64 nK) ∧ w'.cell? ⟨bs, 1, none⟩ = some (.slice asm sm.length csm))) (by kernel_rfl) ?hSb0 (fun hHeld => ?_)
                  case hSb0 => (first | (exact ⟨c0, c1, m0, m1⟩) | ((try dsimp only); exact ⟨c0, c1, m0, m1⟩))
                  refine wpAnyH_tk 0 (v := ?vb0) rfl (by kernel_rfl) (by kernel_rfl) (by kernel_rfl) (fun _ _ _ h => h) (by rfl) ?hyb0 (by assumption) ?_
                  case hyb0 => (intro w hSw; (try dsimp only at hSw); go_simp <;> with_reducible rfl)
                  (try simp only [Act.put, List.setIfInBounds_toArray, List.set_cons_zero, List.set_cons_succ])
                  refine wpAnyH_tk 1 (v := ?vb1) rfl (by kernel_rfl) (by kernel_rfl) (by kernel_rfl) (fun _ _ _ h => h) (by rfl) ?hyb1 (by assumption) ?_
                  case hyb1 => (intro w hSw; (try dsimp only at hSw); go_simp <;> with_reducible rfl)
                  (try simp only [Act.put, List.setIfInBounds_toArray, List.set_cons_zero, List.set_cons_succ])
                  refine wpAnyH_tk 2 (v := ?vb2) rfl (by kernel_rfl) (by kernel_rfl) (by kernel_rfl) (fun _ _ _ h => h) (by rfl) ?hyb2 (by assumption) ?_
                  case hyb2 => (intro w hSw; (try dsimp only at hSw); go_simp <;> with_reducible rfl)
                  (try simp only [Act.put, List.setIfInBounds_toArray, List.set_cons_zero, List.set_cons_succ])
                  refine wpAnyH_tk 3 (v := ?vb3) rfl (by kernel_rfl) (by kernel_rfl) (by kernel_rfl) (fun _ _ _ h => h) (by rfl) ?hyb3 (by assumption) ?_
                  case hyb3 => (intro w hSw; (try dsimp only at hSw); go_simp <;> with_reducible rfl)
                  (try simp only [Act.put, List.setIfInBounds_toArray, List.set_cons_zero, List.set_cons_succ])
                  refine wpAnyH_tk 4 (v := ?vb4) rfl (by kernel_rfl) (by kernel_rfl) (by kernel_rfl) (fun _ _ _ h => h) (by rfl) ?hyb4 (by assumption) ?_
                  case hyb4 => (intro w hSw; (try dsimp only at hSw); go_simp <;> with_reducible rfl)
                  (try simp only [Act.put, List.setIfInBounds_toArray, List.set_cons_zero, List.set_cons_succ])
                  refine wpAnyH_tk 5 (v := ?vb5) rfl (by kernel_rfl) (by kernel_rfl) (by kernel_rfl) (fun _ _ _ h => h) (by rfl) ?hyb5 (by assumption) ?_
                  case hyb5 => (intro w hSw; (try dsimp only at hSw); go_simp <;> with_reducible rfl)
                  (try simp only [Act.put, List.setIfInBounds_toArray, List.set_cons_zero, List.set_cons_succ])
                  refine wpAnyH_one 6 rfl (by kernel_rfl) (by rfl) (fun K hK => ?_)
                  go_simp
                  (refine (CheckTree_ok _ _ nK sm S _ _ (SM_102.out.ext (Ext.refl w102).drew) (OS_102.out.ext (Ext.refl w102).drew) HB2.out HSA.out (HTZ.out.ext (E102.out.trans (Ext.refl w102).drew)) (.inl ⟨by rw [HSS.out]; exact HBS2.out.1, rfl, rfl⟩)).mono ?_; rw [best_cost HB2.out HSA.out (by rw [HSS.out]; exact HCN2.out) (by rw [HSS.out]; exact HBS2.out), ← HNS.out]; rintro e wq0 ⟨rfl, heq0⟩)
                  refine hK.out _ _ ?hSb7 (fun hHeld => ?_)
                  case hSb7 => (first | (exact ⟨((Ext.refl w102).drew.trans heq0).cell c0, ((Ext.refl w102).drew.trans heq0).cell c1, ((Ext.refl w102).drew.trans heq0).cell m0, ((Ext.refl w102).drew.trans heq0).cell m1⟩) | ((try dsimp only); exact ⟨((Ext.refl w102).drew.trans heq0).cell c0, ((Ext.refl w102).drew.trans heq0).cell c1, ((Ext.refl w102).drew.trans heq0).cell m0, ((Ext.refl w102).drew.trans heq0).cell m1⟩))
                  clear hK K
                  (try simp only [Act.put, List.setIfInBounds_toArray, List.set_cons_zero, List.set_cons_succ])
                  refine wpAnyH_tk 7 (v := ?vb7) rfl (by kernel_rfl) (by kernel_rfl) (by kernel_rfl) (fun _ _ _ h => h) (by rfl) ?hyb7 (by assumption) ?_
                  case hyb7 => (intro w hSw; (try dsimp only at hSw); go_simp <;> with_reducible rfl)
                  (try simp only [Act.put, List.setIfInBounds_toArray, List.set_cons_zero, List.set_cons_succ])
                  refine wpAnyH_tk 8 (v := ?vb8) rfl (by kernel_rfl) (by kernel_rfl) (by kernel_rfl) (fun _ _ _ h => h) (by rfl) ?hyb8 (by assumption) ?_
                  case hyb8 => (intro w hSw; (try dsimp only at hSw); go_simp <;> with_reducible rfl)
                  (try simp only [Act.put, List.setIfInBounds_toArray, List.set_cons_zero, List.set_cons_succ])
                  refine wpAnyH_tk 9 (v := ?vb9) rfl (by kernel_rfl) (by kernel_rfl) (by kernel_rfl) (fun _ _ _ h => h) (by rfl) ?hyb9 (by assumption) ?_
                  case hyb9 => (intro w hSw; (try dsimp only at hSw); go_simp <;> with_reducible rfl)
                  (try simp only [Act.put, List.setIfInBounds_toArray, List.set_cons_zero, List.set_cons_succ])
                  refine wpAnyH_tk 10 (v := ?vb10) rfl (by kernel_rfl) (by kernel_rfl) (by kernel_rfl) (fun _ _ _ h => h) (by rfl) ?hyb10 (by assumption) ?_
                  case hyb10 => (intro w hSw; (try dsimp only at hSw); go_simp <;> with_reducible rfl)
                  (try simp only [Act.put, List.setIfInBounds_toArray, List.set_cons_zero, List.set_cons_succ])
                  refine wpAnyH_tk 11 (v := ?vb11) rfl (by kernel_rfl) (by kernel_rfl) (by kernel_rfl) (fun _ _ _ h => h) (by rfl) ?hyb11 (by assumption) ?_
                  case hyb11 => (intro w hSw; (try dsimp only at hSw); go_simp <;> with_reducible rfl)
                  (try simp only [Act.put, List.setIfInBounds_toArray, List.set_cons_zero, List.set_cons_succ])
                  refine wpAnyH_tk 12 (v := ?vb12) rfl (by kernel_rfl) (by kernel_rfl) (by kernel_rfl) (fun _ _ _ h => h) (by rfl) ?hyb12 (by assumption) ?_
                  case hyb12 => (intro w hSw; (try dsimp only at hSw); go_simp <;> with_reducible rfl)
                  (try simp only [Act.put, List.setIfInBounds_toArray, List.set_cons_zero, List.set_cons_succ])
                  refine wpAnyH_tk 13 (v := ?vb13) rfl (by kernel_rfl) (by kernel_rfl) (by kernel_rfl) (fun _ _ _ h => h) (by rfl) ?hyb13 (by assumption) ?_
                  case hyb13 => (intro w hSw; (try dsimp only at hSw); go_simp <;> with_reducible rfl)
                  (try simp only [Act.put, List.setIfInBounds_toArray, List.set_cons_zero, List.set_cons_succ])
                  refine wpAnyH_done (by kernel_rfl) ?_ _
                  clear hHeld
                  clear c0 c1
                  have eq := hid (((Ext.refl w102).drew.trans heq0))
                  have X103 := hid (X102.out.ext eq.out)
                  have BX_103 := hid (BX_102.out.ext eq.out)
                  have SM_103 := hid (SM_102.out.ext eq.out)
                  have OS_103 := hid (OS_102.out.ext eq.out)
                  have E103 := hid (E102.out.trans eq.out)
                  clear heq0
                  clear eq
                  obtain ⟨c0, c1⟩ := X103.out.cells
                  clear m0 m1 ws1 ws3 ws4
                  have t1 := T1.out
                  have t2 := T2.out
                  have hw1 : IntKind.i64.wrap (2 * c) = 2 * c := wraps_i64_62 _ (by omega) (by omega)
                  have hw2 : wrap64 (2 * c) = 2 * c := IntWalk.wrap64_in _ (by omega)
                  go_wp2_with (fail)
                  refine (awake_any _).mono ?_
                  rintro e w104 ⟨rfl, he104⟩
                  clear c0 c1
                  have E104 := hid (E103.out.trans he104)
                  clear he104
                  go_wp2
                  go_ret
                  exact ⟨rfl, E104.out⟩
            · have h6i : 6 < (nK : Int) := by omega
              skip
              have eZ := hid (E.out)
              have X56 := hid (X5.out.ext eZ.out)
              have E56 := hid (E5.out.trans eZ.out)
              obtain ⟨c0, c1⟩ := X56.out.cells
              go_wp2_with (fail)
              refine (awake_any _).mono ?_
              rintro e w57 ⟨rfl, he57⟩
              clear c0 c1
              have E57 := hid (E56.out.trans he57)
              clear he57
              go_wp2
              go_ret
              exact ⟨rfl, E57.out⟩
    · have hsf : stopsB N st = false := by rw [Bool.eq_false_iff]; exact hst
      have HST := hid hsf
      clear hst hsf
      go_enter Tryd.func10, Tryd.ntmps10
      go_wp2_with (fail)
      refine (Of_any _ ⟨N, rs⟩ _ (MapR.ext HM.out (Ext.ofAlloc w _))).mono ?_
      rintro e w1 ⟨uU, rfl, hu, he1⟩
      dsimp only at hu
      rw [HTK.out] at hu
      have X1 := hid (X0.ext he1)
      have E1 := hid ((Ext.ofAlloc w _).trans he1)
      clear he1
      obtain ⟨c0, c1⟩ := X1.out.cells
      have U_1 := hid (hu.roads (by omega))
      clear hu
      go_wp2_with (fail)
      refine (Distances_ok _ N rs _ U_1.out HB.out).mono ?_
      rintro e w2 ⟨vd, rfl, hmat, he2⟩
      obtain ⟨gb, kb, rfl, -⟩ := hmat.head (by omega)
      clear c0 c1
      have X2 := hid (X1.out.ext he2)
      have U_2 := hid (U_1.out.ext he2)
      have E2 := hid (E1.out.trans he2)
      clear he2
      obtain ⟨c0, c1⟩ := X2.out.cells
      have T_2 := hid (hmat)
      clear hmat
      go_wp2_with (fail)
      refine (RValid_any _ ⟨N, rs⟩ _ (MapR.ext HM.out E2.out)).mono ?_
      rw [HB.out]
      rintro e w3 ⟨rfl, he3⟩
      clear c0 c1
      have X3 := hid (X2.out.ext he3)
      have T_3 := hid (T_2.out.ext he3)
      have E3 := hid (E2.out.trans he3)
      clear he3
      obtain ⟨c0, c1⟩ := X3.out.cells
      go_wp2_with (fail)
      refine (RStops_any _ ⟨N, rs⟩ st _ (MapR.ext HM.out E3.out) (by show (0 : Int) ≤ N; omega) (by show (N : Int) ≤ 8; omega)).mono ?_
      rw [HST.out]
      rintro e w4 ⟨rfl, he4⟩
      clear c0 c1
      have X4 := hid (X3.out.ext he4)
      have T_4 := hid (T_3.out.ext he4)
      have E4 := hid (E3.out.trans he4)
      clear he4
      obtain ⟨c0, c1⟩ := X4.out.cells
      go_wp2_with (fail)
      refine (awake_any _).mono ?_
      rintro e w5 ⟨rfl, he5⟩
      clear c0 c1
      have E5 := hid (E4.out.trans he5)
      clear he5
      go_wp2
      go_ret
      exact ⟨rfl, E5.out⟩
  · have hbf : mapOk m = false := by rw [Bool.eq_false_iff]; exact hb
    have HBC : Hid (mapOk (cutM m) = false) := by show _ = _; rw [mapOk_cut, hbf]
    clear hb hbf
    go_enter Tryd.func10, Tryd.ntmps10
    go_wp2_with (fail)
    refine (Of_any _ m _ (MapR.ext HM.out (Ext.ofAlloc w _))).mono ?_
    rintro e w1 ⟨uU, rfl, hu, he1⟩
    have X1 := hid (X0.ext he1)
    have E1 := hid ((Ext.ofAlloc w _).trans he1)
    clear he1
    obtain ⟨c0, c1⟩ := X1.out.cells
    have U_1 := hid (hu.roads (by rw [List.length_take]; omega))
    clear hu
    go_wp2_with (fail)
    refine (Distances_bad _ (cutM m) _ U_1.out HBC.out).mono ?_
    rintro e w2 ⟨rfl, he2⟩
    clear c0 c1
    have X2 := hid (X1.out.ext he2)
    have U_2 := hid (U_1.out.ext he2)
    have E2 := hid (E1.out.trans he2)
    clear he2
    obtain ⟨c0, c1⟩ := X2.out.cells
    go_wp2_with (fail)
    refine (awake_any _).mono ?_
    rintro e w3 ⟨rfl, he3⟩
    clear c0 c1
    have E3 := hid (E2.out.trans he3)
    clear he3
    go_wp2
    go_ret
    exact ⟨rfl, E3.out⟩

end Go.Proofs.YtkbkgkmogbkabaaDoor

/-
  RouteTwice: the cost of Tree for a set is at least half of the least cost of a tree on the map of the set's stops with their distances as roads, and at most that. Conditions: those of the card.
-/
namespace Go.Proofs.YtkbkgkmogbkabaaDoor
open Go.ChangeShapes Go.WideShapes Go.ChangeAt Go.RowKit

set_option maxRecDepth 100000 in
theorem routeTwice_lifted (os : Os) (started : os.Started) (H : Type) (enc : TypeId × Value → H) :
    ReturnsInHanded {} Tryd.checked os 10 .any (fun w args => (Rows.routeTwiceSpec.pre enc Tryd.prog Tryd.f10 [] false w args ∧ laidMetH Tryd.prog laid2 w) ∧ sizedMet enc Tryd.prog Tryd.f10 (OpenSpec.ofChange Rows.routeTwiceSpec) false w args) (Rows.routeTwiceSpec.post enc Tryd.prog Tryd.f10 false true false false) := by
  refine returnsInHanded_of_change_and (C := Tryd.checked) (X := fun w _ => laidMetH Tryd.prog laid2 w) (fun _ _ _ hh h => h.of_heap hh) own started (by kernel_rfl) Tryd.func10
    (ChangeSpec.witness_shaped (enc := enc) (C := Tryd.checked) (os := os) (X := fun w _ => laidMetH Tryd.prog laid2 w) false (World.doorLaid Tryd.prog 400 os) #[.agg #[.int .i64 0, .slice none 0 0], .int .i64 0] 8 rfl (World.shaped_of_RefB (by kernel_rfl) (by kernel_rfl)) (by kernel_rfl) (by kernel_rfl) (by kernel_rfl) (door_met os _)) ?_
  intro W base args ds gs before hval0 hW _ hsz0 hLd _
  have hTZ := TZ.of (tab_of_laid hLd)
  have hsz : (DataW.weightsEach Tryd.prog (Tryd.f10.params.toList ++ Rows.routeTwiceSpec.plain.varTypes Tryd.prog) (ds ++ gs)).all (· ≤ reachBytes) = true := hsz0
  clear hsz0
  have hval : ∀ (j : Nat) t v, Tryd.f10.params[j]? = some t → args[j]? = some v → Value.okWide Tryd.prog W .any base t v := hval0
  have hW' := hW
  obtain ⟨p, q, hA0, hV, rfl, _, _⟩ := hW
  have hA : DataW.TrodAll enc Tryd.prog W 0 (fun _ => true) true Tryd.f10.params.toList args.toList ds p := hA0
  rw [Tryd.params10] at hA hval hsz
  obtain ⟨v0, vs0, d0, ds0, p0, q0, hargs, rfl, rfl, h0, r0⟩ := trodAll_cons hA
  obtain ⟨v1, vs1, d1, ds1, p1, q1, rfl, rfl, rfl, h1, r1⟩ := trodAll_cons r0
  obtain ⟨rfl, rfl, rfl⟩ := trodAll_nil r1
  obtain rfl : args = #[v0, v1] := by cases args; simp_all
  obtain ⟨rfl, rfl⟩ := trodVars_none hV
  have k0 := h0
  have lt0 : ∀ x ∈ p0, x.block < W.heap.size := by obtain ⟨m, hm⟩ := k0; exact DataW.trod_lt m _ _ _ hm
  obtain ⟨vr, mp, rfl, hm⟩ := map_of_trod (hval 0 _ v0 rfl rfl) h0 (weights_at hsz (j := 0) rfl rfl)
  obtain ⟨a1, rfl, rfl, rfl, w1⟩ := open_int Tryd.underlying3 (hval 1 _ v1 rfl rfl) h1
  clear hA0 hval0
  refine (RouteTwice_any vr mp a1 W hm hTZ).mono fun e W' ⟨he, bel⟩ => ?_
  subst he
  exact ⟨_, rfl, _, _, _, [], _, [], hW', trodAll_mk1 (shut_bool Tryd.underlying4 _),
    (trodAll_cons_mk (Below.trod laidOut (by kernel_rfl) (of_decide_eq_true (by kernel_rfl)) k0 bel lt0) (trodAll_cons_mk (shut_int Tryd.underlying3 w1) trodAll_mk0)), rfl, bel.frame _, fun h => by cases h⟩

theorem routeTwice_row : Rows.RouteTwiceSaid :=
  OpenClaim.holds_of_wide 10 Tryd.f10 rfl rfl rfl rfl rfl rfl rfl ⟨rfl, rfl, rfl, rfl, rfl⟩ rfl rfl rfl rfl rfl (by kernel_rfl) Tryd.func10 (by kernel_rfl)
    (of_decide_eq_true (by kernel_rfl)) (by unfold Func.isWrapper; first | (rw [if_pos (by decide +kernel)]; kernel_rfl) | (rw [if_neg (by decide +kernel)]; exact ⟨rfl, rfl⟩))
    (fun os started H enc _ => routeTwice_lifted os started H enc)

theorem routeTwice_holds : Rows.RouteTwiceCardSaid :=
  Claim7.holds_tied_plain_at .later [] [.data, .data] true (true, "21947a5a87ddc905c2c0e4241b411cf4012465f53c335e9effae5daa1c3095b2") false
    routeTwice_row (fun _ h => by cases h) (by kernel_rfl) (fun _ h => by cases h) routeTwice_row_tie rfl ⟨rfl, rfl⟩ (by kernel_rfl) rfl
    (fun f fn hf hfn => by
      obtain rfl : f = 10 := Option.some.inj ((show Tryd.prog.funcNamed "corrody/corrodylaw05.RouteTwice" = some 10 by kernel_rfl).symm.trans hf) |>.symm
      obtain rfl : fn = Tryd.f10 := (Option.some.inj (Tryd.func10.symm.trans hfn)).symm
      exact ⟨by kernel_rfl, fun j t ht => by
        rw [Tryd.params10] at ht
        have hm : t ∈ [24, 3] := by simpa using Array.mem_of_getElem? ht
        have hall : ([24, 3].all fun u => !Tryd.prog.wantsStandIn u) = true := by kernel_rfl
        exact (show Tryd.prog.wantsStandIn t = false by simpa using List.all_eq_true.1 hall t hm)⟩)
    (by kernel_rfl)

end Go.Proofs.YtkbkgkmogbkabaaDoor

#print axioms Go.Proofs.YtkbkgkmogbkabaaDoor.routeTwice_holds
