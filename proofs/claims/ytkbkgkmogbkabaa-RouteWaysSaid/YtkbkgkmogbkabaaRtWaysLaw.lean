/-
  The statement RouteWays: its walk.
-/
import Derived.Test.YtkbkgkmogbkabaaRtRWay
import Derived.Test.YtkbkgkmogbkabaaRtSame
import Derived.Test.YtkbkgkmogbkabaaRtAwake
namespace Go.Proofs.Ytkbkgkmogbkabaa
open Go.RowKit

theorem eqI_self2 (l : List Int) : eqI l l = true := by unfold eqI; exact decide_eq_true rfl
theorem eqR_self (l : List (List Int)) : eqR l l = true := by unfold eqR; exact decide_eq_true rfl
theorem IsWay.same {c d : Nat → Nat → Int} {n a b f f' : Nat} {r r' : List Int} (h : IsWay c d n a b f r) (h' : IsWay c d n a b f' r') : r = r' := by
  have e : f = f' := by
    rcases Nat.lt_or_ge f f' with g | g
    · have := h'.2 f g; rw [h.1] at this; simp at this
    · rcases Nat.lt_or_ge f' f with g2 | g2
      · have := h.2 f' g2; rw [h'.1] at this; simp at this
      · omega
  subst e
  have := h.1
  rw [h'.1] at this
  simp only [Option.some.injEq] at this
  exact this.symm

set_option maxRecDepth 20000 in
set_option maxHeartbeats 8000000 in
theorem RouteWays_any (vr : Value) (m : MapD) (a b : Int) (w : World) (hm : MapR w vr m) :
    Calls Try.prog 5 #[.agg #[.int .i64 m.n, vr], .int .i64 a, .int .i64 b] w fun e w' => e = .returned (.bool true) ∧ Ext w w' := by
  obtain ⟨ao, cap, rfl⟩ := hm.shape
  have HM := hid hm
  have X0 := Box2.alloc w 24 (.int .i64 m.n) (.slice ao m.roads.length cap)
  clear hm
  by_cases hb : mapOk m = true
  · obtain ⟨n, rs⟩ := m
    have hok2 := hb
    unfold mapOk at hok2
    rw [Bool.and_eq_true, decide_eq_true_iff, List.all_eq_true] at hok2
    obtain ⟨⟨h1, h8, h16⟩, hall⟩ := hok2
    dsimp only at h1 h8 h16 hall
    obtain ⟨N, rfl⟩ := Int.eq_ofNat_of_zero_le (show 0 ≤ n by omega)
    have hN1 : 1 ≤ N := by omega
    have hN8 : N ≤ 8 := by omega
    have HB := hid hb
    have HAll := hid hall
    have HTK : Hid (rs.take 18 = rs) := congrArg MapD.roads (cutM_id hb)
    dsimp only at X0 HM
    clear hb hall
    by_cases hsa : stopB N a = true
    · by_cases hsb : stopB N b = true
      · have hsa2 := hsa
        have hsb2 := hsb
        unfold stopB at hsa2 hsb2
        rw [decide_eq_true_iff] at hsa2 hsb2
        obtain ⟨A, rfl⟩ := Int.eq_ofNat_of_zero_le hsa2.1
        obtain ⟨B, rfl⟩ := Int.eq_ofNat_of_zero_le hsb2.1
        have hA : A < N := by omega
        have hB2 : B < N := by omega
        have HSA := hid hsa
        have HSB := hid hsb
        clear hsa hsb hsa2 hsb2
        by_cases hf : far ≤ fw (costTo rs) N A B
        · have HFar := hid hf
          clear hf
          go_enter Try.func5, Try.ntmps5
          go_wp2_with (fail)
          refine (Of_any _ ⟨N, rs⟩ _ (MapR.ext HM.out (Ext.ofAlloc w _))).mono ?_
          rintro e w1 ⟨uU, rfl, hu, he1⟩
          dsimp only at hu
          rw [HTK.out] at hu
          have X1 := hid (X0.ext he1)
          have E1 := hid ((Ext.ofAlloc w _).trans he1)
          clear he1
          obtain ⟨c0, c1⟩ := X1.out.cells
          have U_1 := hid (hu.roads (by omega))
          clear hu
          go_wp2_with (fail)
          refine (Distances_ok _ N rs _ U_1.out HB.out).mono ?_
          rintro e w2 ⟨vd, rfl, hm, he2⟩
          have hrows := hm.rows2 (by omega) (by omega)
          obtain ⟨gb, kb, rfl, -⟩ := hm.head (by omega)
          clear hm
          clear c0 c1
          have X2 := hid (X1.out.ext he2)
          have U_2 := hid (U_1.out.ext he2)
          have E2 := hid (E1.out.trans he2)
          clear he2
          obtain ⟨c0, c1⟩ := X2.out.cells
          have T_2 := hid (hrows)
          clear hrows
          go_wp2_with (fail)
          refine (Of_any _ ⟨N, rs⟩ _ (MapR.ext HM.out E2.out)).mono ?_
          rintro e w3 ⟨uU, rfl, hu, he3⟩
          dsimp only at hu
          rw [HTK.out] at hu
          clear c0 c1
          have X3 := hid (X2.out.ext he3)
          have T_3 := hid (T_2.out.ext he3)
          have E3 := hid (E2.out.trans he3)
          clear he3
          obtain ⟨c0, c1⟩ := X3.out.cells
          have U_3 := hid (hu.roads (by omega))
          clear hu
          go_wp2_with (fail)
          refine (Way_far _ N rs A B _ U_3.out HB.out hA hB2 HFar.out).mono ?_
          rintro e w4 ⟨rfl, he4⟩
          clear c0 c1
          have X4 := hid (X3.out.ext he4)
          have T_4 := hid (T_3.out.ext he4)
          have U_4 := hid (U_3.out.ext he4)
          have E4 := hid (E3.out.trans he4)
          clear he4
          obtain ⟨c0, c1⟩ := X4.out.cells
          go_wp2_with (fail)
          refine (RValid_any _ ⟨N, rs⟩ _ (MapR.ext HM.out E4.out)).mono ?_
          rw [HB.out]
          rintro e w5 ⟨rfl, he5⟩
          clear c0 c1
          have X5 := hid (X4.out.ext he5)
          have T_5 := hid (T_4.out.ext he5)
          have E5 := hid (E4.out.trans he5)
          clear he5
          obtain ⟨c0, c1⟩ := X5.out.cells
          go_wp2_with (fail)
          refine (RDistances_any _ N rs _ (MapR.ext HM.out E5.out) HB.out).mono ?_
          rintro e w6 ⟨v2, rfl, hm2, he6⟩
          have hrows := hm2.rows2 (by omega) (by omega)
          obtain ⟨gb2, kb2, rfl, -⟩ := hm2.head (by omega)
          clear hm2
          clear c0 c1
          have X6 := hid (X5.out.ext he6)
          have T_6 := hid (T_5.out.ext he6)
          have E6 := hid (E5.out.trans he6)
          clear he6
          obtain ⟨c0, c1⟩ := X6.out.cells
          have T2_6 := hid (hrows)
          clear hrows
          go_wp2_with (fail)
          refine (same_any _ _ _ _ _ T_6.out T2_6.out).mono ?_
          rw [eqR_self]
          rintro e w7 ⟨rfl, he7⟩
          clear c0 c1
          have X7 := hid (X6.out.ext he7)
          have T_7 := hid (T_6.out.ext he7)
          have T2_7 := hid (T2_6.out.ext he7)
          have E7 := hid (E6.out.trans he7)
          clear he7
          obtain ⟨c0, c1⟩ := X7.out.cells
          go_wp2_with (fail)
          refine (awake_any _).mono ?_
          rintro e w8 ⟨rfl, he8⟩
          clear c0 c1
          have X8 := hid (X7.out.ext he8)
          have E8 := hid (E7.out.trans he8)
          clear he8
          obtain ⟨c0, c1⟩ := X8.out.cells
          go_wp2_with (fail)
          refine (lawstop_any _ ⟨N, rs⟩ A _ (MapR.ext HM.out E8.out)).mono ?_
          rw [HSA.out]
          rintro e w9 ⟨rfl, he9⟩
          clear c0 c1
          have X9 := hid (X8.out.ext he9)
          have E9 := hid (E8.out.trans he9)
          clear he9
          obtain ⟨c0, c1⟩ := X9.out.cells
          go_wp2_with (fail)
          refine (lawstop_any _ ⟨N, rs⟩ B _ (MapR.ext HM.out E9.out)).mono ?_
          rw [HSB.out]
          rintro e w10 ⟨rfl, he10⟩
          clear c0 c1
          have X10 := hid (X9.out.ext he10)
          have E10 := hid (E9.out.trans he10)
          clear he10
          obtain ⟨c0, c1⟩ := X10.out.cells
          go_wp2_with (fail)
          refine (RWay_any _ N rs A B _ (MapR.ext HM.out E10.out) HB.out hA hB2).mono ?_
          rintro e w11 ⟨v3, x, rfl, he11, hpost⟩
          obtain ⟨rfl, rfl⟩ : v3 = .slice none 0 0 ∧ x = 4 := by
            rcases hpost with ⟨-, h⟩ | ⟨h, -⟩
            · exact h
            · exfalso; have := HFar.out; omega
          clear hpost
          clear c0 c1
          have X11 := hid (X10.out.ext he11)
          have E11 := hid (E10.out.trans he11)
          clear he11
          obtain ⟨c0, c1⟩ := X11.out.cells
          go_wp2_with (fail)
          refine (EqualE_any _ _ [] [] _ (Ints.nil _ _ _) (Ints.nil _ _ _)).mono ?_
          rw [eqI_self2]
          rintro e w12 ⟨rfl, he12⟩
          clear c0 c1
          have E12 := hid (E11.out.trans he12)
          clear he12
          go_wp2
          go_ret
          exact ⟨rfl, E12.out⟩
        · have HNear : Hid (fw (costTo rs) N A B < far) := by show _ < _; omega
          clear hf
          go_enter Try.func5, Try.ntmps5
          go_wp2_with (fail)
          refine (Of_any _ ⟨N, rs⟩ _ (MapR.ext HM.out (Ext.ofAlloc w _))).mono ?_
          rintro e w1 ⟨uU, rfl, hu, he1⟩
          dsimp only at hu
          rw [HTK.out] at hu
          have X1 := hid (X0.ext he1)
          have E1 := hid ((Ext.ofAlloc w _).trans he1)
          clear he1
          obtain ⟨c0, c1⟩ := X1.out.cells
          have U_1 := hid (hu.roads (by omega))
          clear hu
          go_wp2_with (fail)
          refine (Distances_ok _ N rs _ U_1.out HB.out).mono ?_
          rintro e w2 ⟨vd, rfl, hm, he2⟩
          have hrows := hm.rows2 (by omega) (by omega)
          obtain ⟨gb, kb, rfl, -⟩ := hm.head (by omega)
          clear hm
          clear c0 c1
          have X2 := hid (X1.out.ext he2)
          have U_2 := hid (U_1.out.ext he2)
          have E2 := hid (E1.out.trans he2)
          clear he2
          obtain ⟨c0, c1⟩ := X2.out.cells
          have T_2 := hid (hrows)
          clear hrows
          go_wp2_with (fail)
          refine (Of_any _ ⟨N, rs⟩ _ (MapR.ext HM.out E2.out)).mono ?_
          rintro e w3 ⟨uU, rfl, hu, he3⟩
          dsimp only at hu
          rw [HTK.out] at hu
          clear c0 c1
          have X3 := hid (X2.out.ext he3)
          have T_3 := hid (T_2.out.ext he3)
          have E3 := hid (E2.out.trans he3)
          clear he3
          obtain ⟨c0, c1⟩ := X3.out.cells
          have U_3 := hid (hu.roads (by omega))
          clear hu
          go_wp2_with (fail)
          refine (Way_ok _ N rs A B _ U_3.out HB.out hA hB2 HNear.out).mono ?_
          rintro e w4 ⟨vw, f, r, rfl, hiw, hway, -, he4⟩
          have HW := hid hway
          obtain ⟨-, aow, cpw, rfl, -⟩ := id hiw
          clear hway
          clear c0 c1
          have X4 := hid (X3.out.ext he4)
          have T_4 := hid (T_3.out.ext he4)
          have U_4 := hid (U_3.out.ext he4)
          have E4 := hid (E3.out.trans he4)
          clear he4
          obtain ⟨c0, c1⟩ := X4.out.cells
          have V_4 := hid (hiw)
          clear hiw
          go_wp2_with (fail)
          refine (RValid_any _ ⟨N, rs⟩ _ (MapR.ext HM.out E4.out)).mono ?_
          rw [HB.out]
          rintro e w5 ⟨rfl, he5⟩
          clear c0 c1
          have X5 := hid (X4.out.ext he5)
          have T_5 := hid (T_4.out.ext he5)
          have V_5 := hid (V_4.out.ext he5)
          have E5 := hid (E4.out.trans he5)
          clear he5
          obtain ⟨c0, c1⟩ := X5.out.cells
          go_wp2_with (fail)
          refine (RDistances_any _ N rs _ (MapR.ext HM.out E5.out) HB.out).mono ?_
          rintro e w6 ⟨v2, rfl, hm2, he6⟩
          have hrows := hm2.rows2 (by omega) (by omega)
          obtain ⟨gb2, kb2, rfl, -⟩ := hm2.head (by omega)
          clear hm2
          clear c0 c1
          have X6 := hid (X5.out.ext he6)
          have T_6 := hid (T_5.out.ext he6)
          have V_6 := hid (V_5.out.ext he6)
          have E6 := hid (E5.out.trans he6)
          clear he6
          obtain ⟨c0, c1⟩ := X6.out.cells
          have T2_6 := hid (hrows)
          clear hrows
          go_wp2_with (fail)
          refine (same_any _ _ _ _ _ T_6.out T2_6.out).mono ?_
          rw [eqR_self]
          rintro e w7 ⟨rfl, he7⟩
          clear c0 c1
          have X7 := hid (X6.out.ext he7)
          have T_7 := hid (T_6.out.ext he7)
          have V_7 := hid (V_6.out.ext he7)
          have T2_7 := hid (T2_6.out.ext he7)
          have E7 := hid (E6.out.trans he7)
          clear he7
          obtain ⟨c0, c1⟩ := X7.out.cells
          go_wp2_with (fail)
          refine (awake_any _).mono ?_
          rintro e w8 ⟨rfl, he8⟩
          clear c0 c1
          have X8 := hid (X7.out.ext he8)
          have V_8 := hid (V_7.out.ext he8)
          have E8 := hid (E7.out.trans he8)
          clear he8
          obtain ⟨c0, c1⟩ := X8.out.cells
          go_wp2_with (fail)
          refine (lawstop_any _ ⟨N, rs⟩ A _ (MapR.ext HM.out E8.out)).mono ?_
          rw [HSA.out]
          rintro e w9 ⟨rfl, he9⟩
          clear c0 c1
          have X9 := hid (X8.out.ext he9)
          have V_9 := hid (V_8.out.ext he9)
          have E9 := hid (E8.out.trans he9)
          clear he9
          obtain ⟨c0, c1⟩ := X9.out.cells
          go_wp2_with (fail)
          refine (lawstop_any _ ⟨N, rs⟩ B _ (MapR.ext HM.out E9.out)).mono ?_
          rw [HSB.out]
          rintro e w10 ⟨rfl, he10⟩
          clear c0 c1
          have X10 := hid (X9.out.ext he10)
          have V_10 := hid (V_9.out.ext he10)
          have E10 := hid (E9.out.trans he10)
          clear he10
          obtain ⟨c0, c1⟩ := X10.out.cells
          go_wp2_with (fail)
          refine (RWay_any _ N rs A B _ (MapR.ext HM.out E10.out) HB.out hA hB2).mono ?_
          rintro e w11 ⟨v3, x, rfl, he11, hpost⟩
          obtain ⟨hi3, rfl⟩ : Ints w11 v3 r ∧ x = 0 := by
            rcases hpost with ⟨h, -⟩ | ⟨-, ⟨f', r', hw', hi'⟩, h⟩
            · exfalso; have := HNear.out; omega
            · rw [IsWay.same HW.out hw']; exact ⟨hi', h⟩
          obtain ⟨-, ao3, cp3, rfl, -⟩ := id hi3
          clear hpost
          clear c0 c1
          have X11 := hid (X10.out.ext he11)
          have V_11 := hid (V_10.out.ext he11)
          have E11 := hid (E10.out.trans he11)
          clear he11
          obtain ⟨c0, c1⟩ := X11.out.cells
          have V3_11 := hid (hi3)
          clear hi3
          go_wp2_with (fail)
          refine (EqualE_any _ _ _ _ _ V_11.out V3_11.out).mono ?_
          rw [eqI_self2]
          rintro e w12 ⟨rfl, he12⟩
          clear c0 c1
          have E12 := hid (E11.out.trans he12)
          clear he12
          go_wp2
          go_ret
          exact ⟨rfl, E12.out⟩
      · have hsf : stopB N b = false := by rw [Bool.eq_false_iff]; exact hsb
        have HSA := hid hsa
        have HSB := hid hsf
        have HBW : Hid ((mapOk ⟨N, rs⟩ && stopB N a && stopB N b) = false) := by show _ = _; rw [hsf, Bool.and_false]
        clear hsa hsb hsf
        go_enter Try.func5, Try.ntmps5
        go_wp2_with (fail)
        refine (Of_any _ ⟨N, rs⟩ _ (MapR.ext HM.out (Ext.ofAlloc w _))).mono ?_
        rintro e w1 ⟨uU, rfl, hu, he1⟩
        dsimp only at hu
        rw [HTK.out] at hu
        have X1 := hid (X0.ext he1)
        have E1 := hid ((Ext.ofAlloc w _).trans he1)
        clear he1
        obtain ⟨c0, c1⟩ := X1.out.cells
        have U_1 := hid (hu.roads (by omega))
        clear hu
        go_wp2_with (fail)
        refine (Distances_ok _ N rs _ U_1.out HB.out).mono ?_
        rintro e w2 ⟨vd, rfl, hm, he2⟩
        have hrows := hm.rows2 (by omega) (by omega)
        obtain ⟨gb, kb, rfl, -⟩ := hm.head (by omega)
        clear hm
        clear c0 c1
        have X2 := hid (X1.out.ext he2)
        have U_2 := hid (U_1.out.ext he2)
        have E2 := hid (E1.out.trans he2)
        clear he2
        obtain ⟨c0, c1⟩ := X2.out.cells
        have T_2 := hid (hrows)
        clear hrows
        go_wp2_with (fail)
        refine (Of_any _ ⟨N, rs⟩ _ (MapR.ext HM.out E2.out)).mono ?_
        rintro e w3 ⟨uU, rfl, hu, he3⟩
        dsimp only at hu
        rw [HTK.out] at hu
        clear c0 c1
        have X3 := hid (X2.out.ext he3)
        have T_3 := hid (T_2.out.ext he3)
        have E3 := hid (E2.out.trans he3)
        clear he3
        obtain ⟨c0, c1⟩ := X3.out.cells
        have U_3 := hid (hu.roads (by omega))
        clear hu
        go_wp2_with (fail)
        refine (Way_bad _ ⟨N, rs⟩ a b _ U_3.out HBW.out).mono ?_
        rintro e w4 ⟨rfl, he4⟩
        clear c0 c1
        have X4 := hid (X3.out.ext he4)
        have T_4 := hid (T_3.out.ext he4)
        have U_4 := hid (U_3.out.ext he4)
        have E4 := hid (E3.out.trans he4)
        clear he4
        obtain ⟨c0, c1⟩ := X4.out.cells
        go_wp2_with (fail)
        refine (RValid_any _ ⟨N, rs⟩ _ (MapR.ext HM.out E4.out)).mono ?_
        rw [HB.out]
        rintro e w5 ⟨rfl, he5⟩
        clear c0 c1
        have X5 := hid (X4.out.ext he5)
        have T_5 := hid (T_4.out.ext he5)
        have E5 := hid (E4.out.trans he5)
        clear he5
        obtain ⟨c0, c1⟩ := X5.out.cells
        go_wp2_with (fail)
        refine (RDistances_any _ N rs _ (MapR.ext HM.out E5.out) HB.out).mono ?_
        rintro e w6 ⟨v2, rfl, hm2, he6⟩
        have hrows := hm2.rows2 (by omega) (by omega)
        obtain ⟨gb2, kb2, rfl, -⟩ := hm2.head (by omega)
        clear hm2
        clear c0 c1
        have X6 := hid (X5.out.ext he6)
        have T_6 := hid (T_5.out.ext he6)
        have E6 := hid (E5.out.trans he6)
        clear he6
        obtain ⟨c0, c1⟩ := X6.out.cells
        have T2_6 := hid (hrows)
        clear hrows
        go_wp2_with (fail)
        refine (same_any _ _ _ _ _ T_6.out T2_6.out).mono ?_
        rw [eqR_self]
        rintro e w7 ⟨rfl, he7⟩
        clear c0 c1
        have X7 := hid (X6.out.ext he7)
        have T_7 := hid (T_6.out.ext he7)
        have T2_7 := hid (T2_6.out.ext he7)
        have E7 := hid (E6.out.trans he7)
        clear he7
        obtain ⟨c0, c1⟩ := X7.out.cells
        go_wp2_with (fail)
        refine (awake_any _).mono ?_
        rintro e w8 ⟨rfl, he8⟩
        clear c0 c1
        have X8 := hid (X7.out.ext he8)
        have E8 := hid (E7.out.trans he8)
        clear he8
        obtain ⟨c0, c1⟩ := X8.out.cells
        go_wp2_with (fail)
        refine (lawstop_any _ ⟨N, rs⟩ a _ (MapR.ext HM.out E8.out)).mono ?_
        rw [HSA.out]
        rintro e w9 ⟨rfl, he9⟩
        clear c0 c1
        have X9 := hid (X8.out.ext he9)
        have E9 := hid (E8.out.trans he9)
        clear he9
        obtain ⟨c0, c1⟩ := X9.out.cells
        go_wp2_with (fail)
        refine (lawstop_any _ ⟨N, rs⟩ b _ (MapR.ext HM.out E9.out)).mono ?_
        rw [HSB.out]
        rintro e w10 ⟨rfl, he10⟩
        clear c0 c1
        have E10 := hid (E9.out.trans he10)
        clear he10
        go_wp2
        go_ret
        exact ⟨rfl, E10.out⟩
    · have hsf : stopB N a = false := by rw [Bool.eq_false_iff]; exact hsa
      have HSA := hid hsf
      have HBW : Hid ((mapOk ⟨N, rs⟩ && stopB N a && stopB N b) = false) := by show _ = _; rw [hsf, Bool.and_false, Bool.false_and]
      clear hsa hsf
      go_enter Try.func5, Try.ntmps5
      go_wp2_with (fail)
      refine (Of_any _ ⟨N, rs⟩ _ (MapR.ext HM.out (Ext.ofAlloc w _))).mono ?_
      rintro e w1 ⟨uU, rfl, hu, he1⟩
      dsimp only at hu
      rw [HTK.out] at hu
      have X1 := hid (X0.ext he1)
      have E1 := hid ((Ext.ofAlloc w _).trans he1)
      clear he1
      obtain ⟨c0, c1⟩ := X1.out.cells
      have U_1 := hid (hu.roads (by omega))
      clear hu
      go_wp2_with (fail)
      refine (Distances_ok _ N rs _ U_1.out HB.out).mono ?_
      rintro e w2 ⟨vd, rfl, hm, he2⟩
      have hrows := hm.rows2 (by omega) (by omega)
      obtain ⟨gb, kb, rfl, -⟩ := hm.head (by omega)
      clear hm
      clear c0 c1
      have X2 := hid (X1.out.ext he2)
      have U_2 := hid (U_1.out.ext he2)
      have E2 := hid (E1.out.trans he2)
      clear he2
      obtain ⟨c0, c1⟩ := X2.out.cells
      have T_2 := hid (hrows)
      clear hrows
      go_wp2_with (fail)
      refine (Of_any _ ⟨N, rs⟩ _ (MapR.ext HM.out E2.out)).mono ?_
      rintro e w3 ⟨uU, rfl, hu, he3⟩
      dsimp only at hu
      rw [HTK.out] at hu
      clear c0 c1
      have X3 := hid (X2.out.ext he3)
      have T_3 := hid (T_2.out.ext he3)
      have E3 := hid (E2.out.trans he3)
      clear he3
      obtain ⟨c0, c1⟩ := X3.out.cells
      have U_3 := hid (hu.roads (by omega))
      clear hu
      go_wp2_with (fail)
      refine (Way_bad _ ⟨N, rs⟩ a b _ U_3.out HBW.out).mono ?_
      rintro e w4 ⟨rfl, he4⟩
      clear c0 c1
      have X4 := hid (X3.out.ext he4)
      have T_4 := hid (T_3.out.ext he4)
      have U_4 := hid (U_3.out.ext he4)
      have E4 := hid (E3.out.trans he4)
      clear he4
      obtain ⟨c0, c1⟩ := X4.out.cells
      go_wp2_with (fail)
      refine (RValid_any _ ⟨N, rs⟩ _ (MapR.ext HM.out E4.out)).mono ?_
      rw [HB.out]
      rintro e w5 ⟨rfl, he5⟩
      clear c0 c1
      have X5 := hid (X4.out.ext he5)
      have T_5 := hid (T_4.out.ext he5)
      have E5 := hid (E4.out.trans he5)
      clear he5
      obtain ⟨c0, c1⟩ := X5.out.cells
      go_wp2_with (fail)
      refine (RDistances_any _ N rs _ (MapR.ext HM.out E5.out) HB.out).mono ?_
      rintro e w6 ⟨v2, rfl, hm2, he6⟩
      have hrows := hm2.rows2 (by omega) (by omega)
      obtain ⟨gb2, kb2, rfl, -⟩ := hm2.head (by omega)
      clear hm2
      clear c0 c1
      have X6 := hid (X5.out.ext he6)
      have T_6 := hid (T_5.out.ext he6)
      have E6 := hid (E5.out.trans he6)
      clear he6
      obtain ⟨c0, c1⟩ := X6.out.cells
      have T2_6 := hid (hrows)
      clear hrows
      go_wp2_with (fail)
      refine (same_any _ _ _ _ _ T_6.out T2_6.out).mono ?_
      rw [eqR_self]
      rintro e w7 ⟨rfl, he7⟩
      clear c0 c1
      have X7 := hid (X6.out.ext he7)
      have T_7 := hid (T_6.out.ext he7)
      have T2_7 := hid (T2_6.out.ext he7)
      have E7 := hid (E6.out.trans he7)
      clear he7
      obtain ⟨c0, c1⟩ := X7.out.cells
      go_wp2_with (fail)
      refine (awake_any _).mono ?_
      rintro e w8 ⟨rfl, he8⟩
      clear c0 c1
      have X8 := hid (X7.out.ext he8)
      have E8 := hid (E7.out.trans he8)
      clear he8
      obtain ⟨c0, c1⟩ := X8.out.cells
      go_wp2_with (fail)
      refine (lawstop_any _ ⟨N, rs⟩ a _ (MapR.ext HM.out E8.out)).mono ?_
      rw [HSA.out]
      rintro e w9 ⟨rfl, he9⟩
      clear c0 c1
      have E9 := hid (E8.out.trans he9)
      clear he9
      go_wp2
      go_ret
      exact ⟨rfl, E9.out⟩
  · have hbf : mapOk m = false := by rw [Bool.eq_false_iff]; exact hb
    have HVal := hid hbf
    have HBC : Hid (mapOk (cutM m) = false) := by show _ = _; rw [mapOk_cut, hbf]
    have HBW : Hid ((mapOk (cutM m) && stopB (cutM m).n a && stopB (cutM m).n b) = false) := by show _ = _; rw [HBC.out, Bool.false_and, Bool.false_and]
    clear hb hbf
    go_enter Try.func5, Try.ntmps5
    go_wp2_with (fail)
    refine (Of_any _ m _ (MapR.ext HM.out (Ext.ofAlloc w _))).mono ?_
    rintro e w1 ⟨uU, rfl, hu, he1⟩
    have X1 := hid (X0.ext he1)
    have E1 := hid ((Ext.ofAlloc w _).trans he1)
    clear he1
    obtain ⟨c0, c1⟩ := X1.out.cells
    have U_1 := hid (hu.roads (by rw [List.length_take]; omega))
    clear hu
    go_wp2_with (fail)
    refine (Distances_bad _ (cutM m) _ U_1.out HBC.out).mono ?_
    rintro e w2 ⟨rfl, he2⟩
    clear c0 c1
    have X2 := hid (X1.out.ext he2)
    have U_2 := hid (U_1.out.ext he2)
    have E2 := hid (E1.out.trans he2)
    clear he2
    obtain ⟨c0, c1⟩ := X2.out.cells
    go_wp2_with (fail)
    refine (Of_any _ m _ (MapR.ext HM.out E2.out)).mono ?_
    rintro e w3 ⟨uU, rfl, hu, he3⟩
    clear c0 c1
    have X3 := hid (X2.out.ext he3)
    have E3 := hid (E2.out.trans he3)
    clear he3
    obtain ⟨c0, c1⟩ := X3.out.cells
    have U_3 := hid (hu.roads (by rw [List.length_take]; omega))
    clear hu
    go_wp2_with (fail)
    refine (Way_bad _ (cutM m) a b _ U_3.out HBW.out).mono ?_
    rintro e w4 ⟨rfl, he4⟩
    clear c0 c1
    have X4 := hid (X3.out.ext he4)
    have U_4 := hid (U_3.out.ext he4)
    have E4 := hid (E3.out.trans he4)
    clear he4
    obtain ⟨c0, c1⟩ := X4.out.cells
    go_wp2_with (fail)
    refine (RValid_any _ m _ (MapR.ext HM.out E4.out)).mono ?_
    rw [HVal.out]
    rintro e w5 ⟨rfl, he5⟩
    clear c0 c1
    have X5 := hid (X4.out.ext he5)
    have E5 := hid (E4.out.trans he5)
    clear he5
    obtain ⟨c0, c1⟩ := X5.out.cells
    go_wp2_with (fail)
    refine (awake_any _).mono ?_
    rintro e w6 ⟨rfl, he6⟩
    clear c0 c1
    have E6 := hid (E5.out.trans he6)
    clear he6
    go_wp2
    go_ret
    exact ⟨rfl, E6.out⟩

end Go.Proofs.Ytkbkgkmogbkabaa
