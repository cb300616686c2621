/-
  The statement RouteShown: its walk.
-/
import Derived.Test.YtkbkgkmogbkabaaRtShown
import Derived.Test.YtkbkgkmogbkabaaRtList
import Derived.Test.YtkbkgkmogbkabaaRtAwake
namespace Go.Proofs.Ytkbkgkmogbkabaa
open Go.RowKit

set_option maxRecDepth 20000 in
set_option maxHeartbeats 8000000 in
theorem RouteShown_any (vr vw vp : Value) (m : MapD) (way pot : List Int) (w : World) (hm : MapR w vr m) (hw : Ints w vw way) (hp : Ints w vp pot) :
    Calls Try.prog 7 #[.agg #[.int .i64 m.n, vr], vw, vp] w fun e w' => e = .returned (.bool true) ∧ Ext w w' := by
  obtain ⟨ao, cap, rfl⟩ := hm.shape
  have HM := hid hm
  have HWI := hid hw
  have HPI := hid hp
  obtain ⟨-, aw, cw, rfl, -⟩ := hw
  obtain ⟨-, ap, cp, rfl, -⟩ := hp
  have X0 := Box2.alloc w 24 (.int .i64 m.n) (.slice ao m.roads.length cap)
  clear hm
  by_cases hb : mapOk m = true
  · obtain ⟨n, rs⟩ := m
    have hok2 := hb
    unfold mapOk at hok2
    rw [Bool.and_eq_true, decide_eq_true_iff, List.all_eq_true] at hok2
    obtain ⟨⟨h1, h8, h16⟩, hall⟩ := hok2
    dsimp only at h1 h8 h16 hall
    obtain ⟨N, rfl⟩ := Int.eq_ofNat_of_zero_le (show 0 ≤ n by omega)
    have hN1 : 1 ≤ N := by omega
    have hN8 : N ≤ 8 := by omega
    have HB := hid hb
    have HAll := hid hall
    have HTK : Hid (rs.take 18 = rs) := congrArg MapD.roads (cutM_id hb)
    dsimp only at X0 HM
    clear hb hall
    go_enter Try.func7, Try.ntmps7
    go_wp2_with (fail)
    refine (Of_any _ ⟨N, rs⟩ _ (MapR.ext HM.out (Ext.ofAlloc w _))).mono ?_
    rintro e w1 ⟨uU, rfl, hu, he1⟩
    dsimp only at hu
    rw [HTK.out] at hu
    have X1 := hid (X0.ext he1)
    have E1 := hid ((Ext.ofAlloc w _).trans he1)
    clear he1
    obtain ⟨c0, c1⟩ := X1.out.cells
    have U_1 := hid (hu.roads (by omega))
    clear hu
    go_wp2_with (fail)
    refine (list_any _ way _ (HWI.out.ext E1.out)).mono ?_
    rintro e w2 ⟨u1, rfl, hi1, he2⟩
    obtain ⟨-, a1, c1x, rfl, -⟩ := id hi1
    generalize (way.take 18).length = n1 at hi1 ⊢
    clear c0 c1
    have X2 := hid (X1.out.ext he2)
    have U_2 := hid (U_1.out.ext he2)
    have E2 := hid (E1.out.trans he2)
    clear he2
    obtain ⟨c0, c1⟩ := X2.out.cells
    have W1_2 := hid (hi1)
    clear hi1
    go_wp2_with (fail)
    refine (list_any _ pot _ (HPI.out.ext E2.out)).mono ?_
    rintro e w3 ⟨u2, rfl, hi2, he3⟩
    obtain ⟨-, a2, c2x, rfl, -⟩ := id hi2
    generalize (pot.take 18).length = n2 at hi2 ⊢
    clear c0 c1
    have X3 := hid (X2.out.ext he3)
    have U_3 := hid (U_2.out.ext he3)
    have W1_3 := hid (W1_2.out.ext he3)
    have E3 := hid (E2.out.trans he3)
    clear he3
    obtain ⟨c0, c1⟩ := X3.out.cells
    have P1_3 := hid (hi2)
    clear hi2
    go_wp2_with (fail)
    refine (CheckWay_ok _ _ _ N rs _ _ _ U_3.out W1_3.out P1_3.out HB.out (by rw [List.length_take]; omega)).mono ?_
    rw [shown_cut hN8]
    rintro e w4 ⟨rfl, he4⟩
    obtain ⟨bv, hbv⟩ : ∃ bv, bv = shownB rs N way pot := ⟨_, rfl⟩
    rw [← hbv]
    have HBV := hid hbv
    clear hbv
    clear c0 c1
    have X4 := hid (X3.out.ext he4)
    have U_4 := hid (U_3.out.ext he4)
    have W1_4 := hid (W1_3.out.ext he4)
    have P1_4 := hid (P1_3.out.ext he4)
    have E4 := hid (E3.out.trans he4)
    clear he4
    obtain ⟨c0, c1⟩ := X4.out.cells
    go_wp2_with (fail)
    refine (RValid_any _ ⟨N, rs⟩ _ (MapR.ext HM.out E4.out)).mono ?_
    rw [HB.out]
    rintro e w5 ⟨rfl, he5⟩
    clear c0 c1
    have X5 := hid (X4.out.ext he5)
    have E5 := hid (E4.out.trans he5)
    clear he5
    obtain ⟨c0, c1⟩ := X5.out.cells
    go_wp2_with (fail)
    refine (Shown_any _ _ _ N rs way pot _ (MapR.ext HM.out E5.out) (HWI.out.ext E5.out) (HPI.out.ext E5.out) HB.out).mono ?_
    rw [← HBV.out]
    rintro e w6 ⟨rfl, he6⟩
    clear c0 c1
    have X6 := hid (X5.out.ext he6)
    have E6 := hid (E5.out.trans he6)
    clear he6
    obtain ⟨c0, c1⟩ := X6.out.cells
    go_wp2_with (fail)
    refine (awake_any _).mono ?_
    rintro e w7 ⟨rfl, he7⟩
    clear c0 c1
    have E7 := hid (E6.out.trans he7)
    clear he7
    go_wp2
    go_ret
    exact ⟨rfl, E7.out⟩
  · have hbf : mapOk m = false := by rw [Bool.eq_false_iff]; exact hb
    have HVal := hid hbf
    have HBC : Hid (mapOk (cutM m) = false) := by show _ = _; rw [mapOk_cut, hbf]
    clear hb hbf
    go_enter Try.func7, Try.ntmps7
    go_wp2_with (fail)
    refine (Of_any _ m _ (MapR.ext HM.out (Ext.ofAlloc w _))).mono ?_
    rintro e w1 ⟨uU, rfl, hu, he1⟩
    have X1 := hid (X0.ext he1)
    have E1 := hid ((Ext.ofAlloc w _).trans he1)
    clear he1
    obtain ⟨c0, c1⟩ := X1.out.cells
    have U_1 := hid (hu.roads (by rw [List.length_take]; omega))
    clear hu
    go_wp2_with (fail)
    refine (list_any _ way _ (HWI.out.ext E1.out)).mono ?_
    rintro e w2 ⟨u1, rfl, hi1, he2⟩
    obtain ⟨-, a1, c1x, rfl, -⟩ := id hi1
    generalize (way.take 18).length = n1 at hi1 ⊢
    clear c0 c1
    have X2 := hid (X1.out.ext he2)
    have U_2 := hid (U_1.out.ext he2)
    have E2 := hid (E1.out.trans he2)
    clear he2
    obtain ⟨c0, c1⟩ := X2.out.cells
    have W1_2 := hid (hi1)
    clear hi1
    go_wp2_with (fail)
    refine (list_any _ pot _ (HPI.out.ext E2.out)).mono ?_
    rintro e w3 ⟨u2, rfl, hi2, he3⟩
    obtain ⟨-, a2, c2x, rfl, -⟩ := id hi2
    generalize (pot.take 18).length = n2 at hi2 ⊢
    clear c0 c1
    have X3 := hid (X2.out.ext he3)
    have U_3 := hid (U_2.out.ext he3)
    have W1_3 := hid (W1_2.out.ext he3)
    have E3 := hid (E2.out.trans he3)
    clear he3
    obtain ⟨c0, c1⟩ := X3.out.cells
    have P1_3 := hid (hi2)
    clear hi2
    go_wp2_with (fail)
    refine (CheckWay_bad _ _ _ (cutM m) _ _ _ U_3.out W1_3.out P1_3.out HBC.out).mono ?_
    rintro e w4 ⟨rfl, he4⟩
    clear c0 c1
    have X4 := hid (X3.out.ext he4)
    have U_4 := hid (U_3.out.ext he4)
    have W1_4 := hid (W1_3.out.ext he4)
    have P1_4 := hid (P1_3.out.ext he4)
    have E4 := hid (E3.out.trans he4)
    clear he4
    obtain ⟨c0, c1⟩ := X4.out.cells
    go_wp2_with (fail)
    refine (RValid_any _ m _ (MapR.ext HM.out E4.out)).mono ?_
    rw [HVal.out]
    rintro e w5 ⟨rfl, he5⟩
    clear c0 c1
    have X5 := hid (X4.out.ext he5)
    have E5 := hid (E4.out.trans he5)
    clear he5
    obtain ⟨c0, c1⟩ := X5.out.cells
    go_wp2_with (fail)
    refine (awake_any _).mono ?_
    rintro e w6 ⟨rfl, he6⟩
    clear c0 c1
    have E6 := hid (E5.out.trans he6)
    clear he6
    go_wp2
    go_ret
    exact ⟨rfl, E6.out⟩

end Go.Proofs.Ytkbkgkmogbkabaa
