/-
  The statement RouteTreeChecks: its walk.
-/
import Derived.Test.YtkbkgkmogbkabaaDoorTrCheck
import Derived.Test.YtkbkgkmogbkabaaDoorTrRTree
import Derived.Test.YtkbkgkmogbkabaaDoorRtList
import Derived.Test.YtkbkgkmogbkabaaDoorRtAwake
namespace Go.Proofs.YtkbkgkmogbkabaaDoor
open Go.RowKit

set_option maxRecDepth 20000 in
set_option maxHeartbeats 8000000 in
theorem RouteTreeChecks_any (vr v : Value) (m : MapD) (st : Int) (l : List Int) (w : World) (hm : MapR w vr m) (hl : Ints w v l) (hTZ : TZ w) :
    Calls Tryd.prog 3 #[.agg #[.int .i64 m.n, vr], .int .i64 st, v] w fun e w' => e = .returned (.bool true) ∧ Ext w w' := by
  obtain ⟨ao, cap, rfl⟩ := hm.shape
  have HM := hid hm
  have HL := hid hl
  have HTZ := hid hTZ
  obtain ⟨-, am, cm, rfl, -⟩ := hl
  have X0 := Box2.alloc w 24 (.int .i64 m.n) (.slice ao m.roads.length cap)
  clear hm hTZ
  by_cases hb : mapOk m = true
  · obtain ⟨n, rs⟩ := m
    have hok2 := hb
    unfold mapOk at hok2
    rw [Bool.and_eq_true, decide_eq_true_iff, List.all_eq_true] at hok2
    obtain ⟨⟨h1, h8, h16⟩, hall⟩ := hok2
    dsimp only at h1 h8 h16 hall
    obtain ⟨N, rfl⟩ := Int.eq_ofNat_of_zero_le (show 0 ≤ n by omega)
    have hN1 : 1 ≤ N := by omega
    have hN8 : N ≤ 8 := by omega
    have HB := hid hb
    have HAll := hid hall
    have HTK : Hid (rs.take 18 = rs) := congrArg MapD.roads (cutM_id hb)
    dsimp only at X0 HM
    clear hb hall
    by_cases hst : stopsB N st = true
    · have hst2 := hst
      unfold stopsB at hst2
      rw [decide_eq_true_iff, Int.toNat_natCast] at hst2
      obtain ⟨s, rfl⟩ := Int.eq_ofNat_of_zero_le (show 0 ≤ st by omega)
      have hs0 : 0 < s := by omega
      have HsN : Hid (s < 2 ^ N) := by show _ < _; exact_mod_cast hst2.2
      have HST := hid hst
      obtain ⟨c, b, hcb⟩ := TreeVal.ex rs s l
      have HCB := hid hcb
      have HCV := hid (treeP_cut (by omega) hcb)
      clear hst hst2 hcb
      go_enter Tryd.func3, Tryd.ntmps3
      go_wp2_with (fail)
      refine (Of_any _ ⟨N, rs⟩ _ (MapR.ext HM.out (Ext.ofAlloc w _))).mono ?_
      rintro e w1 ⟨uU, rfl, hu, he1⟩
      dsimp only at hu
      rw [HTK.out] at hu
      have X1 := hid (X0.ext he1)
      have E1 := hid ((Ext.ofAlloc w _).trans he1)
      clear he1
      obtain ⟨c0, c1⟩ := X1.out.cells
      have U_1 := hid (hu.roads (by omega))
      clear hu
      go_wp2_with (fail)
      refine (list_any _ l _ (HL.out.ext E1.out)).mono ?_
      rintro e w2 ⟨um, rfl, hmm, he2⟩
      have HLT := hid hmm
      obtain ⟨-, a1, c1x, rfl, -⟩ := hmm
      generalize hn1 : (l.take 18).length = n1 at HLT
      clear hn1
      clear c0 c1
      have X2 := hid (X1.out.ext he2)
      have U_2 := hid (U_1.out.ext he2)
      have E2 := hid (E1.out.trans he2)
      clear he2
      obtain ⟨c0, c1⟩ := X2.out.cells
      have O_2 := hid (HLT.out)
      clear HLT
      go_wp2_with (fail)
      refine (CheckTree_ok _ _ N rs s _ _ U_2.out O_2.out HB.out HST.out (HTZ.out.ext E2.out) HCV.out).mono ?_
      rintro e w3 ⟨rfl, he3⟩
      clear c0 c1
      have X3 := hid (X2.out.ext he3)
      have U_3 := hid (U_2.out.ext he3)
      have O_3 := hid (O_2.out.ext he3)
      have E3 := hid (E2.out.trans he3)
      clear he3
      obtain ⟨c0, c1⟩ := X3.out.cells
      go_wp2_with (fail)
      refine (RValid_any _ ⟨N, rs⟩ _ (MapR.ext HM.out E3.out)).mono ?_
      rw [HB.out]
      rintro e w4 ⟨rfl, he4⟩
      clear c0 c1
      have X4 := hid (X3.out.ext he4)
      have E4 := hid (E3.out.trans he4)
      clear he4
      obtain ⟨c0, c1⟩ := X4.out.cells
      go_wp2_with (fail)
      refine (RStops_any _ ⟨N, rs⟩ s _ (MapR.ext HM.out E4.out) (by show (0 : Int) ≤ N; omega) (by show (N : Int) ≤ 8; omega)).mono ?_
      rw [HST.out]
      rintro e w5 ⟨rfl, he5⟩
      clear c0 c1
      have X5 := hid (X4.out.ext he5)
      have E5 := hid (E4.out.trans he5)
      clear he5
      obtain ⟨c0, c1⟩ := X5.out.cells
      go_wp2_with (fail)
      refine (RTree_any _ _ N rs l s _ (MapR.ext HM.out E5.out) (HL.out.ext E5.out) HAll.out hN8 (by omega) hs0 HsN.out).mono ?_
      rintro e w6 ⟨ha, he6⟩
      obtain rfl := HCB.out.ans ha
      clear ha
      clear c0 c1
      have X6 := hid (X5.out.ext he6)
      have E6 := hid (E5.out.trans he6)
      clear he6
      obtain ⟨c0, c1⟩ := X6.out.cells
      go_wp2_with (fail)
      refine (awake_any _).mono ?_
      rintro e w7 ⟨rfl, he7⟩
      clear c0 c1
      have E7 := hid (E6.out.trans he7)
      clear he7
      go_wp2
      go_ret
      exact ⟨rfl, E7.out⟩
    · have hsf : stopsB N st = false := by rw [Bool.eq_false_iff]; exact hst
      have HST := hid hsf
      clear hst hsf
      go_enter Tryd.func3, Tryd.ntmps3
      go_wp2_with (fail)
      refine (Of_any _ ⟨N, rs⟩ _ (MapR.ext HM.out (Ext.ofAlloc w _))).mono ?_
      rintro e w1 ⟨uU, rfl, hu, he1⟩
      dsimp only at hu
      rw [HTK.out] at hu
      have X1 := hid (X0.ext he1)
      have E1 := hid ((Ext.ofAlloc w _).trans he1)
      clear he1
      obtain ⟨c0, c1⟩ := X1.out.cells
      have U_1 := hid (hu.roads (by omega))
      clear hu
      go_wp2_with (fail)
      refine (list_any _ l _ (HL.out.ext E1.out)).mono ?_
      rintro e w2 ⟨um, rfl, hmm, he2⟩
      have HLT := hid hmm
      obtain ⟨-, a1, c1x, rfl, -⟩ := hmm
      generalize hn1 : (l.take 18).length = n1 at HLT
      clear hn1
      clear c0 c1
      have X2 := hid (X1.out.ext he2)
      have U_2 := hid (U_1.out.ext he2)
      have E2 := hid (E1.out.trans he2)
      clear he2
      obtain ⟨c0, c1⟩ := X2.out.cells
      have O_2 := hid (HLT.out)
      clear HLT
      go_wp2_with (fail)
      refine (CheckTree_bad _ _ ⟨N, rs⟩ st _ _ U_2.out O_2.out (.inr ⟨HB.out, HST.out⟩)).mono ?_
      rintro e w3 ⟨rfl, he3⟩
      clear c0 c1
      have X3 := hid (X2.out.ext he3)
      have U_3 := hid (U_2.out.ext he3)
      have O_3 := hid (O_2.out.ext he3)
      have E3 := hid (E2.out.trans he3)
      clear he3
      obtain ⟨c0, c1⟩ := X3.out.cells
      go_wp2_with (fail)
      refine (RValid_any _ ⟨N, rs⟩ _ (MapR.ext HM.out E3.out)).mono ?_
      rw [HB.out]
      rintro e w4 ⟨rfl, he4⟩
      clear c0 c1
      have X4 := hid (X3.out.ext he4)
      have E4 := hid (E3.out.trans he4)
      clear he4
      obtain ⟨c0, c1⟩ := X4.out.cells
      go_wp2_with (fail)
      refine (RStops_any _ ⟨N, rs⟩ st _ (MapR.ext HM.out E4.out) (by show (0 : Int) ≤ N; omega) (by show (N : Int) ≤ 8; omega)).mono ?_
      rw [HST.out]
      rintro e w5 ⟨rfl, he5⟩
      clear c0 c1
      have X5 := hid (X4.out.ext he5)
      have E5 := hid (E4.out.trans he5)
      clear he5
      obtain ⟨c0, c1⟩ := X5.out.cells
      go_wp2_with (fail)
      refine (awake_any _).mono ?_
      rintro e w6 ⟨rfl, he6⟩
      clear c0 c1
      have E6 := hid (E5.out.trans he6)
      clear he6
      go_wp2
      go_ret
      exact ⟨rfl, E6.out⟩
  · have hbf : mapOk m = false := by rw [Bool.eq_false_iff]; exact hb
    have HVal := hid hbf
    have HBC : Hid (mapOk (cutM m) = false) := by show _ = _; rw [mapOk_cut, hbf]
    clear hb hbf
    go_enter Tryd.func3, Tryd.ntmps3
    go_wp2_with (fail)
    refine (Of_any _ m _ (MapR.ext HM.out (Ext.ofAlloc w _))).mono ?_
    rintro e w1 ⟨uU, rfl, hu, he1⟩
    have X1 := hid (X0.ext he1)
    have E1 := hid ((Ext.ofAlloc w _).trans he1)
    clear he1
    obtain ⟨c0, c1⟩ := X1.out.cells
    have U_1 := hid (hu.roads (by rw [List.length_take]; omega))
    clear hu
    go_wp2_with (fail)
    refine (list_any _ l _ (HL.out.ext E1.out)).mono ?_
    rintro e w2 ⟨um, rfl, hmm, he2⟩
    have HLT := hid hmm
    obtain ⟨-, a1, c1x, rfl, -⟩ := hmm
    generalize hn1 : (l.take 18).length = n1 at HLT
    clear hn1
    clear c0 c1
    have X2 := hid (X1.out.ext he2)
    have U_2 := hid (U_1.out.ext he2)
    have E2 := hid (E1.out.trans he2)
    clear he2
    obtain ⟨c0, c1⟩ := X2.out.cells
    have O_2 := hid (HLT.out)
    clear HLT
    go_wp2_with (fail)
    refine (CheckTree_bad _ _ (cutM m) st _ _ U_2.out O_2.out (.inl HBC.out)).mono ?_
    rintro e w3 ⟨rfl, he3⟩
    clear c0 c1
    have X3 := hid (X2.out.ext he3)
    have U_3 := hid (U_2.out.ext he3)
    have O_3 := hid (O_2.out.ext he3)
    have E3 := hid (E2.out.trans he3)
    clear he3
    obtain ⟨c0, c1⟩ := X3.out.cells
    go_wp2_with (fail)
    refine (RValid_any _ m _ (MapR.ext HM.out E3.out)).mono ?_
    rw [HVal.out]
    rintro e w4 ⟨rfl, he4⟩
    clear c0 c1
    have X4 := hid (X3.out.ext he4)
    have E4 := hid (E3.out.trans he4)
    clear he4
    obtain ⟨c0, c1⟩ := X4.out.cells
    go_wp2_with (fail)
    refine (awake_any _).mono ?_
    rintro e w5 ⟨rfl, he5⟩
    clear c0 c1
    have E5 := hid (E4.out.trans he5)
    clear he5
    go_wp2
    go_ret
    exact ⟨rfl, E5.out⟩

end Go.Proofs.YtkbkgkmogbkabaaDoor
