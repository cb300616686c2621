/-
  The statement RouteMoatChecks: its walk.
-/
import Derived.Test.YtkbkgkmogbkabaaRtChkMoats
import Derived.Test.YtkbkgkmogbkabaaRtFit
import Derived.Test.YtkbkgkmogbkabaaRtAwake
namespace Go.Proofs.Ytkbkgkmogbkabaa
open Go.RowKit

set_option maxRecDepth 20000 in
set_option maxHeartbeats 8000000 in
theorem RouteMoatChecks_any (vr vm : Value) (m : MapD) (st : Int) (ms : List MoatD) (w : World) (hm : MapR w vr m) (hmo : Moats w vm ms) :
    Calls Try.prog 6 #[.agg #[.int .i64 m.n, vr], .int .i64 st, vm] w fun e w' => e = .returned (.bool true) ∧ Ext w w' := by
  obtain ⟨ao, cap, rfl⟩ := hm.shape
  have HM := hid hm
  have HMO := hid hmo
  obtain ⟨am, cm, rfl⟩ := hmo.shape
  have X0 := Box2.alloc w 24 (.int .i64 m.n) (.slice ao m.roads.length cap)
  clear hm hmo
  by_cases hb : mapOk m = true
  · obtain ⟨n, rs⟩ := m
    have hok2 := hb
    unfold mapOk at hok2
    rw [Bool.and_eq_true, decide_eq_true_iff, List.all_eq_true] at hok2
    obtain ⟨⟨h1, h8, h16⟩, hall⟩ := hok2
    dsimp only at h1 h8 h16 hall
    obtain ⟨N, rfl⟩ := Int.eq_ofNat_of_zero_le (show 0 ≤ n by omega)
    have hN1 : 1 ≤ N := by omega
    have hN8 : N ≤ 8 := by omega
    have HB := hid hb
    have HAll := hid hall
    have HTK : Hid (rs.take 18 = rs) := congrArg MapD.roads (cutM_id hb)
    dsimp only at X0 HM
    clear hb hall
    by_cases hst : stopsB N st = true
    · have HST := hid hst
      clear hst
      by_cases hl : ms.length ≤ 200 ∧ fitB N rs st ms = true
      · obtain ⟨fv, hfv⟩ : ∃ fv, fv = fitV N rs st ms := ⟨_, rfl⟩
        have HFV : Hid (fitV N rs st ms = fv) := hfv.symm
        have HFB : Hid ((fitB N rs st ms && decide (ms.length ≤ 200)) = true) := by show _ = _; rw [hl.2, decide_eq_true hl.1]; rfl
        have HCV : Hid (chkV N rs st (ms.take 202) = fv) := by show _ = _; rw [(chk_cut _ _ _ _).1, hfv]; unfold chkV; rw [if_pos hl.1]
        have HCB : Hid (chkB N rs st (ms.take 202) = true) := by show _ = _; rw [(chk_cut _ _ _ _).2]; unfold chkB; rw [if_pos hl.1]; exact hl.2
        clear hl hfv
        go_enter Try.func6, Try.ntmps6
        go_wp2_with (fail)
        refine (Of_any _ ⟨N, rs⟩ _ (MapR.ext HM.out (Ext.ofAlloc w _))).mono ?_
        rintro e w1 ⟨uU, rfl, hu, he1⟩
        dsimp only at hu
        rw [HTK.out] at hu
        have X1 := hid (X0.ext he1)
        have E1 := hid ((Ext.ofAlloc w _).trans he1)
        clear he1
        obtain ⟨c0, c1⟩ := X1.out.cells
        have U_1 := hid (hu.roads (by omega))
        clear hu
        go_wp2_with (fail)
        refine (moats_any _ ms _ (HMO.out.ext E1.out)).mono ?_
        rintro e w2 ⟨um, rfl, hmm, he2⟩
        have hmr := hmm.moats (by rw [List.length_take]; omega)
        obtain ⟨a1, c1x, rfl⟩ := hmr.shape
        generalize (ms.take 202).length = n1 at hmr ⊢
        clear hmm
        clear c0 c1
        have X2 := hid (X1.out.ext he2)
        have U_2 := hid (U_1.out.ext he2)
        have E2 := hid (E1.out.trans he2)
        clear he2
        obtain ⟨c0, c1⟩ := X2.out.cells
        have O_2 := hid (hmr)
        clear hmr
        go_wp2_with (fail)
        refine (CheckMoats_ok _ _ N rs st _ _ U_2.out O_2.out HB.out HST.out).mono ?_
        rw [HCV.out, HCB.out]
        rintro e w3 ⟨rfl, he3⟩
        clear c0 c1
        have X3 := hid (X2.out.ext he3)
        have U_3 := hid (U_2.out.ext he3)
        have O_3 := hid (O_2.out.ext he3)
        have E3 := hid (E2.out.trans he3)
        clear he3
        obtain ⟨c0, c1⟩ := X3.out.cells
        go_wp2_with (fail)
        refine (RValid_any _ ⟨N, rs⟩ _ (MapR.ext HM.out E3.out)).mono ?_
        rw [HB.out]
        rintro e w4 ⟨rfl, he4⟩
        clear c0 c1
        have X4 := hid (X3.out.ext he4)
        have E4 := hid (E3.out.trans he4)
        clear he4
        obtain ⟨c0, c1⟩ := X4.out.cells
        go_wp2_with (fail)
        refine (RStops_any _ ⟨N, rs⟩ st _ (MapR.ext HM.out E4.out) (by show (0 : Int) ≤ N; omega) (by show (N : Int) ≤ 8; omega)).mono ?_
        rw [HST.out]
        rintro e w5 ⟨rfl, he5⟩
        clear c0 c1
        have X5 := hid (X4.out.ext he5)
        have E5 := hid (E4.out.trans he5)
        clear he5
        obtain ⟨c0, c1⟩ := X5.out.cells
        go_wp2_with (fail)
        refine (Fit_any _ _ N rs st ms _ (MapR.ext HM.out E5.out) (HMO.out.ext E5.out) HAll.out hN8).mono ?_
        rw [HFV.out, HFB.out]
        rintro e w6 ⟨rfl, he6⟩
        clear c0 c1
        have X6 := hid (X5.out.ext he6)
        have E6 := hid (E5.out.trans he6)
        clear he6
        obtain ⟨c0, c1⟩ := X6.out.cells
        go_wp2_with (fail)
        refine (awake_any _).mono ?_
        rintro e w7 ⟨rfl, he7⟩
        clear c0 c1
        have E7 := hid (E6.out.trans he7)
        clear he7
        go_wp2
        go_ret
        exact ⟨rfl, E7.out⟩
      · obtain ⟨fv, hfv⟩ : ∃ fv, fv = fitV N rs st ms := ⟨_, rfl⟩
        have HFV : Hid (fitV N rs st ms = fv) := hfv.symm
        have HFB : Hid ((fitB N rs st ms && decide (ms.length ≤ 200)) = false) := by
          show _ = _
          rw [Bool.eq_false_iff]
          intro h
          rw [Bool.and_eq_true, decide_eq_true_iff] at h
          exact hl ⟨h.2, h.1⟩
        have HCB : Hid (chkB N rs st (ms.take 202) = false) := by
          show _ = _
          rw [(chk_cut _ _ _ _).2]
          unfold chkB
          by_cases h : ms.length ≤ 200
          · rw [if_pos h, Bool.eq_false_iff]; exact fun h2 => hl ⟨h, h2⟩
          · rw [if_neg h]
        have HCV : Hid (chkV N rs st (ms.take 202) = 0) := by
          show _ = _
          rw [(chk_cut _ _ _ _).1]
          unfold chkV
          by_cases h : ms.length ≤ 200
          · rw [if_pos h]
            unfold fitV
            rw [if_neg]
            intro h2
            exact hl ⟨h, decide_eq_true h2⟩
          · rw [if_neg h]
        clear hl hfv
        go_enter Try.func6, Try.ntmps6
        go_wp2_with (fail)
        refine (Of_any _ ⟨N, rs⟩ _ (MapR.ext HM.out (Ext.ofAlloc w _))).mono ?_
        rintro e w1 ⟨uU, rfl, hu, he1⟩
        dsimp only at hu
        rw [HTK.out] at hu
        have X1 := hid (X0.ext he1)
        have E1 := hid ((Ext.ofAlloc w _).trans he1)
        clear he1
        obtain ⟨c0, c1⟩ := X1.out.cells
        have U_1 := hid (hu.roads (by omega))
        clear hu
        go_wp2_with (fail)
        refine (moats_any _ ms _ (HMO.out.ext E1.out)).mono ?_
        rintro e w2 ⟨um, rfl, hmm, he2⟩
        have hmr := hmm.moats (by rw [List.length_take]; omega)
        obtain ⟨a1, c1x, rfl⟩ := hmr.shape
        generalize (ms.take 202).length = n1 at hmr ⊢
        clear hmm
        clear c0 c1
        have X2 := hid (X1.out.ext he2)
        have U_2 := hid (U_1.out.ext he2)
        have E2 := hid (E1.out.trans he2)
        clear he2
        obtain ⟨c0, c1⟩ := X2.out.cells
        have O_2 := hid (hmr)
        clear hmr
        go_wp2_with (fail)
        refine (CheckMoats_ok _ _ N rs st _ _ U_2.out O_2.out HB.out HST.out).mono ?_
        rw [HCV.out, HCB.out]
        rintro e w3 ⟨rfl, he3⟩
        clear c0 c1
        have X3 := hid (X2.out.ext he3)
        have U_3 := hid (U_2.out.ext he3)
        have O_3 := hid (O_2.out.ext he3)
        have E3 := hid (E2.out.trans he3)
        clear he3
        obtain ⟨c0, c1⟩ := X3.out.cells
        go_wp2_with (fail)
        refine (RValid_any _ ⟨N, rs⟩ _ (MapR.ext HM.out E3.out)).mono ?_
        rw [HB.out]
        rintro e w4 ⟨rfl, he4⟩
        clear c0 c1
        have X4 := hid (X3.out.ext he4)
        have E4 := hid (E3.out.trans he4)
        clear he4
        obtain ⟨c0, c1⟩ := X4.out.cells
        go_wp2_with (fail)
        refine (RStops_any _ ⟨N, rs⟩ st _ (MapR.ext HM.out E4.out) (by show (0 : Int) ≤ N; omega) (by show (N : Int) ≤ 8; omega)).mono ?_
        rw [HST.out]
        rintro e w5 ⟨rfl, he5⟩
        clear c0 c1
        have X5 := hid (X4.out.ext he5)
        have E5 := hid (E4.out.trans he5)
        clear he5
        obtain ⟨c0, c1⟩ := X5.out.cells
        go_wp2_with (fail)
        refine (Fit_any _ _ N rs st ms _ (MapR.ext HM.out E5.out) (HMO.out.ext E5.out) HAll.out hN8).mono ?_
        rw [HFV.out, HFB.out]
        rintro e w6 ⟨rfl, he6⟩
        clear c0 c1
        have X6 := hid (X5.out.ext he6)
        have E6 := hid (E5.out.trans he6)
        clear he6
        obtain ⟨c0, c1⟩ := X6.out.cells
        go_wp2_with (fail)
        refine (awake_any _).mono ?_
        rintro e w7 ⟨rfl, he7⟩
        clear c0 c1
        have E7 := hid (E6.out.trans he7)
        clear he7
        go_wp2
        go_ret
        exact ⟨rfl, E7.out⟩
    · have hsf : stopsB N st = false := by rw [Bool.eq_false_iff]; exact hst
      have HST := hid hsf
      clear hst hsf
      go_enter Try.func6, Try.ntmps6
      go_wp2_with (fail)
      refine (Of_any _ ⟨N, rs⟩ _ (MapR.ext HM.out (Ext.ofAlloc w _))).mono ?_
      rintro e w1 ⟨uU, rfl, hu, he1⟩
      dsimp only at hu
      rw [HTK.out] at hu
      have X1 := hid (X0.ext he1)
      have E1 := hid ((Ext.ofAlloc w _).trans he1)
      clear he1
      obtain ⟨c0, c1⟩ := X1.out.cells
      have U_1 := hid (hu.roads (by omega))
      clear hu
      go_wp2_with (fail)
      refine (moats_any _ ms _ (HMO.out.ext E1.out)).mono ?_
      rintro e w2 ⟨um, rfl, hmm, he2⟩
      have hmr := hmm.moats (by rw [List.length_take]; omega)
      obtain ⟨a1, c1x, rfl⟩ := hmr.shape
      generalize (ms.take 202).length = n1 at hmr ⊢
      clear hmm
      clear c0 c1
      have X2 := hid (X1.out.ext he2)
      have U_2 := hid (U_1.out.ext he2)
      have E2 := hid (E1.out.trans he2)
      clear he2
      obtain ⟨c0, c1⟩ := X2.out.cells
      have O_2 := hid (hmr)
      clear hmr
      go_wp2_with (fail)
      refine (CheckMoats_bad _ _ ⟨N, rs⟩ st _ _ U_2.out O_2.out (.inr ⟨HB.out, HST.out⟩)).mono ?_
      rintro e w3 ⟨rfl, he3⟩
      clear c0 c1
      have X3 := hid (X2.out.ext he3)
      have U_3 := hid (U_2.out.ext he3)
      have O_3 := hid (O_2.out.ext he3)
      have E3 := hid (E2.out.trans he3)
      clear he3
      obtain ⟨c0, c1⟩ := X3.out.cells
      go_wp2_with (fail)
      refine (RValid_any _ ⟨N, rs⟩ _ (MapR.ext HM.out E3.out)).mono ?_
      rw [HB.out]
      rintro e w4 ⟨rfl, he4⟩
      clear c0 c1
      have X4 := hid (X3.out.ext he4)
      have E4 := hid (E3.out.trans he4)
      clear he4
      obtain ⟨c0, c1⟩ := X4.out.cells
      go_wp2_with (fail)
      refine (RStops_any _ ⟨N, rs⟩ st _ (MapR.ext HM.out E4.out) (by show (0 : Int) ≤ N; omega) (by show (N : Int) ≤ 8; omega)).mono ?_
      rw [HST.out]
      rintro e w5 ⟨rfl, he5⟩
      clear c0 c1
      have X5 := hid (X4.out.ext he5)
      have E5 := hid (E4.out.trans he5)
      clear he5
      obtain ⟨c0, c1⟩ := X5.out.cells
      go_wp2_with (fail)
      refine (awake_any _).mono ?_
      rintro e w6 ⟨rfl, he6⟩
      clear c0 c1
      have E6 := hid (E5.out.trans he6)
      clear he6
      go_wp2
      go_ret
      exact ⟨rfl, E6.out⟩
  · have hbf : mapOk m = false := by rw [Bool.eq_false_iff]; exact hb
    have HVal := hid hbf
    have HBC : Hid (mapOk (cutM m) = false) := by show _ = _; rw [mapOk_cut, hbf]
    clear hb hbf
    go_enter Try.func6, Try.ntmps6
    go_wp2_with (fail)
    refine (Of_any _ m _ (MapR.ext HM.out (Ext.ofAlloc w _))).mono ?_
    rintro e w1 ⟨uU, rfl, hu, he1⟩
    have X1 := hid (X0.ext he1)
    have E1 := hid ((Ext.ofAlloc w _).trans he1)
    clear he1
    obtain ⟨c0, c1⟩ := X1.out.cells
    have U_1 := hid (hu.roads (by rw [List.length_take]; omega))
    clear hu
    go_wp2_with (fail)
    refine (moats_any _ ms _ (HMO.out.ext E1.out)).mono ?_
    rintro e w2 ⟨um, rfl, hmm, he2⟩
    have hmr := hmm.moats (by rw [List.length_take]; omega)
    obtain ⟨a1, c1x, rfl⟩ := hmr.shape
    generalize (ms.take 202).length = n1 at hmr ⊢
    clear hmm
    clear c0 c1
    have X2 := hid (X1.out.ext he2)
    have U_2 := hid (U_1.out.ext he2)
    have E2 := hid (E1.out.trans he2)
    clear he2
    obtain ⟨c0, c1⟩ := X2.out.cells
    have O_2 := hid (hmr)
    clear hmr
    go_wp2_with (fail)
    refine (CheckMoats_bad _ _ (cutM m) st _ _ U_2.out O_2.out (.inl HBC.out)).mono ?_
    rintro e w3 ⟨rfl, he3⟩
    clear c0 c1
    have X3 := hid (X2.out.ext he3)
    have U_3 := hid (U_2.out.ext he3)
    have O_3 := hid (O_2.out.ext he3)
    have E3 := hid (E2.out.trans he3)
    clear he3
    obtain ⟨c0, c1⟩ := X3.out.cells
    go_wp2_with (fail)
    refine (RValid_any _ m _ (MapR.ext HM.out E3.out)).mono ?_
    rw [HVal.out]
    rintro e w4 ⟨rfl, he4⟩
    clear c0 c1
    have X4 := hid (X3.out.ext he4)
    have E4 := hid (E3.out.trans he4)
    clear he4
    obtain ⟨c0, c1⟩ := X4.out.cells
    go_wp2_with (fail)
    refine (awake_any _).mono ?_
    rintro e w5 ⟨rfl, he5⟩
    clear c0 c1
    have E5 := hid (E4.out.trans he5)
    clear he5
    go_wp2
    go_ret
    exact ⟨rfl, E5.out⟩

end Go.Proofs.Ytkbkgkmogbkabaa
