/-
  The statement RoutePotentials: its walk.
-/
import Derived.Test.YtkbkgkmogbkabaaRtPot
import Derived.Test.YtkbkgkmogbkabaaRtRDist
namespace Go.Proofs.Ytkbkgkmogbkabaa
open Go.RowKit

theorem hasI_lone {F : Nat → Nat → Int} {N a : Nat} (hlo : ∀ j, j < N → 0 ≤ F a j) : hasI (rowL N (fun j => nn (F a j))) (-1) = true ↔ lone F N a := by
  unfold hasI
  rw [List.contains_iff_mem, mem_rowL]
  constructor
  · rintro ⟨j, hj, h⟩
    refine ⟨j, hj, ?_⟩
    have := hlo j hj
    unfold nn at h
    split at h
    · assumption
    · omega
  · rintro ⟨j, hj, h⟩
    exact ⟨j, hj, by unfold nn; rw [if_pos h]⟩
theorem rowL_nn {F : Nat → Nat → Int} {N a : Nat} (h : ¬ lone F N a) : rowL N (fun j => nn (F a j)) = rowL N (F a) := by
  unfold rowL
  refine List.map_congr_left fun j hj => ?_
  unfold nn
  rw [if_neg]
  intro hf
  exact h ⟨j, List.mem_range.1 hj, hf⟩
theorem eqI_self2 (l : List Int) : eqI l l = true := by unfold eqI; exact decide_eq_true rfl

set_option maxRecDepth 20000 in
set_option maxHeartbeats 8000000 in
theorem RoutePotentials_any (vr : Value) (m : MapD) (a : Int) (w : World) (hm : MapR w vr m) :
    Calls Try.prog 4 #[.agg #[.int .i64 m.n, vr], .int .i64 a] w fun e w' => e = .returned (.bool true) ∧ Ext w w' := by
  obtain ⟨ao, cap, rfl⟩ := hm.shape
  have HM := hid hm
  have X0 := Box2.alloc w 24 (.int .i64 m.n) (.slice ao m.roads.length cap)
  clear hm
  by_cases hb : mapOk m = true
  · by_cases hsa : stopB m.n a = true
    · obtain ⟨n, rs⟩ := m
      have hok2 := hb
      unfold mapOk at hok2
      rw [Bool.and_eq_true, decide_eq_true_iff, List.all_eq_true] at hok2
      obtain ⟨⟨h1, h8, h16⟩, hall⟩ := hok2
      dsimp only at h1 h8 h16 hall
      obtain ⟨N, rfl⟩ := Int.eq_ofNat_of_zero_le (show 0 ≤ n by omega)
      have hN1 : 1 ≤ N := by omega
      have hN8 : N ≤ 8 := by omega
      have HB := hid hb
      have HAll := hid hall
      have HTK : Hid (rs.take 18 = rs) := congrArg MapD.roads (cutM_id hb)
      dsimp only at X0 HM
      clear hb hall
      have hsa2 := hsa
      unfold stopB at hsa2
      rw [decide_eq_true_iff] at hsa2
      dsimp only at hsa2
      obtain ⟨A, rfl⟩ := Int.eq_ofNat_of_zero_le hsa2.1
      have hA : A < N := by omega
      have HSA := hid hsa
      dsimp only at HSA
      have HLO : Hid (∀ j, j < N → 0 ≤ fw (costTo rs) N A j) := fun j hj => ((costs_tab HAll.out).fw N (Nat.le_refl _)).lo hA hj
      clear hsa hsa2
      by_cases hl : lone (fw (costTo rs) N) N A
      · have HHas : Hid (hasI (rowL N (fun j => nn (fw (costTo rs) N A j))) (-1) = true) := (hasI_lone HLO.out).2 hl
        have HLn := hid hl
        clear hl
        go_enter Try.func4, Try.ntmps4
        go_wp2_with (fail)
        refine (Of_any _ ⟨N, rs⟩ _ (MapR.ext HM.out (Ext.ofAlloc w _))).mono ?_
        rintro e w1 ⟨uU, rfl, hu, he1⟩
        dsimp only at hu
        rw [HTK.out] at hu
        have X1 := hid (X0.ext he1)
        have E1 := hid ((Ext.ofAlloc w _).trans he1)
        clear he1
        obtain ⟨c0, c1⟩ := X1.out.cells
        have U_1 := hid (hu.roads (by omega))
        clear hu
        go_wp2_with (fail)
        refine (Potentials_ok _ N rs A _ U_1.out HB.out hA).mono ?_
        rintro e w2 ⟨v, x, rfl, he2, hpost⟩
        obtain ⟨rfl, rfl⟩ : v = .slice none 0 0 ∧ x = 4 := by
          rcases hpost with ⟨-, h⟩ | ⟨h, -⟩
          · exact h
          · exact absurd HLn.out h
        clear hpost
        clear c0 c1
        have X2 := hid (X1.out.ext he2)
        have U_2 := hid (U_1.out.ext he2)
        have E2 := hid (E1.out.trans he2)
        clear he2
        obtain ⟨c0, c1⟩ := X2.out.cells
        go_wp2_with (fail)
        refine (RValid_any _ ⟨N, rs⟩ _ (MapR.ext HM.out E2.out)).mono ?_
        rw [HB.out]
        rintro e w3 ⟨rfl, he3⟩
        clear c0 c1
        have X3 := hid (X2.out.ext he3)
        have E3 := hid (E2.out.trans he3)
        clear he3
        obtain ⟨c0, c1⟩ := X3.out.cells
        go_wp2_with (fail)
        refine (lawstop_any _ ⟨N, rs⟩ A _ (MapR.ext HM.out E3.out)).mono ?_
        rw [HSA.out]
        rintro e w4 ⟨rfl, he4⟩
        clear c0 c1
        have X4 := hid (X3.out.ext he4)
        have E4 := hid (E3.out.trans he4)
        clear he4
        obtain ⟨c0, c1⟩ := X4.out.cells
        go_wp2_with (fail)
        refine (RDistances_any _ N rs _ (MapR.ext HM.out E4.out) HB.out).mono ?_
        rintro e w5 ⟨v2, rfl, hmat, he5⟩
        obtain ⟨gb, kb, rfl, -⟩ := hmat.head (by omega)
        obtain ⟨ga, ca, ia, -⟩ := hmat.row hA
        have ca' : w5.cell? ⟨gb, A, none⟩ = some (.slice (some ⟨ga, 0, none⟩) N N) := ca
        have hi : Ints w5 (.slice (some ⟨ga, 0, none⟩) N N) (rowL N (fun j => nn (fw (costTo rs) N A j))) := ia.ints (by rw [rowL_len]) (by rw [rowL_len]; omega)
        have HI := hid hi
        clear hmat ca ia hi
        clear c0 c1
        have X5 := hid (X4.out.ext he5)
        have E5 := hid (E4.out.trans he5)
        clear he5
        obtain ⟨c0, c1⟩ := X5.out.cells
        go_wp2_with (fail)
        refine (Contains_any _ _ (-1) _ HI.out).mono ?_
        rw [HHas.out]
        rintro e w6 ⟨rfl, rfl⟩
        clear ca'
        go_wp2_with (fail)
        refine (awake_any _).mono ?_
        rintro e w6 ⟨rfl, he6⟩
        clear c0 c1
        have E6 := hid (E5.out.trans he6)
        clear he6
        go_wp2
        go_ret
        exact ⟨rfl, E6.out⟩
      · have HHas : Hid (hasI (rowL N (fun j => nn (fw (costTo rs) N A j))) (-1) = false) := by
          show _ = _
          rw [Bool.eq_false_iff, ne_eq, hasI_lone HLO.out]; exact hl
        have HNn := hid (rowL_nn hl)
        have HLn := hid hl
        clear hl
        go_enter Try.func4, Try.ntmps4
        go_wp2_with (fail)
        refine (Of_any _ ⟨N, rs⟩ _ (MapR.ext HM.out (Ext.ofAlloc w _))).mono ?_
        rintro e w1 ⟨uU, rfl, hu, he1⟩
        dsimp only at hu
        rw [HTK.out] at hu
        have X1 := hid (X0.ext he1)
        have E1 := hid ((Ext.ofAlloc w _).trans he1)
        clear he1
        obtain ⟨c0, c1⟩ := X1.out.cells
        have U_1 := hid (hu.roads (by omega))
        clear hu
        go_wp2_with (fail)
        refine (Potentials_ok _ N rs A _ U_1.out HB.out hA).mono ?_
        rintro e w2 ⟨v, x, rfl, he2, hpost⟩
        obtain ⟨hiv, rfl⟩ : Ints w2 v (rowL N (fw (costTo rs) N A)) ∧ x = 0 := by
          rcases hpost with ⟨h, -⟩ | ⟨-, h⟩
          · exact absurd h HLn.out
          · exact h
        obtain ⟨-, aov, cpv, rfl, -⟩ := id hiv
        clear hpost
        clear c0 c1
        have X2 := hid (X1.out.ext he2)
        have U_2 := hid (U_1.out.ext he2)
        have E2 := hid (E1.out.trans he2)
        clear he2
        obtain ⟨c0, c1⟩ := X2.out.cells
        have V_2 := hid (hiv)
        clear hiv
        go_wp2_with (fail)
        refine (RValid_any _ ⟨N, rs⟩ _ (MapR.ext HM.out E2.out)).mono ?_
        rw [HB.out]
        rintro e w3 ⟨rfl, he3⟩
        clear c0 c1
        have X3 := hid (X2.out.ext he3)
        have V_3 := hid (V_2.out.ext he3)
        have E3 := hid (E2.out.trans he3)
        clear he3
        obtain ⟨c0, c1⟩ := X3.out.cells
        go_wp2_with (fail)
        refine (lawstop_any _ ⟨N, rs⟩ A _ (MapR.ext HM.out E3.out)).mono ?_
        rw [HSA.out]
        rintro e w4 ⟨rfl, he4⟩
        clear c0 c1
        have X4 := hid (X3.out.ext he4)
        have V_4 := hid (V_3.out.ext he4)
        have E4 := hid (E3.out.trans he4)
        clear he4
        obtain ⟨c0, c1⟩ := X4.out.cells
        go_wp2_with (fail)
        refine (RDistances_any _ N rs _ (MapR.ext HM.out E4.out) HB.out).mono ?_
        rintro e w5 ⟨v2, rfl, hmat, he5⟩
        obtain ⟨gb, kb, rfl, -⟩ := hmat.head (by omega)
        obtain ⟨ga, ca, ia, -⟩ := hmat.row hA
        have ca' : w5.cell? ⟨gb, A, none⟩ = some (.slice (some ⟨ga, 0, none⟩) N N) := ca
        have hi : Ints w5 (.slice (some ⟨ga, 0, none⟩) N N) (rowL N (fun j => nn (fw (costTo rs) N A j))) := ia.ints (by rw [rowL_len]) (by rw [rowL_len]; omega)
        have HI := hid hi
        clear hmat ca ia hi
        clear c0 c1
        have X5 := hid (X4.out.ext he5)
        have V_5 := hid (V_4.out.ext he5)
        have E5 := hid (E4.out.trans he5)
        clear he5
        obtain ⟨c0, c1⟩ := X5.out.cells
        go_wp2_with (fail)
        refine (Contains_any _ _ (-1) _ HI.out).mono ?_
        rw [HHas.out]
        rintro e w6 ⟨rfl, rfl⟩
        clear ca'
        go_wp2_with (fail)
        refine (EqualE_any _ _ _ _ _ V_5.out HI.out).mono ?_
        rw [HNn.out, eqI_self2]
        rintro e w6 ⟨rfl, he6⟩
        clear c0 c1
        have X6 := hid (X5.out.ext he6)
        have V_6 := hid (V_5.out.ext he6)
        have E6 := hid (E5.out.trans he6)
        clear he6
        obtain ⟨c0, c1⟩ := X6.out.cells
        go_wp2_with (fail)
        refine (awake_any _).mono ?_
        rintro e w7 ⟨rfl, he7⟩
        clear c0 c1
        have E7 := hid (E6.out.trans he7)
        clear he7
        go_wp2
        go_ret
        exact ⟨rfl, E7.out⟩
    · have HVal := hid hb
      have hsf : stopB m.n a = false := by rw [Bool.eq_false_iff]; exact hsa
      have HSA := hid hsf
      have HBC : Hid ((mapOk (cutM m) && stopB (cutM m).n a) = false) := by
        show (mapOk (cutM m) && stopB m.n a) = false
        rw [hsf, Bool.and_false]
      clear hb hsa hsf
      go_enter Try.func4, Try.ntmps4
      go_wp2_with (fail)
      refine (Of_any _ m _ (MapR.ext HM.out (Ext.ofAlloc w _))).mono ?_
      rintro e w1 ⟨uU, rfl, hu, he1⟩
      have X1 := hid (X0.ext he1)
      have E1 := hid ((Ext.ofAlloc w _).trans he1)
      clear he1
      obtain ⟨c0, c1⟩ := X1.out.cells
      have U_1 := hid (hu.roads (by rw [List.length_take]; omega))
      clear hu
      go_wp2_with (fail)
      refine (Potentials_bad _ (cutM m) a _ U_1.out HBC.out).mono ?_
      rintro e w2 ⟨rfl, he2⟩
      clear c0 c1
      have X2 := hid (X1.out.ext he2)
      have U_2 := hid (U_1.out.ext he2)
      have E2 := hid (E1.out.trans he2)
      clear he2
      obtain ⟨c0, c1⟩ := X2.out.cells
      go_wp2_with (fail)
      refine (RValid_any _ m _ (MapR.ext HM.out E2.out)).mono ?_
      rw [HVal.out]
      rintro e w3 ⟨rfl, he3⟩
      clear c0 c1
      have X3 := hid (X2.out.ext he3)
      have E3 := hid (E2.out.trans he3)
      clear he3
      obtain ⟨c0, c1⟩ := X3.out.cells
      go_wp2_with (fail)
      refine (lawstop_any _ m a _ (MapR.ext HM.out E3.out)).mono ?_
      rw [HSA.out]
      rintro e w4 ⟨rfl, he4⟩
      clear c0 c1
      have X4 := hid (X3.out.ext he4)
      have E4 := hid (E3.out.trans he4)
      clear he4
      obtain ⟨c0, c1⟩ := X4.out.cells
      go_wp2_with (fail)
      refine (awake_any _).mono ?_
      rintro e w5 ⟨rfl, he5⟩
      clear c0 c1
      have E5 := hid (E4.out.trans he5)
      clear he5
      go_wp2
      go_ret
      exact ⟨rfl, E5.out⟩
  · have hbf : mapOk m = false := by rw [Bool.eq_false_iff]; exact hb
    have HVal := hid hbf
    have HBC : Hid ((mapOk (cutM m) && stopB (cutM m).n a) = false) := by
      show _ = _
      rw [mapOk_cut, hbf, Bool.false_and]
    clear hb hbf
    go_enter Try.func4, Try.ntmps4
    go_wp2_with (fail)
    refine (Of_any _ m _ (MapR.ext HM.out (Ext.ofAlloc w _))).mono ?_
    rintro e w1 ⟨uU, rfl, hu, he1⟩
    have X1 := hid (X0.ext he1)
    have E1 := hid ((Ext.ofAlloc w _).trans he1)
    clear he1
    obtain ⟨c0, c1⟩ := X1.out.cells
    have U_1 := hid (hu.roads (by rw [List.length_take]; omega))
    clear hu
    go_wp2_with (fail)
    refine (Potentials_bad _ (cutM m) a _ U_1.out HBC.out).mono ?_
    rintro e w2 ⟨rfl, he2⟩
    clear c0 c1
    have X2 := hid (X1.out.ext he2)
    have U_2 := hid (U_1.out.ext he2)
    have E2 := hid (E1.out.trans he2)
    clear he2
    obtain ⟨c0, c1⟩ := X2.out.cells
    go_wp2_with (fail)
    refine (RValid_any _ m _ (MapR.ext HM.out E2.out)).mono ?_
    rw [HVal.out]
    rintro e w3 ⟨rfl, he3⟩
    clear c0 c1
    have X3 := hid (X2.out.ext he3)
    have E3 := hid (E2.out.trans he3)
    clear he3
    obtain ⟨c0, c1⟩ := X3.out.cells
    go_wp2_with (fail)
    refine (awake_any _).mono ?_
    rintro e w4 ⟨rfl, he4⟩
    clear c0 c1
    have E4 := hid (E3.out.trans he4)
    clear he4
    go_wp2
    go_ret
    exact ⟨rfl, E4.out⟩

end Go.Proofs.Ytkbkgkmogbkabaa
