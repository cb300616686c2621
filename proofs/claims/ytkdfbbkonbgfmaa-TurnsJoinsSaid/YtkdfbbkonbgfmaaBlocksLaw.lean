/-
  The statement TurnsBlocks: its walk.
-/
import Derived.Test.YtkdfbbkonbgfmaaRefD
import Derived.Test.YtkdfbbkonbgfmaaPairs
namespace Go.Proofs.Ytkdfbbkonbgfmaa
open Go.RowKit

theorem take9 {p : PlanD} {hp : PlanOk p} {m : List Int} (h : MatL p hp (m.take 9)) : m.take 9 = m := by
  have h1 := h.1
  rw [List.length_take] at h1
  have := hp.h6
  exact List.take_of_length_le (by omega)
theorem mat9 (p : PlanD) (hp : PlanOk p) (m : List Int) : matB p hp (m.take 9) = matB p hp m := by
  cases h : matB p hp (m.take 9)
  · cases h' : matB p hp m
    · rfl
    · have hm := matB_iff.1 h'
      rw [List.take_of_length_le (by have := hm.1; have := hp.h6; omega), h'] at h; simp at h
  · have := take9 (matB_iff.1 h)
    rw [this] at h; exact h.symm
theorem eqP_self (a : List (Int × Int)) : eqP a a = true := by unfold eqP; exact decide_eq_true rfl
theorem eqR_self (a : List (List Int)) : eqR a a = true := by unfold eqR; exact decide_eq_true rfl
theorem blk_le {p : PlanD} {hp : PlanOk p} {m : List Int} : (blkAll p hp m).length ≤ 100000 := by
  have := blkTo_len (p := p) (hp := hp) (m := m) (j := p.hands.length)
  have := hp.h6
  unfold blkAll; omega

set_option maxRecDepth 20000 in
set_option maxHeartbeats 4000000 in
theorem TurnsBlocks_any (vh vs vp vm : Value) (p : PlanD) (m : List Int) (w : World) (hp : PlanR w vh vs vp p) (hm : Ints w vm m) :
    Calls Try.prog 9 #[.agg #[vh, vs, vp], vm] w fun e w' => e = .returned (.bool true) ∧ Ext w w' := by
  obtain ⟨aoh, caph, aos, caps, aop, capp, rfl, rfl, rfl⟩ := planR_shape hp
  have HP := hid hp
  have X0 := Box3.alloc w 25 (.slice aoh p.hands.length caph) (.slice aos p.shifts.length caps) (.slice aop p.places.length capp)
  clear hp
  obtain ⟨-, aom, capm, rfl, -⟩ := id hm
  have HM := hid hm
  clear hm
  cases hb : planOk (cutP p)
  · have hbp : planOk p = false := by rw [← planOk_cut]; exact hb
    go_enter Try.func9, Try.ntmps9
    go_wp2_with (fail)
    refine (Of_any _ _ _ p _ (HP.out.ext (Ext.ofAlloc w _))).mono ?_
    rintro e w1 ⟨uh, us, up, rfl, hu, he1⟩
    have X1 := hid (X0.ext he1)
    have E1 := hid ((Ext.ofAlloc w _).trans he1)
    clear he1
    obtain ⟨c0, c1, c2⟩ := X1.out.cells
    have P_1 := hid (hu.planR)
    clear hu
    go_wp2_with (fail)
    refine (list_any _ m _ (HM.out.ext E1.out)).mono ?_
    rintro e w2 ⟨um, rfl, hum, he2⟩
    obtain ⟨m9, hm9⟩ : ∃ m9, m9 = m.take 9 := ⟨_, rfl⟩
    have hm9l : m9.length ≤ 9 := by rw [hm9]; simp; omega
    rw [← hm9] at hum
    have Hm9 := hid hm9
    have humi := hum.ints (by omega)
    obtain ⟨-, am9, cm9, rfl, -⟩ := id humi
    clear c0 c1 c2
    have X2 := hid (X1.out.ext he2)
    have P_2 := hid (P_1.out.ext he2)
    have E2 := hid (E1.out.trans he2)
    clear he2
    obtain ⟨c0, c1, c2⟩ := X2.out.cells
    have M_2 := hid (humi)
    clear hum humi hm9
    go_wp2_with (fail)
    refine (Blocks_bad _ _ _ _ _ _ _ P_2.out M_2.out hb).mono ?_
    rintro e w3 ⟨rfl, he3⟩
    clear c0 c1 c2
    have X3 := hid (X2.out.ext he3)
    have P_3 := hid (P_2.out.ext he3)
    have M_3 := hid (M_2.out.ext he3)
    have E3 := hid (E2.out.trans he3)
    clear he3
    obtain ⟨c0, c1, c2⟩ := X3.out.cells
    go_wp2_with (fail)
    refine (Of_any _ _ _ p _ (HP.out.ext E3.out)).mono ?_
    rintro e w4 ⟨uh, us, up, rfl, hu, he4⟩
    clear c0 c1 c2
    have X4 := hid (X3.out.ext he4)
    have E4 := hid (E3.out.trans he4)
    clear he4
    obtain ⟨c0, c1, c2⟩ := X4.out.cells
    have HU := hid hu
    clear hu
    go_wp2_with (fail)
    refine (Stable_bad _ _ _ _ _ HU.out.planR hb).mono ?_
    rintro e w5 ⟨rfl, he5⟩
    clear c0 c1 c2
    have X5 := hid (X4.out.ext he5)
    have E5 := hid (E4.out.trans he5)
    clear he5
    obtain ⟨c0, c1, c2⟩ := X5.out.cells
    go_wp2_with (fail)
    refine (RValid_any _ _ _ p _ (HP.out.ext E5.out)).mono ?_
    rw [hbp]
    rintro e w6 ⟨rfl, he6⟩
    clear c0 c1 c2
    have X6 := hid (X5.out.ext he6)
    have E6 := hid (E5.out.trans he6)
    clear he6
    obtain ⟨c0, c1, c2⟩ := X6.out.cells
    go_wp2_with (fail)
    refine (awake_any _).mono ?_
    rintro e w7 ⟨rfl, he7⟩
    clear c0 c1 c2
    have E7 := hid (E6.out.trans he7)
    clear he7
    go_wp2
    go_ret
    exact ⟨rfl, E7.out⟩
  · have hok := planOk_iff.1 hb
    have hcut := cutP_id hok
    rw [hcut] at hok hb
    have Hok := hid hok
    have Hcut := hid hcut
    have Hb := hid hb
    have hn1 := hok.h1
    have hn6 := hok.h6
    have hs1 := hok.s1
    have hs4 := hok.s4
    clear hok hcut hb
    go_enter Try.func9, Try.ntmps9
    go_wp2_with (fail)
    refine (Of_any _ _ _ p _ (HP.out.ext (Ext.ofAlloc w _))).mono ?_
    rintro e w1 ⟨uh, us, up, rfl, hu, he1⟩
    have X1 := hid (X0.ext he1)
    have E1 := hid ((Ext.ofAlloc w _).trans he1)
    clear he1
    obtain ⟨c0, c1, c2⟩ := X1.out.cells
    have hu2 := hu.planR
    rw [Hcut.out] at hu2
    have P_1 := hid (hu2)
    clear hu hu2
    go_wp2_with (fail)
    refine (list_any _ m _ (HM.out.ext E1.out)).mono ?_
    rintro e w2 ⟨um, rfl, hum, he2⟩
    obtain ⟨m9, hm9⟩ : ∃ m9, m9 = m.take 9 := ⟨_, rfl⟩
    have hm9l : m9.length ≤ 9 := by rw [hm9]; simp; omega
    rw [← hm9] at hum
    have Hm9 := hid hm9
    have humi := hum.ints (by omega)
    obtain ⟨-, am9, cm9, rfl, -⟩ := id humi
    clear c0 c1 c2
    have X2 := hid (X1.out.ext he2)
    have P_2 := hid (P_1.out.ext he2)
    have E2 := hid (E1.out.trans he2)
    clear he2
    obtain ⟨c0, c1, c2⟩ := X2.out.cells
    have M_2 := hid (humi)
    clear hum humi hm9
    have hmm := mat9 p Hok.out m
    rw [← Hm9.out] at hmm
    go_wp2_with (fail)
    cases hmb : matB p Hok.out m9
    · skip
      refine (Blocks_no _ _ _ _ p Hok.out m9 _ P_2.out M_2.out hmb).mono ?_
      rintro e w3 ⟨rfl, he3⟩
      clear c0 c1 c2
      have X3 := hid (X2.out.ext he3)
      have P_3 := hid (P_2.out.ext he3)
      have M_3 := hid (M_2.out.ext he3)
      have E3 := hid (E2.out.trans he3)
      clear he3
      obtain ⟨c0, c1, c2⟩ := X3.out.cells
      go_wp2_with (fail)
      refine (Of_any _ _ _ p _ (HP.out.ext E3.out)).mono ?_
      rintro e w4 ⟨uh, us, up, rfl, hu, he4⟩
      clear c0 c1 c2
      have X4 := hid (X3.out.ext he4)
      have E4 := hid (E3.out.trans he4)
      clear he4
      obtain ⟨c0, c1, c2⟩ := X4.out.cells
      have HU := hid hu.planR
      rw [Hcut.out] at HU
      clear hu
      go_wp2_with (fail)
      refine (Stable_ok _ _ _ p _ HU.out Hok.out).mono ?_
      rintro e w5 ⟨ul, rfl, hul, he5⟩
      have hr := hul.rows2 (Nat.le_trans stAll_le (by decide))
      obtain ⟨-, aol, capl, rfl, -⟩ := id hr
      clear hul
      clear c0 c1 c2
      have X5 := hid (X4.out.ext he5)
      have E5 := hid (E4.out.trans he5)
      clear he5
      obtain ⟨c0, c1, c2⟩ := X5.out.cells
      have R_5 := hid (hr)
      clear hr
      go_wp2_with (fail)
      refine (RValid_any _ _ _ p _ (HP.out.ext E5.out)).mono ?_
      rw [Hb.out]
      rintro e w6 ⟨rfl, he6⟩
      clear c0 c1 c2
      have X6 := hid (X5.out.ext he6)
      have R_6 := hid (R_5.out.ext he6)
      have E6 := hid (E5.out.trans he6)
      clear he6
      obtain ⟨c0, c1, c2⟩ := X6.out.cells
      go_wp2_with (fail)
      refine (RStable_any _ _ _ p Hok.out _ (HP.out.ext E6.out)).mono ?_
      rintro e w7 ⟨ul2, rfl, hul2, he7⟩
      have hr2 := hul2.rows2 (Nat.le_trans stAll_le (by decide))
      obtain ⟨-, aol2, capl2, rfl, -⟩ := id hr2
      clear hul2
      clear c0 c1 c2
      have X7 := hid (X6.out.ext he7)
      have R_7 := hid (R_6.out.ext he7)
      have E7 := hid (E6.out.trans he7)
      clear he7
      obtain ⟨c0, c1, c2⟩ := X7.out.cells
      have R2_7 := hid (hr2)
      clear hr2
      go_wp2_with (fail)
      refine (same_any _ _ _ _ _ R_7.out R2_7.out).mono ?_
      rw [eqR_self]
      rintro e w8 ⟨rfl, he8⟩
      clear c0 c1 c2
      have X8 := hid (X7.out.ext he8)
      have R_8 := hid (R_7.out.ext he8)
      have R2_8 := hid (R2_7.out.ext he8)
      have E8 := hid (E7.out.trans he8)
      clear he8
      obtain ⟨c0, c1, c2⟩ := X8.out.cells
      go_wp2_with (fail)
      refine (awake_any _).mono ?_
      rintro e w9 ⟨rfl, he9⟩
      clear c0 c1 c2
      have X9 := hid (X8.out.ext he9)
      have E9 := hid (E8.out.trans he9)
      clear he9
      obtain ⟨c0, c1, c2⟩ := X9.out.cells
      go_wp2_with (fail)
      refine (RMatching_any _ _ _ _ p Hok.out m _ (HP.out.ext E9.out) (HM.out.ext E9.out)).mono ?_
      rw [← hmm, hmb]
      rintro e w10 ⟨rfl, he10⟩
      clear c0 c1 c2
      have X10 := hid (X9.out.ext he10)
      have E10 := hid (E9.out.trans he10)
      clear he10
      obtain ⟨c0, c1, c2⟩ := X10.out.cells
      go_wp2
      go_ret
      exact ⟨rfl, E10.out⟩
    · skip
      have hmt : m9 = m := by rw [Hm9.out]; exact take9 (Hm9.out ▸ matB_iff.1 hmb)
      refine (Blocks_ok _ _ _ _ p Hok.out m9 _ P_2.out M_2.out (matB_iff.1 hmb)).mono ?_
      rintro e w3 ⟨ub, rfl, hub, he3⟩
      rw [hmt] at hub
      have hbp := hub.pairs blk_le
      obtain ⟨-, aob, capb, rfl, -⟩ := id hbp
      have Hmt := hid hmt
      clear hub hmt
      clear c0 c1 c2
      have X3 := hid (X2.out.ext he3)
      have P_3 := hid (P_2.out.ext he3)
      have M_3 := hid (M_2.out.ext he3)
      have E3 := hid (E2.out.trans he3)
      clear he3
      obtain ⟨c0, c1, c2⟩ := X3.out.cells
      have B_3 := hid (hbp)
      clear hbp
      go_wp2_with (fail)
      refine (Of_any _ _ _ p _ (HP.out.ext E3.out)).mono ?_
      rintro e w4 ⟨uh, us, up, rfl, hu, he4⟩
      clear c0 c1 c2
      have X4 := hid (X3.out.ext he4)
      have B_4 := hid (B_3.out.ext he4)
      have E4 := hid (E3.out.trans he4)
      clear he4
      obtain ⟨c0, c1, c2⟩ := X4.out.cells
      have HU := hid hu.planR
      rw [Hcut.out] at HU
      clear hu
      go_wp2_with (fail)
      refine (Stable_ok _ _ _ p _ HU.out Hok.out).mono ?_
      rintro e w5 ⟨ul, rfl, hul, he5⟩
      have hr := hul.rows2 (Nat.le_trans stAll_le (by decide))
      obtain ⟨-, aol, capl, rfl, -⟩ := id hr
      clear hul
      clear c0 c1 c2
      have X5 := hid (X4.out.ext he5)
      have B_5 := hid (B_4.out.ext he5)
      have E5 := hid (E4.out.trans he5)
      clear he5
      obtain ⟨c0, c1, c2⟩ := X5.out.cells
      have R_5 := hid (hr)
      clear hr
      go_wp2_with (fail)
      refine (RValid_any _ _ _ p _ (HP.out.ext E5.out)).mono ?_
      rw [Hb.out]
      rintro e w6 ⟨rfl, he6⟩
      clear c0 c1 c2
      have X6 := hid (X5.out.ext he6)
      have B_6 := hid (B_5.out.ext he6)
      have R_6 := hid (R_5.out.ext he6)
      have E6 := hid (E5.out.trans he6)
      clear he6
      obtain ⟨c0, c1, c2⟩ := X6.out.cells
      go_wp2_with (fail)
      refine (RStable_any _ _ _ p Hok.out _ (HP.out.ext E6.out)).mono ?_
      rintro e w7 ⟨ul2, rfl, hul2, he7⟩
      have hr2 := hul2.rows2 (Nat.le_trans stAll_le (by decide))
      obtain ⟨-, aol2, capl2, rfl, -⟩ := id hr2
      clear hul2
      clear c0 c1 c2
      have X7 := hid (X6.out.ext he7)
      have B_7 := hid (B_6.out.ext he7)
      have R_7 := hid (R_6.out.ext he7)
      have E7 := hid (E6.out.trans he7)
      clear he7
      obtain ⟨c0, c1, c2⟩ := X7.out.cells
      have R2_7 := hid (hr2)
      clear hr2
      go_wp2_with (fail)
      refine (same_any _ _ _ _ _ R_7.out R2_7.out).mono ?_
      rw [eqR_self]
      rintro e w8 ⟨rfl, he8⟩
      clear c0 c1 c2
      have X8 := hid (X7.out.ext he8)
      have B_8 := hid (B_7.out.ext he8)
      have R_8 := hid (R_7.out.ext he8)
      have R2_8 := hid (R2_7.out.ext he8)
      have E8 := hid (E7.out.trans he8)
      clear he8
      obtain ⟨c0, c1, c2⟩ := X8.out.cells
      go_wp2_with (fail)
      refine (awake_any _).mono ?_
      rintro e w9 ⟨rfl, he9⟩
      clear c0 c1 c2
      have X9 := hid (X8.out.ext he9)
      have B_9 := hid (B_8.out.ext he9)
      have E9 := hid (E8.out.trans he9)
      clear he9
      obtain ⟨c0, c1, c2⟩ := X9.out.cells
      go_wp2_with (fail)
      refine (RMatching_any _ _ _ _ p Hok.out m _ (HP.out.ext E9.out) (HM.out.ext E9.out)).mono ?_
      rw [← hmm, hmb]
      rintro e w10 ⟨rfl, he10⟩
      clear c0 c1 c2
      have X10 := hid (X9.out.ext he10)
      have B_10 := hid (B_9.out.ext he10)
      have E10 := hid (E9.out.trans he10)
      clear he10
      obtain ⟨c0, c1, c2⟩ := X10.out.cells
      go_wp2_with (fail)
      refine (RBlocks_any _ _ _ _ p Hok.out m _ (HP.out.ext E10.out) (HM.out.ext E10.out) (matB_iff.1 (hmm ▸ hmb))).mono ?_
      rintro e w11 ⟨ub2, rfl, hub2, he11⟩
      have hb2 := hub2.pairs blk_le
      obtain ⟨-, aob2, capb2, rfl, -⟩ := id hb2
      clear hub2
      clear c0 c1 c2
      have X11 := hid (X10.out.ext he11)
      have B_11 := hid (B_10.out.ext he11)
      have E11 := hid (E10.out.trans he11)
      clear he11
      obtain ⟨c0, c1, c2⟩ := X11.out.cells
      have B2_11 := hid (hb2)
      clear hb2
      go_wp2_with (fail)
      refine (EqualP_any _ _ _ _ _ B_11.out B2_11.out).mono ?_
      rw [eqP_self]
      rintro e w12 ⟨rfl, he12⟩
      clear c0 c1 c2
      have X12 := hid (X11.out.ext he12)
      have B_12 := hid (B_11.out.ext he12)
      have B2_12 := hid (B2_11.out.ext he12)
      have E12 := hid (E11.out.trans he12)
      clear he12
      obtain ⟨c0, c1, c2⟩ := X12.out.cells
      go_wp2
      go_ret
      exact ⟨rfl, E12.out⟩

end Go.Proofs.Ytkdfbbkonbgfmaa
