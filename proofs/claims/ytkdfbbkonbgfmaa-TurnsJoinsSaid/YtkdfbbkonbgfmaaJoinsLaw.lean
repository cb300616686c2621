/-
  The statement TurnsJoins: its walk.
-/
import Derived.Test.YtkdfbbkonbgfmaaRefJ
import Derived.Test.YtkdfbbkonbgfmaaBlocksLaw
import Derived.Test.YtkdfbbkonbgfmaaCombine
namespace Go.Proofs.Ytkdfbbkonbgfmaa
open Go.RowKit

theorem eqI_self' (a : List Int) : eqI a a = true := by unfold eqI; exact decide_eq_true rfl

set_option maxRecDepth 20000 in
set_option maxHeartbeats 4000000 in
theorem TurnsJoins_any (vh vs vp va vb : Value) (p : PlanD) (a b : List Int) (w : World) (hp : PlanR w vh vs vp p) (hva : Ints w va a) (hvb : Ints w vb b) :
    Calls Try.prog 7 #[.agg #[vh, vs, vp], va, vb] w fun e w' => e = .returned (.bool true) ∧ Ext w w' := by
  obtain ⟨aoh, caph, aos, caps, aop, capp, rfl, rfl, rfl⟩ := planR_shape hp
  have HP := hid hp
  have X0 := Box3.alloc w 25 (.slice aoh p.hands.length caph) (.slice aos p.shifts.length caps) (.slice aop p.places.length capp)
  clear hp
  obtain ⟨-, aoa, capa, rfl, -⟩ := id hva
  obtain ⟨-, aob, capb, rfl, -⟩ := id hvb
  have HA := hid hva
  have HB := hid hvb
  clear hva hvb
  cases hb : planOk (cutP p)
  · have hbp : planOk p = false := by rw [← planOk_cut]; exact hb
    go_enter Try.func7, Try.ntmps7
    go_wp2_with (fail)
    refine (Of_any _ _ _ p _ (HP.out.ext (Ext.ofAlloc w _))).mono ?_
    rintro e w1 ⟨uh, us, up, rfl, hu, he1⟩
    have X1 := hid (X0.ext he1)
    have E1 := hid ((Ext.ofAlloc w _).trans he1)
    clear he1
    obtain ⟨c0, c1, c2⟩ := X1.out.cells
    have hu2 := hu.planR
    have P_1 := hid (hu2)
    clear hu hu2
    go_wp2_with (fail)
    refine (list_any _ a _ (HA.out.ext E1.out)).mono ?_
    rintro e w2 ⟨ua, rfl, hua, he2⟩
    obtain ⟨a9, ha9⟩ : ∃ m9, m9 = a.take 9 := ⟨_, rfl⟩
    have ha9l : a9.length ≤ 9 := by rw [ha9]; simp; omega
    rw [← ha9] at hua
    have Ha9 := hid ha9
    have huai := hua.ints (by omega)
    obtain ⟨-, aa9, ca9, rfl, -⟩ := id huai
    clear c0 c1 c2
    have X2 := hid (X1.out.ext he2)
    have P_2 := hid (P_1.out.ext he2)
    have E2 := hid (E1.out.trans he2)
    clear he2
    obtain ⟨c0, c1, c2⟩ := X2.out.cells
    have A_2 := hid (huai)
    clear hua huai ha9
    go_wp2_with (fail)
    refine (list_any _ b _ (HB.out.ext E2.out)).mono ?_
    rintro e w3 ⟨ub, rfl, hub, he3⟩
    obtain ⟨b9, hb9⟩ : ∃ m9, m9 = b.take 9 := ⟨_, rfl⟩
    have hb9l : b9.length ≤ 9 := by rw [hb9]; simp; omega
    rw [← hb9] at hub
    have Hb9 := hid hb9
    have hubi := hub.ints (by omega)
    obtain ⟨-, ab9, cb9, rfl, -⟩ := id hubi
    clear c0 c1 c2
    have X3 := hid (X2.out.ext he3)
    have P_3 := hid (P_2.out.ext he3)
    have A_3 := hid (A_2.out.ext he3)
    have E3 := hid (E2.out.trans he3)
    clear he3
    obtain ⟨c0, c1, c2⟩ := X3.out.cells
    have B_3 := hid (hubi)
    clear hub hubi hb9
    go_wp2_with (fail)
    refine (Join_bad _ _ _ _ _ _ _ _ _ P_3.out A_3.out B_3.out hb).mono ?_
    rintro e w4 ⟨rfl, he4⟩
    clear c0 c1 c2
    have X4 := hid (X3.out.ext he4)
    have P_4 := hid (P_3.out.ext he4)
    have A_4 := hid (A_3.out.ext he4)
    have B_4 := hid (B_3.out.ext he4)
    have E4 := hid (E3.out.trans he4)
    clear he4
    obtain ⟨c0, c1, c2⟩ := X4.out.cells
    go_wp2_with (fail)
    refine (Of_any _ _ _ p _ (HP.out.ext E4.out)).mono ?_
    rintro e w5 ⟨uh, us, up, rfl, hu, he5⟩
    clear c0 c1 c2
    have X5 := hid (X4.out.ext he5)
    have E5 := hid (E4.out.trans he5)
    clear he5
    obtain ⟨c0, c1, c2⟩ := X5.out.cells
    have hu2 := hu.planR
    have P_5 := hid (hu2)
    clear hu hu2
    go_wp2_with (fail)
    refine (list_any _ a _ (HA.out.ext E5.out)).mono ?_
    rintro e w6 ⟨ux, rfl, hux, he6⟩
    rw [← Ha9.out] at hux
    have huxi := hux.ints (by omega)
    obtain ⟨-, ax5, cx5, rfl, -⟩ := id huxi
    clear c0 c1 c2
    have X6 := hid (X5.out.ext he6)
    have P_6 := hid (P_5.out.ext he6)
    have E6 := hid (E5.out.trans he6)
    clear he6
    obtain ⟨c0, c1, c2⟩ := X6.out.cells
    have A_6 := hid (huxi)
    clear hux huxi
    go_wp2_with (fail)
    refine (list_any _ b _ (HB.out.ext E6.out)).mono ?_
    rintro e w7 ⟨ux, rfl, hux, he7⟩
    rw [← Hb9.out] at hux
    have huxi := hux.ints (by omega)
    obtain ⟨-, ax6, cx6, rfl, -⟩ := id huxi
    clear c0 c1 c2
    have X7 := hid (X6.out.ext he7)
    have P_7 := hid (P_6.out.ext he7)
    have A_7 := hid (A_6.out.ext he7)
    have E7 := hid (E6.out.trans he7)
    clear he7
    obtain ⟨c0, c1, c2⟩ := X7.out.cells
    have B_7 := hid (huxi)
    clear hux huxi
    go_wp2_with (fail)
    refine (Meet_bad _ _ _ _ _ _ _ _ _ P_7.out A_7.out B_7.out hb).mono ?_
    rintro e w8 ⟨rfl, he8⟩
    clear c0 c1 c2
    have X8 := hid (X7.out.ext he8)
    have P_8 := hid (P_7.out.ext he8)
    have A_8 := hid (A_7.out.ext he8)
    have B_8 := hid (B_7.out.ext he8)
    have E8 := hid (E7.out.trans he8)
    clear he8
    obtain ⟨c0, c1, c2⟩ := X8.out.cells
    go_wp2_with (fail)
    refine (RValid_any _ _ _ p _ (HP.out.ext E8.out)).mono ?_
    rw [hbp]
    rintro e w9 ⟨rfl, he9⟩
    clear c0 c1 c2
    have X9 := hid (X8.out.ext he9)
    have E9 := hid (E8.out.trans he9)
    clear he9
    obtain ⟨c0, c1, c2⟩ := X9.out.cells
    go_wp2_with (fail)
    refine (awake_any _).mono ?_
    rintro e w10 ⟨rfl, he10⟩
    clear c0 c1 c2
    have E10 := hid (E9.out.trans he10)
    clear he10
    go_wp2
    go_ret
    exact ⟨rfl, E10.out⟩
  · have hok := planOk_iff.1 hb
    have hcut := cutP_id hok
    rw [hcut] at hok hb
    have Hok := hid hok
    have Hcut := hid hcut
    have Hb := hid hb
    have hn1 := hok.h1
    have hn6 := hok.h6
    have hs1 := hok.s1
    have hs4 := hok.s4
    clear hok hcut hb
    go_enter Try.func7, Try.ntmps7
    go_wp2_with (fail)
    refine (Of_any _ _ _ p _ (HP.out.ext (Ext.ofAlloc w _))).mono ?_
    rintro e w1 ⟨uh, us, up, rfl, hu, he1⟩
    have X1 := hid (X0.ext he1)
    have E1 := hid ((Ext.ofAlloc w _).trans he1)
    clear he1
    obtain ⟨c0, c1, c2⟩ := X1.out.cells
    have hu2 := hu.planR
    rw [Hcut.out] at hu2
    have P_1 := hid (hu2)
    clear hu hu2
    go_wp2_with (fail)
    refine (list_any _ a _ (HA.out.ext E1.out)).mono ?_
    rintro e w2 ⟨ua, rfl, hua, he2⟩
    obtain ⟨a9, ha9⟩ : ∃ m9, m9 = a.take 9 := ⟨_, rfl⟩
    have ha9l : a9.length ≤ 9 := by rw [ha9]; simp; omega
    rw [← ha9] at hua
    have Ha9 := hid ha9
    have huai := hua.ints (by omega)
    obtain ⟨-, aa9, ca9, rfl, -⟩ := id huai
    clear c0 c1 c2
    have X2 := hid (X1.out.ext he2)
    have P_2 := hid (P_1.out.ext he2)
    have E2 := hid (E1.out.trans he2)
    clear he2
    obtain ⟨c0, c1, c2⟩ := X2.out.cells
    have A_2 := hid (huai)
    clear hua huai ha9
    go_wp2_with (fail)
    refine (list_any _ b _ (HB.out.ext E2.out)).mono ?_
    rintro e w3 ⟨ub, rfl, hub, he3⟩
    obtain ⟨b9, hb9⟩ : ∃ m9, m9 = b.take 9 := ⟨_, rfl⟩
    have hb9l : b9.length ≤ 9 := by rw [hb9]; simp; omega
    rw [← hb9] at hub
    have Hb9 := hid hb9
    have hubi := hub.ints (by omega)
    obtain ⟨-, ab9, cb9, rfl, -⟩ := id hubi
    clear c0 c1 c2
    have X3 := hid (X2.out.ext he3)
    have P_3 := hid (P_2.out.ext he3)
    have A_3 := hid (A_2.out.ext he3)
    have E3 := hid (E2.out.trans he3)
    clear he3
    obtain ⟨c0, c1, c2⟩ := X3.out.cells
    have B_3 := hid (hubi)
    clear hub hubi hb9
    have hma := mat9 p Hok.out a
    rw [← Ha9.out] at hma
    have hmb := mat9 p Hok.out b
    rw [← Hb9.out] at hmb
    go_wp2_with (fail)
    cases hmm : (matB p Hok.out a9 && matB p Hok.out b9)
    · skip
      refine (Join_arg _ _ _ _ _ p Hok.out a9 b9 _ P_3.out A_3.out B_3.out hmm).mono ?_
      rintro e w4 ⟨rfl, he4⟩
      clear c0 c1 c2
      have X4 := hid (X3.out.ext he4)
      have P_4 := hid (P_3.out.ext he4)
      have A_4 := hid (A_3.out.ext he4)
      have B_4 := hid (B_3.out.ext he4)
      have E4 := hid (E3.out.trans he4)
      clear he4
      obtain ⟨c0, c1, c2⟩ := X4.out.cells
      go_wp2_with (fail)
      refine (Of_any _ _ _ p _ (HP.out.ext E4.out)).mono ?_
      rintro e w5 ⟨uh, us, up, rfl, hu, he5⟩
      clear c0 c1 c2
      have X5 := hid (X4.out.ext he5)
      have E5 := hid (E4.out.trans he5)
      clear he5
      obtain ⟨c0, c1, c2⟩ := X5.out.cells
      have hu2 := hu.planR
      rw [Hcut.out] at hu2
      have P_5 := hid (hu2)
      clear hu hu2
      go_wp2_with (fail)
      refine (list_any _ a _ (HA.out.ext E5.out)).mono ?_
      rintro e w6 ⟨ux, rfl, hux, he6⟩
      rw [← Ha9.out] at hux
      have huxi := hux.ints (by omega)
      obtain ⟨-, ax5, cx5, rfl, -⟩ := id huxi
      clear c0 c1 c2
      have X6 := hid (X5.out.ext he6)
      have P_6 := hid (P_5.out.ext he6)
      have E6 := hid (E5.out.trans he6)
      clear he6
      obtain ⟨c0, c1, c2⟩ := X6.out.cells
      have A_6 := hid (huxi)
      clear hux huxi
      go_wp2_with (fail)
      refine (list_any _ b _ (HB.out.ext E6.out)).mono ?_
      rintro e w7 ⟨ux, rfl, hux, he7⟩
      rw [← Hb9.out] at hux
      have huxi := hux.ints (by omega)
      obtain ⟨-, ax6, cx6, rfl, -⟩ := id huxi
      clear c0 c1 c2
      have X7 := hid (X6.out.ext he7)
      have P_7 := hid (P_6.out.ext he7)
      have A_7 := hid (A_6.out.ext he7)
      have E7 := hid (E6.out.trans he7)
      clear he7
      obtain ⟨c0, c1, c2⟩ := X7.out.cells
      have B_7 := hid (huxi)
      clear hux huxi
      go_wp2_with (fail)
      refine (Meet_arg _ _ _ _ _ p Hok.out a9 b9 _ P_7.out A_7.out B_7.out hmm).mono ?_
      rintro e w8 ⟨rfl, he8⟩
      clear c0 c1 c2
      have X8 := hid (X7.out.ext he8)
      have P_8 := hid (P_7.out.ext he8)
      have A_8 := hid (A_7.out.ext he8)
      have B_8 := hid (B_7.out.ext he8)
      have E8 := hid (E7.out.trans he8)
      clear he8
      obtain ⟨c0, c1, c2⟩ := X8.out.cells
      go_wp2_with (fail)
      refine (RValid_any _ _ _ p _ (HP.out.ext E8.out)).mono ?_
      rw [Hb.out]
      rintro e w9 ⟨rfl, he9⟩
      clear c0 c1 c2
      have X9 := hid (X8.out.ext he9)
      have E9 := hid (E8.out.trans he9)
      clear he9
      obtain ⟨c0, c1, c2⟩ := X9.out.cells
      go_wp2_with (fail)
      cases hx : matB p Hok.out a9
      · skip
        refine (RMatching_any _ _ _ _ p Hok.out a _ (HP.out.ext E9.out) (HA.out.ext E9.out)).mono ?_
        rw [← hma, hx]
        rintro e w10 ⟨rfl, he10⟩
        clear c0 c1 c2
        have X10 := hid (X9.out.ext he10)
        have E10 := hid (E9.out.trans he10)
        clear he10
        obtain ⟨c0, c1, c2⟩ := X10.out.cells
        go_wp2_with (fail)
        refine (awake_any _).mono ?_
        rintro e w11 ⟨rfl, he11⟩
        clear c0 c1 c2
        have E11 := hid (E10.out.trans he11)
        clear he11
        go_wp2
        go_ret
        exact ⟨rfl, E11.out⟩
      · skip
        have hy : matB p Hok.out b9 = false := by rw [hx] at hmm; simpa using hmm
        refine (RMatching_any _ _ _ _ p Hok.out a _ (HP.out.ext E9.out) (HA.out.ext E9.out)).mono ?_
        rw [← hma, hx]
        rintro e w10 ⟨rfl, he10⟩
        clear c0 c1 c2
        have X10 := hid (X9.out.ext he10)
        have E10 := hid (E9.out.trans he10)
        clear he10
        obtain ⟨c0, c1, c2⟩ := X10.out.cells
        go_wp2_with (fail)
        refine (RMatching_any _ _ _ _ p Hok.out b _ (HP.out.ext E10.out) (HB.out.ext E10.out)).mono ?_
        rw [← hmb, hy]
        rintro e w11 ⟨rfl, he11⟩
        clear c0 c1 c2
        have X11 := hid (X10.out.ext he11)
        have E11 := hid (E10.out.trans he11)
        clear he11
        obtain ⟨c0, c1, c2⟩ := X11.out.cells
        go_wp2_with (fail)
        refine (awake_any _).mono ?_
        rintro e w12 ⟨rfl, he12⟩
        clear c0 c1 c2
        have E12 := hid (E11.out.trans he12)
        clear he12
        go_wp2
        go_ret
        exact ⟨rfl, E12.out⟩
    · skip
      rw [Bool.and_eq_true] at hmm
      have hxa := hmm.1
      have hxb := hmm.2
      clear hmm
      have hta : a9 = a := by rw [Ha9.out]; exact take9 (hp := Hok.out) (Ha9.out ▸ matB_iff.1 hxa)
      have htb : b9 = b := by rw [Hb9.out]; exact take9 (hp := Hok.out) (Hb9.out ▸ matB_iff.1 hxb)
      have Hta := hid hta
      have Htb := hid htb
      clear hta htb
      cases hss : (stB p Hok.out a9 && stB p Hok.out b9)
      · skip
        refine (Join_state _ _ _ _ _ p Hok.out a9 b9 _ P_3.out A_3.out B_3.out hxa hxb hss).mono ?_
        rintro e w4 ⟨rfl, he4⟩
        clear c0 c1 c2
        have X4 := hid (X3.out.ext he4)
        have P_4 := hid (P_3.out.ext he4)
        have A_4 := hid (A_3.out.ext he4)
        have B_4 := hid (B_3.out.ext he4)
        have E4 := hid (E3.out.trans he4)
        clear he4
        obtain ⟨c0, c1, c2⟩ := X4.out.cells
        go_wp2_with (fail)
        refine (Of_any _ _ _ p _ (HP.out.ext E4.out)).mono ?_
        rintro e w5 ⟨uh, us, up, rfl, hu, he5⟩
        clear c0 c1 c2
        have X5 := hid (X4.out.ext he5)
        have E5 := hid (E4.out.trans he5)
        clear he5
        obtain ⟨c0, c1, c2⟩ := X5.out.cells
        have hu2 := hu.planR
        rw [Hcut.out] at hu2
        have P_5 := hid (hu2)
        clear hu hu2
        go_wp2_with (fail)
        refine (list_any _ a _ (HA.out.ext E5.out)).mono ?_
        rintro e w6 ⟨ux, rfl, hux, he6⟩
        rw [← Ha9.out] at hux
        have huxi := hux.ints (by omega)
        obtain ⟨-, ax5, cx5, rfl, -⟩ := id huxi
        clear c0 c1 c2
        have X6 := hid (X5.out.ext he6)
        have P_6 := hid (P_5.out.ext he6)
        have E6 := hid (E5.out.trans he6)
        clear he6
        obtain ⟨c0, c1, c2⟩ := X6.out.cells
        have A_6 := hid (huxi)
        clear hux huxi
        go_wp2_with (fail)
        refine (list_any _ b _ (HB.out.ext E6.out)).mono ?_
        rintro e w7 ⟨ux, rfl, hux, he7⟩
        rw [← Hb9.out] at hux
        have huxi := hux.ints (by omega)
        obtain ⟨-, ax6, cx6, rfl, -⟩ := id huxi
        clear c0 c1 c2
        have X7 := hid (X6.out.ext he7)
        have P_7 := hid (P_6.out.ext he7)
        have A_7 := hid (A_6.out.ext he7)
        have E7 := hid (E6.out.trans he7)
        clear he7
        obtain ⟨c0, c1, c2⟩ := X7.out.cells
        have B_7 := hid (huxi)
        clear hux huxi
        go_wp2_with (fail)
        refine (Meet_state _ _ _ _ _ p Hok.out a9 b9 _ P_7.out A_7.out B_7.out hxa hxb hss).mono ?_
        rintro e w8 ⟨rfl, he8⟩
        clear c0 c1 c2
        have X8 := hid (X7.out.ext he8)
        have P_8 := hid (P_7.out.ext he8)
        have A_8 := hid (A_7.out.ext he8)
        have B_8 := hid (B_7.out.ext he8)
        have E8 := hid (E7.out.trans he8)
        clear he8
        obtain ⟨c0, c1, c2⟩ := X8.out.cells
        go_wp2_with (fail)
        refine (RValid_any _ _ _ p _ (HP.out.ext E8.out)).mono ?_
        rw [Hb.out]
        rintro e w9 ⟨rfl, he9⟩
        clear c0 c1 c2
        have X9 := hid (X8.out.ext he9)
        have E9 := hid (E8.out.trans he9)
        clear he9
        obtain ⟨c0, c1, c2⟩ := X9.out.cells
        go_wp2_with (fail)
        refine (RMatching_any _ _ _ _ p Hok.out a _ (HP.out.ext E9.out) (HA.out.ext E9.out)).mono ?_
        rw [← hma, hxa]
        rintro e w10 ⟨rfl, he10⟩
        clear c0 c1 c2
        have X10 := hid (X9.out.ext he10)
        have E10 := hid (E9.out.trans he10)
        clear he10
        obtain ⟨c0, c1, c2⟩ := X10.out.cells
        go_wp2_with (fail)
        refine (RMatching_any _ _ _ _ p Hok.out b _ (HP.out.ext E10.out) (HB.out.ext E10.out)).mono ?_
        rw [← hmb, hxb]
        rintro e w11 ⟨rfl, he11⟩
        clear c0 c1 c2
        have X11 := hid (X10.out.ext he11)
        have E11 := hid (E10.out.trans he11)
        clear he11
        obtain ⟨c0, c1, c2⟩ := X11.out.cells
        go_wp2_with (fail)
        cases hx : stB p Hok.out a9
        · skip
          refine (RIsStable_any _ _ _ _ p Hok.out a _ (HP.out.ext E11.out) (HA.out.ext E11.out)).mono ?_
          rw [show stB p Hok.out a = false from by rw [← Hta.out]; exact hx]
          rintro e w12 ⟨rfl, he12⟩
          clear c0 c1 c2
          have X12 := hid (X11.out.ext he12)
          have E12 := hid (E11.out.trans he12)
          clear he12
          obtain ⟨c0, c1, c2⟩ := X12.out.cells
          go_wp2_with (fail)
          refine (awake_any _).mono ?_
          rintro e w13 ⟨rfl, he13⟩
          clear c0 c1 c2
          have E13 := hid (E12.out.trans he13)
          clear he13
          go_wp2
          go_ret
          exact ⟨rfl, E13.out⟩
        · skip
          have hy : stB p Hok.out b9 = false := by rw [hx] at hss; simpa using hss
          refine (RIsStable_any _ _ _ _ p Hok.out a _ (HP.out.ext E11.out) (HA.out.ext E11.out)).mono ?_
          rw [show stB p Hok.out a = true from by rw [← Hta.out]; exact hx]
          rintro e w12 ⟨rfl, he12⟩
          clear c0 c1 c2
          have X12 := hid (X11.out.ext he12)
          have E12 := hid (E11.out.trans he12)
          clear he12
          obtain ⟨c0, c1, c2⟩ := X12.out.cells
          go_wp2_with (fail)
          refine (RIsStable_any _ _ _ _ p Hok.out b _ (HP.out.ext E12.out) (HB.out.ext E12.out)).mono ?_
          rw [show stB p Hok.out b = false from by rw [← Htb.out]; exact hy]
          rintro e w13 ⟨rfl, he13⟩
          clear c0 c1 c2
          have X13 := hid (X12.out.ext he13)
          have E13 := hid (E12.out.trans he13)
          clear he13
          obtain ⟨c0, c1, c2⟩ := X13.out.cells
          go_wp2_with (fail)
          refine (awake_any _).mono ?_
          rintro e w14 ⟨rfl, he14⟩
          clear c0 c1 c2
          have E14 := hid (E13.out.trans he14)
          clear he14
          go_wp2
          go_ret
          exact ⟨rfl, E14.out⟩
      · skip
        rw [Bool.and_eq_true] at hss
        have hsa := hss.1
        have hsb := hss.2
        clear hss
        refine (Join_ok _ _ _ _ _ p Hok.out a9 b9 _ P_3.out A_3.out B_3.out (stB_iff.1 hsa) (stB_iff.1 hsb)).mono ?_
        rintro e w4 ⟨uj, rfl, huj, he4⟩
        rw [Hta.out, Htb.out] at huj
        have hiuj := huj.ints (by rw [joinL_len]; omega)
        obtain ⟨-, auj, cuj, rfl, -⟩ := id hiuj
        clear c0 c1 c2
        have X4 := hid (X3.out.ext he4)
        have P_4 := hid (P_3.out.ext he4)
        have A_4 := hid (A_3.out.ext he4)
        have B_4 := hid (B_3.out.ext he4)
        have E4 := hid (E3.out.trans he4)
        clear he4
        obtain ⟨c0, c1, c2⟩ := X4.out.cells
        have J_4 := hid (hiuj)
        clear huj hiuj
        go_wp2_with (fail)
        refine (Of_any _ _ _ p _ (HP.out.ext E4.out)).mono ?_
        rintro e w5 ⟨uh, us, up, rfl, hu, he5⟩
        clear c0 c1 c2
        have X5 := hid (X4.out.ext he5)
        have J_5 := hid (J_4.out.ext he5)
        have E5 := hid (E4.out.trans he5)
        clear he5
        obtain ⟨c0, c1, c2⟩ := X5.out.cells
        have hu2 := hu.planR
        rw [Hcut.out] at hu2
        have P_5 := hid (hu2)
        clear hu hu2
        go_wp2_with (fail)
        refine (list_any _ a _ (HA.out.ext E5.out)).mono ?_
        rintro e w6 ⟨ux, rfl, hux, he6⟩
        rw [← Ha9.out] at hux
        have huxi := hux.ints (by omega)
        obtain ⟨-, ax5, cx5, rfl, -⟩ := id huxi
        clear c0 c1 c2
        have X6 := hid (X5.out.ext he6)
        have J_6 := hid (J_5.out.ext he6)
        have P_6 := hid (P_5.out.ext he6)
        have E6 := hid (E5.out.trans he6)
        clear he6
        obtain ⟨c0, c1, c2⟩ := X6.out.cells
        have A_6 := hid (huxi)
        clear hux huxi
        go_wp2_with (fail)
        refine (list_any _ b _ (HB.out.ext E6.out)).mono ?_
        rintro e w7 ⟨ux, rfl, hux, he7⟩
        rw [← Hb9.out] at hux
        have huxi := hux.ints (by omega)
        obtain ⟨-, ax6, cx6, rfl, -⟩ := id huxi
        clear c0 c1 c2
        have X7 := hid (X6.out.ext he7)
        have J_7 := hid (J_6.out.ext he7)
        have P_7 := hid (P_6.out.ext he7)
        have A_7 := hid (A_6.out.ext he7)
        have E7 := hid (E6.out.trans he7)
        clear he7
        obtain ⟨c0, c1, c2⟩ := X7.out.cells
        have B_7 := hid (huxi)
        clear hux huxi
        go_wp2_with (fail)
        refine (Meet_ok _ _ _ _ _ p Hok.out a9 b9 _ P_7.out A_7.out B_7.out (stB_iff.1 hsa) (stB_iff.1 hsb)).mono ?_
        rintro e w8 ⟨um, rfl, hum, he8⟩
        rw [Hta.out, Htb.out] at hum
        have hium := hum.ints (by rw [meetL_len]; omega)
        obtain ⟨-, aum, cum, rfl, -⟩ := id hium
        clear c0 c1 c2
        have X8 := hid (X7.out.ext he8)
        have J_8 := hid (J_7.out.ext he8)
        have P_8 := hid (P_7.out.ext he8)
        have A_8 := hid (A_7.out.ext he8)
        have B_8 := hid (B_7.out.ext he8)
        have E8 := hid (E7.out.trans he8)
        clear he8
        obtain ⟨c0, c1, c2⟩ := X8.out.cells
        have M_8 := hid (hium)
        clear hum hium
        go_wp2_with (fail)
        refine (RValid_any _ _ _ p _ (HP.out.ext E8.out)).mono ?_
        rw [Hb.out]
        rintro e w9 ⟨rfl, he9⟩
        clear c0 c1 c2
        have X9 := hid (X8.out.ext he9)
        have J_9 := hid (J_8.out.ext he9)
        have M_9 := hid (M_8.out.ext he9)
        have E9 := hid (E8.out.trans he9)
        clear he9
        obtain ⟨c0, c1, c2⟩ := X9.out.cells
        go_wp2_with (fail)
        refine (RMatching_any _ _ _ _ p Hok.out a _ (HP.out.ext E9.out) (HA.out.ext E9.out)).mono ?_
        rw [← hma, hxa]
        rintro e w10 ⟨rfl, he10⟩
        clear c0 c1 c2
        have X10 := hid (X9.out.ext he10)
        have J_10 := hid (J_9.out.ext he10)
        have M_10 := hid (M_9.out.ext he10)
        have E10 := hid (E9.out.trans he10)
        clear he10
        obtain ⟨c0, c1, c2⟩ := X10.out.cells
        go_wp2_with (fail)
        refine (RMatching_any _ _ _ _ p Hok.out b _ (HP.out.ext E10.out) (HB.out.ext E10.out)).mono ?_
        rw [← hmb, hxb]
        rintro e w11 ⟨rfl, he11⟩
        clear c0 c1 c2
        have X11 := hid (X10.out.ext he11)
        have J_11 := hid (J_10.out.ext he11)
        have M_11 := hid (M_10.out.ext he11)
        have E11 := hid (E10.out.trans he11)
        clear he11
        obtain ⟨c0, c1, c2⟩ := X11.out.cells
        go_wp2_with (fail)
        refine (RIsStable_any _ _ _ _ p Hok.out a _ (HP.out.ext E11.out) (HA.out.ext E11.out)).mono ?_
        rw [show stB p Hok.out a = true from by rw [← Hta.out]; exact hsa]
        rintro e w12 ⟨rfl, he12⟩
        clear c0 c1 c2
        have X12 := hid (X11.out.ext he12)
        have J_12 := hid (J_11.out.ext he12)
        have M_12 := hid (M_11.out.ext he12)
        have E12 := hid (E11.out.trans he12)
        clear he12
        obtain ⟨c0, c1, c2⟩ := X12.out.cells
        go_wp2_with (fail)
        refine (RIsStable_any _ _ _ _ p Hok.out b _ (HP.out.ext E12.out) (HB.out.ext E12.out)).mono ?_
        rw [show stB p Hok.out b = true from by rw [← Htb.out]; exact hsb]
        rintro e w13 ⟨rfl, he13⟩
        clear c0 c1 c2
        have X13 := hid (X12.out.ext he13)
        have J_13 := hid (J_12.out.ext he13)
        have M_13 := hid (M_12.out.ext he13)
        have E13 := hid (E12.out.trans he13)
        clear he13
        obtain ⟨c0, c1, c2⟩ := X13.out.cells
        have hMa : MatL p Hok.out a := by rw [← Hta.out]; exact matB_iff.1 hxa
        have hMb : MatL p Hok.out b := by rw [← Htb.out]; exact matB_iff.1 hxb
        have HMa := hid hMa
        have HMb := hid hMb
        clear hMa hMb
        go_wp2_with (fail)
        refine (RJoin_any _ _ _ _ _ p Hok.out a b _ (HP.out.ext E13.out) (HA.out.ext E13.out) (HB.out.ext E13.out) HMa.out HMb.out).mono ?_
        rintro e w14 ⟨uj, rfl, huj, he14⟩
        have hi2 := huj.ints (by rw [joinL_len]; omega)
        obtain ⟨-, aj2, cj2, rfl, -⟩ := id hi2
        clear c0 c1 c2
        have X14 := hid (X13.out.ext he14)
        have J_14 := hid (J_13.out.ext he14)
        have M_14 := hid (M_13.out.ext he14)
        have E14 := hid (E13.out.trans he14)
        clear he14
        obtain ⟨c0, c1, c2⟩ := X14.out.cells
        have J2_14 := hid (hi2)
        clear huj hi2
        go_wp2_with (fail)
        refine (Equal_any _ _ _ _ _ J_14.out J2_14.out).mono ?_
        rw [eqI_self']
        rintro e w15_ ⟨rfl, n7, rfl⟩
        clear c0 c1 c2
        have X15 := hid (X14.out.ext ((Ext.refl _).drewN n7))
        have J_15 := hid (J_14.out.ext ((Ext.refl _).drewN n7))
        have M_15 := hid (M_14.out.ext ((Ext.refl _).drewN n7))
        have J2_15 := hid (J2_14.out.ext ((Ext.refl _).drewN n7))
        have E15 := hid (E14.out.trans ((Ext.refl _).drewN n7))
        obtain ⟨c0, c1, c2⟩ := X15.out.cells
        generalize w14.drewN n7 = w15 at *
        go_wp2_with (fail)
        refine (RMeet_any _ _ _ _ _ p Hok.out a b _ (HP.out.ext E15.out) (HA.out.ext E15.out) (HB.out.ext E15.out) HMa.out HMb.out).mono ?_
        rintro e w16 ⟨um, rfl, hum, he16⟩
        have hi2 := hum.ints (by rw [meetL_len]; omega)
        obtain ⟨-, am2, cm2, rfl, -⟩ := id hi2
        clear c0 c1 c2
        have X16 := hid (X15.out.ext he16)
        have M_16 := hid (M_15.out.ext he16)
        have E16 := hid (E15.out.trans he16)
        clear he16
        obtain ⟨c0, c1, c2⟩ := X16.out.cells
        have M2_16 := hid (hi2)
        clear hum hi2
        go_wp2_with (fail)
        refine (Equal_any _ _ _ _ _ M_16.out M2_16.out).mono ?_
        rw [eqI_self']
        rintro e w17_ ⟨rfl, n8, rfl⟩
        clear c0 c1 c2
        have X17 := hid (X16.out.ext ((Ext.refl _).drewN n8))
        have M_17 := hid (M_16.out.ext ((Ext.refl _).drewN n8))
        have M2_17 := hid (M2_16.out.ext ((Ext.refl _).drewN n8))
        have E17 := hid (E16.out.trans ((Ext.refl _).drewN n8))
        obtain ⟨c0, c1, c2⟩ := X17.out.cells
        generalize w16.drewN n8 = w17 at *
        go_wp2_with (fail)
        refine (awake_any _).mono ?_
        rintro e w18 ⟨rfl, he18⟩
        clear c0 c1 c2
        have E18 := hid (E17.out.trans he18)
        clear he18
        go_wp2
        go_ret
        exact ⟨rfl, E18.out⟩

end Go.Proofs.Ytkdfbbkonbgfmaa
