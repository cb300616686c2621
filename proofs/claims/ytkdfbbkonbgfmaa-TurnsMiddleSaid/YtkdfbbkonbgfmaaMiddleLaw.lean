/-
  The statement TurnsMiddle: its walk.
-/
import Derived.Test.YtkdfbbkonbgfmaaRefMid
import Derived.Test.YtkdfbbkonbgfmaaMoreLaw
namespace Go.Proofs.Ytkdfbbkonbgfmaa
open Go.RowKit

theorem eqI_self2 (a : List Int) : eqI a a = true := by unfold eqI; exact decide_eq_true rfl

set_option maxRecDepth 20000 in
set_option maxHeartbeats 4000000 in
theorem TurnsMiddle_any (vh vs vp : Value) (p : PlanD) (k : Int) (w : World) (hp : PlanR w vh vs vp p) :
    Calls Try.prog 13 #[.agg #[vh, vs, vp], .int .i64 k] w fun e w' => e = .returned (.bool true) ∧ Ext w w' := by
  obtain ⟨aoh, caph, aos, caps, aop, capp, rfl, rfl, rfl⟩ := planR_shape hp
  have HP := hid hp
  have X0 := Box3.alloc w 25 (.slice aoh p.hands.length caph) (.slice aos p.shifts.length caps) (.slice aop p.places.length capp)
  clear hp
  cases hb : planOk (cutP p)
  · have hbp : planOk p = false := by rw [← planOk_cut]; exact hb
    go_enter Try.func13, Try.ntmps13
    go_wp2_with (fail)
    refine (Of_any _ _ _ p _ (HP.out.ext (Ext.ofAlloc w _))).mono ?_
    rintro e w1 ⟨uh, us, up, rfl, hu, he1⟩
    have X1 := hid (X0.ext he1)
    have E1 := hid ((Ext.ofAlloc w _).trans he1)
    clear he1
    obtain ⟨c0, c1, c2⟩ := X1.out.cells
    have HU := hid hu
    clear hu
    go_wp2_with (fail)
    refine (Middle_bad _ _ _ _ k _ HU.out.planR hb).mono ?_
    rintro e w2 ⟨rfl, he2⟩
    clear c0 c1 c2
    have X2 := hid (X1.out.ext he2)
    have E2 := hid (E1.out.trans he2)
    clear he2
    obtain ⟨c0, c1, c2⟩ := X2.out.cells
    go_wp2_with (fail)
    refine (RValid_any _ _ _ p _ (HP.out.ext E2.out)).mono ?_
    rw [hbp]
    rintro e w3 ⟨rfl, he3⟩
    clear c0 c1 c2
    have X3 := hid (X2.out.ext he3)
    have E3 := hid (E2.out.trans he3)
    clear he3
    obtain ⟨c0, c1, c2⟩ := X3.out.cells
    go_wp2_with (fail)
    refine (awake_any _).mono ?_
    rintro e w4 ⟨rfl, he4⟩
    clear c0 c1 c2
    have E4 := hid (E3.out.trans he4)
    clear he4
    go_wp2
    go_ret
    exact ⟨rfl, E4.out⟩
  · have hok := planOk_iff.1 hb
    have hcut := cutP_id hok
    rw [hcut] at hok hb
    have Hok := hid hok
    have Hcut := hid hcut
    have Hb := hid hb
    have hn1 := hok.h1
    have hn6 := hok.h6
    have hs1 := hok.s1
    have hs4 := hok.s4
    clear hok hcut hb
    by_cases hk : k < 1 ∨ ((stAll p Hok.out).length : Int) < k
    · skip
      go_enter Try.func13, Try.ntmps13
      go_wp2_with (fail)
      refine (Of_any _ _ _ p _ (HP.out.ext (Ext.ofAlloc w _))).mono ?_
      rintro e w1 ⟨uh, us, up, rfl, hu, he1⟩
      have X1 := hid (X0.ext he1)
      have E1 := hid ((Ext.ofAlloc w _).trans he1)
      clear he1
      obtain ⟨c0, c1, c2⟩ := X1.out.cells
      have HU := hid hu.planR
      rw [Hcut.out] at HU
      clear hu
      go_wp2_with (fail)
      refine (Middle_arg _ _ _ p Hok.out k _ HU.out hk).mono ?_
      rintro e w2 ⟨rfl, he2⟩
      clear c0 c1 c2
      have X2 := hid (X1.out.ext he2)
      have E2 := hid (E1.out.trans he2)
      clear he2
      obtain ⟨c0, c1, c2⟩ := X2.out.cells
      go_wp2_with (fail)
      refine (RValid_any _ _ _ p _ (HP.out.ext E2.out)).mono ?_
      rw [Hb.out]
      rintro e w3 ⟨rfl, he3⟩
      clear c0 c1 c2
      have X3 := hid (X2.out.ext he3)
      have E3 := hid (E2.out.trans he3)
      clear he3
      obtain ⟨c0, c1, c2⟩ := X3.out.cells
      by_cases h1 : k < 1
      · skip
        clear hk
        go_wp2_with (fail)
        refine (awake_any _).mono ?_
        rintro e w4 ⟨rfl, he4⟩
        clear c0 c1 c2
        have E4 := hid (E3.out.trans he4)
        clear he4
        go_wp2
        go_ret
        exact ⟨rfl, E4.out⟩
      · skip
        have h2 : ((stAll p Hok.out).length : Int) < k := by omega
        clear hk
        go_wp2_with (fail)
        refine (RStable_any _ _ _ p Hok.out _ (HP.out.ext E3.out)).mono ?_
        rintro e w4 ⟨us, rfl, hus, he4⟩
        have hrs := hus.rows2 (Nat.le_trans stAll_le (by decide))
        obtain ⟨-, aos2, caps2, rfl, -⟩ := id hrs
        clear hus hrs
        generalize (stAll p Hok.out).length = N at *
        clear c0 c1 c2
        have X4 := hid (X3.out.ext he4)
        have E4 := hid (E3.out.trans he4)
        clear he4
        obtain ⟨c0, c1, c2⟩ := X4.out.cells
        go_wp2_with (fail)
        refine (awake_any _).mono ?_
        rintro e w5 ⟨rfl, he5⟩
        clear c0 c1 c2
        have E5 := hid (E4.out.trans he5)
        clear he5
        go_wp2
        go_ret
        exact ⟨rfl, E5.out⟩
    · skip
      have hk1 : 1 ≤ k := by omega
      have hk2 : k ≤ ((stAll p Hok.out).length : Int) := by omega
      clear hk
      go_enter Try.func13, Try.ntmps13
      go_wp2_with (fail)
      refine (Of_any _ _ _ p _ (HP.out.ext (Ext.ofAlloc w _))).mono ?_
      rintro e w1 ⟨uh, us, up, rfl, hu, he1⟩
      have X1 := hid (X0.ext he1)
      have E1 := hid ((Ext.ofAlloc w _).trans he1)
      clear he1
      obtain ⟨c0, c1, c2⟩ := X1.out.cells
      have HU := hid hu.planR
      rw [Hcut.out] at HU
      clear hu
      go_wp2_with (fail)
      refine (Middle_ok _ _ _ p Hok.out k _ HU.out hk1 hk2).mono ?_
      rintro e w2 ⟨um, m, rfl, hum, hm, he2⟩
      have hc := hum.ints (by rw [hm.len]; omega)
      obtain ⟨-, aom, capm, rfl, -⟩ := id hc
      have HM := hid hm
      clear hum hm
      clear c0 c1 c2
      have X2 := hid (X1.out.ext he2)
      have E2 := hid (E1.out.trans he2)
      clear he2
      obtain ⟨c0, c1, c2⟩ := X2.out.cells
      have C_2 := hid (hc)
      clear hc
      go_wp2_with (fail)
      refine (RValid_any _ _ _ p _ (HP.out.ext E2.out)).mono ?_
      rw [Hb.out]
      rintro e w3 ⟨rfl, he3⟩
      clear c0 c1 c2
      have X3 := hid (X2.out.ext he3)
      have C_3 := hid (C_2.out.ext he3)
      have E3 := hid (E2.out.trans he3)
      clear he3
      obtain ⟨c0, c1, c2⟩ := X3.out.cells
      go_wp2_with (fail)
      refine (RStable_any _ _ _ p Hok.out _ (HP.out.ext E3.out)).mono ?_
      rintro e w4 ⟨us, rfl, hus, he4⟩
      have hrs := hus.rows2 (Nat.le_trans stAll_le (by decide))
      obtain ⟨-, aos2, caps2, rfl, -⟩ := id hrs
      clear hus hrs
      have hk3 : ¬ ((stAll p Hok.out).length : Int) < k := by omega
      clear c0 c1 c2
      have X4 := hid (X3.out.ext he4)
      have C_4 := hid (C_3.out.ext he4)
      have E4 := hid (E3.out.trans he4)
      clear he4
      obtain ⟨c0, c1, c2⟩ := X4.out.cells
      go_wp2_with (fail)
      refine (RMiddle_any _ _ _ p Hok.out k _ (HP.out.ext E4.out) hk1 hk2).mono ?_
      rintro e w5 ⟨ud, m2, rfl, hud, hm2, he5⟩
      obtain rfl := HM.out.unique hm2
      have hd := hud.ints (by rw [hm2.len]; omega)
      obtain ⟨-, aod, capd, rfl, -⟩ := id hd
      clear hud hm2
      clear c0 c1 c2
      have X5 := hid (X4.out.ext he5)
      have C_5 := hid (C_4.out.ext he5)
      have E5 := hid (E4.out.trans he5)
      clear he5
      obtain ⟨c0, c1, c2⟩ := X5.out.cells
      have D_5 := hid (hd)
      clear hd
      go_wp2_with (fail)
      refine (Equal_any _ _ m m _ C_5.out D_5.out).mono ?_
      rw [eqI_self2]
      rintro e w6_ ⟨rfl, n7, rfl⟩
      clear c0 c1 c2
      have X6 := hid (X5.out.ext ((Ext.refl _).drewN n7))
      have C_6 := hid (C_5.out.ext ((Ext.refl _).drewN n7))
      have D_6 := hid (D_5.out.ext ((Ext.refl _).drewN n7))
      have E6 := hid (E5.out.trans ((Ext.refl _).drewN n7))
      obtain ⟨c0, c1, c2⟩ := X6.out.cells
      go_wp2_with (fail)
      refine (awake_any _).mono ?_
      rintro e w7 ⟨rfl, he7⟩
      clear c0 c1 c2
      have E7 := hid (E6.out.trans he7)
      clear he7
      go_wp2
      go_ret
      exact ⟨rfl, E7.out⟩

end Go.Proofs.Ytkdfbbkonbgfmaa
