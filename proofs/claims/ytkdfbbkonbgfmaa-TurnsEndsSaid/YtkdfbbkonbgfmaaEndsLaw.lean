/-
  The statement TurnsEnds: its walk.
-/
import Derived.Test.YtkdfbbkonbgfmaaRefE
import Derived.Test.YtkdfbbkonbgfmaaLastTop
namespace Go.Proofs.Ytkdfbbkonbgfmaa
open Go.RowKit

theorem eqI_self (a : List Int) : eqI a a = true := by unfold eqI; exact decide_eq_true rfl

set_option maxRecDepth 20000 in
set_option maxHeartbeats 4000000 in
theorem TurnsEnds_any (vh vs vp : Value) (p : PlanD) (w : World) (hp : PlanR w vh vs vp p) :
    Calls Try.prog 5 #[.agg #[vh, vs, vp]] w fun e w' => e = .returned (.bool true) ∧ Ext w w' := by
  obtain ⟨aoh, caph, aos, caps, aop, capp, rfl, rfl, rfl⟩ := planR_shape hp
  have HP := hid hp
  have X0 := Box3.alloc w 25 (.slice aoh p.hands.length caph) (.slice aos p.shifts.length caps) (.slice aop p.places.length capp)
  clear hp
  cases hb : planOk (cutP p)
  · have hbp : planOk p = false := by rw [← planOk_cut]; exact hb
    go_enter Try.func5, Try.ntmps5
    go_wp2_with (fail)
    refine (Of_any _ _ _ p _ (HP.out.ext (Ext.ofAlloc _ _))).mono ?_
    rintro e w1 ⟨uh, us, up, rfl, hu, he1⟩
    have X1 := hid (X0.ext he1)
    have Hu := hid hu
    have He1 := hid ((Ext.ofAlloc w _).trans he1)
    clear hu he1 X0
    go_wp2_with (fail)
    refine (First_bad _ _ _ _ _ Hu.out.planR hb).mono ?_
    rintro e w2 ⟨rfl, he2⟩
    have X2 := hid (X1.out.ext he2)
    have He2 := hid (He1.out.trans he2)
    obtain ⟨c0, c1, c2⟩ := X2.out.cells
    clear he2 Hu
    go_wp2_with (fail)
    refine (Of_any _ _ _ p _ (HP.out.ext He2.out)).mono ?_
    rintro e w3 ⟨uh, us, up, rfl, hu, he3⟩
    have X3 := hid (X2.out.ext he3)
    have Hu := hid hu
    have He3 := hid (He2.out.trans he3)
    clear hu he3 c0 c1 c2
    go_wp2_with (fail)
    refine (Last_bad _ _ _ _ _ Hu.out.planR hb).mono ?_
    rintro e w4 ⟨rfl, he4⟩
    have X4 := hid (X3.out.ext he4)
    have He4 := hid (He3.out.trans he4)
    obtain ⟨c0, c1, c2⟩ := X4.out.cells
    clear he4 Hu
    go_wp2_with (fail)
    refine (RValid_any _ _ _ p _ (HP.out.ext He4.out)).mono ?_
    rw [hbp]
    rintro e w5 ⟨rfl, he5⟩
    have He5 := hid (He4.out.trans he5)
    clear he5 c0 c1 c2
    go_wp2_with (fail)
    refine (awake_any _).mono ?_
    rintro e w7 ⟨rfl, he7⟩
    have He7 := hid (He5.out.trans he7)
    clear he7
    go_wp2
    go_ret
    exact ⟨rfl, He7.out⟩
  · have hok := planOk_iff.1 hb
    have hcut := cutP_id hok
    rw [hcut] at hok hb
    have Hok := hid hok
    have Hcut := hid hcut
    have Hb := hid hb
    have hn1 := hok.h1
    have hn6 := hok.h6
    clear hok hcut hb
    go_enter Try.func5, Try.ntmps5
    go_wp2_with (fail)
    refine (Of_any _ _ _ p _ (HP.out.ext (Ext.ofAlloc _ _))).mono ?_
    rintro e w1 ⟨uh, us, up, rfl, hu, he1⟩
    have X1 := hid (X0.ext he1)
    have Hu := hid hu.planR
    rw [Hcut.out] at Hu
    have He1 := hid ((Ext.ofAlloc w _).trans he1)
    clear hu he1 X0
    go_wp2_with (fail)
    refine (First_ok _ _ _ p _ Hu.out Hok.out).mono ?_
    rintro e w2 ⟨ua, rfl, ma, hua, hma, he2⟩
    have X2 := hid (X1.out.ext he2)
    have He2 := hid (He1.out.trans he2)
    have hla := hma.len
    have hua1 := hua.ints (by omega)
    obtain ⟨-, aoa, capa, rfl, -⟩ := id hua1
    have HUa := hid hua1
    have HMa := hid hma
    obtain ⟨c0, c1, c2⟩ := X2.out.cells
    clear he2 hua hua1 hma Hu hla
    go_wp2_with (fail)
    refine (Of_any _ _ _ p _ (HP.out.ext He2.out)).mono ?_
    rintro e w3 ⟨uh, us, up, rfl, hu, he3⟩
    have X3 := hid (X2.out.ext he3)
    have Hu := hid hu.planR
    rw [Hcut.out] at Hu
    have He3 := hid (He2.out.trans he3)
    have HUa3 := hid (HUa.out.ext he3)
    clear hu he3 c0 c1 c2
    go_wp2_with (fail)
    refine (Last_ok _ _ _ p _ Hu.out Hok.out).mono ?_
    rintro e w4 ⟨ub, rfl, mb, hub, hmb, he4⟩
    have X4 := hid (X3.out.ext he4)
    have He4 := hid (He3.out.trans he4)
    have HUa4 := hid (HUa3.out.ext he4)
    have hlb := hmb.len
    have hub1 := hub.ints (by omega)
    obtain ⟨-, aob, capb, rfl, -⟩ := id hub1
    have HUb := hid hub1
    have HMb := hid hmb
    obtain ⟨c0, c1, c2⟩ := X4.out.cells
    clear he4 hub hub1 hmb Hu hlb
    go_wp2_with (fail)
    refine (RValid_any _ _ _ p _ (HP.out.ext He4.out)).mono ?_
    rw [Hb.out]
    rintro e w5 ⟨rfl, he5⟩
    have X5 := hid (X4.out.ext he5)
    have He5 := hid (He4.out.trans he5)
    have HUa5 := hid (HUa4.out.ext he5)
    have HUb5 := hid (HUb.out.ext he5)
    clear he5 c0 c1 c2
    obtain ⟨c0, c1, c2⟩ := X5.out.cells
    go_wp2_with (fail)
    refine (RFirst_any _ _ _ p Hok.out ma HMa.out _ (HP.out.ext He5.out)).mono ?_
    rintro e w6 ⟨uf, rfl, huf, he6⟩
    have X6 := hid (X5.out.ext he6)
    have He6 := hid (He5.out.trans he6)
    have HUa6 := hid (HUa5.out.ext he6)
    have HUb6 := hid (HUb5.out.ext he6)
    have HUf := hid huf
    obtain ⟨-, aof, capf, rfl, -⟩ := id huf
    clear he6 huf c0 c1 c2
    go_wp2_with (fail)
    refine (Equal_any _ _ ma ma _ HUa6.out HUf.out).mono ?_
    rw [eqI_self]
    rintro e w7 ⟨rfl, n7, rfl⟩
    have X7 := hid (X6.out.ext ((Ext.refl w6).drewN n7))
    have He7 := hid (He6.out.drewN n7)
    have HUb7 := hid (HUb6.out.ext ((Ext.refl w6).drewN n7))
    generalize w6.drewN n7 = w7 at *
    obtain ⟨c0, c1, c2⟩ := X7.out.cells
    go_wp2_with (fail)
    refine (RLast_any _ _ _ p Hok.out mb HMb.out _ (HP.out.ext He7.out)).mono ?_
    rintro e w8 ⟨ug, rfl, hug, he8⟩
    have He8 := hid (He7.out.trans he8)
    have HUb8 := hid (HUb7.out.ext he8)
    have HUg := hid hug
    obtain ⟨-, aog, capg, rfl, -⟩ := id hug
    clear he8 hug c0 c1 c2
    go_wp2_with (fail)
    refine (Equal_any _ _ mb mb _ HUb8.out HUg.out).mono ?_
    rw [eqI_self]
    rintro e w9 ⟨rfl, n9, rfl⟩
    have He9 := hid (He8.out.drewN n9)
    generalize w8.drewN n9 = w9 at *
    go_wp2_with (fail)
    refine (awake_any _).mono ?_
    rintro e w10 ⟨rfl, he10⟩
    have He10 := hid (He9.out.trans he10)
    clear he10
    go_wp2
    go_ret
    exact ⟨rfl, He10.out⟩

end Go.Proofs.Ytkdfbbkonbgfmaa
