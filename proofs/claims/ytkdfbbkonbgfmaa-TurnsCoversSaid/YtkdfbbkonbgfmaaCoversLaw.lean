/-
  The statement TurnsCovers: its walk.
-/
import Derived.Test.YtkdfbbkonbgfmaaRefCov
import Derived.Test.YtkdfbbkonbgfmaaMoreLaw
namespace Go.Proofs.Ytkdfbbkonbgfmaa
open Go.RowKit

theorem eqP_self' (a : List (Int × Int)) : eqP a a = true := by unfold eqP; exact decide_eq_true rfl
theorem cov_le {p : PlanD} {hp : PlanOk p} {P : Nat → Nat → Bool} : (prTo P (stAll p hp).length (stAll p hp).length).length ≤ 1000000000 := by
  have h1 := prTo_len (P := P) (n := (stAll p hp).length) (j := (stAll p hp).length)
  have h2 := stAll_le (p := p) (hp := hp)
  have h3 : (stAll p hp).length * (stAll p hp).length ≤ 15625 * 15625 := Nat.mul_le_mul h2 h2
  omega

set_option maxRecDepth 20000 in
set_option maxHeartbeats 4000000 in
theorem TurnsCovers_any (vh vs vp : Value) (p : PlanD) (w : World) (hp : PlanR w vh vs vp p) :
    Calls Try.prog 10 #[.agg #[vh, vs, vp]] w fun e w' => e = .returned (.bool true) ∧ Ext w w' := by
  obtain ⟨aoh, caph, aos, caps, aop, capp, rfl, rfl, rfl⟩ := planR_shape hp
  have HP := hid hp
  have X0 := Box3.alloc w 25 (.slice aoh p.hands.length caph) (.slice aos p.shifts.length caps) (.slice aop p.places.length capp)
  clear hp
  cases hb : planOk (cutP p)
  · have hbp : planOk p = false := by rw [← planOk_cut]; exact hb
    go_enter Try.func10, Try.ntmps10
    go_wp2_with (fail)
    refine (Of_any _ _ _ p _ (HP.out.ext (Ext.ofAlloc w _))).mono ?_
    rintro e w1 ⟨uh, us, up, rfl, hu, he1⟩
    have X1 := hid (X0.ext he1)
    have E1 := hid ((Ext.ofAlloc w _).trans he1)
    clear he1
    obtain ⟨c0, c1, c2⟩ := X1.out.cells
    have HU := hid hu
    clear hu
    go_wp2_with (fail)
    refine (Covers_bad _ _ _ _ _ HU.out.planR hb).mono ?_
    rintro e w2 ⟨rfl, he2⟩
    clear c0 c1 c2
    have X2 := hid (X1.out.ext he2)
    have E2 := hid (E1.out.trans he2)
    clear he2
    obtain ⟨c0, c1, c2⟩ := X2.out.cells
    go_wp2_with (fail)
    refine (RValid_any _ _ _ p _ (HP.out.ext E2.out)).mono ?_
    rw [hbp]
    rintro e w3 ⟨rfl, he3⟩
    clear c0 c1 c2
    have X3 := hid (X2.out.ext he3)
    have E3 := hid (E2.out.trans he3)
    clear he3
    obtain ⟨c0, c1, c2⟩ := X3.out.cells
    go_wp2_with (fail)
    refine (awake_any _).mono ?_
    rintro e w4 ⟨rfl, he4⟩
    clear c0 c1 c2
    have E4 := hid (E3.out.trans he4)
    clear he4
    go_wp2
    go_ret
    exact ⟨rfl, E4.out⟩
  · have hok := planOk_iff.1 hb
    have hcut := cutP_id hok
    rw [hcut] at hok hb
    have Hok := hid hok
    have Hcut := hid hcut
    have Hb := hid hb
    have hn1 := hok.h1
    have hn6 := hok.h6
    have hs1 := hok.s1
    have hs4 := hok.s4
    clear hok hcut hb
    go_enter Try.func10, Try.ntmps10
    go_wp2_with (fail)
    refine (Of_any _ _ _ p _ (HP.out.ext (Ext.ofAlloc w _))).mono ?_
    rintro e w1 ⟨uh, us, up, rfl, hu, he1⟩
    have X1 := hid (X0.ext he1)
    have E1 := hid ((Ext.ofAlloc w _).trans he1)
    clear he1
    obtain ⟨c0, c1, c2⟩ := X1.out.cells
    have HU := hid hu.planR
    rw [Hcut.out] at HU
    clear hu
    go_wp2_with (fail)
    refine (Covers_ok _ _ _ p Hok.out _ HU.out).mono ?_
    rintro e w2 ⟨uc, rfl, huc, he2⟩
    have hc := huc.pairs cov_le
    obtain ⟨-, aoc, capc, rfl, -⟩ := id hc
    clear huc
    clear c0 c1 c2
    have X2 := hid (X1.out.ext he2)
    have E2 := hid (E1.out.trans he2)
    clear he2
    obtain ⟨c0, c1, c2⟩ := X2.out.cells
    have C_2 := hid (hc)
    clear hc
    go_wp2_with (fail)
    refine (RValid_any _ _ _ p _ (HP.out.ext E2.out)).mono ?_
    rw [Hb.out]
    rintro e w3 ⟨rfl, he3⟩
    clear c0 c1 c2
    have X3 := hid (X2.out.ext he3)
    have C_3 := hid (C_2.out.ext he3)
    have E3 := hid (E2.out.trans he3)
    clear he3
    obtain ⟨c0, c1, c2⟩ := X3.out.cells
    go_wp2_with (fail)
    refine (RCovers_any _ _ _ p Hok.out _ (HP.out.ext E3.out)).mono ?_
    rintro e w4 ⟨ud, rfl, hud, he4⟩
    have hd := hud.pairs cov_le
    obtain ⟨-, aod, capd, rfl, -⟩ := id hd
    clear hud
    clear c0 c1 c2
    have X4 := hid (X3.out.ext he4)
    have C_4 := hid (C_3.out.ext he4)
    have E4 := hid (E3.out.trans he4)
    clear he4
    obtain ⟨c0, c1, c2⟩ := X4.out.cells
    have D_4 := hid (hd)
    clear hd
    go_wp2_with (fail)
    refine (EqualP_any _ _ _ _ _ C_4.out D_4.out).mono ?_
    rw [eqP_self']
    rintro e w5 ⟨rfl, he5⟩
    clear c0 c1 c2
    have X5 := hid (X4.out.ext he5)
    have C_5 := hid (C_4.out.ext he5)
    have D_5 := hid (D_4.out.ext he5)
    have E5 := hid (E4.out.trans he5)
    clear he5
    obtain ⟨c0, c1, c2⟩ := X5.out.cells
    go_wp2_with (fail)
    refine (awake_any _).mono ?_
    rintro e w6 ⟨rfl, he6⟩
    clear c0 c1 c2
    have E6 := hid (E5.out.trans he6)
    clear he6
    go_wp2
    go_ret
    exact ⟨rfl, E6.out⟩

end Go.Proofs.Ytkdfbbkonbgfmaa
