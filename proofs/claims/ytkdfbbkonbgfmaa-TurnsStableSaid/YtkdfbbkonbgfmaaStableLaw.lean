/-
  The statement TurnsStable: its walk.
-/
import Derived.Test.YtkdfbbkonbgfmaaHas
import Derived.Test.YtkdfbbkonbgfmaaLastTop
namespace Go.Proofs.Ytkdfbbkonbgfmaa
open Go.RowKit

theorem hasL_st {p : PlanD} {hp : PlanOk p} {L : List (List Int)} (hL : L = stAll p hp) (m : List Int) : hasL L m = stB p hp m := by
  subst hL
  cases h : stB p hp m
  · cases h' : hasL (stAll p hp) m
    · rfl
    · rw [stB_iff.2 (mem_stAll.1 (hasL_iff.1 h'))] at h; simp at h
  · exact hasL_iff.2 (mem_stAll.2 (stB_iff.1 h))

set_option maxRecDepth 20000 in
set_option maxHeartbeats 4000000 in
theorem TurnsStable_any (vh vs vp vm : Value) (p : PlanD) (m : List Int) (w : World) (hp : PlanR w vh vs vp p) (hm : Ints w vm m) :
    Calls Try.prog 11 #[.agg #[vh, vs, vp], vm] w fun e w' => e = .returned (.bool true) ∧ Ext w w' := by
  obtain ⟨aoh, caph, aos, caps, aop, capp, rfl, rfl, rfl⟩ := planR_shape hp
  obtain ⟨-, aom, capm, rfl, -⟩ := id hm
  have HP := hid hp
  have HM := hid hm
  have hmf : ∀ (fn : Fn) (first cap : Array Value) (w : World), (Instr.makeFunc fn first cap).run Try.prog w = .ok (.func fn first cap) w := fun _ _ _ _ => rfl
  have X0 := Box3.alloc w 25 (.slice aoh p.hands.length caph) (.slice aos p.shifts.length caps) (.slice aop p.places.length capp)
  clear hp hm
  cases hb : planOk (cutP p)
  · go_enter Try.func11, Try.ntmps11
    go_wp2_with (fail)
    refine (Of_any _ _ _ p _ (HP.out.ext (Ext.ofAlloc _ _))).mono ?_
    rintro e w1 ⟨uh, us, up, rfl, hu, he1⟩
    have X1 := hid (X0.ext he1)
    have Hu := hid hu
    have He1 := hid ((Ext.ofAlloc w _).trans he1)
    clear hu he1
    go_wp2_with (fail)
    refine (Stable_bad _ _ _ _ _ Hu.out.planR hb).mono ?_
    rintro e w2 ⟨rfl, he2⟩
    have X2 := hid ((X1.out.ext he2).ext (Ext.ofAlloc _ (.cells #[.slice none 0 0] 22)))
    have He2 := hid ((He1.out.trans he2).alloc (.cells #[.slice none 0 0] 22))
    obtain ⟨c0, c1, c2⟩ := X2.out.cells
    clear he2 Hu
    go_wp2_with (fail)
    refine (Of_any _ _ _ p _ (HP.out.ext He2.out)).mono ?_
    rintro e w3 ⟨uh, us, up, rfl, hu, he3⟩
    have X3 := hid (X2.out.ext he3)
    have Hu := hid hu
    have He3 := hid (He2.out.trans he3)
    clear hu he3 c0 c1 c2
    go_wp2_with (fail)
    refine (First_bad _ _ _ _ _ Hu.out.planR hb).mono ?_
    rintro e w4 ⟨rfl, he4⟩
    have X4 := hid (X3.out.ext he4)
    have He4 := hid (He3.out.trans he4)
    obtain ⟨c0, c1, c2⟩ := X4.out.cells
    clear he4 Hu
    go_wp2_with (fail)
    refine (Of_any _ _ _ p _ (HP.out.ext He4.out)).mono ?_
    rintro e w5 ⟨uh, us, up, rfl, hu, he5⟩
    have Hu := hid hu
    have He5 := hid (He4.out.trans he5)
    clear hu he5 c0 c1 c2
    go_wp2_with (fail)
    refine (Last_bad _ _ _ _ _ Hu.out.planR hb).mono ?_
    rintro e w6 ⟨rfl, he6⟩
    have He6 := hid (He5.out.trans he6)
    clear he6 Hu
    go_wp2_with (fail)
    refine (awake_any _).mono ?_
    rintro e w7 ⟨rfl, he7⟩
    have He7 := hid (He6.out.trans he7)
    clear he7
    go_wp2
    go_ret
    exact ⟨rfl, He7.out⟩
  · have hok := planOk_iff.1 hb
    have hcut := cutP_id hok
    rw [hcut] at hok hb
    have Hok := hid hok
    have Hcut := hid hcut
    have hn1 := hok.h1
    have hn6 := hok.h6
    clear hok hcut hb
    go_enter Try.func11, Try.ntmps11
    go_wp2_with (fail)
    refine (Of_any _ _ _ p _ (HP.out.ext (Ext.ofAlloc _ _))).mono ?_
    rintro e w1 ⟨uh, us, up, rfl, hu, he1⟩
    have X1 := hid (X0.ext he1)
    have Hu := hid hu.planR
    rw [Hcut.out] at Hu
    have He1 := hid ((Ext.ofAlloc w _).trans he1)
    clear hu he1 X0
    go_wp2_with (fail)
    refine (Stable_ok _ _ _ p _ Hu.out Hok.out).mono ?_
    rintro e w2 ⟨ul, rfl, hul, he2⟩
    obtain ⟨L, hL⟩ : ∃ L, L = stAll p Hok.out := ⟨_, rfl⟩
    rw [← hL] at hul
    have hL1 : 0 < L.length := by rw [hL]; exact stAll_pos
    have hL2 : L.length ≤ 15625 := by rw [hL]; exact stAll_le
    have hLm : Hid (∀ k : Nat, k < L.length → StL p Hok.out (rowAt L k)) := fun k hk => mem_stAll.1 (by rw [← hL]; exact rowAt_mem (Int.natCast_nonneg k) (by exact_mod_cast hk))
    have hr := hul.rows2 (by omega)
    obtain ⟨-, aol, capl, rfl, -⟩ := id hr
    obtain ⟨bl, ol, -, -, rfl, -, -⟩ := hr.at 0 (by omega) (by omega)
    have X2 := hid ((X1.out.ext he2).ext (Ext.ofAlloc _ (.cells #[.slice (some ⟨bl, ol, none⟩) L.length capl] 22)))
    have He2 := hid ((He1.out.trans he2).alloc (.cells #[.slice (some ⟨bl, ol, none⟩) L.length capl] 22))
    have HR2 := hid (hr.ext (Ext.ofAlloc _ (.cells #[.slice (some ⟨bl, ol, none⟩) L.length capl] 22)))
    have HC2 := hid (heap_alloc_new w2 (.cells #[.slice (some ⟨bl, ol, none⟩) L.length capl] 22))
    have HL := hid hL
    have hlz : ((L.length : Int) == 0) = false := beq_eq_false_iff_ne.2 (by omega)
    obtain ⟨c0, c1, c2⟩ := X2.out.cells
    clear he2 hul hr hL Hu
    go_wp2_with (fail)
    refine (Of_any _ _ _ p _ (HP.out.ext He2.out)).mono ?_
    rintro e w3 ⟨uh, us, up, rfl, hu, he3⟩
    have X3 := hid (X2.out.ext he3)
    have Hu := hid hu.planR
    rw [Hcut.out] at Hu
    have He3 := hid (He2.out.trans he3)
    have HR3 := hid (HR2.out.ext he3)
    have HC3 := hid (heap_ext HC2.out he3)
    clear hu he3 c0 c1 c2
    go_wp2_with (fail)
    refine (First_ok _ _ _ p _ Hu.out Hok.out).mono ?_
    rintro e w4 ⟨ua, rfl, ma, hua, hma, he4⟩
    have X4 := hid (X3.out.ext he4)
    have He4 := hid (He3.out.trans he4)
    have HR4 := hid (HR3.out.ext he4)
    have HC4 := hid (heap_ext HC3.out he4)
    have hla := hma.len
    have hua1 := hua.ints (by omega)
    obtain ⟨-, aoa, capa, rfl, -⟩ := id hua1
    have HUa := hid hua1
    have HMa := hid hma
    obtain ⟨c0, c1, c2⟩ := X4.out.cells
    clear he4 hua hua1 hma Hu hla
    go_wp2_with (fail)
    refine (Of_any _ _ _ p _ (HP.out.ext He4.out)).mono ?_
    rintro e w5 ⟨uh, us, up, rfl, hu, he5⟩
    have X5 := hid (X4.out.ext he5)
    have Hu := hid hu.planR
    rw [Hcut.out] at Hu
    have He5 := hid (He4.out.trans he5)
    have HR5 := hid (HR4.out.ext he5)
    have HC5 := hid (heap_ext HC4.out he5)
    have HUa5 := hid (HUa.out.ext he5)
    clear hu he5 c0 c1 c2
    go_wp2_with (fail)
    refine (Last_ok _ _ _ p _ Hu.out Hok.out).mono ?_
    rintro e w6 ⟨ub, rfl, mb, hub, hmb, he6⟩
    have X6 := hid (X5.out.ext he6)
    have He6 := hid (He5.out.trans he6)
    have HR6 := hid (HR5.out.ext he6)
    have HC6 := hid (heap_ext HC5.out he6)
    have HUa6 := hid (HUa5.out.ext he6)
    have hlb := hmb.len
    have hub1 := hub.ints (by omega)
    obtain ⟨-, aob, capb, rfl, -⟩ := id hub1
    have HUb6 := hid hub1
    have hyb : hasL L mb = true := hasL_iff.2 (by rw [HL.out]; exact stAll_last hmb)
    have hya : hasL L ma = true := hasL_iff.2 (by rw [HL.out]; exact stAll_first HMa.out)
    have d0 := cell_of_one HC6.out
    clear he6 hub hub1 hmb Hu hlb
    go_wp2_with (fail)
    refine (has_any _ _ _ L ma _ (cell_of_one HC6.out) HR6.out HUa6.out).mono ?_
    rw [hya]
    rintro e w7 ⟨rfl, he7⟩
    have X7 := hid (X6.out.ext he7)
    have He7 := hid (He6.out.trans he7)
    have HR7 := hid (HR6.out.ext he7)
    have HC7 := hid (heap_ext HC6.out he7)
    have HUb7 := hid (HUb6.out.ext he7)
    clear he7 d0 hya
    go_wp2_with (fail)
    refine (has_any _ _ _ L mb _ (cell_of_one HC7.out) HR7.out HUb7.out).mono ?_
    rw [hyb]
    rintro e w8 ⟨rfl, he8⟩
    have X8 := hid (X7.out.ext he8)
    have He8 := hid (He7.out.trans he8)
    have HR8 := hid (HR7.out.ext he8)
    have HC8 := hid (heap_ext HC7.out he8)
    have d0 := cell_of_one HC8.out
    clear he8 hyb hmf
    go_wp2
    clear d0
    go_loopg [76] L.length (fun g i wr => ∃ k : Nat, k + g = L.length ∧ i = .int .i64 k ∧ Hid (Ext w8 wr))
    case atStart => exact ⟨0, by omega, rfl, Ext.refl _⟩
    case round =>
      obtain ⟨k, hk, rfl, E0⟩ := hrel
      have hkl : k ≤ L.length := by omega
      have Hk := hid hk
      have HE0 := hid (He8.out.trans E0.out)
      obtain ⟨c0, c1, c2⟩ := (X8.out.ext E0.out).cells
      clear hk
      by_cases hlt : k < L.length
      · obtain ⟨-, ar, cr, hrow, hri⟩ := HR8.out.row k hlt
        have dr := hrow _ E0.out
        have Hst := hid (hLm.out k hlt)
        have Hri := hid hri
        clear hrow hri
        go_wp2_with (fail)
        refine (Of_any _ _ _ p _ (HP.out.ext HE0.out)).mono ?_
        rintro e w9 ⟨uh, us, up, rfl, hu, he9⟩
        have Hu := hid hu.planR
        rw [Hcut.out] at Hu
        have HE9 := hid (E0.out.trans he9)
        clear hu he9 c0 c1 c2
        go_wp2_with (fail)
        refine (Blocks_ok _ _ _ _ p Hok.out (rowAt L k) _ Hu.out (Hri.out.ext HE9.out) Hst.out.mat).mono ?_
        rintro e w10 ⟨uc, rfl, huc, he10⟩
        rw [(blk_none Hst.out.mat).2 Hst.out] at huc
        obtain ⟨ac, cc, rfl⟩ := own_len huc
        have HE10 := hid (HE9.out.trans he10)
        clear huc he10 Hu dr
        go_wp2
        go_roundg (gk - 1)
        case rel => exact ⟨k + 1, by have := Hk.out; omega, by go_num, HE10⟩
        case measure => have := Hk.out; omega
      · go_wp2_with (fail)
        refine (Of_any _ _ _ p _ (HP.out.ext HE0.out)).mono ?_
        rintro e w9 ⟨uh, us, up, rfl, hu, he9⟩
        have Hu := hid hu.planR
        rw [Hcut.out] at Hu
        have HE9 := hid (E0.out.trans he9)
        clear hu he9 c0 c1 c2
        go_wp2_with (fail)
        refine (list_any _ m _ (HM.out.ext (He8.out.trans HE9.out))).mono ?_
        rintro e w10 ⟨uc, rfl, huc, he10⟩
        obtain ⟨m9, hm9⟩ : ∃ m9, m9 = m.take 9 := ⟨_, rfl⟩
        have hm9l : m9.length ≤ 9 := by rw [hm9]; simp; omega
        rw [← hm9] at huc
        have Hm9 := hid hm9
        have huci := huc.ints (by omega)
        have HE10 := hid (HE9.out.trans he10)
        have Hu10 := hid (Hu.out.ext he10)
        have Hc10 := hid huci
        obtain ⟨-, ac, cc, rfl, -⟩ := id huci
        clear huc huci he10 Hu hm9
        go_wp2_with (fail)
        cases hmb : matB p Hok.out m9
        · refine (Blocks_no _ _ _ _ p Hok.out m9 _ Hu10.out Hc10.out hmb).mono ?_
          rintro e w11 ⟨rfl, he11⟩
          have HE11 := hid ((He8.out.trans HE10.out).trans he11)
          clear he11
          go_wp2_with (fail)
          refine (awake_any _).mono ?_
          rintro e w12 ⟨rfl, he12⟩
          have HE12 := hid (HE11.out.trans he12)
          clear he12
          go_wp2
          go_ret
          exact ⟨rfl, HE12.out⟩
        · have hmat := matB_iff.1 hmb
          have htk : m9 = m := by
            have h1 := hmat.1
            rw [Hm9.out, List.length_take] at h1
            rw [Hm9.out]
            exact List.take_of_length_le (by omega)
          have Hmat := hid hmat
          refine (Blocks_ok _ _ _ _ p Hok.out m9 _ Hu10.out Hc10.out hmat).mono ?_
          rintro e w11 ⟨ud, rfl, hud, he11⟩
          obtain ⟨ad, cd, rfl⟩ := own_len hud
          have hz := blk_len_zero Hmat.out
          rw [htk, ← hasL_st HL.out m] at hz
          rw [htk]
          have HE11 := hid (HE10.out.trans he11)
          have d0 := cell_of_one (heap_ext HC8.out HE11.out)
          have heq : (hasL L m == hasL L m) = true := by simp
          clear hud he11 hmat hmb htk
          generalize (blkAll p Hok.out m).length = K at *
          go_wp2_with (fail)
          refine (has_any _ _ _ L m _ d0 (HR8.out.ext HE11.out) (HM.out.ext (He8.out.trans HE11.out))).mono ?_
          rintro e w12 ⟨rfl, he12⟩
          have HE12 := hid ((He8.out.trans HE11.out).trans he12)
          clear he12 d0
          go_wp2_with (fail)
          refine (awake_any _).mono ?_
          rintro e w13 ⟨rfl, he13⟩
          have HE13 := hid (HE12.out.trans he13)
          clear he13
          go_wp2
          go_ret
          exact ⟨rfl, HE13.out⟩

end Go.Proofs.Ytkdfbbkonbgfmaa
