/-
  The statement TurnsLattice: its walk.
-/
import Derived.Test.YtkdfbbkonbgfmaaLatPlain
import Derived.Test.YtkdfbbkonbgfmaaCombine
import Derived.Test.YtkdfbbkonbgfmaaLastTop
import Derived.Laws.EntriesVeiled
namespace Go.Proofs.Ytkdfbbkonbgfmaa
open Go.RowKit

theorem EqualE_any (va vb : Value) (xs ys : List Int) (w : World) (hx : Ints w va xs) (hy : Ints w vb ys) :
    Calls Try.prog 24 #[va, vb] w fun e w' => e = .returned (.bool (eqI xs ys)) ∧ Ext w w' := by
  refine (Equal_any va vb xs ys w hx hy).mono ?_
  rintro e w1 ⟨rfl, n, rfl⟩
  exact ⟨rfl, (Ext.refl _).drewN _⟩
theorem eqI_self3 (a : List Int) : eqI a a = true := by unfold eqI; exact decide_eq_true rfl

set_option maxRecDepth 20000 in
set_option maxHeartbeats 4000000 in
theorem TurnsLattice_any (vh vs vp : Value) (p : PlanD) (i j k : Int) (w : World) (hp : PlanR w vh vs vp p) :
    Calls Try.prog 15 #[.agg #[vh, vs, vp], .int .i64 i, .int .i64 j, .int .i64 k] w fun e w' => e = .returned (.bool true) ∧ Ext w w' := by
  obtain ⟨aoh, caph, aos, caps, aop, capp, rfl, rfl, rfl⟩ := planR_shape hp
  have HP := hid hp
  have X0 := Box3.alloc w 25 (.slice aoh p.hands.length caph) (.slice aos p.shifts.length caps) (.slice aop p.places.length capp)
  clear hp
  cases hb : planOk (cutP p)
  · have hbp : planOk p = false := by rw [← planOk_cut]; exact hb
    go_enter Try.func15, Try.ntmps15
    go_wp2_with (fail)
    refine (Of_any _ _ _ p _ (HP.out.ext (Ext.ofAlloc w _))).mono ?_
    rintro e w1 ⟨uh, us, up, rfl, hu, he1⟩
    have X1 := hid (X0.ext he1)
    have E1 := hid ((Ext.ofAlloc w _).trans he1)
    clear he1
    obtain ⟨c0, c1, c2⟩ := X1.out.cells
    have HU := hid hu
    clear hu
    go_wp2_with (fail)
    refine (Stable_bad _ _ _ _ _ HU.out.planR hb).mono ?_
    rintro e w2 ⟨rfl, he2⟩
    clear c0 c1 c2
    have X2 := hid (X1.out.ext he2)
    have E2 := hid (E1.out.trans he2)
    clear he2
    obtain ⟨c0, c1, c2⟩ := X2.out.cells
    go_wp2_with (fail)
    refine (awake_any _).mono ?_
    rintro e w3 ⟨rfl, he3⟩
    clear c0 c1 c2
    have E3 := hid (E2.out.trans he3)
    clear he3
    go_wp2
    go_ret
    exact ⟨rfl, E3.out⟩
  · have hok := planOk_iff.1 hb
    have hcut := cutP_id hok
    rw [hcut] at hok hb
    have Hok := hid hok
    have Hcut := hid hcut
    have Hb := hid hb
    have hn1 := hok.h1
    have hn6 := hok.h6
    have hs1 := hok.s1
    have hs4 := hok.s4
    clear hok hcut hb
    have hmf : ∀ (fn : Fn) (first cap : Array Value) (w : World), (Instr.makeFunc fn first cap).run Try.prog w = .ok (.func fn first cap) w := fun _ _ _ _ => rfl
    go_enter Try.func15, Try.ntmps15
    go_wp2_with (fail)
    refine (Of_any _ _ _ p _ (HP.out.ext (Ext.ofAlloc w _))).mono ?_
    rintro e w1 ⟨uh, us, up, rfl, hu, he1⟩
    have X1 := hid (X0.ext he1)
    have E1 := hid ((Ext.ofAlloc w _).trans he1)
    clear he1
    obtain ⟨c0, c1, c2⟩ := X1.out.cells
    have HU := hid hu.planR
    rw [Hcut.out] at HU
    clear hu
    go_wp2_with (fail)
    refine (Stable_ok _ _ _ p _ HU.out Hok.out).mono ?_
    rintro e w2 ⟨ul, rfl, hul, he2⟩
    obtain ⟨L, hL⟩ : ∃ L, L = stAll p Hok.out := ⟨_, rfl⟩
    rw [← hL] at hul
    have HL := hid hL
    have hL1 : 0 < L.length := by rw [hL]; exact stAll_pos
    have hL2 : L.length ≤ 15625 := by rw [hL]; exact stAll_le
    have hLs : Hid (∀ k : Nat, k < L.length → StL p Hok.out (rowAt L k)) := fun k hk => mem_stAll.1 (show rowAt L k ∈ stAll p Hok.out by rw [← hL]; exact rowAt_mem (Int.natCast_nonneg k) (by exact_mod_cast hk))
    have hr := hul.rows2 (by omega)
    obtain ⟨-, aol, capl, rfl, -⟩ := id hr
    obtain ⟨bl, ol, -, -, rfl, -, -⟩ := hr.at 0 (by omega) (by omega)
    have hlz : ((L.length : Int) == 0) = false := beq_eq_false_iff_ne.2 (by omega)
    have hn0 : ¬ (L.length : Int) = 0 := by omega
    clear hul hL
    clear c0 c1 c2
    have X2 := hid (X1.out.ext he2)
    have E2 := hid (E1.out.trans he2)
    clear he2
    obtain ⟨c0, c1, c2⟩ := X2.out.cells
    have R_2 := hid (hr)
    clear hr
    go_wp2_with (fail)
    refine (Of_any _ _ _ p _ (HP.out.ext E2.out)).mono ?_
    rintro e w3 ⟨uh, us, up, rfl, hu, he3⟩
    clear c0 c1 c2
    have X3 := hid (X2.out.ext he3)
    have R_3 := hid (R_2.out.ext he3)
    have E3 := hid (E2.out.trans he3)
    clear he3
    obtain ⟨c0, c1, c2⟩ := X3.out.cells
    have hu2 := hu.planR
    rw [Hcut.out] at hu2
    have P_3 := hid (hu2)
    clear hu hu2
    go_wp2_with (fail)
    refine (First_ok _ _ _ p _ P_3.out Hok.out).mono ?_
    rintro e w4 ⟨ua, rfl, ma, hua, hma, he4⟩
    have hua1 := hua.ints (by rw [hma.len]; omega)
    obtain ⟨-, aoa, capa, rfl, -⟩ := id hua1
    have HMa := hid hma
    clear hua hma
    clear c0 c1 c2
    have X4 := hid (X3.out.ext he4)
    have R_4 := hid (R_3.out.ext he4)
    have P_4 := hid (P_3.out.ext he4)
    have E4 := hid (E3.out.trans he4)
    clear he4
    obtain ⟨c0, c1, c2⟩ := X4.out.cells
    have F_4 := hid (hua1)
    clear hua1
    go_wp2_with (fail)
    refine (Of_any _ _ _ p _ (HP.out.ext E4.out)).mono ?_
    rintro e w5 ⟨uh, us, up, rfl, hu, he5⟩
    clear c0 c1 c2
    have X5 := hid (X4.out.ext he5)
    have R_5 := hid (R_4.out.ext he5)
    have F_5 := hid (F_4.out.ext he5)
    have E5 := hid (E4.out.trans he5)
    clear he5
    obtain ⟨c0, c1, c2⟩ := X5.out.cells
    have hu2 := hu.planR
    rw [Hcut.out] at hu2
    have P_5 := hid (hu2)
    clear hu hu2
    go_wp2_with (fail)
    refine (Last_ok _ _ _ p _ P_5.out Hok.out).mono ?_
    rintro e w6 ⟨ub, rfl, mb, hub, hmb, he6⟩
    have hub1 := hub.ints (by rw [hmb.len]; omega)
    obtain ⟨-, aob, capb, rfl, -⟩ := id hub1
    have HMb := hid hmb
    clear hub hmb
    clear c0 c1 c2
    have X6 := hid (X5.out.ext he6)
    have R_6 := hid (R_5.out.ext he6)
    have F_6 := hid (F_5.out.ext he6)
    have P_6 := hid (P_5.out.ext he6)
    have E6 := hid (E5.out.trans he6)
    clear he6
    obtain ⟨c0, c1, c2⟩ := X6.out.cells
    have G_6 := hid (hub1)
    clear hub1
    obtain ⟨xi, hxi, hxin⟩ := hmod2 i L.length hL1 hL2
    obtain ⟨xj, hxj, hxjn⟩ := hmod2 j L.length hL1 hL2
    obtain ⟨xk, hxk, hxkn⟩ := hmod2 k L.length hL1 hL2
    have hLn : ¬ L = [] := by intro h; rw [h] at hL1; simp at hL1
    have hw1 : IntKind.i64.wrap (1 + (xk : Int)) = 1 + xk := by rw [IntKind.wrap_i64]; omega
    have hwr : IntKind.u64.wrap (L.length : Int) = (L.length : Int) := by rw [IntKind.wrap_u64]; omega
    have hxil : (xi : Int) < L.length := by omega
    have hxjl : (xj : Int) < L.length := by omega
    have hxkl : (xk : Int) < L.length := by omega
    obtain ⟨-, ari, cri, hrowi, hrii⟩ := R_6.out.row xi hxin
    obtain ⟨-, arj, crj, hrowj, hrij⟩ := R_6.out.row xj hxjn
    have di := hrowi _ (Ext.refl _)
    have dj := hrowj _ (Ext.refl _)
    have Si := hid (hLs.out xi hxin)
    have Sj := hid (hLs.out xj hxjn)
    have A_6 := hid (hrii)
    have B_6 := hid (hrij)
    clear hrowi hrowj hrii hrij
    generalize rowAt L xi = a at *
    generalize rowAt L xj = b at *
    go_wp2
    refine wp_region_held_drew (S := (fun w' => w'.cell? ⟨bl, ol + xi, none⟩ = some (.slice ari a.length cri) ∧ w'.cell? ⟨bl, ol + xj, none⟩ = some (.slice arj b.length crj))) (by kernel_rfl) ?hSa0 (fun hHeld => ?_)
    case hSa0 => (first | (exact ⟨di, dj⟩) | ((try dsimp only); exact ⟨di, dj⟩))
    refine wpAnyH_tk 0 (v := ?va0) rfl (by kernel_rfl) (by kernel_rfl) (by kernel_rfl) (fun _ _ _ h => h) (by rfl) ?hya0 (by assumption) ?_
    case hya0 => (intro w hSw; (try dsimp only at hSw); go_simp <;> with_reducible rfl)
    (try simp only [Act.put, List.setIfInBounds_toArray, List.set_cons_zero, List.set_cons_succ])
    refine wpAnyH_tk 1 (v := ?va1) rfl (by kernel_rfl) (by kernel_rfl) (by kernel_rfl) (fun _ _ _ h => h) (by rfl) ?hya1 (by assumption) ?_
    case hya1 => (intro w hSw; (try dsimp only at hSw); go_simp <;> with_reducible rfl)
    (try simp only [Act.put, List.setIfInBounds_toArray, List.set_cons_zero, List.set_cons_succ])
    refine wpAnyH_tk 2 (v := ?va2) rfl (by kernel_rfl) (by kernel_rfl) (by kernel_rfl) (fun _ _ _ h => h) (by rfl) ?hya2 (by assumption) ?_
    case hya2 => (intro w hSw; (try dsimp only at hSw); go_simp <;> with_reducible rfl)
    (try simp only [Act.put, List.setIfInBounds_toArray, List.set_cons_zero, List.set_cons_succ])
    refine wpAnyH_tk 3 (v := ?va3) rfl (by kernel_rfl) (by kernel_rfl) (by kernel_rfl) (fun _ _ _ h => h) (by rfl) ?hya3 (by assumption) ?_
    case hya3 => (intro w hSw; (try dsimp only at hSw); go_simp <;> with_reducible rfl)
    (try simp only [Act.put, List.setIfInBounds_toArray, List.set_cons_zero, List.set_cons_succ])
    refine wpAnyH_tk 4 (v := ?va4) rfl (by kernel_rfl) (by kernel_rfl) (by kernel_rfl) (fun _ _ _ h => h) (by rfl) ?hya4 (by assumption) ?_
    case hya4 => (intro w hSw; (try dsimp only at hSw); go_simp <;> with_reducible rfl)
    (try simp only [Act.put, List.setIfInBounds_toArray, List.set_cons_zero, List.set_cons_succ])
    refine wpAnyH_tk 5 (v := ?va5) rfl (by kernel_rfl) (by kernel_rfl) (by kernel_rfl) (fun _ _ _ h => h) (by rfl) ?hya5 (by assumption) ?_
    case hya5 => (intro w hSw; (try dsimp only at hSw); go_simp <;> with_reducible rfl)
    (try simp only [Act.put, List.setIfInBounds_toArray, List.set_cons_zero, List.set_cons_succ])
    refine wpAnyH_tk 6 (v := ?va6) rfl (by kernel_rfl) (by kernel_rfl) (by kernel_rfl) (fun _ _ _ h => h) (by rfl) ?hya6 (by assumption) ?_
    case hya6 => (intro w hSw; (try dsimp only at hSw); go_simp <;> with_reducible rfl)
    (try simp only [Act.put, List.setIfInBounds_toArray, List.set_cons_zero, List.set_cons_succ])
    refine wpAnyH_tk 7 (v := ?va7) rfl (by kernel_rfl) (by kernel_rfl) (by kernel_rfl) (fun _ _ _ h => h) (by rfl) ?hya7 (by assumption) ?_
    case hya7 => (intro w hSw; (try dsimp only at hSw); go_simp <;> with_reducible rfl)
    (try simp only [Act.put, List.setIfInBounds_toArray, List.set_cons_zero, List.set_cons_succ])
    refine wpAnyH_tk 8 (v := ?va8) rfl (by kernel_rfl) (by kernel_rfl) (by kernel_rfl) (fun _ _ _ h => h) (by rfl) ?hya8 (by assumption) ?_
    case hya8 => (intro w hSw; (try dsimp only at hSw); go_simp <;> with_reducible rfl)
    (try simp only [Act.put, List.setIfInBounds_toArray, List.set_cons_zero, List.set_cons_succ])
    refine wpAnyH_tk 9 (v := ?va9) rfl (by kernel_rfl) (by kernel_rfl) (by kernel_rfl) (fun _ _ _ h => h) (by rfl) ?hya9 (by assumption) ?_
    case hya9 => (intro w hSw; (try dsimp only at hSw); go_simp <;> with_reducible rfl)
    (try simp only [Act.put, List.setIfInBounds_toArray, List.set_cons_zero, List.set_cons_succ])
    refine wpAnyH_tk 10 (v := ?va10) rfl (by kernel_rfl) (by kernel_rfl) (by kernel_rfl) (fun _ _ _ h => h) (by rfl) ?hya10 (by assumption) ?_
    case hya10 => (intro w hSw; (try dsimp only at hSw); go_simp <;> with_reducible rfl)
    (try simp only [Act.put, List.setIfInBounds_toArray, List.set_cons_zero, List.set_cons_succ])
    refine wpAnyH_tk 11 (v := ?va11) rfl (by kernel_rfl) (by kernel_rfl) (by kernel_rfl) (fun _ _ _ h => h) (by rfl) ?hya11 (by assumption) ?_
    case hya11 => (intro w hSw; (try dsimp only at hSw); go_simp <;> with_reducible rfl)
    (try simp only [Act.put, List.setIfInBounds_toArray, List.set_cons_zero, List.set_cons_succ])
    refine wpAnyH_tk 12 (v := ?va12) rfl (by kernel_rfl) (by kernel_rfl) (by kernel_rfl) (fun _ _ _ h => h) (by rfl) ?hya12 (by assumption) ?_
    case hya12 => (intro w hSw; (try dsimp only at hSw); go_simp <;> with_reducible rfl)
    (try simp only [Act.put, List.setIfInBounds_toArray, List.set_cons_zero, List.set_cons_succ])
    refine wpAnyH_tk 13 (v := ?va13) rfl (by kernel_rfl) (by kernel_rfl) (by kernel_rfl) (fun _ _ _ h => h) (by rfl) ?hya13 (by assumption) ?_
    case hya13 => (intro w hSw; (try dsimp only at hSw); go_simp <;> with_reducible rfl)
    (try simp only [Act.put, List.setIfInBounds_toArray, List.set_cons_zero, List.set_cons_succ])
    refine wpAnyH_tk 14 (v := ?va14) rfl (by kernel_rfl) (by kernel_rfl) (by kernel_rfl) (fun _ _ _ h => h) (by rfl) ?hya14 (by assumption) ?_
    case hya14 => (intro w hSw; (try dsimp only at hSw); go_simp <;> with_reducible rfl)
    (try simp only [Act.put, List.setIfInBounds_toArray, List.set_cons_zero, List.set_cons_succ])
    refine wpAnyH_tk 15 (v := ?va15) rfl (by kernel_rfl) (by kernel_rfl) (by kernel_rfl) (fun _ _ _ h => h) (by rfl) ?hya15 (by assumption) ?_
    case hya15 => (intro w hSw; (try dsimp only at hSw); go_simp <;> with_reducible rfl)
    (try simp only [Act.put, List.setIfInBounds_toArray, List.set_cons_zero, List.set_cons_succ])
    refine wpAnyH_tk 16 (v := ?va16) rfl (by kernel_rfl) (by kernel_rfl) (by kernel_rfl) (fun _ _ _ h => h) (by rfl) ?hya16 (by assumption) ?_
    case hya16 => (intro w hSw; (try dsimp only at hSw); go_simp <;> with_reducible rfl)
    (try simp only [Act.put, List.setIfInBounds_toArray, List.set_cons_zero, List.set_cons_succ])
    refine wpAnyH_tk 17 (v := ?va17) rfl (by kernel_rfl) (by kernel_rfl) (by kernel_rfl) (fun _ _ _ h => h) (by rfl) ?hya17 (by assumption) ?_
    case hya17 => (intro w hSw; (try dsimp only at hSw); go_simp <;> with_reducible rfl)
    (try simp only [Act.put, List.setIfInBounds_toArray, List.set_cons_zero, List.set_cons_succ])
    refine wpAnyH_tk 18 (v := ?va18) rfl (by kernel_rfl) (by kernel_rfl) (by kernel_rfl) (fun _ _ _ h => h) (by rfl) ?hya18 (by assumption) ?_
    case hya18 => (intro w hSw; (try dsimp only at hSw); go_simp <;> with_reducible rfl)
    (try simp only [Act.put, List.setIfInBounds_toArray, List.set_cons_zero, List.set_cons_succ])
    refine wpAnyH_tk 19 (v := ?va19) rfl (by kernel_rfl) (by kernel_rfl) (by kernel_rfl) (fun _ _ _ h => h) (by rfl) ?hya19 (by assumption) ?_
    case hya19 => (intro w hSw; (try dsimp only at hSw); go_simp <;> with_reducible rfl)
    (try simp only [Act.put, List.setIfInBounds_toArray, List.set_cons_zero, List.set_cons_succ])
    refine wpAnyH_done (by kernel_rfl) ?_ _
    clear di dj
    clear c0 c1 c2
    have ed := hid ((Ext.refl w6).drew)
    have X7 := hid (X6.out.ext ed.out)
    have R_7 := hid (R_6.out.ext ed.out)
    have F_7 := hid (F_6.out.ext ed.out)
    have G_7 := hid (G_6.out.ext ed.out)
    have A_7 := hid (A_6.out.ext ed.out)
    have B_7 := hid (B_6.out.ext ed.out)
    have E7 := hid (E6.out.trans ed.out)
    obtain ⟨c0, c1, c2⟩ := X7.out.cells
    go_wp2_with (fail)
    refine (Of_any _ _ _ p _ (HP.out.ext E7.out)).mono ?_
    rintro e w8 ⟨uh, us, up, rfl, hu, he8⟩
    clear c0 c1 c2
    have X8 := hid (X7.out.ext he8)
    have R_8 := hid (R_7.out.ext he8)
    have F_8 := hid (F_7.out.ext he8)
    have G_8 := hid (G_7.out.ext he8)
    have A_8 := hid (A_7.out.ext he8)
    have B_8 := hid (B_7.out.ext he8)
    have E8 := hid (E7.out.trans he8)
    clear he8
    obtain ⟨c0, c1, c2⟩ := X8.out.cells
    have hu2 := hu.planR
    rw [Hcut.out] at hu2
    have P_8 := hid (hu2)
    clear hu hu2
    go_wp2_with (fail)
    refine (Join_ok _ _ _ _ _ p Hok.out a b _ P_8.out A_8.out B_8.out Si.out Sj.out).mono ?_
    rintro e w9 ⟨ux, rfl, hux, he9⟩
    have hx2 := hux.ints (by rw [joinL_len]; omega)
    have Hx := hid (joinL_st Si.out Sj.out)
    obtain ⟨-, aox, capx, rfl, -⟩ := id hx2
    generalize joinL p a b = x at *
    clear hux
    clear c0 c1 c2
    have X9 := hid (X8.out.ext he9)
    have R_9 := hid (R_8.out.ext he9)
    have F_9 := hid (F_8.out.ext he9)
    have G_9 := hid (G_8.out.ext he9)
    have A_9 := hid (A_8.out.ext he9)
    have B_9 := hid (B_8.out.ext he9)
    have P_9 := hid (P_8.out.ext he9)
    have E9 := hid (E8.out.trans he9)
    clear he9
    obtain ⟨c0, c1, c2⟩ := X9.out.cells
    have X3_9 := hid (hx2)
    clear hx2
    go_wp2_with (fail)
    refine (Of_any _ _ _ p _ (HP.out.ext E9.out)).mono ?_
    rintro e w10 ⟨uh, us, up, rfl, hu, he10⟩
    clear c0 c1 c2
    have X10 := hid (X9.out.ext he10)
    have R_10 := hid (R_9.out.ext he10)
    have F_10 := hid (F_9.out.ext he10)
    have G_10 := hid (G_9.out.ext he10)
    have A_10 := hid (A_9.out.ext he10)
    have B_10 := hid (B_9.out.ext he10)
    have X3_10 := hid (X3_9.out.ext he10)
    have E10 := hid (E9.out.trans he10)
    clear he10
    obtain ⟨c0, c1, c2⟩ := X10.out.cells
    have hu2 := hu.planR
    rw [Hcut.out] at hu2
    have P_10 := hid (hu2)
    clear hu hu2
    go_wp2_with (fail)
    refine (Meet_ok _ _ _ _ _ p Hok.out a b _ P_10.out A_10.out B_10.out Si.out Sj.out).mono ?_
    rintro e w11 ⟨uy, rfl, huy, he11⟩
    have hy2 := huy.ints (by rw [meetL_len]; omega)
    have Hy := hid (meetL_st Si.out Sj.out)
    obtain ⟨-, aoy, capy, rfl, -⟩ := id hy2
    generalize meetL p a b = y at *
    clear huy
    clear c0 c1 c2
    have X11 := hid (X10.out.ext he11)
    have R_11 := hid (R_10.out.ext he11)
    have F_11 := hid (F_10.out.ext he11)
    have G_11 := hid (G_10.out.ext he11)
    have A_11 := hid (A_10.out.ext he11)
    have B_11 := hid (B_10.out.ext he11)
    have X3_11 := hid (X3_10.out.ext he11)
    have P_11 := hid (P_10.out.ext he11)
    have E11 := hid (E10.out.trans he11)
    clear he11
    obtain ⟨c0, c1, c2⟩ := X11.out.cells
    have Y3_11 := hid (hy2)
    clear hy2
    go_wp2
    refine wp_region_held_drew (S := (fun w' => w'.cell? ⟨w.heap.size, 0, none⟩ = some (.slice aoh p.hands.length caph) ∧ w'.cell? ⟨w.heap.size, 1, none⟩ = some (.slice aos p.shifts.length caps) ∧ w'.cell? ⟨w.heap.size, 2, none⟩ = some (.slice aop p.places.length capp))) (by kernel_rfl) ?hSb0 (fun hHeld => ?_)
    case hSb0 => (first | (exact ⟨c0, c1, c2⟩) | ((try dsimp only); exact ⟨c0, c1, c2⟩))
    refine wpAnyH_tk 0 (v := ?vb0) rfl (by kernel_rfl) (by kernel_rfl) (by kernel_rfl) (fun _ _ _ h => h) (by rfl) ?hyb0 (by assumption) ?_
    case hyb0 => (intro w hSw; (try dsimp only at hSw); go_simp <;> with_reducible rfl)
    (try simp only [Act.put, List.setIfInBounds_toArray, List.set_cons_zero, List.set_cons_succ])
    refine wpAnyH_tk 2 (v := ?vb2) rfl (by kernel_rfl) (by kernel_rfl) (by kernel_rfl) (fun _ _ _ h => h) (by rfl) ?hyb2 (by assumption) ?_
    case hyb2 => (intro w hSw; (try dsimp only at hSw); go_simp <;> with_reducible rfl)
    (try simp only [Act.put, List.setIfInBounds_toArray, List.set_cons_zero, List.set_cons_succ])
    refine wpAnyH_tk 3 (v := ?vb3) rfl (by kernel_rfl) (by kernel_rfl) (by kernel_rfl) (fun _ _ _ h => h) (by rfl) ?hyb3 (by assumption) ?_
    case hyb3 => (intro w hSw; (try dsimp only at hSw); go_simp <;> with_reducible rfl)
    (try simp only [Act.put, List.setIfInBounds_toArray, List.set_cons_zero, List.set_cons_succ])
    refine wpAnyH_tk 4 (v := ?vb4) rfl (by kernel_rfl) (by kernel_rfl) (by kernel_rfl) (fun _ _ _ h => h) (by rfl) ?hyb4 (by assumption) ?_
    case hyb4 => (intro w hSw; (try dsimp only at hSw); go_simp <;> with_reducible rfl)
    (try simp only [Act.put, List.setIfInBounds_toArray, List.set_cons_zero, List.set_cons_succ])
    refine wpAnyH_tk 5 (v := ?vb5) rfl (by kernel_rfl) (by kernel_rfl) (by kernel_rfl) (fun _ _ _ h => h) (by rfl) ?hyb5 (by assumption) ?_
    case hyb5 => (intro w hSw; (try dsimp only at hSw); go_simp <;> with_reducible rfl)
    (try simp only [Act.put, List.setIfInBounds_toArray, List.set_cons_zero, List.set_cons_succ])
    refine wpAnyH_tk 6 (v := ?vb6) rfl (by kernel_rfl) (by kernel_rfl) (by kernel_rfl) (fun _ _ _ h => h) (by rfl) ?hyb6 (by assumption) ?_
    case hyb6 => (intro w hSw; (try dsimp only at hSw); go_simp <;> with_reducible rfl)
    (try simp only [Act.put, List.setIfInBounds_toArray, List.set_cons_zero, List.set_cons_succ])
    refine wpAnyH_tk 7 (v := ?vb7) rfl (by kernel_rfl) (by kernel_rfl) (by kernel_rfl) (fun _ _ _ h => h) (by rfl) ?hyb7 (by assumption) ?_
    case hyb7 => (intro w hSw; (try dsimp only at hSw); go_simp <;> with_reducible rfl)
    (try simp only [Act.put, List.setIfInBounds_toArray, List.set_cons_zero, List.set_cons_succ])
    refine wpAnyH_tk 8 (v := ?vb8) rfl (by kernel_rfl) (by kernel_rfl) (by kernel_rfl) (fun _ _ _ h => h) (by rfl) ?hyb8 (by assumption) ?_
    case hyb8 => (intro w hSw; (try dsimp only at hSw); go_simp <;> with_reducible rfl)
    (try simp only [Act.put, List.setIfInBounds_toArray, List.set_cons_zero, List.set_cons_succ])
    refine wpAnyH_one 1 rfl (by kernel_rfl) (by rfl) (fun K hK => ?_)
    go_simp
    (go_at_call 18; refine (Of_any _ _ _ p _ (HP.out.ext E11.out.drew)).mono ?_; rintro e wA ⟨uh, us, up, rfl, hu, heA⟩; have hu2 := hu.planR; rw [Hcut.out] at hu2)
    refine hK.out _ _ ?hSb2 (fun hHeld => ?_)
    case hSb2 => (first | (exact ⟨heA.cell c0, heA.cell c1, heA.cell c2⟩) | ((try dsimp only); exact ⟨heA.cell c0, heA.cell c1, heA.cell c2⟩))
    clear hK K
    (try simp only [Act.put, List.setIfInBounds_toArray, List.set_cons_zero, List.set_cons_succ])
    refine wpAnyH_one 9 rfl (by kernel_rfl) (by rfl) (fun K hK => ?_)
    go_simp
    (go_at_call 46; refine (Middle_ok _ _ _ p Hok.out _ _ hu2 (by omega) (by rw [← HL.out]; omega)).mono ?_; rintro e wB ⟨uz, z, rfl, hz, hmz, heB⟩; have hz2 := hz.ints (by rw [hmz.len]; omega); obtain ⟨-, aoz, capz, rfl, -⟩ := id hz2)
    refine hK.out _ _ ?hSb10 (fun hHeld => ?_)
    case hSb10 => (first | (exact ⟨heB.cell (heA.cell c0), heB.cell (heA.cell c1), heB.cell (heA.cell c2)⟩) | ((try dsimp only); exact ⟨heB.cell (heA.cell c0), heB.cell (heA.cell c1), heB.cell (heA.cell c2)⟩))
    clear hK K
    (try simp only [Act.put, List.setIfInBounds_toArray, List.set_cons_zero, List.set_cons_succ])
    refine wpAnyH_tk 10 (v := ?vb10) rfl (by kernel_rfl) (by kernel_rfl) (by kernel_rfl) (fun _ _ _ h => h) (by rfl) ?hyb10 (by assumption) ?_
    case hyb10 => (intro w hSw; (try dsimp only at hSw); go_simp <;> with_reducible rfl)
    (try simp only [Act.put, List.setIfInBounds_toArray, List.set_cons_zero, List.set_cons_succ])
    refine wpAnyH_tk 11 (v := ?vb11) rfl (by kernel_rfl) (by kernel_rfl) (by kernel_rfl) (fun _ _ _ h => h) (by rfl) ?hyb11 (by assumption) ?_
    case hyb11 => (intro w hSw; (try dsimp only at hSw); go_simp <;> with_reducible rfl)
    (try simp only [Act.put, List.setIfInBounds_toArray, List.set_cons_zero, List.set_cons_succ])
    refine wpAnyH_tk 12 (v := ?vb12) rfl (by kernel_rfl) (by kernel_rfl) (by kernel_rfl) (fun _ _ _ h => h) (by rfl) ?hyb12 (by assumption) ?_
    case hyb12 => (intro w hSw; (try dsimp only at hSw); go_simp <;> with_reducible rfl)
    (try simp only [Act.put, List.setIfInBounds_toArray, List.set_cons_zero, List.set_cons_succ])
    refine wpAnyH_tk 13 (v := ?vb13) rfl (by kernel_rfl) (by kernel_rfl) (by kernel_rfl) (fun _ _ _ h => h) (by rfl) ?hyb13 (by assumption) ?_
    case hyb13 => (intro w hSw; (try dsimp only at hSw); go_simp <;> with_reducible rfl)
    (try simp only [Act.put, List.setIfInBounds_toArray, List.set_cons_zero, List.set_cons_succ])
    refine wpAnyH_tk 14 (v := ?vb14) rfl (by kernel_rfl) (by kernel_rfl) (by kernel_rfl) (fun _ _ _ h => h) (by rfl) ?hyb14 (by assumption) ?_
    case hyb14 => (intro w hSw; (try dsimp only at hSw); go_simp <;> with_reducible rfl)
    (try simp only [Act.put, List.setIfInBounds_toArray, List.set_cons_zero, List.set_cons_succ])
    refine wpAnyH_done (by kernel_rfl) ?_ _
    have Hz := hid (hmz.mem (by rw [← HL.out]; omega))
    clear c0 c1 c2
    have em := hid ((Ext.refl w11).drew.trans (heA.trans heB))
    have X12 := hid (X11.out.ext em.out)
    have R_12 := hid (R_11.out.ext em.out)
    have F_12 := hid (F_11.out.ext em.out)
    have G_12 := hid (G_11.out.ext em.out)
    have A_12 := hid (A_11.out.ext em.out)
    have B_12 := hid (B_11.out.ext em.out)
    have X3_12 := hid (X3_11.out.ext em.out)
    have Y3_12 := hid (Y3_11.out.ext em.out)
    have E12 := hid (E11.out.trans em.out)
    have Z3_12 := hid (hz2)
    clear hz2 hz hmz hu hu2 heA heB
    obtain ⟨d0, d1, d2⟩ := (Box3.alloc wB 23 (.slice aox x.length capx) (.slice aoy y.length capy) (.slice aoz z.length capz)).cells
    have T := hid (Rows2.three d0 d1 d2 (X3_12.out.ext (Ext.ofAlloc wB (.cells #[.slice aox x.length capx, .slice aoy y.length capy, .slice aoz z.length capz] 23))) (Y3_12.out.ext (Ext.ofAlloc wB (.cells #[.slice aox x.length capx, .slice aoy y.length capy, .slice aoz z.length capz] 23))) (Z3_12.out.ext (Ext.ofAlloc wB (.cells #[.slice aox x.length capx, .slice aoy y.length capy, .slice aoz z.length capz] 23))))
    have ea := hid (Ext.ofAlloc wB (.cells #[.slice aox x.length capx, .slice aoy y.length capy, .slice aoz z.length capz] 23))
    have X13 := hid (X12.out.ext ea.out)
    have R_13 := hid (R_12.out.ext ea.out)
    have F_13 := hid (F_12.out.ext ea.out)
    have G_13 := hid (G_12.out.ext ea.out)
    have A_13 := hid (A_12.out.ext ea.out)
    have B_13 := hid (B_12.out.ext ea.out)
    have E13 := hid (E12.out.trans ea.out)
    clear d0 d1 d2 ea
    go_wp2
    generalize wB.alloc (.cells #[.slice aox x.length capx, .slice aoy y.length capy, .slice aoz z.length capz] 23) = W at *
    go_loopg [131] 3 (fun g i wr => ∃ q : Nat, q + g = 3 ∧ i = .int .i64 q ∧ Hid (Ext W wr))
    case atStart => exact ⟨0, by omega, rfl, Ext.refl _⟩
    case round =>
      obtain ⟨q, hq, rfl, E0⟩ := hrel
      have hql : q ≤ 3 := by omega
      have Hq := hid hq
      clear hq
      by_cases hlt : q < 3
      · obtain ⟨-, arq, crq, hrow, hri⟩ := T.out.row q hlt
        have dq := hrow _ E0.out
        rw [Nat.zero_add] at dq
        have Hri := hid (hri.ext E0.out)
        have hmem : rowAt [x, y, z] q ∈ L := by
          rw [HL.out]
          rcases (show q = 0 ∨ q = 1 ∨ q = 2 by omega) with rfl | rfl | rfl
          · exact mem_stAll.2 Hx.out
          · exact mem_stAll.2 Hy.out
          · exact Hz.out
        have Hany := hid (any_eqI2 L _ hmem)
        have HR0 := hid (R_13.out.ext E0.out)
        clear hrow hri hmem
        generalize rowAt [x, y, z] q = mq at *
        go_wp2_with (fail)
        have HC := hid (cell_of_one (heap_alloc_new wr (.cells #[.slice arq mq.length crq] 23)))
        have EA := hid (E0.out.alloc (.cells #[.slice arq mq.length crq] 23))
        have HM := hid (Hri.out.ext (Ext.ofAlloc wr (.cells #[.slice arq mq.length crq] 23)))
        refine (ContainsFuncL_any _ _ L (fun z => eqI z mq) _ (HR0.out.ext (Ext.ofAlloc _ _)) ?_).mono ?_
        · intro u xs w1 he hu
          exact latSame_any _ _ _ mq xs w1 (he.cell HC.out) (HM.out.ext he) hu
        · rw [Hany.out]
          rintro e wC ⟨rfl, heC⟩
          have EC := hid (EA.out.trans heC)
          clear heC dq
          go_wp2
          go_roundg (gk - 1)
          case rel => exact ⟨q + 1, by have := Hq.out; omega, by go_num, EC.out⟩
          case measure => have := Hq.out; omega
      · skip
        clear Hq T
        have el := hid (E0.out)
        have X15 := hid (X13.out.ext el.out)
        have R_15 := hid (R_13.out.ext el.out)
        have F_15 := hid (F_13.out.ext el.out)
        have G_15 := hid (G_13.out.ext el.out)
        have A_15 := hid (A_13.out.ext el.out)
        have B_15 := hid (B_13.out.ext el.out)
        have E15 := hid (E13.out.trans el.out)
        obtain ⟨c0, c1, c2⟩ := X15.out.cells
        go_wp2_with (fail)
        refine (Of_any _ _ _ p _ (HP.out.ext E15.out)).mono ?_
        rintro e w16 ⟨uh, us, up, rfl, hu, he16⟩
        clear c0 c1 c2
        have X16 := hid (X15.out.ext he16)
        have R_16 := hid (R_15.out.ext he16)
        have F_16 := hid (F_15.out.ext he16)
        have G_16 := hid (G_15.out.ext he16)
        have A_16 := hid (A_15.out.ext he16)
        have B_16 := hid (B_15.out.ext he16)
        have E16 := hid (E15.out.trans he16)
        clear he16
        obtain ⟨c0, c1, c2⟩ := X16.out.cells
        have hu2 := hu.planR
        rw [Hcut.out] at hu2
        have P_16 := hid (hu2)
        clear hu hu2
        go_wp2_with (fail)
        refine (Middle_ok _ _ _ p Hok.out 1 _ P_16.out (by decide) (by rw [← HL.out]; omega)).mono ?_
        rintro e w17 ⟨uu1, u1, rfl, hu, hm, he17⟩
        have hu2 := hu.ints (by rw [hm.len]; omega)
        have hqu1 : u1 = ma := mid_first hm HMa.out
        rw [hqu1] at hu2
        obtain ⟨-, aou1, capu1, rfl, -⟩ := id hu2
        clear hu hm hqu1
        clear c0 c1 c2
        have X17 := hid (X16.out.ext he17)
        have R_17 := hid (R_16.out.ext he17)
        have F_17 := hid (F_16.out.ext he17)
        have G_17 := hid (G_16.out.ext he17)
        have A_17 := hid (A_16.out.ext he17)
        have B_17 := hid (B_16.out.ext he17)
        have P_17 := hid (P_16.out.ext he17)
        have E17 := hid (E16.out.trans he17)
        clear he17
        obtain ⟨c0, c1, c2⟩ := X17.out.cells
        have U_17 := hid (hu2)
        clear hu2
        go_wp2_with (fail)
        refine (Of_any _ _ _ p _ (HP.out.ext E17.out)).mono ?_
        rintro e w18 ⟨uh, us, up, rfl, hu, he18⟩
        clear c0 c1 c2
        have X18 := hid (X17.out.ext he18)
        have R_18 := hid (R_17.out.ext he18)
        have F_18 := hid (F_17.out.ext he18)
        have G_18 := hid (G_17.out.ext he18)
        have A_18 := hid (A_17.out.ext he18)
        have B_18 := hid (B_17.out.ext he18)
        have U_18 := hid (U_17.out.ext he18)
        have E18 := hid (E17.out.trans he18)
        clear he18
        obtain ⟨c0, c1, c2⟩ := X18.out.cells
        have hu2 := hu.planR
        rw [Hcut.out] at hu2
        have P_18 := hid (hu2)
        clear hu hu2
        go_wp2_with (fail)
        refine (Middle_ok _ _ _ p Hok.out L.length _ P_18.out (by omega) (by rw [← HL.out]; omega)).mono ?_
        rintro e w19 ⟨uu2, u2, rfl, hu, hm, he19⟩
        have hu2 := hu.ints (by rw [hm.len]; omega)
        have hqu2 : u2 = mb := mid_last (by rw [← HL.out]; rw [← HL.out, show ((L.length : Int) - 1).toNat = L.length - 1 by omega] at hm; exact hm) HMb.out
        rw [hqu2] at hu2
        obtain ⟨-, aou2, capu2, rfl, -⟩ := id hu2
        clear hu hm hqu2
        clear c0 c1 c2
        have X19 := hid (X18.out.ext he19)
        have R_19 := hid (R_18.out.ext he19)
        have F_19 := hid (F_18.out.ext he19)
        have G_19 := hid (G_18.out.ext he19)
        have A_19 := hid (A_18.out.ext he19)
        have B_19 := hid (B_18.out.ext he19)
        have U_19 := hid (U_18.out.ext he19)
        have P_19 := hid (P_18.out.ext he19)
        have E19 := hid (E18.out.trans he19)
        clear he19
        obtain ⟨c0, c1, c2⟩ := X19.out.cells
        have V_19 := hid (hu2)
        clear hu2
        go_wp2_with (fail)
        refine (Of_any _ _ _ p _ (HP.out.ext E19.out)).mono ?_
        rintro e w20 ⟨uh, us, up, rfl, hu, he20⟩
        clear c0 c1 c2
        have X20 := hid (X19.out.ext he20)
        have R_20 := hid (R_19.out.ext he20)
        have F_20 := hid (F_19.out.ext he20)
        have G_20 := hid (G_19.out.ext he20)
        have A_20 := hid (A_19.out.ext he20)
        have B_20 := hid (B_19.out.ext he20)
        have U_20 := hid (U_19.out.ext he20)
        have V_20 := hid (V_19.out.ext he20)
        have E20 := hid (E19.out.trans he20)
        clear he20
        obtain ⟨c0, c1, c2⟩ := X20.out.cells
        have hu2 := hu.planR
        rw [Hcut.out] at hu2
        have P_20 := hid (hu2)
        clear hu hu2
        go_wp2_with (fail)
        refine (Join_ok _ _ _ _ _ p Hok.out ma a _ P_20.out F_20.out A_20.out ⟨HMa.out.len, HMa.out.st⟩ Si.out).mono ?_
        rintro e w21 ⟨us1, rfl, hu, he21⟩
        rw [joinL_first HMa.out Si.out] at hu
        have hu2 := hu.ints (by have := HMa.out.len; omega)
        obtain ⟨-, aos1, caps1, rfl, -⟩ := id hu2
        clear hu
        clear c0 c1 c2
        have X21 := hid (X20.out.ext he21)
        have R_21 := hid (R_20.out.ext he21)
        have F_21 := hid (F_20.out.ext he21)
        have G_21 := hid (G_20.out.ext he21)
        have A_21 := hid (A_20.out.ext he21)
        have B_21 := hid (B_20.out.ext he21)
        have U_21 := hid (U_20.out.ext he21)
        have V_21 := hid (V_20.out.ext he21)
        have P_21 := hid (P_20.out.ext he21)
        have E21 := hid (E20.out.trans he21)
        clear he21
        obtain ⟨c0, c1, c2⟩ := X21.out.cells
        have S_21 := hid (hu2)
        clear hu2
        go_wp2_with (fail)
        refine (Of_any _ _ _ p _ (HP.out.ext E21.out)).mono ?_
        rintro e w22 ⟨uh, us, up, rfl, hu, he22⟩
        clear c0 c1 c2
        have X22 := hid (X21.out.ext he22)
        have R_22 := hid (R_21.out.ext he22)
        have F_22 := hid (F_21.out.ext he22)
        have G_22 := hid (G_21.out.ext he22)
        have A_22 := hid (A_21.out.ext he22)
        have B_22 := hid (B_21.out.ext he22)
        have U_22 := hid (U_21.out.ext he22)
        have V_22 := hid (V_21.out.ext he22)
        have S_22 := hid (S_21.out.ext he22)
        have E22 := hid (E21.out.trans he22)
        clear he22
        obtain ⟨c0, c1, c2⟩ := X22.out.cells
        have hu2 := hu.planR
        rw [Hcut.out] at hu2
        have P_22 := hid (hu2)
        clear hu hu2
        go_wp2_with (fail)
        refine (Meet_ok _ _ _ _ _ p Hok.out mb a _ P_22.out G_22.out A_22.out ⟨HMb.out.len, HMb.out.st⟩ Si.out).mono ?_
        rintro e w23 ⟨ut1, rfl, hu, he23⟩
        rw [meetL_last HMb.out Si.out] at hu
        have hu2 := hu.ints (by have := HMb.out.len; omega)
        obtain ⟨-, aot1, capt1, rfl, -⟩ := id hu2
        clear hu
        clear c0 c1 c2
        have X23 := hid (X22.out.ext he23)
        have R_23 := hid (R_22.out.ext he23)
        have F_23 := hid (F_22.out.ext he23)
        have G_23 := hid (G_22.out.ext he23)
        have A_23 := hid (A_22.out.ext he23)
        have B_23 := hid (B_22.out.ext he23)
        have U_23 := hid (U_22.out.ext he23)
        have V_23 := hid (V_22.out.ext he23)
        have S_23 := hid (S_22.out.ext he23)
        have P_23 := hid (P_22.out.ext he23)
        have E23 := hid (E22.out.trans he23)
        clear he23
        obtain ⟨c0, c1, c2⟩ := X23.out.cells
        have Tt_23 := hid (hu2)
        clear hu2
        go_wp2_with (fail)
        refine (EqualE_any _ _ ma ma _ U_23.out F_23.out).mono ?_
        rw [eqI_self3]
        rintro e w24 ⟨rfl, he24⟩
        clear c0 c1 c2
        have X24 := hid (X23.out.ext he24)
        have R_24 := hid (R_23.out.ext he24)
        have F_24 := hid (F_23.out.ext he24)
        have G_24 := hid (G_23.out.ext he24)
        have A_24 := hid (A_23.out.ext he24)
        have B_24 := hid (B_23.out.ext he24)
        have U_24 := hid (U_23.out.ext he24)
        have V_24 := hid (V_23.out.ext he24)
        have S_24 := hid (S_23.out.ext he24)
        have Tt_24 := hid (Tt_23.out.ext he24)
        have E24 := hid (E23.out.trans he24)
        clear he24
        obtain ⟨c0, c1, c2⟩ := X24.out.cells
        go_wp2_with (fail)
        refine (EqualE_any _ _ mb mb _ V_24.out G_24.out).mono ?_
        rw [eqI_self3]
        rintro e w25 ⟨rfl, he25⟩
        clear c0 c1 c2
        have X25 := hid (X24.out.ext he25)
        have R_25 := hid (R_24.out.ext he25)
        have F_25 := hid (F_24.out.ext he25)
        have G_25 := hid (G_24.out.ext he25)
        have A_25 := hid (A_24.out.ext he25)
        have B_25 := hid (B_24.out.ext he25)
        have U_25 := hid (U_24.out.ext he25)
        have V_25 := hid (V_24.out.ext he25)
        have S_25 := hid (S_24.out.ext he25)
        have Tt_25 := hid (Tt_24.out.ext he25)
        have E25 := hid (E24.out.trans he25)
        clear he25
        obtain ⟨c0, c1, c2⟩ := X25.out.cells
        go_wp2_with (fail)
        refine (EqualE_any _ _ ma ma _ S_25.out F_25.out).mono ?_
        rw [eqI_self3]
        rintro e w26 ⟨rfl, he26⟩
        clear c0 c1 c2
        have X26 := hid (X25.out.ext he26)
        have R_26 := hid (R_25.out.ext he26)
        have F_26 := hid (F_25.out.ext he26)
        have G_26 := hid (G_25.out.ext he26)
        have A_26 := hid (A_25.out.ext he26)
        have B_26 := hid (B_25.out.ext he26)
        have U_26 := hid (U_25.out.ext he26)
        have V_26 := hid (V_25.out.ext he26)
        have S_26 := hid (S_25.out.ext he26)
        have Tt_26 := hid (Tt_25.out.ext he26)
        have E26 := hid (E25.out.trans he26)
        clear he26
        obtain ⟨c0, c1, c2⟩ := X26.out.cells
        go_wp2_with (fail)
        refine (EqualE_any _ _ mb mb _ Tt_26.out G_26.out).mono ?_
        rw [eqI_self3]
        rintro e w27 ⟨rfl, he27⟩
        clear c0 c1 c2
        have X27 := hid (X26.out.ext he27)
        have R_27 := hid (R_26.out.ext he27)
        have F_27 := hid (F_26.out.ext he27)
        have G_27 := hid (G_26.out.ext he27)
        have A_27 := hid (A_26.out.ext he27)
        have B_27 := hid (B_26.out.ext he27)
        have U_27 := hid (U_26.out.ext he27)
        have V_27 := hid (V_26.out.ext he27)
        have S_27 := hid (S_26.out.ext he27)
        have Tt_27 := hid (Tt_26.out.ext he27)
        have E27 := hid (E26.out.trans he27)
        clear he27
        obtain ⟨c0, c1, c2⟩ := X27.out.cells
        go_wp2_with (fail)
        refine (awake_any _).mono ?_
        rintro e w28 ⟨rfl, he28⟩
        clear c0 c1 c2
        have E28 := hid (E27.out.trans he28)
        clear he28
        go_wp2
        go_ret
        exact ⟨rfl, E28.out⟩

end Go.Proofs.Ytkdfbbkonbgfmaa
