/-
  The statement TurnsChains: its walk.
-/
import Derived.Test.YtkdfbbkonbgfmaaChainWalk
import Derived.Test.YtkdfbbkonbgfmaaGood
import Derived.Test.YtkdfbbkonbgfmaaStableTop
import Derived.Test.YtkdfbbkonbgfmaaRefA
namespace Go.Proofs.Ytkdfbbkonbgfmaa
open Go.RowKit

/-- The first places are met or not. -/
def metTo (L : List (List Int)) (f : List Int) (k : Nat) : List Bool := (L.take k).map (fun m => eqI m f) ++ List.replicate (L.length - k) false
theorem metTo_zero (L : List (List Int)) (f : List Int) : metTo L f 0 = List.replicate L.length false := by unfold metTo; simp
theorem metTo_all (L : List (List Int)) (f : List Int) : metTo L f L.length = L.map (fun m => eqI m f) := by unfold metTo; simp
theorem metTo_len {L : List (List Int)} {f : List Int} {k : Nat} (h : k ≤ L.length) : (metTo L f k).length = L.length := by unfold metTo; simp; omega
theorem metTo_set {L : List (List Int)} {f : List Int} {k : Nat} (h : k < L.length) : (metTo L f k).set k (eqI L[k] f) = metTo L f (k + 1) := by
  unfold metTo
  have hl : ((L.take k).map (fun m => eqI m f)).length = k := by simp; omega
  rw [List.set_append_right _ _ (by omega), hl, Nat.sub_self]
  obtain ⟨d, hd⟩ : ∃ d, L.length - k = d + 1 := ⟨L.length - k - 1, by omega⟩
  have hd2 : L.length - (k + 1) = d := by omega
  rw [hd, hd2, List.replicate_succ, List.set_cons_zero, List.take_succ_eq_append_getElem h, List.map_append, List.append_assoc]; rfl
theorem eqI_self6 (a : List Int) : eqI a a = true := by unfold eqI; exact decide_eq_true rfl
theorem eqI_other {a b : List Int} (h : a ≠ b) : eqI a b = false := by unfold eqI; exact decide_eq_false h
theorem hmod2 (h : Int) (n : Nat) (h1 : 1 ≤ n) (h6 : n ≤ 6) : ∃ x : Nat, wrap64 ((IntKind.u64.wrap h).tmod n) = x ∧ x < n := hmod h n h1 h6

set_option maxRecDepth 20000 in
set_option maxHeartbeats 4000000 in
theorem TurnsChains_any (vh vs vp : Value) (p : PlanD) (kI : Int) (w : World) (hp : PlanR w vh vs vp p) :
    Calls Try.prog 16 #[.agg #[vh, vs, vp], .int .i64 kI] w fun e w' => e = .returned (.bool true) ∧ Ext w w' := by
  obtain ⟨aoh, caph, aos, caps, aop, capp, rfl, rfl, rfl⟩ := planR_shape hp
  have HP := hid hp
  have X0 := Box3.alloc w 25 (.slice aoh p.hands.length caph) (.slice aos p.shifts.length caps) (.slice aop p.places.length capp)
  clear hp
  cases hb : planOk (cutP p)
  · have hbp : planOk p = false := by rw [← planOk_cut]; exact hb
    go_enter Try.func16, Try.ntmps16
    go_wp2_with (fail)
    refine (Of_any _ _ _ p _ (HP.out.ext (Ext.ofAlloc w _))).mono ?_
    rintro e w1 ⟨uh, us, up, rfl, hu, he1⟩
    have X1 := hid (X0.ext he1)
    have E1 := hid ((Ext.ofAlloc w _).trans he1)
    clear he1
    obtain ⟨c0, c1, c2⟩ := X1.out.cells
    have HU := hid hu
    clear hu
    go_wp2_with (fail)
    refine (Stable_bad _ _ _ _ _ HU.out.planR hb).mono ?_
    rintro e w2 ⟨rfl, he2⟩
    clear c0 c1 c2
    have X2 := hid (X1.out.ext he2)
    have E2 := hid (E1.out.trans he2)
    clear he2
    obtain ⟨c0, c1, c2⟩ := X2.out.cells
    go_wp2_with (fail)
    refine (Of_any _ _ _ p _ (HP.out.ext E2.out)).mono ?_
    rintro e w3 ⟨uh, us, up, rfl, hu, he3⟩
    clear c0 c1 c2
    have X3 := hid (X2.out.ext he3)
    have E3 := hid (E2.out.trans he3)
    clear he3
    obtain ⟨c0, c1, c2⟩ := X3.out.cells
    have HU := hid hu
    clear hu
    go_wp2_with (fail)
    refine (Covers_bad _ _ _ _ _ HU.out.planR hb).mono ?_
    rintro e w4 ⟨rfl, he4⟩
    clear c0 c1 c2
    have X4 := hid (X3.out.ext he4)
    have E4 := hid (E3.out.trans he4)
    clear he4
    obtain ⟨c0, c1, c2⟩ := X4.out.cells
    go_wp2_with (fail)
    refine (Of_any _ _ _ p _ (HP.out.ext E4.out)).mono ?_
    rintro e w5 ⟨uh, us, up, rfl, hu, he5⟩
    clear c0 c1 c2
    have X5 := hid (X4.out.ext he5)
    have E5 := hid (E4.out.trans he5)
    clear he5
    obtain ⟨c0, c1, c2⟩ := X5.out.cells
    have HU := hid hu
    clear hu
    go_wp2_with (fail)
    refine (First_bad _ _ _ _ _ HU.out.planR hb).mono ?_
    rintro e w6 ⟨rfl, he6⟩
    clear c0 c1 c2
    have X6 := hid (X5.out.ext he6)
    have E6 := hid (E5.out.trans he6)
    clear he6
    obtain ⟨c0, c1, c2⟩ := X6.out.cells
    go_wp2_with (fail)
    refine (awake_any _).mono ?_
    rintro e w7 ⟨rfl, he7⟩
    clear c0 c1 c2
    have E7 := hid (E6.out.trans he7)
    clear he7
    go_wp2
    go_ret
    exact ⟨rfl, E7.out⟩
  · have hok := planOk_iff.1 hb
    have hcut := cutP_id hok
    rw [hcut] at hok hb
    have Hok := hid hok
    have Hcut := hid hcut
    have Hb := hid hb
    have hn1 := hok.h1
    have hn6 := hok.h6
    have hs1 := hok.s1
    have hs4 := hok.s4
    clear hok hcut hb
    have hmk := fun n h1 h2 => run_make_row' (P := Try.prog) 63 4 (.bool false) 1 Try.underlying63 info_bool rfl .i64 .i64 n h1 h2
    have HMK := hid hmk
    clear hmk
    go_enter Try.func16, Try.ntmps16
    go_wp2_with (fail)
    refine (Of_any _ _ _ p _ (HP.out.ext (Ext.ofAlloc w _))).mono ?_
    rintro e w1 ⟨uh, us, up, rfl, hu, he1⟩
    have X1 := hid (X0.ext he1)
    have E1 := hid ((Ext.ofAlloc w _).trans he1)
    clear he1
    obtain ⟨c0, c1, c2⟩ := X1.out.cells
    have HU := hid hu.planR
    rw [Hcut.out] at HU
    clear hu
    go_wp2_with (fail)
    refine (Stable_ok _ _ _ p _ HU.out Hok.out).mono ?_
    rintro e w2 ⟨uL, rfl, huL, he2⟩
    have hrL := huL.rows2 (Nat.le_trans stAll_le (by decide))
    obtain ⟨LL, hLL⟩ : ∃ LL, LL = stAll p Hok.out := ⟨_, rfl⟩
    have hLn : LL.length ≤ 15625 := by rw [hLL]; exact stAll_le
    have hL0 : 0 < LL.length := by rw [hLL]; exact stAll_pos
    rw [← hLL] at hrL
    obtain ⟨-, aL, cL, rfl, -⟩ := id hrL
    have HLL := hid hLL
    clear huL hLL
    clear c0 c1 c2
    have X2 := hid (X1.out.ext he2)
    have E2 := hid (E1.out.trans he2)
    clear he2
    obtain ⟨c0, c1, c2⟩ := X2.out.cells
    have L_2 := hid (hrL)
    clear hrL
    go_wp2_with (fail)
    refine (Of_any _ _ _ p _ (HP.out.ext E2.out)).mono ?_
    rintro e w3 ⟨uh, us, up, rfl, hu, he3⟩
    clear c0 c1 c2
    have X3 := hid (X2.out.ext he3)
    have L_3 := hid (L_2.out.ext he3)
    have E3 := hid (E2.out.trans he3)
    clear he3
    obtain ⟨c0, c1, c2⟩ := X3.out.cells
    have HU := hid hu.planR
    rw [Hcut.out] at HU
    clear hu
    go_wp2_with (fail)
    refine (Covers_ok _ _ _ p Hok.out _ HU.out).mono ?_
    rintro e w4 ⟨uC, rfl, huC, he4⟩
    rw [← HLL.out] at huC
    obtain ⟨cc, hcc⟩ : ∃ cc, cc = prTo (covB p LL) LL.length LL.length := ⟨_, rfl⟩
    have hcl : cc.length ≤ 1000000000 := by have h1 := prTo_len (P := covB p LL) (n := LL.length) (j := LL.length); rw [← hcc] at h1; have h3 : LL.length * LL.length ≤ 15625 * 15625 := Nat.mul_le_mul hLn hLn; omega
    rw [← hcc] at huC
    have hpC := huC.pairs hcl
    obtain ⟨-, aC, cC, rfl, -⟩ := id hpC
    have HCC := hid hcc
    clear huC hcc
    clear c0 c1 c2
    have X4 := hid (X3.out.ext he4)
    have L_4 := hid (L_3.out.ext he4)
    have E4 := hid (E3.out.trans he4)
    clear he4
    obtain ⟨c0, c1, c2⟩ := X4.out.cells
    have C_4 := hid (hpC)
    clear hpC
    go_wp2_with (fail)
    refine (Of_any _ _ _ p _ (HP.out.ext E4.out)).mono ?_
    rintro e w5 ⟨uh, us, up, rfl, hu, he5⟩
    clear c0 c1 c2
    have X5 := hid (X4.out.ext he5)
    have L_5 := hid (L_4.out.ext he5)
    have C_5 := hid (C_4.out.ext he5)
    have E5 := hid (E4.out.trans he5)
    clear he5
    obtain ⟨c0, c1, c2⟩ := X5.out.cells
    have HU := hid hu.planR
    rw [Hcut.out] at HU
    clear hu
    go_wp2_with (fail)
    refine (First_ok _ _ _ p _ HU.out Hok.out).mono ?_
    rintro e w6 ⟨ua, rfl, ma, hua, hma, he6⟩
    have hfi := hua.ints (by have := hma.len; omega)
    obtain ⟨-, aF, cF, rfl, -⟩ := id hfi
    have HMA := hid hma
    have hmal : ma.length ≤ 6 := by have := hma.len; omega
    clear hua hma
    clear c0 c1 c2
    have X6 := hid (X5.out.ext he6)
    have L_6 := hid (L_5.out.ext he6)
    have C_6 := hid (C_5.out.ext he6)
    have E6 := hid (E5.out.trans he6)
    clear he6
    obtain ⟨c0, c1, c2⟩ := X6.out.cells
    have F_6 := hid (hfi)
    clear hfi
    go_wp2_with (fail)
    refine (RValid_any _ _ _ p _ (HP.out.ext E6.out)).mono ?_
    rw [Hb.out]
    rintro e w7 ⟨rfl, he7⟩
    clear c0 c1 c2
    have X7 := hid (X6.out.ext he7)
    have L_7 := hid (L_6.out.ext he7)
    have C_7 := hid (C_6.out.ext he7)
    have F_7 := hid (F_6.out.ext he7)
    have E7 := hid (E6.out.trans he7)
    clear he7
    obtain ⟨c0, c1, c2⟩ := X7.out.cells
    have hmk := HMK.out LL.length (by omega) (by omega)
    go_wp2
    clear c0 c1 c2 hmk
    have hmade : madeCells #[Value.bool false] LL.length = ((List.replicate LL.length false).map Value.bool).toArray := by
      apply Array.ext'
      rw [toList_madeCells_one]; simp
    rw [hmade]
    have hB0 : BBlock (w7.alloc (.cells ((List.replicate LL.length false).map Value.bool).toArray 4)) w7.heap.size (List.replicate LL.length false) := heap_alloc_new w7 _
    have HB0 := hid hB0
    have HEV := hid (Ext.ofAlloc w7 (.cells ((List.replicate LL.length false).map Value.bool).toArray 4))
    obtain ⟨gB, hgB⟩ : ∃ g, g = w7.heap.size := ⟨_, rfl⟩
    rw [← hgB] at HB0 ⊢
    have HgB := hid hgB
    generalize w7.alloc (.cells ((List.replicate LL.length false).map Value.bool).toArray 4) = V at *
    have HB1 : Hid (BBlock V gB (metTo LL ma 0)) := by show BBlock _ _ _; rw [metTo_zero]; exact HB0.out
    clear hmade hB0 hgB HB0
    go_loopg [70] LL.length (fun g i wr => ∃ k : Nat, k + g = LL.length ∧ i = .int .i64 k ∧ Hid (BBlock wr gB (metTo LL ma k)) ∧ Hid (Ext w7 wr))
    case atStart => exact ⟨0, by omega, rfl, HB1, HEV⟩
    case round =>
      clear HB1 HEV
      obtain ⟨k, hk, rfl, BB, E⟩ := hrel
      have hkn : k ≤ LL.length := by omega
      have Hk := hid hk
      clear hk
      by_cases hlt : k < LL.length
      · have hki : (k : Int) < LL.length := by omega
        obtain ⟨bL, oL, ar, cr, rfl, hrow, hri⟩ := (L_7.out).at (k : Nat) (by omega) (by omega)
        rw [Int.toNat_natCast] at hrow
        have dr := hrow _ E.out
        have hset := metTo_set (f := ma) hlt
        rw [← rowAt_nat hlt] at hset
        have hlen := metTo_len (f := ma) hkn
        have hRI := hri.ext E.out
        have hsz := E.out.size
        obtain ⟨m, hm⟩ : ∃ m, m = rowAt LL (k : Nat) := ⟨_, rfl⟩
        rw [← hm] at hset hRI dr
        have HS := hid hset
        have HRI := hid hRI
        clear hrow hri hset hRI hm
        go_wp2_with (fail)
        refine (Equal_any _ _ m ma _ HRI.out ((F_7.out).ext E.out)).mono ?_
        rintro e w' ⟨rfl, n7, rfl⟩
        have BB2 := hid (BB.out.ext ((Ext.refl _).drewN n7))
        have E2 := hid (E.out.drewN n7)
        have hc := BB2.out.cell (i := k) (by omega)
        have hf := BB2.out.free k
        have B3 := BB2.out.set k (eqI m ma)
        rw [HS.out] at B3
        have HB3 := hid B3
        have E3 := hid (E2.out.setCell (g := gB) (by rw [HgB.out]; exact Nat.le_refl _) k (.bool (eqI m ma)))
        clear B3 dr
        obtain ⟨bm, hbm⟩ : ∃ b, b = eqI m ma := ⟨_, rfl⟩
        rw [← hbm] at HB3 E3 ⊢
        clear hbm
        go_wp2
        go_roundg (gk - 1)
        case rel => exact ⟨k + 1, by have := Hk.out; omega, by go_num, HB3, E3⟩
        case measure => have := Hk.out; omega
      · have ek : k = LL.length := by omega
        have hki : ¬ ((k : Int) < LL.length) := by omega
        have b1 := BB.out
        rw [ek, metTo_all] at b1
        have HBB := hid b1
        have HMR : Hid (MetR p LL 1 (LL.map (fun m => eqI m ma))) := by rw [HLL.out]; exact MetR.start HMA.out
        obtain ⟨met0, hmet⟩ : ∃ m, m = LL.map (fun m => eqI m ma) := ⟨_, rfl⟩
        rw [← hmet] at HBB HMR
        clear b1 ek hlt hmet BB
        go_wp2
        obtain ⟨V2, hV2⟩ : ∃ V2, V2 = wr := ⟨_, rfl⟩
        rw [← hV2] at HBB E ⊢
        clear hV2
        have COV : Hid (∀ k, (hlt : k < cc.length) → ∃ i j : Nat, i < LL.length ∧ j < LL.length ∧ cc[k] = ((i : Int), (j : Int)) ∧ leB p (rowAt LL i) (rowAt LL j) = true ∧ leB p (rowAt LL j) (rowAt LL i) = false) := by
          intro k hlt
          have hL := HLL.out
          have hC := HCC.out
          subst hL
          subst hC
          exact cov_pair hlt
        have LEN : Hid (∀ i : Nat, i < LL.length → (rowAt LL i).length = p.hands.length) := fun i hi => by
          have hL := HLL.out
          subst hL
          rw [rowAt_nat hi]
          exact stAll_len (List.getElem_mem hi)
        have ROUND : Hid (∀ r met, MetP p LL cc (r + 1) cc.length met → MetR p LL (r + 1 + 1) met) := fun r met h => by
          have hL := HLL.out
          have hC := HCC.out
          subst hL
          subst hC
          exact MetP.round (by omega) h
        go_loopg [84] cc.length (fun g i wr => ∃ k : Nat, k + g = cc.length ∧ i = .int .i64 k ∧ Hid (Ext V2 wr))
        case atStart => exact ⟨0, by omega, rfl, Ext.refl _⟩
        case round =>
          obtain ⟨k, hk, rfl, E4⟩ := hrel
          have hkc : k ≤ cc.length := by omega
          have Hk := hid hk
          clear hk
          by_cases hlt : k < cc.length
          · have hki : (k : Int) < cc.length := by omega
            obtain ⟨i, j, hi, hj, hij, hle, hnle⟩ := COV.out k hlt
            obtain ⟨bC, oC, rfl, hcc⟩ := (C_7.out).get hlt
            obtain ⟨d1, d2⟩ := hcc _ (E.out.trans E4.out)
            rw [hij] at d1 d2
            obtain ⟨bL, oL, ari, cri, rfl, hri, hrii⟩ := (L_7.out).at (i : Nat) (by omega) (by omega)
            obtain ⟨bL', oL', arj, crj, hbb, hrj, hrij⟩ := (L_7.out).at (j : Nat) (by omega) (by omega)
            simp only [Option.some.injEq, Addr.mk.injEq, and_true] at hbb
            obtain ⟨rfl, rfl⟩ := hbb
            rw [Int.toNat_natCast] at hri hrj
            have hli := LEN.out i hi
            have hlj := LEN.out j hj
            have HLE := hid hle
            have HNLE := hid hnle
            have hii : (i : Int) < LL.length := by omega
            have hjj : (j : Int) < LL.length := by omega
            have hni : decide ((i : Int) < 0) = false := decide_eq_false (by omega)
            have hnj : decide ((j : Int) < 0) = false := decide_eq_false (by omega)
            have hnii : decide (LL.length ≤ i) = false := decide_eq_false (by omega)
            have hnjj : decide (LL.length ≤ j) = false := decide_eq_false (by omega)
            have HCI := hid hri
            have HCJ := hid hrj
            have HRi0 := hid hrii
            have HRj0 := hid hrij
            have HLI := hid hli
            have HLJ := hid hlj
            clear hcc hij hle hnle hri hrj hrii hrij hli hlj
            go_wp2
            clear d1 d2
            have hal := heap_alloc_new wr (.cells #[.int .i64 (i : Int), .int .i64 (j : Int)] 52)
            have E5 := hid (E4.out.alloc (.cells #[.int .i64 (i : Int), .int .i64 (j : Int)] 52))
            obtain ⟨b15, hb15⟩ : ∃ b, b = wr.heap.size := ⟨_, rfl⟩
            rw [← hb15] at hal ⊢
            generalize wr.alloc (.cells #[.int .i64 (i : Int), .int .i64 (j : Int)] 52) = V5 at *
            have EW5 := hid ((E7.out).trans (E.out.trans E5.out))
            have HBX : Hid (V5.cell? ⟨b15, 0, none⟩ = some (.int .i64 i) ∧ V5.cell? ⟨b15, 1, none⟩ = some (.int .i64 j)) := ⟨cell_of_row V5 b15 0 _ _ _ hal, cell_of_row V5 b15 1 _ _ _ hal⟩
            have HRi := hid (HRi0.out.ext (E.out.trans E5.out))
            have HRj := hid (HRj0.out.ext (E.out.trans E5.out))
            have HKEEP : Hid (∀ w', Ext V5 w' → (w'.cell? ⟨w.heap.size, 0, none⟩ = some (.slice aoh p.hands.length caph) ∧ w'.cell? ⟨w.heap.size, 1, none⟩ = some (.slice aos p.shifts.length caps) ∧ w'.cell? ⟨w.heap.size, 2, none⟩ = some (.slice aop p.places.length capp) ∧ w'.cell? ⟨b15, 0, none⟩ = some (.int .i64 i) ∧ w'.cell? ⟨b15, 1, none⟩ = some (.int .i64 j) ∧ w'.cell? ⟨bL, oL + i, none⟩ = some (.slice ari (rowAt LL i).length cri) ∧ w'.cell? ⟨bL, oL + j, none⟩ = some (.slice arj (rowAt LL j).length crj))) := by
              intro w' e
              obtain ⟨x0, x1, x2⟩ := (X7.out.ext ((E.out.trans E5.out).trans e)).cells
              exact ⟨x0, x1, x2, e.cell HBX.out.1, e.cell HBX.out.2, HCI.out _ ((E.out.trans E5.out).trans e), HCJ.out _ ((E.out.trans E5.out).trans e)⟩
            clear hal hb15
            refine wp_region_held_drew (S := (fun w' => (w'.cell? ⟨w.heap.size, 0, none⟩ = some (.slice aoh p.hands.length caph) ∧ w'.cell? ⟨w.heap.size, 1, none⟩ = some (.slice aos p.shifts.length caps) ∧ w'.cell? ⟨w.heap.size, 2, none⟩ = some (.slice aop p.places.length capp) ∧ w'.cell? ⟨b15, 0, none⟩ = some (.int .i64 i) ∧ w'.cell? ⟨b15, 1, none⟩ = some (.int .i64 j) ∧ w'.cell? ⟨bL, oL + i, none⟩ = some (.slice ari (rowAt LL i).length cri) ∧ w'.cell? ⟨bL, oL + j, none⟩ = some (.slice arj (rowAt LL j).length crj)))) (by kernel_rfl) ?hSa0 (fun hHeld => ?_)
            case hSa0 => (first | (exact HKEEP.out _ ((Ext.refl V5).drew)) | ((try dsimp only); exact HKEEP.out _ ((Ext.refl V5).drew)))
            refine wpAnyH_tk 0 (v := ?va0) rfl (by kernel_rfl) (by kernel_rfl) (by kernel_rfl) (fun _ _ _ h => h) (by rfl) ?hya0 (by assumption) ?_
            case hya0 => (intro w hSw; (try dsimp only at hSw); go_simp <;> with_reducible rfl)
            (try simp only [Act.put, List.setIfInBounds_toArray, List.set_cons_zero, List.set_cons_succ])
            refine wpAnyH_tk 1 (v := ?va1) rfl (by kernel_rfl) (by kernel_rfl) (by kernel_rfl) (fun _ _ _ h => h) (by rfl) ?hya1 (by assumption) ?_
            case hya1 => (intro w hSw; (try dsimp only at hSw); go_simp <;> with_reducible rfl)
            (try simp only [Act.put, List.setIfInBounds_toArray, List.set_cons_zero, List.set_cons_succ])
            refine wpAnyH_tk 2 (v := ?va2) rfl (by kernel_rfl) (by kernel_rfl) (by kernel_rfl) (fun _ _ _ h => h) (by rfl) ?hya2 (by assumption) ?_
            case hya2 => (intro w hSw; (try dsimp only at hSw); go_simp <;> with_reducible rfl)
            (try simp only [Act.put, List.setIfInBounds_toArray, List.set_cons_zero, List.set_cons_succ])
            refine wpAnyH_tk 3 (v := ?va3) rfl (by kernel_rfl) (by kernel_rfl) (by kernel_rfl) (fun _ _ _ h => h) (by rfl) ?hya3 (by assumption) ?_
            case hya3 => (intro w hSw; (try dsimp only at hSw); go_simp <;> with_reducible rfl)
            (try simp only [Act.put, List.setIfInBounds_toArray, List.set_cons_zero, List.set_cons_succ])
            refine wpAnyH_tk 4 (v := ?va4) rfl (by kernel_rfl) (by kernel_rfl) (by kernel_rfl) (fun _ _ _ h => h) (by rfl) ?hya4 (by assumption) ?_
            case hya4 => (intro w hSw; (try dsimp only at hSw); go_simp <;> with_reducible rfl)
            (try simp only [Act.put, List.setIfInBounds_toArray, List.set_cons_zero, List.set_cons_succ])
            refine wpAnyH_tk 5 (v := ?va5) rfl (by kernel_rfl) (by kernel_rfl) (by kernel_rfl) (fun _ _ _ h => h) (by rfl) ?hya5 (by assumption) ?_
            case hya5 => (intro w hSw; (try dsimp only at hSw); go_simp <;> with_reducible rfl)
            (try simp only [Act.put, List.setIfInBounds_toArray, List.set_cons_zero, List.set_cons_succ])
            refine wpAnyH_tk 6 (v := ?va6) rfl (by kernel_rfl) (by kernel_rfl) (by kernel_rfl) (fun _ _ _ h => h) (by rfl) ?hya6 (by assumption) ?_
            case hya6 => (intro w hSw; (try dsimp only at hSw); go_simp <;> with_reducible rfl)
            (try simp only [Act.put, List.setIfInBounds_toArray, List.set_cons_zero, List.set_cons_succ])
            refine wpAnyH_tk 7 (v := ?va7) rfl (by kernel_rfl) (by kernel_rfl) (by kernel_rfl) (fun _ _ _ h => h) (by rfl) ?hya7 (by assumption) ?_
            case hya7 => (intro w hSw; (try dsimp only at hSw); go_simp <;> with_reducible rfl)
            (try simp only [Act.put, List.setIfInBounds_toArray, List.set_cons_zero, List.set_cons_succ])
            refine wpAnyH_tk 8 (v := ?va8) rfl (by kernel_rfl) (by kernel_rfl) (by kernel_rfl) (fun _ _ _ h => h) (by rfl) ?hya8 (by assumption) ?_
            case hya8 => (intro w hSw; (try dsimp only at hSw); go_simp <;> with_reducible rfl)
            (try simp only [Act.put, List.setIfInBounds_toArray, List.set_cons_zero, List.set_cons_succ])
            refine wpAnyH_tk 9 (v := ?va9) rfl (by kernel_rfl) (by kernel_rfl) (by kernel_rfl) (fun _ _ _ h => h) (by rfl) ?hya9 (by assumption) ?_
            case hya9 => (intro w hSw; (try dsimp only at hSw); go_simp <;> with_reducible rfl)
            (try simp only [Act.put, List.setIfInBounds_toArray, List.set_cons_zero, List.set_cons_succ])
            refine wpAnyH_tk 10 (v := ?va10) rfl (by kernel_rfl) (by kernel_rfl) (by kernel_rfl) (fun _ _ _ h => h) (by rfl) ?hya10 (by assumption) ?_
            case hya10 => (intro w hSw; (try dsimp only at hSw); go_simp <;> with_reducible rfl)
            (try simp only [Act.put, List.setIfInBounds_toArray, List.set_cons_zero, List.set_cons_succ])
            refine wpAnyH_tk 11 (v := ?va11) rfl (by kernel_rfl) (by kernel_rfl) (by kernel_rfl) (fun _ _ _ h => h) (by rfl) ?hya11 (by assumption) ?_
            case hya11 => (intro w hSw; (try dsimp only at hSw); go_simp <;> with_reducible rfl)
            (try simp only [Act.put, List.setIfInBounds_toArray, List.set_cons_zero, List.set_cons_succ])
            refine wpAnyH_tk 12 (v := ?va12) rfl (by kernel_rfl) (by kernel_rfl) (by kernel_rfl) (fun _ _ _ h => h) (by rfl) ?hya12 (by assumption) ?_
            case hya12 => (intro w hSw; (try dsimp only at hSw); go_simp <;> with_reducible rfl)
            (try simp only [Act.put, List.setIfInBounds_toArray, List.set_cons_zero, List.set_cons_succ])
            refine wpAnyH_tk 13 (v := ?va13) rfl (by kernel_rfl) (by kernel_rfl) (by kernel_rfl) (fun _ _ _ h => h) (by rfl) ?hya13 (by assumption) ?_
            case hya13 => (intro w hSw; (try dsimp only at hSw); go_simp <;> with_reducible rfl)
            (try simp only [Act.put, List.setIfInBounds_toArray, List.set_cons_zero, List.set_cons_succ])
            refine wpAnyH_tk 14 (v := ?va14) rfl (by kernel_rfl) (by kernel_rfl) (by kernel_rfl) (fun _ _ _ h => h) (by rfl) ?hya14 (by assumption) ?_
            case hya14 => (intro w hSw; (try dsimp only at hSw); go_simp <;> with_reducible rfl)
            (try simp only [Act.put, List.setIfInBounds_toArray, List.set_cons_zero, List.set_cons_succ])
            refine wpAnyH_tk 15 (v := ?va15) rfl (by kernel_rfl) (by kernel_rfl) (by kernel_rfl) (fun _ _ _ h => h) (by rfl) ?hya15 (by assumption) ?_
            case hya15 => (intro w hSw; (try dsimp only at hSw); go_simp <;> with_reducible rfl)
            (try simp only [Act.put, List.setIfInBounds_toArray, List.set_cons_zero, List.set_cons_succ])
            refine wpAnyH_tk 16 (v := ?va16) rfl (by kernel_rfl) (by kernel_rfl) (by kernel_rfl) (fun _ _ _ h => h) (by rfl) ?hya16 (by assumption) ?_
            case hya16 => (intro w hSw; (try dsimp only at hSw); go_simp <;> with_reducible rfl)
            (try simp only [Act.put, List.setIfInBounds_toArray, List.set_cons_zero, List.set_cons_succ])
            refine wpAnyH_tk 17 (v := ?va17) rfl (by kernel_rfl) (by kernel_rfl) (by kernel_rfl) (fun _ _ _ h => h) (by rfl) ?hya17 (by assumption) ?_
            case hya17 => (intro w hSw; (try dsimp only at hSw); go_simp <;> with_reducible rfl)
            (try simp only [Act.put, List.setIfInBounds_toArray, List.set_cons_zero, List.set_cons_succ])
            refine wpAnyH_tk 18 (v := ?va18) rfl (by kernel_rfl) (by kernel_rfl) (by kernel_rfl) (fun _ _ _ h => h) (by rfl) ?hya18 (by assumption) ?_
            case hya18 => (intro w hSw; (try dsimp only at hSw); go_simp <;> with_reducible rfl)
            (try simp only [Act.put, List.setIfInBounds_toArray, List.set_cons_zero, List.set_cons_succ])
            refine wpAnyH_tk 19 (v := ?va19) rfl (by kernel_rfl) (by kernel_rfl) (by kernel_rfl) (fun _ _ _ h => h) (by rfl) ?hya19 (by assumption) ?_
            case hya19 => (intro w hSw; (try dsimp only at hSw); go_simp <;> with_reducible rfl)
            (try simp only [Act.put, List.setIfInBounds_toArray, List.set_cons_zero, List.set_cons_succ])
            refine wpAnyH_tk 20 (v := ?va20) rfl (by kernel_rfl) (by kernel_rfl) (by kernel_rfl) (fun _ _ _ h => h) (by rfl) ?hya20 (by assumption) ?_
            case hya20 => (intro w hSw; (try dsimp only at hSw); go_simp <;> with_reducible rfl)
            (try simp only [Act.put, List.setIfInBounds_toArray, List.set_cons_zero, List.set_cons_succ])
            refine wpAnyH_tk 21 (v := ?va21) rfl (by kernel_rfl) (by kernel_rfl) (by kernel_rfl) (fun _ _ _ h => h) (by rfl) ?hya21 (by assumption) ?_
            case hya21 => (intro w hSw; (try dsimp only at hSw); go_simp <;> with_reducible rfl)
            (try simp only [Act.put, List.setIfInBounds_toArray, List.set_cons_zero, List.set_cons_succ])
            refine wpAnyH_tk 22 (v := ?va22) rfl (by kernel_rfl) (by kernel_rfl) (by kernel_rfl) (fun _ _ _ h => h) (by rfl) ?hya22 (by assumption) ?_
            case hya22 => (intro w hSw; (try dsimp only at hSw); go_simp <;> with_reducible rfl)
            (try simp only [Act.put, List.setIfInBounds_toArray, List.set_cons_zero, List.set_cons_succ])
            refine wpAnyH_tk 23 (v := ?va23) rfl (by kernel_rfl) (by kernel_rfl) (by kernel_rfl) (fun _ _ _ h => h) (by rfl) ?hya23 (by assumption) ?_
            case hya23 => (intro w hSw; (try dsimp only at hSw); go_simp <;> with_reducible rfl)
            (try simp only [Act.put, List.setIfInBounds_toArray, List.set_cons_zero, List.set_cons_succ])
            refine wpAnyH_tk 24 (v := ?va24) rfl (by kernel_rfl) (by kernel_rfl) (by kernel_rfl) (fun _ _ _ h => h) (by rfl) ?hya24 (by assumption) ?_
            case hya24 => (intro w hSw; (try dsimp only at hSw); go_simp <;> with_reducible rfl)
            (try simp only [Act.put, List.setIfInBounds_toArray, List.set_cons_zero, List.set_cons_succ])
            refine wpAnyH_tk 25 (v := ?va25) rfl (by kernel_rfl) (by kernel_rfl) (by kernel_rfl) (fun _ _ _ h => h) (by rfl) ?hya25 (by assumption) ?_
            case hya25 => (intro w hSw; (try dsimp only at hSw); go_simp <;> with_reducible rfl)
            (try simp only [Act.put, List.setIfInBounds_toArray, List.set_cons_zero, List.set_cons_succ])
            refine wpAnyH_tk 26 (v := ?va26) rfl (by kernel_rfl) (by kernel_rfl) (by kernel_rfl) (fun _ _ _ h => h) (by rfl) ?hya26 (by assumption) ?_
            case hya26 => (intro w hSw; (try dsimp only at hSw); go_simp <;> with_reducible rfl)
            (try simp only [Act.put, List.setIfInBounds_toArray, List.set_cons_zero, List.set_cons_succ])
            refine wpAnyH_tk 27 (v := ?va27) rfl (by kernel_rfl) (by kernel_rfl) (by kernel_rfl) (fun _ _ _ h => h) (by rfl) ?hya27 (by assumption) ?_
            case hya27 => (intro w hSw; (try dsimp only at hSw); go_simp <;> with_reducible rfl)
            (try simp only [Act.put, List.setIfInBounds_toArray, List.set_cons_zero, List.set_cons_succ])
            refine wpAnyH_tk 28 (v := ?va28) rfl (by kernel_rfl) (by kernel_rfl) (by kernel_rfl) (fun _ _ _ h => h) (by rfl) ?hya28 (by assumption) ?_
            case hya28 => (intro w hSw; (try dsimp only at hSw); go_simp <;> with_reducible rfl)
            (try simp only [Act.put, List.setIfInBounds_toArray, List.set_cons_zero, List.set_cons_succ])
            refine wpAnyH_tk 29 (v := ?va29) rfl (by kernel_rfl) (by kernel_rfl) (by kernel_rfl) (fun _ _ _ h => h) (by rfl) ?hya29 (by assumption) ?_
            case hya29 => (intro w hSw; (try dsimp only at hSw); go_simp <;> with_reducible rfl)
            (try simp only [Act.put, List.setIfInBounds_toArray, List.set_cons_zero, List.set_cons_succ])
            refine wpAnyH_tk 30 (v := ?va30) rfl (by kernel_rfl) (by kernel_rfl) (by kernel_rfl) (fun _ _ _ h => h) (by rfl) ?hya30 (by assumption) ?_
            case hya30 => (intro w hSw; (try dsimp only at hSw); go_simp <;> with_reducible rfl)
            (try simp only [Act.put, List.setIfInBounds_toArray, List.set_cons_zero, List.set_cons_succ])
            refine wpAnyH_tk 31 (v := ?va31) rfl (by kernel_rfl) (by kernel_rfl) (by kernel_rfl) (fun _ _ _ h => h) (by rfl) ?hya31 (by assumption) ?_
            case hya31 => (intro w hSw; (try dsimp only at hSw); go_simp <;> with_reducible rfl)
            (try simp only [Act.put, List.setIfInBounds_toArray, List.set_cons_zero, List.set_cons_succ])
            refine wpAnyH_tk 32 (v := ?va32) rfl (by kernel_rfl) (by kernel_rfl) (by kernel_rfl) (fun _ _ _ h => h) (by rfl) ?hya32 (by assumption) ?_
            case hya32 => (intro w hSw; (try dsimp only at hSw); go_simp <;> with_reducible rfl)
            (try simp only [Act.put, List.setIfInBounds_toArray, List.set_cons_zero, List.set_cons_succ])
            refine wpAnyH_tk 33 (v := ?va33) rfl (by kernel_rfl) (by kernel_rfl) (by kernel_rfl) (fun _ _ _ h => h) (by rfl) ?hya33 (by assumption) ?_
            case hya33 => (intro w hSw; (try dsimp only at hSw); go_simp <;> with_reducible rfl)
            (try simp only [Act.put, List.setIfInBounds_toArray, List.set_cons_zero, List.set_cons_succ])
            refine wpAnyH_one 34 rfl (by kernel_rfl) (by rfl) (fun K hK => ?_)
            go_simp
            ((refine (good_any _ _ _ _ _ p Hok.out (rowAt LL i) (rowAt LL j) _ (HP.out.ext (EW5.out.drew)) (HRi.out.ext ((Ext.refl V5).drew)) (HRj.out.ext ((Ext.refl V5).drew)) HLI.out HLJ.out).mono ?_; rintro e W6 ⟨rfl, he6⟩; rw [HLE.out]))
            refine hK.out _ _ ?hSa35 (fun hHeld => ?_)
            case hSa35 => (first | (exact HKEEP.out _ ((Ext.refl V5).drew.trans he6)) | ((try dsimp only); exact HKEEP.out _ ((Ext.refl V5).drew.trans he6)))
            clear hK K
            (try simp only [Act.put, List.setIfInBounds_toArray, List.set_cons_zero, List.set_cons_succ])
            refine wpAnyH_tk 35 (v := ?va35) rfl (by kernel_rfl) (by kernel_rfl) (by kernel_rfl) (fun _ _ _ h => h) (by rfl) ?hya35 (by assumption) ?_
            case hya35 => (intro w hSw; (try dsimp only at hSw); go_simp <;> with_reducible rfl)
            (try simp only [Act.put, List.setIfInBounds_toArray, List.set_cons_zero, List.set_cons_succ])
            refine wpAnyH_tk 36 (v := ?va36) rfl (by kernel_rfl) (by kernel_rfl) (by kernel_rfl) (fun _ _ _ h => h) (by rfl) ?hya36 (by assumption) ?_
            case hya36 => (intro w hSw; (try dsimp only at hSw); go_simp <;> with_reducible rfl)
            (try simp only [Act.put, List.setIfInBounds_toArray, List.set_cons_zero, List.set_cons_succ])
            refine wpAnyH_tk 37 (v := ?va37) rfl (by kernel_rfl) (by kernel_rfl) (by kernel_rfl) (fun _ _ _ h => h) (by rfl) ?hya37 (by assumption) ?_
            case hya37 => (intro w hSw; (try dsimp only at hSw); go_simp <;> with_reducible rfl)
            (try simp only [Act.put, List.setIfInBounds_toArray, List.set_cons_zero, List.set_cons_succ])
            refine wpAnyH_tk 38 (v := ?va38) rfl (by kernel_rfl) (by kernel_rfl) (by kernel_rfl) (fun _ _ _ h => h) (by rfl) ?hya38 (by assumption) ?_
            case hya38 => (intro w hSw; (try dsimp only at hSw); go_simp <;> with_reducible rfl)
            (try simp only [Act.put, List.setIfInBounds_toArray, List.set_cons_zero, List.set_cons_succ])
            refine wpAnyH_tk 39 (v := ?va39) rfl (by kernel_rfl) (by kernel_rfl) (by kernel_rfl) (fun _ _ _ h => h) (by rfl) ?hya39 (by assumption) ?_
            case hya39 => (intro w hSw; (try dsimp only at hSw); go_simp <;> with_reducible rfl)
            (try simp only [Act.put, List.setIfInBounds_toArray, List.set_cons_zero, List.set_cons_succ])
            refine wpAnyH_tk 40 (v := ?va40) rfl (by kernel_rfl) (by kernel_rfl) (by kernel_rfl) (fun _ _ _ h => h) (by rfl) ?hya40 (by assumption) ?_
            case hya40 => (intro w hSw; (try dsimp only at hSw); go_simp <;> with_reducible rfl)
            (try simp only [Act.put, List.setIfInBounds_toArray, List.set_cons_zero, List.set_cons_succ])
            refine wpAnyH_tk 41 (v := ?va41) rfl (by kernel_rfl) (by kernel_rfl) (by kernel_rfl) (fun _ _ _ h => h) (by rfl) ?hya41 (by assumption) ?_
            case hya41 => (intro w hSw; (try dsimp only at hSw); go_simp <;> with_reducible rfl)
            (try simp only [Act.put, List.setIfInBounds_toArray, List.set_cons_zero, List.set_cons_succ])
            refine wpAnyH_tk 42 (v := ?va42) rfl (by kernel_rfl) (by kernel_rfl) (by kernel_rfl) (fun _ _ _ h => h) (by rfl) ?hya42 (by assumption) ?_
            case hya42 => (intro w hSw; (try dsimp only at hSw); go_simp <;> with_reducible rfl)
            (try simp only [Act.put, List.setIfInBounds_toArray, List.set_cons_zero, List.set_cons_succ])
            refine wpAnyH_tk 43 (v := ?va43) rfl (by kernel_rfl) (by kernel_rfl) (by kernel_rfl) (fun _ _ _ h => h) (by rfl) ?hya43 (by assumption) ?_
            case hya43 => (intro w hSw; (try dsimp only at hSw); go_simp <;> with_reducible rfl)
            (try simp only [Act.put, List.setIfInBounds_toArray, List.set_cons_zero, List.set_cons_succ])
            refine wpAnyH_tk 44 (v := ?va44) rfl (by kernel_rfl) (by kernel_rfl) (by kernel_rfl) (fun _ _ _ h => h) (by rfl) ?hya44 (by assumption) ?_
            case hya44 => (intro w hSw; (try dsimp only at hSw); go_simp <;> with_reducible rfl)
            (try simp only [Act.put, List.setIfInBounds_toArray, List.set_cons_zero, List.set_cons_succ])
            refine wpAnyH_tk 45 (v := ?va45) rfl (by kernel_rfl) (by kernel_rfl) (by kernel_rfl) (fun _ _ _ h => h) (by rfl) ?hya45 (by assumption) ?_
            case hya45 => (intro w hSw; (try dsimp only at hSw); go_simp <;> with_reducible rfl)
            (try simp only [Act.put, List.setIfInBounds_toArray, List.set_cons_zero, List.set_cons_succ])
            refine wpAnyH_tk 46 (v := ?va46) rfl (by kernel_rfl) (by kernel_rfl) (by kernel_rfl) (fun _ _ _ h => h) (by rfl) ?hya46 (by assumption) ?_
            case hya46 => (intro w hSw; (try dsimp only at hSw); go_simp <;> with_reducible rfl)
            (try simp only [Act.put, List.setIfInBounds_toArray, List.set_cons_zero, List.set_cons_succ])
            refine wpAnyH_tk 47 (v := ?va47) rfl (by kernel_rfl) (by kernel_rfl) (by kernel_rfl) (fun _ _ _ h => h) (by rfl) ?hya47 (by assumption) ?_
            case hya47 => (intro w hSw; (try dsimp only at hSw); go_simp <;> with_reducible rfl)
            (try simp only [Act.put, List.setIfInBounds_toArray, List.set_cons_zero, List.set_cons_succ])
            refine wpAnyH_tk 48 (v := ?va48) rfl (by kernel_rfl) (by kernel_rfl) (by kernel_rfl) (fun _ _ _ h => h) (by rfl) ?hya48 (by assumption) ?_
            case hya48 => (intro w hSw; (try dsimp only at hSw); go_simp <;> with_reducible rfl)
            (try simp only [Act.put, List.setIfInBounds_toArray, List.set_cons_zero, List.set_cons_succ])
            refine wpAnyH_one 49 rfl (by kernel_rfl) (by rfl) (fun K hK => ?_)
            go_simp
            ((refine (good_any _ _ _ _ _ p Hok.out (rowAt LL j) (rowAt LL i) _ (HP.out.ext (EW5.out.drew.trans he6)) (HRj.out.ext ((Ext.refl V5).drew.trans he6)) (HRi.out.ext ((Ext.refl V5).drew.trans he6)) HLJ.out HLI.out).mono ?_; rintro e W7 ⟨rfl, he7⟩; rw [HNLE.out]))
            refine hK.out _ _ ?hSa50 (fun hHeld => ?_)
            case hSa50 => (first | (exact HKEEP.out _ (((Ext.refl V5).drew.trans he6).trans he7)) | ((try dsimp only); exact HKEEP.out _ (((Ext.refl V5).drew.trans he6).trans he7)))
            clear hK K
            (try simp only [Act.put, List.setIfInBounds_toArray, List.set_cons_zero, List.set_cons_succ])
            refine wpAnyH_tk 50 (v := ?va50) rfl (by kernel_rfl) (by kernel_rfl) (by kernel_rfl) (fun _ _ _ h => h) (by rfl) ?hya50 (by assumption) ?_
            case hya50 => (intro w hSw; (try dsimp only at hSw); go_simp <;> with_reducible rfl)
            (try simp only [Act.put, List.setIfInBounds_toArray, List.set_cons_zero, List.set_cons_succ])
            refine wpAnyH_done (by kernel_rfl) ?_ _
            have E8 := hid (((E5.out.drew).trans he6).trans he7)
            clear he6 he7
            go_wp2
            go_roundg (gk - 1)
            case rel => exact ⟨k + 1, by have := Hk.out; omega, by go_num, E8⟩
            case measure => have := Hk.out; omega
          · have hki : ¬ ((k : Int) < cc.length) := by omega
            have EA := hid (E.out.trans E4.out)
            have HBA := hid (HBB.out.ext E4.out)
            clear hlt
            go_wp2
            go_loopg [142] LL.length (fun g i wr => ∃ (k : Nat) (met : List Bool), k + g = LL.length ∧ i = .int .i64 k ∧ Hid (BBlock wr gB met) ∧ Hid (MetR p LL (k + 1) met) ∧ Hid (Ext w7 wr))
            case atStart => exact ⟨0, met0, by omega, rfl, HBA, HMR, EA⟩
            case round =>
              clear HBA HMR EA HBB
              obtain ⟨r, met1, hr, rfl, BB, MR, EA⟩ := hrel
              have hrn : r ≤ LL.length := by omega
              have Hr := hid hr
              clear hr
              by_cases hlt : r < LL.length
              · have hri : (r : Int) < LL.length := by omega
                go_wp2
                go_loopg [146] cc.length (fun g i wr => ∃ (k : Nat) (met : List Bool), k + g = cc.length ∧ i = .int .i64 k ∧ Hid (BBlock wr gB met) ∧ Hid (MetP p LL cc (r + 1) k met) ∧ Hid (Ext w7 wr))
                case atStart => exact ⟨0, met1, by omega, rfl, BB, MetP.start MR.out, EA⟩
                case round =>
                  clear BB MR EA
                  obtain ⟨k, met, hk, rfl, BB, MP, EA⟩ := hrel
                  have hkc : k ≤ cc.length := by omega
                  have Hk := hid hk
                  clear hk
                  by_cases hlt2 : k < cc.length
                  · have hki : (k : Int) < cc.length := by omega
                    obtain ⟨i, j, hi, hj, hij, -, -⟩ := COV.out k hlt2
                    obtain ⟨bC, oC, rfl, hcc⟩ := (C_7.out).get hlt2
                    obtain ⟨d1, d2⟩ := hcc _ EA.out
                    rw [hij] at d1 d2
                    have hml : met.length = LL.length := MP.out.1.1
                    have hst := MP.out.step hlt2 hij (show i < met.length by omega) (show j < met.length by omega)
                    have e1 := BB.out.cell (i := i) (by omega)
                    have e2 := BB.out.cell (i := j) (by omega)
                    have hset := BB.out.set j (met[j]'(by omega) || met[i]'(by omega))
                    obtain ⟨bi, hbi⟩ : ∃ b, b = met[i]'(by omega) := ⟨_, rfl⟩
                    obtain ⟨bj, hbj⟩ : ∃ b, b = met[j]'(by omega) := ⟨_, rfl⟩
                    rw [← hbi] at e1 hst
                    rw [← hbj] at e2 hst
                    have HE1 := hid e1
                    have HE2 := hid e2
                    have HST := hid hst
                    have hii : (i : Int) < LL.length := by omega
                    have hjj : (j : Int) < LL.length := by omega
                    have HML := hid hml
                    clear hcc hij hst e1 e2 hset hbi hbj hml
                    go_wp2
                    clear d1 d2
                    have hal := heap_alloc_new wr (.cells #[.int .i64 (i : Int), .int .i64 (j : Int)] 52)
                    have E5 := hid (EA.out.alloc (.cells #[.int .i64 (i : Int), .int .i64 (j : Int)] 52))
                    have he0 := Ext.ofAlloc wr (.cells #[.int .i64 (i : Int), .int .i64 (j : Int)] 52)
                    obtain ⟨b17, hb17⟩ : ∃ b, b = wr.heap.size := ⟨_, rfl⟩
                    rw [← hb17] at hal ⊢
                    have BB5 := hid (BB.out.ext he0)
                    have HC1 := hid (he0.cell HE1.out)
                    have HC2 := hid (he0.cell HE2.out)
                    have hgb17 : gB ≠ b17 := by have := BB.out.lt; omega
                    generalize wr.alloc (.cells #[.int .i64 (i : Int), .int .i64 (j : Int)] 52) = V5 at *
                    have HBX : Hid (V5.cell? ⟨b17, 0, none⟩ = some (.int .i64 i) ∧ V5.cell? ⟨b17, 1, none⟩ = some (.int .i64 j)) := ⟨cell_of_row V5 b17 0 _ _ _ hal, cell_of_row V5 b17 1 _ _ _ hal⟩
                    have HKEEP : Hid (∀ w', Ext V5 w' → (w'.cell? ⟨b17, 0, none⟩ = some (.int .i64 i) ∧ w'.cell? ⟨b17, 1, none⟩ = some (.int .i64 j))) := by
                      intro w' e
                      exact ⟨e.cell HBX.out.1, e.cell HBX.out.2⟩
                    have HKEEP2 : Hid (∀ v, (fun w' => (w'.cell? ⟨b17, 0, none⟩ = some (.int .i64 i) ∧ w'.cell? ⟨b17, 1, none⟩ = some (.int .i64 j))) (V5.drew.setCell ⟨gB, j, none⟩ v)) := by
                      intro v
                      exact ⟨by rw [World.cell?_setCell_far _ _ _ _ (by exact hgb17)]; exact HBX.out.1, by rw [World.cell?_setCell_far _ _ _ _ (by exact hgb17)]; exact HBX.out.2⟩
                    have HGS : Hid (w7.heap.size ≤ gB) := by rw [HgB.out]; exact Nat.le_refl _
                    have hfz := BB5.out.free j
                    have hcz := HC2.out
                    have hcy := HC1.out
                    clear hal hb17 he0 hgb17
                    cases bj with
                    | true =>
                      refine wp_region_held_drew (S := (fun w' => (w'.cell? ⟨b17, 0, none⟩ = some (.int .i64 i) ∧ w'.cell? ⟨b17, 1, none⟩ = some (.int .i64 j)))) (by kernel_rfl) ?hSb0 (fun hHeld => ?_)
                      case hSb0 => (first | (exact HKEEP.out _ ((Ext.refl V5).drew)) | ((try dsimp only); exact HKEEP.out _ ((Ext.refl V5).drew)))
                      refine wpAnyH_tk 0 (v := ?vb0) rfl (by kernel_rfl) (by kernel_rfl) (by kernel_rfl) (fun _ _ _ h => h) (by rfl) ?hyb0 (by assumption) ?_
                      case hyb0 => (intro w hSw; (try dsimp only at hSw); go_simp <;> with_reducible rfl)
                      (try simp only [Act.put, List.setIfInBounds_toArray, List.set_cons_zero, List.set_cons_succ])
                      refine wpAnyH_tk 1 (v := ?vb1) rfl (by kernel_rfl) (by kernel_rfl) (by kernel_rfl) (fun _ _ _ h => h) (by rfl) ?hyb1 (by assumption) ?_
                      case hyb1 => (intro w hSw; (try dsimp only at hSw); go_simp <;> with_reducible rfl)
                      (try simp only [Act.put, List.setIfInBounds_toArray, List.set_cons_zero, List.set_cons_succ])
                      refine wpAnyH_tk 2 (v := ?vb2) rfl (by kernel_rfl) (by kernel_rfl) (by kernel_rfl) (fun _ _ _ h => h) (by rfl) ?hyb2 (by assumption) ?_
                      case hyb2 => (intro w hSw; (try dsimp only at hSw); go_simp <;> with_reducible rfl)
                      (try simp only [Act.put, List.setIfInBounds_toArray, List.set_cons_zero, List.set_cons_succ])
                      refine wpAnyH_tk 3 (v := ?vb3) rfl (by kernel_rfl) (by kernel_rfl) (by kernel_rfl) (fun _ _ _ h => h) (by rfl) ?hyb3 (by assumption) ?_
                      case hyb3 => (intro w hSw; (try dsimp only at hSw); go_simp <;> with_reducible rfl)
                      (try simp only [Act.put, List.setIfInBounds_toArray, List.set_cons_zero, List.set_cons_succ])
                      refine wpAnyH_tk 4 (v := ?vb4) rfl (by kernel_rfl) (by kernel_rfl) (by kernel_rfl) (fun _ _ _ h => h) (by rfl) ?hyb4 (by assumption) ?_
                      case hyb4 => (intro w hSw; (try dsimp only at hSw); go_simp <;> with_reducible rfl)
                      (try simp only [Act.put, List.setIfInBounds_toArray, List.set_cons_zero, List.set_cons_succ])
                      refine wpAnyH_tk 5 (v := ?vb5) rfl (by kernel_rfl) (by kernel_rfl) (by kernel_rfl) (fun _ _ _ h => h) (by rfl) ?hyb5 (by assumption) ?_
                      case hyb5 => (intro w hSw; (try dsimp only at hSw); go_simp <;> with_reducible rfl)
                      (try simp only [Act.put, List.setIfInBounds_toArray, List.set_cons_zero, List.set_cons_succ])
                      refine wpAnyH_tk 6 (v := ?vb6) rfl (by kernel_rfl) (by kernel_rfl) (by kernel_rfl) (fun _ _ _ h => h) (by rfl) ?hyb6 (by assumption) ?_
                      case hyb6 => (intro w hSw; (try dsimp only at hSw); go_simp <;> with_reducible rfl)
                      (try simp only [Act.put, List.setIfInBounds_toArray, List.set_cons_zero, List.set_cons_succ])
                      refine wpAnyH_one 7 rfl (by kernel_rfl) (by rfl) (fun K hK => ?_)
                      go_simp
                      (skip)
                      refine hK.out _ _ ?hSb8 (fun hHeld => ?_)
                      case hSb8 => (first | (exact HKEEP.out _ ((Ext.refl V5).drew)) | ((try dsimp only); exact HKEEP.out _ ((Ext.refl V5).drew)))
                      clear hK K
                      (try simp only [Act.put, List.setIfInBounds_toArray, List.set_cons_zero, List.set_cons_succ])
                      refine wpAnyH_tk 8 (v := ?vb8) rfl (by kernel_rfl) (by kernel_rfl) (by kernel_rfl) (fun _ _ _ h => h) (by rfl) ?hyb8 (by assumption) ?_
                      case hyb8 => (intro w hSw; (try dsimp only at hSw); go_simp <;> with_reducible rfl)
                      (try simp only [Act.put, List.setIfInBounds_toArray, List.set_cons_zero, List.set_cons_succ])
                      refine wpAnyH_skips 8 false 158 3 (by kernel_rfl) rfl (fun _ _ _ _ _ h => h) [9, 10, 11, 12, 13] [159, 160, 161, 162, 163] _ _ _ rfl (by kernel_rfl) (by rfl) (by assumption) ?_
                      (try simp only [putsAll, List.foldl, Act.put, List.setIfInBounds_toArray, List.set_cons_zero, List.set_cons_succ])
                      refine wpAnyH_tk 14 (v := ?vb14) rfl (by kernel_rfl) (by kernel_rfl) (by kernel_rfl) (fun _ _ _ h => h) (by rfl) ?hyb14 (by assumption) ?_
                      case hyb14 => (intro w hSw; (try dsimp only at hSw); go_simp <;> with_reducible rfl)
                      (try simp only [Act.put, List.setIfInBounds_toArray, List.set_cons_zero, List.set_cons_succ])
                      refine wpAnyH_tk 15 (v := ?vb15) rfl (by kernel_rfl) (by kernel_rfl) (by kernel_rfl) (fun _ _ _ h => h) (by rfl) ?hyb15 (by assumption) ?_
                      case hyb15 => (intro w hSw; (try dsimp only at hSw); go_simp <;> with_reducible rfl)
                      (try simp only [Act.put, List.setIfInBounds_toArray, List.set_cons_zero, List.set_cons_succ])
                      refine wpAnyH_one 16 rfl (by kernel_rfl) (by rfl) (fun K hK => ?_)
                      go_simp
                      (skip)
                      refine hK.out _ _ ?hSb17 (fun hHeld => ?_)
                      case hSb17 => (first | (exact HKEEP2.out _) | ((try dsimp only); exact HKEEP2.out _))
                      clear hK K
                      (try simp only [Act.put, List.setIfInBounds_toArray, List.set_cons_zero, List.set_cons_succ])
                      refine wpAnyH_done (by kernel_rfl) ?_ _
                      have B6 : Hid (BBlock (V5.drew.setCell ⟨gB, j, none⟩ (.bool true)) gB (met.set j (true || bi))) := (BB5.out.ext ((Ext.refl V5).drew)).set j true
                      have E6 : Hid (Ext w7 (V5.drew.setCell ⟨gB, j, none⟩ (.bool true))) := (E5.out.drew).setCell (g := gB) HGS.out j (.bool true)
                      clear hcz hfz hcy
                      go_wp2
                      go_roundg (gk - 1)
                      case rel => exact ⟨k + 1, _, by have := Hk.out; omega, by go_num, B6, HST, E6⟩
                      case measure => have := Hk.out; omega
                    | false =>
                      refine wp_region_held_drew (S := (fun w' => (w'.cell? ⟨b17, 0, none⟩ = some (.int .i64 i) ∧ w'.cell? ⟨b17, 1, none⟩ = some (.int .i64 j)))) (by kernel_rfl) ?hSc0 (fun hHeld => ?_)
                      case hSc0 => (first | (exact HKEEP.out _ ((Ext.refl V5).drew)) | ((try dsimp only); exact HKEEP.out _ ((Ext.refl V5).drew)))
                      refine wpAnyH_tk 0 (v := ?vc0) rfl (by kernel_rfl) (by kernel_rfl) (by kernel_rfl) (fun _ _ _ h => h) (by rfl) ?hyc0 (by assumption) ?_
                      case hyc0 => (intro w hSw; (try dsimp only at hSw); go_simp <;> with_reducible rfl)
                      (try simp only [Act.put, List.setIfInBounds_toArray, List.set_cons_zero, List.set_cons_succ])
                      refine wpAnyH_tk 1 (v := ?vc1) rfl (by kernel_rfl) (by kernel_rfl) (by kernel_rfl) (fun _ _ _ h => h) (by rfl) ?hyc1 (by assumption) ?_
                      case hyc1 => (intro w hSw; (try dsimp only at hSw); go_simp <;> with_reducible rfl)
                      (try simp only [Act.put, List.setIfInBounds_toArray, List.set_cons_zero, List.set_cons_succ])
                      refine wpAnyH_tk 2 (v := ?vc2) rfl (by kernel_rfl) (by kernel_rfl) (by kernel_rfl) (fun _ _ _ h => h) (by rfl) ?hyc2 (by assumption) ?_
                      case hyc2 => (intro w hSw; (try dsimp only at hSw); go_simp <;> with_reducible rfl)
                      (try simp only [Act.put, List.setIfInBounds_toArray, List.set_cons_zero, List.set_cons_succ])
                      refine wpAnyH_tk 3 (v := ?vc3) rfl (by kernel_rfl) (by kernel_rfl) (by kernel_rfl) (fun _ _ _ h => h) (by rfl) ?hyc3 (by assumption) ?_
                      case hyc3 => (intro w hSw; (try dsimp only at hSw); go_simp <;> with_reducible rfl)
                      (try simp only [Act.put, List.setIfInBounds_toArray, List.set_cons_zero, List.set_cons_succ])
                      refine wpAnyH_tk 4 (v := ?vc4) rfl (by kernel_rfl) (by kernel_rfl) (by kernel_rfl) (fun _ _ _ h => h) (by rfl) ?hyc4 (by assumption) ?_
                      case hyc4 => (intro w hSw; (try dsimp only at hSw); go_simp <;> with_reducible rfl)
                      (try simp only [Act.put, List.setIfInBounds_toArray, List.set_cons_zero, List.set_cons_succ])
                      refine wpAnyH_tk 5 (v := ?vc5) rfl (by kernel_rfl) (by kernel_rfl) (by kernel_rfl) (fun _ _ _ h => h) (by rfl) ?hyc5 (by assumption) ?_
                      case hyc5 => (intro w hSw; (try dsimp only at hSw); go_simp <;> with_reducible rfl)
                      (try simp only [Act.put, List.setIfInBounds_toArray, List.set_cons_zero, List.set_cons_succ])
                      refine wpAnyH_tk 6 (v := ?vc6) rfl (by kernel_rfl) (by kernel_rfl) (by kernel_rfl) (fun _ _ _ h => h) (by rfl) ?hyc6 (by assumption) ?_
                      case hyc6 => (intro w hSw; (try dsimp only at hSw); go_simp <;> with_reducible rfl)
                      (try simp only [Act.put, List.setIfInBounds_toArray, List.set_cons_zero, List.set_cons_succ])
                      refine wpAnyH_one 7 rfl (by kernel_rfl) (by rfl) (fun K hK => ?_)
                      go_simp
                      (skip)
                      refine hK.out _ _ ?hSc8 (fun hHeld => ?_)
                      case hSc8 => (first | (exact HKEEP.out _ ((Ext.refl V5).drew)) | ((try dsimp only); exact HKEEP.out _ ((Ext.refl V5).drew)))
                      clear hK K
                      (try simp only [Act.put, List.setIfInBounds_toArray, List.set_cons_zero, List.set_cons_succ])
                      refine wpAnyH_tk 8 (v := ?vc8) rfl (by kernel_rfl) (by kernel_rfl) (by kernel_rfl) (fun _ _ _ h => h) (by rfl) ?hyc8 (by assumption) ?_
                      case hyc8 => (intro w hSw; (try dsimp only at hSw); go_simp <;> with_reducible rfl)
                      (try simp only [Act.put, List.setIfInBounds_toArray, List.set_cons_zero, List.set_cons_succ])
                      refine wpAnyH_tk 9 (v := ?vc9) rfl (by kernel_rfl) (by kernel_rfl) (by kernel_rfl) (fun _ _ _ h => h) (by rfl) ?hyc9 (by assumption) ?_
                      case hyc9 => (intro w hSw; (try dsimp only at hSw); go_simp <;> with_reducible rfl)
                      (try simp only [Act.put, List.setIfInBounds_toArray, List.set_cons_zero, List.set_cons_succ])
                      refine wpAnyH_tk 10 (v := ?vc10) rfl (by kernel_rfl) (by kernel_rfl) (by kernel_rfl) (fun _ _ _ h => h) (by rfl) ?hyc10 (by assumption) ?_
                      case hyc10 => (intro w hSw; (try dsimp only at hSw); go_simp <;> with_reducible rfl)
                      (try simp only [Act.put, List.setIfInBounds_toArray, List.set_cons_zero, List.set_cons_succ])
                      refine wpAnyH_tk 11 (v := ?vc11) rfl (by kernel_rfl) (by kernel_rfl) (by kernel_rfl) (fun _ _ _ h => h) (by rfl) ?hyc11 (by assumption) ?_
                      case hyc11 => (intro w hSw; (try dsimp only at hSw); go_simp <;> with_reducible rfl)
                      (try simp only [Act.put, List.setIfInBounds_toArray, List.set_cons_zero, List.set_cons_succ])
                      refine wpAnyH_tk 12 (v := ?vc12) rfl (by kernel_rfl) (by kernel_rfl) (by kernel_rfl) (fun _ _ _ h => h) (by rfl) ?hyc12 (by assumption) ?_
                      case hyc12 => (intro w hSw; (try dsimp only at hSw); go_simp <;> with_reducible rfl)
                      (try simp only [Act.put, List.setIfInBounds_toArray, List.set_cons_zero, List.set_cons_succ])
                      refine wpAnyH_one 13 rfl (by kernel_rfl) (by rfl) (fun K hK => ?_)
                      go_simp
                      (skip)
                      refine hK.out _ _ ?hSc14 (fun hHeld => ?_)
                      case hSc14 => (first | (exact HKEEP.out _ ((Ext.refl V5).drew)) | ((try dsimp only); exact HKEEP.out _ ((Ext.refl V5).drew)))
                      clear hK K
                      (try simp only [Act.put, List.setIfInBounds_toArray, List.set_cons_zero, List.set_cons_succ])
                      refine wpAnyH_tk 14 (v := ?vc14) rfl (by kernel_rfl) (by kernel_rfl) (by kernel_rfl) (fun _ _ _ h => h) (by rfl) ?hyc14 (by assumption) ?_
                      case hyc14 => (intro w hSw; (try dsimp only at hSw); go_simp <;> with_reducible rfl)
                      (try simp only [Act.put, List.setIfInBounds_toArray, List.set_cons_zero, List.set_cons_succ])
                      refine wpAnyH_tk 15 (v := ?vc15) rfl (by kernel_rfl) (by kernel_rfl) (by kernel_rfl) (fun _ _ _ h => h) (by rfl) ?hyc15 (by assumption) ?_
                      case hyc15 => (intro w hSw; (try dsimp only at hSw); go_simp <;> with_reducible rfl)
                      (try simp only [Act.put, List.setIfInBounds_toArray, List.set_cons_zero, List.set_cons_succ])
                      refine wpAnyH_one 16 rfl (by kernel_rfl) (by rfl) (fun K hK => ?_)
                      go_simp
                      (skip)
                      refine hK.out _ _ ?hSc17 (fun hHeld => ?_)
                      case hSc17 => (first | (exact HKEEP2.out _) | ((try dsimp only); exact HKEEP2.out _))
                      clear hK K
                      (try simp only [Act.put, List.setIfInBounds_toArray, List.set_cons_zero, List.set_cons_succ])
                      refine wpAnyH_done (by kernel_rfl) ?_ _
                      have B6 : Hid (BBlock (V5.drew.setCell ⟨gB, j, none⟩ (.bool bi)) gB (met.set j (false || bi))) := (BB5.out.ext ((Ext.refl V5).drew)).set j bi
                      have E6 : Hid (Ext w7 (V5.drew.setCell ⟨gB, j, none⟩ (.bool bi))) := (E5.out.drew).setCell (g := gB) HGS.out j (.bool bi)
                      clear hcz hfz hcy
                      go_wp2
                      go_roundg (gk - 1)
                      case rel => exact ⟨k + 1, _, by have := Hk.out; omega, by go_num, B6, HST, E6⟩
                      case measure => have := Hk.out; omega
                  · have ek : k = cc.length := by omega
                    have hki : ¬ ((k : Int) < cc.length) := by omega
                    have hmp := MP.out
                    rw [ek] at hmp
                    have HRN := hid (ROUND.out r met hmp)
                    clear ek hmp hlt2
                    go_wp2
                    go_roundg (LL.length - (r + 1))
                    case rel => exact ⟨r + 1, met, by have := Hr.out; omega, by go_num, BB, HRN, EA⟩
                    case measure => have := Hr.out; omega
              · have er : r = LL.length := by omega
                have hri : ¬ ((r : Int) < LL.length) := by omega
                have hmr := MR.out
                rw [er] at hmr
                have hall := hmr.all
                have hlm := hmr.1
                have HALL := hid hall
                have HLM := hid hlm.symm
                clear er hmr hall hlm hlt
                go_wp2_with (fail)
                refine (ContainsB_any gB _ _ met1 _ BB.out HLM.out hLn HALL.out).mono ?_
                rintro e w' ⟨rfl, rfl⟩
                have eF := hid (EA.out)
                have X8 := hid (X7.out.ext eF.out)
                have L_8 := hid (L_7.out.ext eF.out)
                have C_8 := hid (C_7.out.ext eF.out)
                have F_8 := hid (F_7.out.ext eF.out)
                have E8 := hid (E7.out.trans eF.out)
                obtain ⟨c0, c1, c2⟩ := X8.out.cells
                obtain ⟨x, hx, hxn⟩ := hmod2 kI p.shifts.length hs1 (by omega)
                have hS0 : ¬ (p.shifts.length : Int) = 0 := by omega
                go_wp2_with (fail)
                refine (Of_any _ _ _ p _ (HP.out.ext E8.out)).mono ?_
                rintro e w9 ⟨uh, us, up, rfl, hu, he9⟩
                clear c0 c1 c2
                have X9 := hid (X8.out.ext he9)
                have L_9 := hid (L_8.out.ext he9)
                have C_9 := hid (C_8.out.ext he9)
                have F_9 := hid (F_8.out.ext he9)
                have E9 := hid (E8.out.trans he9)
                clear he9
                obtain ⟨c0, c1, c2⟩ := X9.out.cells
                have HU := hid hu.planR
                rw [Hcut.out] at HU
                clear hu
                go_wp2_with (fail)
                refine (Lie_ok _ _ _ p Hok.out x _ HU.out hxn).mono ?_
                rintro e w10 ⟨he10, m0, hm0, hans⟩
                clear c0 c1 c2
                have X10 := hid (X9.out.ext he10)
                have L_10 := hid (L_9.out.ext he10)
                have C_10 := hid (C_9.out.ext he10)
                have F_10 := hid (F_9.out.ext he10)
                have E10 := hid (E9.out.trans he10)
                clear he10
                obtain ⟨c0, c1, c2⟩ := X10.out.cells
                have hm0e := HMA.out.unique hm0
                subst hm0e
                clear hm0
                rcases hans with ⟨a5, c5, f, rfl, hf, hl⟩ | ⟨rfl, hn⟩
                · skip
                  have HL := hid hl
                  have G_10 := hid (hf)
                  clear hf hl
                  go_wp2_with (fail)
                  refine (Of_any _ _ _ p _ (HP.out.ext E10.out)).mono ?_
                  rintro e w11 ⟨uh, us, up, rfl, hu, he11⟩
                  rw [Hcut.out] at hu
                  obtain ⟨hq1, C, hC, hkC, hq2, hq3⟩ := hu
                  obtain ⟨g, gc, rfl, hgB2, hgs⟩ := hq2.head (by omega)
                  obtain ⟨ha, hna, hc, rfl⟩ := hq1.shape
                  obtain ⟨ta, tn, tc, rfl⟩ := own_shape hq3
                  have QOF := hid he11
                  clear c0 c1 c2
                  have X11 := hid (X10.out.ext he11)
                  have L_11 := hid (L_10.out.ext he11)
                  have C_11 := hid (C_10.out.ext he11)
                  have F_11 := hid (F_10.out.ext he11)
                  have G_11 := hid (G_10.out.ext he11)
                  have E11 := hid (E10.out.trans he11)
                  clear he11
                  obtain ⟨c0, c1, c2⟩ := X11.out.cells
                  clear c0 c1 c2
                  have hxb := Box3.alloc w11 29 (.slice ha hna hc) (.slice (some ⟨g, 0, none⟩) p.shifts.length gc) (.slice ta tn tc)
                  have heq := Ext.ofAlloc w11 (.cells #[.slice ha hna hc, .slice (some ⟨g, 0, none⟩) p.shifts.length gc, .slice ta tn tc] 29)
                  have hszq : (w11.alloc (.cells #[.slice ha hna hc, .slice (some ⟨g, 0, none⟩) p.shifts.length gc, .slice ta tn tc] 29)).heap.size = w11.heap.size + 1 := by simp
                  have hbq := hxb.cells
                  obtain ⟨bq, hbqe⟩ : ∃ b, b = w11.heap.size := ⟨_, rfl⟩
                  have hgbq : g < bq := by rw [hbqe]; exact hgs
                  have hEP : Ext w10 (w11.alloc (.cells #[.slice ha hna hc, .slice (some ⟨g, 0, none⟩) p.shifts.length gc, .slice ta tn tc] 29)) := QOF.out.trans heq
                  have hES : Ext w10 ((w11.alloc (.cells #[.slice ha hna hc, .slice (some ⟨g, 0, none⟩) p.shifts.length gc, .slice ta tn tc] 29)).setCell ⟨g, x, none⟩ (.slice a5 f.length c5)) := hEP.setCell (g := g) (by omega) x _
                  have hQ1 := hq1.ext heq
                  have hQ2 := hq2.ext heq
                  have hQ3 := ownsRow_ext hq3 heq
                  obtain ⟨hr2, ⟨vo, hcell⟩, hfr, -, -⟩ := hQ2.setRows (by omega) hxn (u := .slice a5 f.length c5) (l := f) (G_10.out.ext hES)
                  have hap := hQ1.apart hQ2 (fun k hk => by have := hkC k hk; omega) x (.slice a5 f.length c5)
                  have hai := keep_int hQ2 x (.slice a5 f.length c5) hQ3
                  have hPlan : PlanR ((w11.alloc (.cells #[.slice ha hna hc, .slice (some ⟨g, 0, none⟩) p.shifts.length gc, .slice ta tn tc] 29)).setCell ⟨g, x, none⟩ (.slice a5 f.length c5)) (.slice ha hna hc) (.slice (some ⟨g, 0, none⟩) p.shifts.length gc) (.slice ta tn tc) (setS p x f) :=
                    ⟨hap.rows2 (by omega), hr2, OwnI.ints hai (by show p.places.length ≤ _; have := Hok.out.pl; omega)⟩
                  have HPlan := hid hPlan
                  have HFI := hid (F_10.out.ext hES)
                  have HES := hid hES
                  have hq := HL.out.1.ok Hok.out
                  obtain ⟨q0, q1, q2⟩ := hbq
                  have hxi : (x : Int) < p.shifts.length := by omega
                  have hne : ¬ g = w11.heap.size := by omega
                  have HQ := hid hq
                  clear hxb heq hszq hEP hES hQ1 hQ2 hQ3 hr2 hap hai hPlan hq1 hq2 hq3 hkC hgs hq hbqe hgbq
                  go_wp2_with (fail)
                  refine (First_ok _ _ _ (setS p x f) _ HPlan.out HQ.out).mono ?_
                  rintro e wA ⟨ub, rfl, mb, hub, hmb, heA⟩
                  have hlb : mb.length ≤ 6 := by have := hmb.len; have h2 : (setS p x f).hands.length = p.hands.length := rfl; omega
                  have hubi := hub.ints (by omega)
                  obtain ⟨-, aob, capb, rfl, -⟩ := id hubi
                  have HUB := hid hubi
                  have HFA := hid (HFI.out.ext heA)
                  have HOT := hid (eqI_other (gain_other HL.out.2.1 hmb))
                  have HEA := hid (E10.out.trans (HES.out.trans heA))
                  clear hub hubi heA q0 q1 q2 hcell hfr hmb
                  go_wp2_with (fail)
                  refine (Equal_any _ _ ma mb _ HFA.out HUB.out).mono ?_
                  rw [HOT.out]
                  rintro e wB ⟨rfl, n9, rfl⟩
                  have HEB := hid (HEA.out.drewN n9)
                  go_wp2_with (fail)
                  refine (awake_any _).mono ?_
                  rintro e wC ⟨rfl, heC⟩
                  have HEC := hid (HEB.out.trans heC)
                  clear heC
                  go_wp2
                  go_ret
                  exact ⟨rfl, HEC.out⟩
                · skip
                  clear hn
                  go_wp2_with (fail)
                  refine (awake_any _).mono ?_
                  rintro e w11 ⟨rfl, he11⟩
                  clear c0 c1 c2
                  have E11 := hid (E10.out.trans he11)
                  clear he11
                  go_wp2
                  go_ret
                  exact ⟨rfl, E11.out⟩

end Go.Proofs.Ytkdfbbkonbgfmaa
