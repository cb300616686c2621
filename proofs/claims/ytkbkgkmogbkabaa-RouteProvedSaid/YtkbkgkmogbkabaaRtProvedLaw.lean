/-
  The statement RouteProved: its walk.
-/
import Derived.Test.YtkbkgkmogbkabaaRtProvedPlain
import Derived.Test.YtkbkgkmogbkabaaRtCheck
import Derived.Test.YtkbkgkmogbkabaaRtList
import Derived.Test.YtkbkgkmogbkabaaRtAwake
namespace Go.Proofs.Ytkbkgkmogbkabaa
open Go.RowKit

theorem hmod2 (h : Int) (n : Nat) (h1 : 1 ≤ n) (h6 : n ≤ 15625) : ∃ x : Nat, IntKind.i64.wrap ((IntKind.u64.wrap h).tmod n) = x ∧ x < n := by
  have e : IntKind.u64.wrap h = h % 18446744073709551616 := IntKind.wrap_u64 h
  have a0 : 0 ≤ IntKind.u64.wrap h := by rw [e]; exact Int.emod_nonneg _ (by decide)
  have b0 := Int.tmod_nonneg (n : Int) a0
  have b1 := Int.tmod_lt_of_pos (IntKind.u64.wrap h) (show (0 : Int) < n by omega)
  obtain ⟨x, hx⟩ := Int.eq_ofNat_of_zero_le b0
  refine ⟨x, ?_, by omega⟩
  rw [hx]
  rw [IntWalk.i64_left]
  exact IntWalk.wrap64_in _ (by omega)

set_option maxRecDepth 20000 in
set_option maxHeartbeats 16000000 in
theorem RouteProved_any (vr vw vp : Value) (m : MapD) (a b : Int) (way pot : List Int) (w : World) (hm : MapR w vr m) (hw : Ints w vw way) (hp : Ints w vp pot) :
    Calls Try.prog 8 #[.agg #[.int .i64 m.n, vr], .int .i64 a, .int .i64 b, vw, vp] w fun e w' => e = .returned (.bool true) ∧ Ext w w' := by
  obtain ⟨ao, cap, rfl⟩ := hm.shape
  have HM := hid hm
  have HWI := hid hw
  have HPI := hid hp
  obtain ⟨hwl, aw, cw, rfl, -⟩ := hw
  obtain ⟨-, ap, cp, rfl, -⟩ := hp
  have X0 := Box2.alloc w 24 (.int .i64 m.n) (.slice ao m.roads.length cap)
  clear hm
  by_cases hb : mapOk m = true
  · obtain ⟨n, rs⟩ := m
    have hok2 := hb
    unfold mapOk at hok2
    rw [Bool.and_eq_true, decide_eq_true_iff, List.all_eq_true] at hok2
    obtain ⟨⟨h1, h8, h16⟩, hall⟩ := hok2
    dsimp only at h1 h8 h16 hall
    obtain ⟨N, rfl⟩ := Int.eq_ofNat_of_zero_le (show 0 ≤ n by omega)
    have hN1 : 1 ≤ N := by omega
    have hN8 : N ≤ 8 := by omega
    have HB := hid hb
    have HAll := hid hall
    have HTK : Hid (rs.take 18 = rs) := congrArg MapD.roads (cutM_id hb)
    dsimp only at X0 HM
    clear hb hall
    go_enter Try.func8, Try.ntmps8
    go_wp2_with (fail)
    refine (Of_any _ ⟨N, rs⟩ _ (MapR.ext HM.out (Ext.ofAlloc w _))).mono ?_
    rintro e w1 ⟨uU, rfl, hu, he1⟩
    dsimp only at hu
    rw [HTK.out] at hu
    have X1 := hid (X0.ext he1)
    have E1 := hid ((Ext.ofAlloc w _).trans he1)
    clear he1
    obtain ⟨c0, c1⟩ := X1.out.cells
    have U_1 := hid (hu.roads (by omega))
    clear hu
    go_wp2_with (fail)
    refine (Distances_ok _ N rs _ U_1.out HB.out).mono ?_
    rintro e w2 ⟨vd, rfl, hmat, he2⟩
    obtain ⟨gb, kb, rfl, -⟩ := hmat.head (by omega)
    clear c0 c1
    have X2 := hid (X1.out.ext he2)
    have U_2 := hid (U_1.out.ext he2)
    have E2 := hid (E1.out.trans he2)
    clear he2
    obtain ⟨c0, c1⟩ := X2.out.cells
    have T_2 := hid (hmat)
    clear hmat
    go_wp2_with (fail)
    refine (RValid_any _ ⟨N, rs⟩ _ (MapR.ext HM.out E2.out)).mono ?_
    rw [HB.out]
    rintro e w3 ⟨rfl, he3⟩
    clear c0 c1
    have X3 := hid (X2.out.ext he3)
    have T_3 := hid (T_2.out.ext he3)
    have E3 := hid (E2.out.trans he3)
    clear he3
    obtain ⟨c0, c1⟩ := X3.out.cells
    obtain ⟨A, hA0, hA⟩ := hmod2 a N hN1 (by omega)
    obtain ⟨B, hB0, hB2⟩ := hmod2 b N hN1 (by omega)
    have hwr : IntKind.u64.wrap (N : Int) = (N : Int) := by rw [IntKind.wrap_u64]; omega
    have hN0 : ¬ (N : Int) = 0 := by omega
    have hN0n : ¬ N = 0 := by omega
    have hN0b : ((N : Int) == 0) = false := beq_eq_false_iff_ne.2 hN0
    go_wp2
    refine wp_region_held_drew (S := (fun w' => w'.cell? ⟨w.heap.size, 0, none⟩ = some (.int .i64 N))) (by kernel_rfl) ?hSa0 (fun hHeld => ?_)
    case hSa0 => (first | (exact c0) | ((try dsimp only); exact c0))
    refine wpAnyH_tk 0 (v := ?va0) rfl (by kernel_rfl) (by kernel_rfl) (by kernel_rfl) (fun _ _ _ h => h) (by rfl) ?hya0 (by assumption) ?_
    case hya0 => (intro w hSw; (try dsimp only at hSw); go_simp <;> with_reducible rfl)
    (try simp only [Act.put, List.setIfInBounds_toArray, List.set_cons_zero, List.set_cons_succ])
    refine wpAnyH_tk 1 (v := ?va1) rfl (by kernel_rfl) (by kernel_rfl) (by kernel_rfl) (fun _ _ _ h => h) (by rfl) ?hya1 (by assumption) ?_
    case hya1 => (intro w hSw; (try dsimp only at hSw); go_simp <;> with_reducible rfl)
    (try simp only [Act.put, List.setIfInBounds_toArray, List.set_cons_zero, List.set_cons_succ])
    refine wpAnyH_tk 2 (v := ?va2) rfl (by kernel_rfl) (by kernel_rfl) (by kernel_rfl) (fun _ _ _ h => h) (by rfl) ?hya2 (by assumption) ?_
    case hya2 => (intro w hSw; (try dsimp only at hSw); go_simp <;> with_reducible rfl)
    (try simp only [Act.put, List.setIfInBounds_toArray, List.set_cons_zero, List.set_cons_succ])
    refine wpAnyH_tk 3 (v := ?va3) rfl (by kernel_rfl) (by kernel_rfl) (by kernel_rfl) (fun _ _ _ h => h) (by rfl) ?hya3 (by assumption) ?_
    case hya3 => (intro w hSw; (try dsimp only at hSw); go_simp <;> with_reducible rfl)
    (try simp only [Act.put, List.setIfInBounds_toArray, List.set_cons_zero, List.set_cons_succ])
    refine wpAnyH_tk 4 (v := ?va4) rfl (by kernel_rfl) (by kernel_rfl) (by kernel_rfl) (fun _ _ _ h => h) (by rfl) ?hya4 (by assumption) ?_
    case hya4 => (intro w hSw; (try dsimp only at hSw); go_simp <;> with_reducible rfl)
    (try simp only [Act.put, List.setIfInBounds_toArray, List.set_cons_zero, List.set_cons_succ])
    refine wpAnyH_tk 5 (v := ?va5) rfl (by kernel_rfl) (by kernel_rfl) (by kernel_rfl) (fun _ _ _ h => h) (by rfl) ?hya5 (by assumption) ?_
    case hya5 => (intro w hSw; (try dsimp only at hSw); go_simp <;> with_reducible rfl)
    (try simp only [Act.put, List.setIfInBounds_toArray, List.set_cons_zero, List.set_cons_succ])
    refine wpAnyH_tk 6 (v := ?va6) rfl (by kernel_rfl) (by kernel_rfl) (by kernel_rfl) (fun _ _ _ h => h) (by rfl) ?hya6 (by assumption) ?_
    case hya6 => (intro w hSw; (try dsimp only at hSw); go_simp <;> with_reducible rfl)
    (try simp only [Act.put, List.setIfInBounds_toArray, List.set_cons_zero, List.set_cons_succ])
    refine wpAnyH_tk 7 (v := ?va7) rfl (by kernel_rfl) (by kernel_rfl) (by kernel_rfl) (fun _ _ _ h => h) (by rfl) ?hya7 (by assumption) ?_
    case hya7 => (intro w hSw; (try dsimp only at hSw); go_simp <;> with_reducible rfl)
    (try simp only [Act.put, List.setIfInBounds_toArray, List.set_cons_zero, List.set_cons_succ])
    refine wpAnyH_tk 8 (v := ?va8) rfl (by kernel_rfl) (by kernel_rfl) (by kernel_rfl) (fun _ _ _ h => h) (by rfl) ?hya8 (by assumption) ?_
    case hya8 => (intro w hSw; (try dsimp only at hSw); go_simp <;> with_reducible rfl)
    (try simp only [Act.put, List.setIfInBounds_toArray, List.set_cons_zero, List.set_cons_succ])
    refine wpAnyH_tk 9 (v := ?va9) rfl (by kernel_rfl) (by kernel_rfl) (by kernel_rfl) (fun _ _ _ h => h) (by rfl) ?hya9 (by assumption) ?_
    case hya9 => (intro w hSw; (try dsimp only at hSw); go_simp <;> with_reducible rfl)
    (try simp only [Act.put, List.setIfInBounds_toArray, List.set_cons_zero, List.set_cons_succ])
    refine wpAnyH_tk 10 (v := ?va10) rfl (by kernel_rfl) (by kernel_rfl) (by kernel_rfl) (fun _ _ _ h => h) (by rfl) ?hya10 (by assumption) ?_
    case hya10 => (intro w hSw; (try dsimp only at hSw); go_simp <;> with_reducible rfl)
    (try simp only [Act.put, List.setIfInBounds_toArray, List.set_cons_zero, List.set_cons_succ])
    refine wpAnyH_tk 11 (v := ?va11) rfl (by kernel_rfl) (by kernel_rfl) (by kernel_rfl) (fun _ _ _ h => h) (by rfl) ?hya11 (by assumption) ?_
    case hya11 => (intro w hSw; (try dsimp only at hSw); go_simp <;> with_reducible rfl)
    (try simp only [Act.put, List.setIfInBounds_toArray, List.set_cons_zero, List.set_cons_succ])
    refine wpAnyH_tk 12 (v := ?va12) rfl (by kernel_rfl) (by kernel_rfl) (by kernel_rfl) (fun _ _ _ h => h) (by rfl) ?hya12 (by assumption) ?_
    case hya12 => (intro w hSw; (try dsimp only at hSw); go_simp <;> with_reducible rfl)
    (try simp only [Act.put, List.setIfInBounds_toArray, List.set_cons_zero, List.set_cons_succ])
    refine wpAnyH_tk 13 (v := ?va13) rfl (by kernel_rfl) (by kernel_rfl) (by kernel_rfl) (fun _ _ _ h => h) (by rfl) ?hya13 (by assumption) ?_
    case hya13 => (intro w hSw; (try dsimp only at hSw); go_simp <;> with_reducible rfl)
    (try simp only [Act.put, List.setIfInBounds_toArray, List.set_cons_zero, List.set_cons_succ])
    refine wpAnyH_tk 14 (v := ?va14) rfl (by kernel_rfl) (by kernel_rfl) (by kernel_rfl) (fun _ _ _ h => h) (by rfl) ?hya14 (by assumption) ?_
    case hya14 => (intro w hSw; (try dsimp only at hSw); go_simp <;> with_reducible rfl)
    (try simp only [Act.put, List.setIfInBounds_toArray, List.set_cons_zero, List.set_cons_succ])
    refine wpAnyH_tk 15 (v := ?va15) rfl (by kernel_rfl) (by kernel_rfl) (by kernel_rfl) (fun _ _ _ h => h) (by rfl) ?hya15 (by assumption) ?_
    case hya15 => (intro w hSw; (try dsimp only at hSw); go_simp <;> with_reducible rfl)
    (try simp only [Act.put, List.setIfInBounds_toArray, List.set_cons_zero, List.set_cons_succ])
    refine wpAnyH_done (by kernel_rfl) ?_ _
    clear hA0 hB0 hwr hN0 hN0n hN0b hHeld
    clear c0 c1
    have ed := hid ((Ext.refl w3).drew)
    have X4 := hid (X3.out.ext ed.out)
    have T_4 := hid (T_3.out.ext ed.out)
    have E4 := hid (E3.out.trans ed.out)
    obtain ⟨c0, c1⟩ := X4.out.cells
    clear ed
    by_cases hl : lone (fw (costTo rs) N) N A
    · have HLn := hid hl
      by_cases hf : far ≤ fw (costTo rs) N A B
      · have HFar := hid hf
        clear hf hl
        go_wp2_with (fail)
        refine (Of_any _ ⟨N, rs⟩ _ (MapR.ext HM.out E4.out)).mono ?_
        rintro e w5 ⟨uU, rfl, hu, he5⟩
        dsimp only at hu
        rw [HTK.out] at hu
        clear c0 c1
        have X5 := hid (X4.out.ext he5)
        have T_5 := hid (T_4.out.ext he5)
        have E5 := hid (E4.out.trans he5)
        clear he5
        obtain ⟨c0, c1⟩ := X5.out.cells
        have U_5 := hid (hu.roads (by omega))
        clear hu
        go_wp2_with (fail)
        refine (Way_far _ N rs A B _ U_5.out HB.out hA hB2 HFar.out).mono ?_
        rintro e w6 ⟨rfl, he6⟩
        clear c0 c1
        have X6 := hid (X5.out.ext he6)
        have T_6 := hid (T_5.out.ext he6)
        have U_6 := hid (U_5.out.ext he6)
        have E6 := hid (E5.out.trans he6)
        clear he6
        obtain ⟨c0, c1⟩ := X6.out.cells
        go_wp2_with (fail)
        refine (Of_any _ ⟨N, rs⟩ _ (MapR.ext HM.out E6.out)).mono ?_
        rintro e w7 ⟨uU, rfl, hu, he7⟩
        dsimp only at hu
        rw [HTK.out] at hu
        clear c0 c1
        have X7 := hid (X6.out.ext he7)
        have T_7 := hid (T_6.out.ext he7)
        have E7 := hid (E6.out.trans he7)
        clear he7
        obtain ⟨c0, c1⟩ := X7.out.cells
        have U_7 := hid (hu.roads (by omega))
        clear hu
        go_wp2_with (fail)
        refine (Potentials_ok _ N rs A _ U_7.out HB.out hA).mono ?_
        rintro e w8 ⟨v5, x5, rfl, he8, hpost⟩
        obtain ⟨rfl, rfl⟩ : v5 = .slice none 0 0 ∧ x5 = 4 := by
          rcases hpost with ⟨-, h⟩ | ⟨h, -⟩
          · exact h
          · exact absurd HLn.out h
        clear hpost
        clear c0 c1
        have X8 := hid (X7.out.ext he8)
        have T_8 := hid (T_7.out.ext he8)
        have U_8 := hid (U_7.out.ext he8)
        have E8 := hid (E7.out.trans he8)
        clear he8
        obtain ⟨c0, c1⟩ := X8.out.cells
        go_wp2_with (fail)
        refine (Of_any _ ⟨N, rs⟩ _ (MapR.ext HM.out E8.out)).mono ?_
        rintro e w9 ⟨uU, rfl, hu, he9⟩
        dsimp only at hu
        rw [HTK.out] at hu
        clear c0 c1
        have X9 := hid (X8.out.ext he9)
        have T_9 := hid (T_8.out.ext he9)
        have E9 := hid (E8.out.trans he9)
        clear he9
        obtain ⟨c0, c1⟩ := X9.out.cells
        have U_9 := hid (hu.roads (by omega))
        clear hu
        go_wp2_with (fail)
        refine (list_any _ way _ (HWI.out.ext E9.out)).mono ?_
        rintro e w10 ⟨u1, rfl, hi1, he10⟩
        obtain ⟨-, a1, c1x, rfl, -⟩ := id hi1
        generalize (way.take 18).length = n1 at hi1 ⊢
        clear c0 c1
        have X10 := hid (X9.out.ext he10)
        have T_10 := hid (T_9.out.ext he10)
        have U_10 := hid (U_9.out.ext he10)
        have E10 := hid (E9.out.trans he10)
        clear he10
        obtain ⟨c0, c1⟩ := X10.out.cells
        have W1_10 := hid (hi1)
        clear hi1
        go_wp2_with (fail)
        refine (list_any _ pot _ (HPI.out.ext E10.out)).mono ?_
        rintro e w11 ⟨u2, rfl, hi2, he11⟩
        obtain ⟨-, a2, c2x, rfl, -⟩ := id hi2
        generalize (pot.take 18).length = n2 at hi2 ⊢
        clear c0 c1
        have X11 := hid (X10.out.ext he11)
        have T_11 := hid (T_10.out.ext he11)
        have U_11 := hid (U_10.out.ext he11)
        have W1_11 := hid (W1_10.out.ext he11)
        have E11 := hid (E10.out.trans he11)
        clear he11
        obtain ⟨c0, c1⟩ := X11.out.cells
        have P1_11 := hid (hi2)
        clear hi2
        go_wp2_with (fail)
        refine (CheckWay_ok _ _ _ N rs _ _ _ U_11.out W1_11.out P1_11.out HB.out (by rw [List.length_take]; omega)).mono ?_
        rw [shown_cut hN8]
        rintro e w12 ⟨rfl, he12⟩
        clear c0 c1
        have X12 := hid (X11.out.ext he12)
        have T_12 := hid (T_11.out.ext he12)
        have U_12 := hid (U_11.out.ext he12)
        have W1_12 := hid (W1_11.out.ext he12)
        have P1_12 := hid (P1_11.out.ext he12)
        have E12 := hid (E11.out.trans he12)
        clear he12
        obtain ⟨c0, c1⟩ := X12.out.cells
        cases hsh : shownB rs N way pot
        · clear hsh
          go_wp2_with (fail)
          refine (awake_any _).mono ?_
          rintro e w13 ⟨rfl, he13⟩
          clear c0 c1
          have E13 := hid (E12.out.trans he13)
          clear he13
          go_wp2
          go_ret
          exact ⟨rfl, E13.out⟩
        · obtain ⟨hpn, hne, hx, hy, hval, hpb⟩ := shown_proved HAll.out hN8 hsh
          have hwpos : 0 < way.length := List.length_pos_iff.2 hne
          clear hsh hne
          obtain ⟨p, hpx⟩ := Int.eq_ofNat_of_zero_le hx.1
          obtain ⟨q, hqy⟩ := Int.eq_ofNat_of_zero_le hy.1
          have hpN : p < N := by omega
          have hqN : q < N := by omega
          rw [hpx, hqy, Int.toNat_natCast, Int.toNat_natCast] at hval
          have HSX : Hid (stopB N (p : Int) = true) := by show _ = _; unfold stopB; rw [decide_eq_true_iff]; omega
          have HSY : Hid (stopB N (q : Int) = true) := by show _ = _; unfold stopB; rw [decide_eq_true_iff]; omega
          obtain ⟨bw, ow, rfl, -, hce⟩ := HWI.out.get (way.length - 1) (by omega)
          obtain ⟨bw2, ow2, he2, -, hcf⟩ := HWI.out.get 0 (by omega)
          simp only [Option.some.injEq, Addr.mk.injEq, and_true] at he2
          obtain ⟨rfl, rfl⟩ := he2
          have dl := hce _ E12.out
          have d0 := hcf _ E12.out
          rw [Nat.add_zero, hpx] at d0
          change (World.cell? _ _ = some (.int .i64 (lastI way))) at dl
          rw [hqy] at dl
          obtain ⟨bp, op, rfl, -, hca⟩ := HPI.out.get p (by omega)
          obtain ⟨bp2, op2, he2, -, hcb⟩ := HPI.out.get q (by omega)
          simp only [Option.some.injEq, Addr.mk.injEq, and_true] at he2
          obtain ⟨rfl, rfl⟩ := he2
          have ea := hca _ E12.out
          have eb := hcb _ E12.out
          obtain ⟨gr, ca, ia, -⟩ := T_12.out.row hpN
          have ca' : w12.cell? ⟨gb, p, none⟩ = some (.slice (some ⟨gr, 0, none⟩) N N) := ca
          have dpq := ia.cell (i := q) (by rw [rowL_len]; exact hqN)
          rw [rowL_fn hqN] at dpq
          have bp1 := hpb _ (intAt_mem (l := pot) (i := (p : Int)) (by omega) (by omega))
          have bq1 := hpb _ (intAt_mem (l := pot) (i := (q : Int)) (by omega) (by omega))
          obtain ⟨pa, hpa⟩ : ∃ x, x = fn pot q := ⟨_, rfl⟩
          obtain ⟨pb, hpb2⟩ : ∃ x, x = fn pot p := ⟨_, rfl⟩
          obtain ⟨dv, hdv⟩ : ∃ x, x = nn (fw (costTo rs) N p q) := ⟨_, rfl⟩
          change -1000 ≤ fn pot p ∧ fn pot p ≤ 1000 at bp1
          change -1000 ≤ fn pot q ∧ fn pot q ≤ 1000 at bq1
          change fn pot q - fn pot p = _ at hval
          rw [← hpa] at eb bq1 hval
          rw [← hpb2] at ea bp1 hval
          rw [← hdv] at dpq hval
          have hwd : IntKind.i64.wrap (pa - pb) = pa - pb := by rw [IntKind.wrap_i64]; omega
          have heb : (pa - pb == dv) = true := beq_iff_eq.2 hval
          have hk1 : ((way.length : Int) - 1).toNat = way.length - 1 := by omega
          have hk2 : IntKind.i64.wrap ((way.length : Int) - 1) = (way.length : Int) - 1 := by rw [IntKind.wrap_i64]; omega
          have hk3 : (1 : Int) ≤ (way.length : Int) := by omega
          have hk5 : (0 : Int) < (way.length : Int) := by omega
          have hk4 : (way.length : Int) - 1 < (way.length : Int) := by omega
          have hz : ((way.length : Int) == 0) = false := beq_eq_false_iff_ne.2 (by omega)
          have hzz : ¬ (way.length : Int) = 0 := by omega
          have hpb3 : ((pot.length : Int) != (N : Int)) = false := by rw [hpn]; simp
          have hpl : (p : Int) < (pot.length : Int) := by omega
          have hql : (q : Int) < (pot.length : Int) := by omega
          have HK : Hid (∀ w', Ext w12 w' → w'.cell? ⟨w.heap.size, 0, none⟩ = some (.int .i64 N) ∧ w'.cell? ⟨w.heap.size, 1, none⟩ = some (.slice ao rs.length cap) ∧ w'.cell? ⟨bp, op + p, none⟩ = some (.int .i64 pb) ∧ w'.cell? ⟨bp, op + q, none⟩ = some (.int .i64 pa) ∧ w'.cell? ⟨gb, p, none⟩ = some (.slice (some ⟨gr, 0, none⟩) N N) ∧ w'.cell? ⟨gr, q, none⟩ = some (.int .i64 dv)) :=
            fun w' e => ⟨e.cell c0, e.cell c1, e.cell ea, e.cell eb, e.cell ca', e.cell dpq⟩
          have HEX := hid (E12.out.drew)
          clear hce hcf hca hcb ca ia hpa hpb2 hdv hval bp1 bq1 hpb hx hy hpx hqy ea eb ca' dpq c1
          go_wp2
          refine wp_region_held_drew (S := (fun w' => w'.cell? ⟨bw, ow, none⟩ = some (.int .i64 p) ∧ w'.cell? ⟨bw, ow + (way.length - 1), none⟩ = some (.int .i64 q))) (by kernel_rfl) ?hSb0 (fun hHeld => ?_)
          case hSb0 => (first | (exact ⟨d0, dl⟩) | ((try dsimp only); exact ⟨d0, dl⟩))
          refine wpAnyH_tk 0 (v := ?vb0) rfl (by kernel_rfl) (by kernel_rfl) (by kernel_rfl) (fun _ _ _ h => h) (by rfl) ?hyb0 (by assumption) ?_
          case hyb0 => (intro w hSw; (try dsimp only at hSw); go_simp <;> with_reducible rfl)
          (try simp only [Act.put, List.setIfInBounds_toArray, List.set_cons_zero, List.set_cons_succ])
          refine wpAnyH_tk 1 (v := ?vb1) rfl (by kernel_rfl) (by kernel_rfl) (by kernel_rfl) (fun _ _ _ h => h) (by rfl) ?hyb1 (by assumption) ?_
          case hyb1 => (intro w hSw; (try dsimp only at hSw); go_simp <;> with_reducible rfl)
          (try simp only [Act.put, List.setIfInBounds_toArray, List.set_cons_zero, List.set_cons_succ])
          refine wpAnyH_tk 2 (v := ?vb2) rfl (by kernel_rfl) (by kernel_rfl) (by kernel_rfl) (fun _ _ _ h => h) (by rfl) ?hyb2 (by assumption) ?_
          case hyb2 => (intro w hSw; (try dsimp only at hSw); go_simp <;> with_reducible rfl)
          (try simp only [Act.put, List.setIfInBounds_toArray, List.set_cons_zero, List.set_cons_succ])
          refine wpAnyH_tk 3 (v := ?vb3) rfl (by kernel_rfl) (by kernel_rfl) (by kernel_rfl) (fun _ _ _ h => h) (by rfl) ?hyb3 (by assumption) ?_
          case hyb3 => (intro w hSw; (try dsimp only at hSw); go_simp <;> with_reducible rfl)
          (try simp only [Act.put, List.setIfInBounds_toArray, List.set_cons_zero, List.set_cons_succ])
          refine wpAnyH_tk 4 (v := ?vb4) rfl (by kernel_rfl) (by kernel_rfl) (by kernel_rfl) (fun _ _ _ h => h) (by rfl) ?hyb4 (by assumption) ?_
          case hyb4 => (intro w hSw; (try dsimp only at hSw); go_simp <;> with_reducible rfl)
          (try simp only [Act.put, List.setIfInBounds_toArray, List.set_cons_zero, List.set_cons_succ])
          refine wpAnyH_tk 5 (v := ?vb5) rfl (by kernel_rfl) (by kernel_rfl) (by kernel_rfl) (fun _ _ _ h => h) (by rfl) ?hyb5 (by assumption) ?_
          case hyb5 => (intro w hSw; (try dsimp only at hSw); go_simp <;> with_reducible rfl)
          (try simp only [Act.put, List.setIfInBounds_toArray, List.set_cons_zero, List.set_cons_succ])
          refine wpAnyH_tk 6 (v := ?vb6) rfl (by kernel_rfl) (by kernel_rfl) (by kernel_rfl) (fun _ _ _ h => h) (by rfl) ?hyb6 (by assumption) ?_
          case hyb6 => (intro w hSw; (try dsimp only at hSw); go_simp <;> with_reducible rfl)
          (try simp only [Act.put, List.setIfInBounds_toArray, List.set_cons_zero, List.set_cons_succ])
          refine wpAnyH_tk 7 (v := ?vb7) rfl (by kernel_rfl) (by kernel_rfl) (by kernel_rfl) (fun _ _ _ h => h) (by rfl) ?hyb7 (by assumption) ?_
          case hyb7 => (intro w hSw; (try dsimp only at hSw); go_simp <;> with_reducible rfl)
          (try simp only [Act.put, List.setIfInBounds_toArray, List.set_cons_zero, List.set_cons_succ])
          refine wpAnyH_tk 8 (v := ?vb8) rfl (by kernel_rfl) (by kernel_rfl) (by kernel_rfl) (fun _ _ _ h => h) (by rfl) ?hyb8 (by assumption) ?_
          case hyb8 => (intro w hSw; (try dsimp only at hSw); go_simp <;> with_reducible rfl)
          (try simp only [Act.put, List.setIfInBounds_toArray, List.set_cons_zero, List.set_cons_succ])
          refine wpAnyH_tk 9 (v := ?vb9) rfl (by kernel_rfl) (by kernel_rfl) (by kernel_rfl) (fun _ _ _ h => h) (by rfl) ?hyb9 (by assumption) ?_
          case hyb9 => (intro w hSw; (try dsimp only at hSw); go_simp <;> with_reducible rfl)
          (try simp only [Act.put, List.setIfInBounds_toArray, List.set_cons_zero, List.set_cons_succ])
          refine wpAnyH_tk 10 (v := ?vb10) rfl (by kernel_rfl) (by kernel_rfl) (by kernel_rfl) (fun _ _ _ h => h) (by rfl) ?hyb10 (by assumption) ?_
          case hyb10 => (intro w hSw; (try dsimp only at hSw); go_simp <;> with_reducible rfl)
          (try simp only [Act.put, List.setIfInBounds_toArray, List.set_cons_zero, List.set_cons_succ])
          refine wpAnyH_done (by kernel_rfl) ?_ _
          clear d0 dl c0 hHeld hz hzz hpb3 hk1 hk2 hk3 hk4 hk5
          have HK2 : Hid (∀ w', Ext w12.drew w' → _) := fun w' e => HK.out w' ((Ext.refl w12).drew.trans e)
          generalize w12.drew = wc at HEX HK2 ⊢
          go_wp2
          refine wp_region_held_drew (S := (fun w' => w'.cell? ⟨w.heap.size, 0, none⟩ = some (.int .i64 N) ∧ w'.cell? ⟨w.heap.size, 1, none⟩ = some (.slice ao rs.length cap) ∧ w'.cell? ⟨bp, op + p, none⟩ = some (.int .i64 pb) ∧ w'.cell? ⟨bp, op + q, none⟩ = some (.int .i64 pa) ∧ w'.cell? ⟨gb, p, none⟩ = some (.slice (some ⟨gr, 0, none⟩) N N) ∧ w'.cell? ⟨gr, q, none⟩ = some (.int .i64 dv))) (by kernel_rfl) ?hSc0 (fun hHeld => ?_)
          case hSc0 => (first | (exact HK2.out _ (Ext.refl _).drew) | ((try dsimp only); exact HK2.out _ (Ext.refl _).drew))
          refine wpAnyH_tk 0 (v := ?vc0) rfl (by kernel_rfl) (by kernel_rfl) (by kernel_rfl) (fun _ _ _ h => h) (by rfl) ?hyc0 (by assumption) ?_
          case hyc0 => (intro w hSw; (try dsimp only at hSw); go_simp <;> with_reducible rfl)
          (try simp only [Act.put, List.setIfInBounds_toArray, List.set_cons_zero, List.set_cons_succ])
          refine wpAnyH_tk 1 (v := ?vc1) rfl (by kernel_rfl) (by kernel_rfl) (by kernel_rfl) (fun _ _ _ h => h) (by rfl) ?hyc1 (by assumption) ?_
          case hyc1 => (intro w hSw; (try dsimp only at hSw); go_simp <;> with_reducible rfl)
          (try simp only [Act.put, List.setIfInBounds_toArray, List.set_cons_zero, List.set_cons_succ])
          refine wpAnyH_one 2 rfl (by kernel_rfl) (by rfl) (fun K hK => ?_)
          go_simp
          (refine (lawstop_any _ ⟨N, rs⟩ p _ (MapR.ext HM.out HEX.out.drew)).mono ?_; rw [HSX.out]; rintro e wA ⟨rfl, heA⟩)
          refine hK.out _ _ ?hSc3 (fun hHeld => ?_)
          case hSc3 => (first | (exact HK2.out _ ((Ext.refl _).drew.trans heA)) | ((try dsimp only); exact HK2.out _ ((Ext.refl _).drew.trans heA)))
          clear hK K
          (try simp only [Act.put, List.setIfInBounds_toArray, List.set_cons_zero, List.set_cons_succ])
          refine wpAnyH_tk 3 (v := ?vc3) rfl (by kernel_rfl) (by kernel_rfl) (by kernel_rfl) (fun _ _ _ h => h) (by rfl) ?hyc3 (by assumption) ?_
          case hyc3 => (intro w hSw; (try dsimp only at hSw); go_simp <;> with_reducible rfl)
          (try simp only [Act.put, List.setIfInBounds_toArray, List.set_cons_zero, List.set_cons_succ])
          refine wpAnyH_tk 4 (v := ?vc4) rfl (by kernel_rfl) (by kernel_rfl) (by kernel_rfl) (fun _ _ _ h => h) (by rfl) ?hyc4 (by assumption) ?_
          case hyc4 => (intro w hSw; (try dsimp only at hSw); go_simp <;> with_reducible rfl)
          (try simp only [Act.put, List.setIfInBounds_toArray, List.set_cons_zero, List.set_cons_succ])
          refine wpAnyH_tk 5 (v := ?vc5) rfl (by kernel_rfl) (by kernel_rfl) (by kernel_rfl) (fun _ _ _ h => h) (by rfl) ?hyc5 (by assumption) ?_
          case hyc5 => (intro w hSw; (try dsimp only at hSw); go_simp <;> with_reducible rfl)
          (try simp only [Act.put, List.setIfInBounds_toArray, List.set_cons_zero, List.set_cons_succ])
          refine wpAnyH_one 6 rfl (by kernel_rfl) (by rfl) (fun K hK => ?_)
          go_simp
          (refine (lawstop_any _ ⟨N, rs⟩ q _ (MapR.ext HM.out (HEX.out.drew.trans heA))).mono ?_; rw [HSY.out]; rintro e wB ⟨rfl, heB⟩)
          refine hK.out _ _ ?hSc7 (fun hHeld => ?_)
          case hSc7 => (first | (exact HK2.out _ (((Ext.refl _).drew.trans heA).trans heB)) | ((try dsimp only); exact HK2.out _ (((Ext.refl _).drew.trans heA).trans heB)))
          clear hK K
          (try simp only [Act.put, List.setIfInBounds_toArray, List.set_cons_zero, List.set_cons_succ])
          refine wpAnyH_tk 7 (v := ?vc7) rfl (by kernel_rfl) (by kernel_rfl) (by kernel_rfl) (fun _ _ _ h => h) (by rfl) ?hyc7 (by assumption) ?_
          case hyc7 => (intro w hSw; (try dsimp only at hSw); go_simp <;> with_reducible rfl)
          (try simp only [Act.put, List.setIfInBounds_toArray, List.set_cons_zero, List.set_cons_succ])
          refine wpAnyH_tk 8 (v := ?vc8) rfl (by kernel_rfl) (by kernel_rfl) (by kernel_rfl) (fun _ _ _ h => h) (by rfl) ?hyc8 (by assumption) ?_
          case hyc8 => (intro w hSw; (try dsimp only at hSw); go_simp <;> with_reducible rfl)
          (try simp only [Act.put, List.setIfInBounds_toArray, List.set_cons_zero, List.set_cons_succ])
          refine wpAnyH_tk 9 (v := ?vc9) rfl (by kernel_rfl) (by kernel_rfl) (by kernel_rfl) (fun _ _ _ h => h) (by rfl) ?hyc9 (by assumption) ?_
          case hyc9 => (intro w hSw; (try dsimp only at hSw); go_simp <;> with_reducible rfl)
          (try simp only [Act.put, List.setIfInBounds_toArray, List.set_cons_zero, List.set_cons_succ])
          refine wpAnyH_tk 10 (v := ?vc10) rfl (by kernel_rfl) (by kernel_rfl) (by kernel_rfl) (fun _ _ _ h => h) (by rfl) ?hyc10 (by assumption) ?_
          case hyc10 => (intro w hSw; (try dsimp only at hSw); go_simp <;> with_reducible rfl)
          (try simp only [Act.put, List.setIfInBounds_toArray, List.set_cons_zero, List.set_cons_succ])
          refine wpAnyH_tk 11 (v := ?vc11) rfl (by kernel_rfl) (by kernel_rfl) (by kernel_rfl) (fun _ _ _ h => h) (by rfl) ?hyc11 (by assumption) ?_
          case hyc11 => (intro w hSw; (try dsimp only at hSw); go_simp <;> with_reducible rfl)
          (try simp only [Act.put, List.setIfInBounds_toArray, List.set_cons_zero, List.set_cons_succ])
          refine wpAnyH_tk 12 (v := ?vc12) rfl (by kernel_rfl) (by kernel_rfl) (by kernel_rfl) (fun _ _ _ h => h) (by rfl) ?hyc12 (by assumption) ?_
          case hyc12 => (intro w hSw; (try dsimp only at hSw); go_simp <;> with_reducible rfl)
          (try simp only [Act.put, List.setIfInBounds_toArray, List.set_cons_zero, List.set_cons_succ])
          refine wpAnyH_tk 13 (v := ?vc13) rfl (by kernel_rfl) (by kernel_rfl) (by kernel_rfl) (fun _ _ _ h => h) (by rfl) ?hyc13 (by assumption) ?_
          case hyc13 => (intro w hSw; (try dsimp only at hSw); go_simp <;> with_reducible rfl)
          (try simp only [Act.put, List.setIfInBounds_toArray, List.set_cons_zero, List.set_cons_succ])
          refine wpAnyH_tk 14 (v := ?vc14) rfl (by kernel_rfl) (by kernel_rfl) (by kernel_rfl) (fun _ _ _ h => h) (by rfl) ?hyc14 (by assumption) ?_
          case hyc14 => (intro w hSw; (try dsimp only at hSw); go_simp <;> with_reducible rfl)
          (try simp only [Act.put, List.setIfInBounds_toArray, List.set_cons_zero, List.set_cons_succ])
          refine wpAnyH_tk 15 (v := ?vc15) rfl (by kernel_rfl) (by kernel_rfl) (by kernel_rfl) (fun _ _ _ h => h) (by rfl) ?hyc15 (by assumption) ?_
          case hyc15 => (intro w hSw; (try dsimp only at hSw); go_simp <;> with_reducible rfl)
          (try simp only [Act.put, List.setIfInBounds_toArray, List.set_cons_zero, List.set_cons_succ])
          refine wpAnyH_tk 16 (v := ?vc16) rfl (by kernel_rfl) (by kernel_rfl) (by kernel_rfl) (fun _ _ _ h => h) (by rfl) ?hyc16 (by assumption) ?_
          case hyc16 => (intro w hSw; (try dsimp only at hSw); go_simp <;> with_reducible rfl)
          (try simp only [Act.put, List.setIfInBounds_toArray, List.set_cons_zero, List.set_cons_succ])
          refine wpAnyH_tk 17 (v := ?vc17) rfl (by kernel_rfl) (by kernel_rfl) (by kernel_rfl) (fun _ _ _ h => h) (by rfl) ?hyc17 (by assumption) ?_
          case hyc17 => (intro w hSw; (try dsimp only at hSw); go_simp <;> with_reducible rfl)
          (try simp only [Act.put, List.setIfInBounds_toArray, List.set_cons_zero, List.set_cons_succ])
          refine wpAnyH_tk 18 (v := ?vc18) rfl (by kernel_rfl) (by kernel_rfl) (by kernel_rfl) (fun _ _ _ h => h) (by rfl) ?hyc18 (by assumption) ?_
          case hyc18 => (intro w hSw; (try dsimp only at hSw); go_simp <;> with_reducible rfl)
          (try simp only [Act.put, List.setIfInBounds_toArray, List.set_cons_zero, List.set_cons_succ])
          refine wpAnyH_tk 19 (v := ?vc19) rfl (by kernel_rfl) (by kernel_rfl) (by kernel_rfl) (fun _ _ _ h => h) (by rfl) ?hyc19 (by assumption) ?_
          case hyc19 => (intro w hSw; (try dsimp only at hSw); go_simp <;> with_reducible rfl)
          (try simp only [Act.put, List.setIfInBounds_toArray, List.set_cons_zero, List.set_cons_succ])
          refine wpAnyH_tk 20 (v := ?vc20) rfl (by kernel_rfl) (by kernel_rfl) (by kernel_rfl) (fun _ _ _ h => h) (by rfl) ?hyc20 (by assumption) ?_
          case hyc20 => (intro w hSw; (try dsimp only at hSw); go_simp <;> with_reducible rfl)
          (try simp only [Act.put, List.setIfInBounds_toArray, List.set_cons_zero, List.set_cons_succ])
          refine wpAnyH_tk 21 (v := ?vc21) rfl (by kernel_rfl) (by kernel_rfl) (by kernel_rfl) (fun _ _ _ h => h) (by rfl) ?hyc21 (by assumption) ?_
          case hyc21 => (intro w hSw; (try dsimp only at hSw); go_simp <;> with_reducible rfl)
          (try simp only [Act.put, List.setIfInBounds_toArray, List.set_cons_zero, List.set_cons_succ])
          refine wpAnyH_tk 22 (v := ?vc22) rfl (by kernel_rfl) (by kernel_rfl) (by kernel_rfl) (fun _ _ _ h => h) (by rfl) ?hyc22 (by assumption) ?_
          case hyc22 => (intro w hSw; (try dsimp only at hSw); go_simp <;> with_reducible rfl)
          (try simp only [Act.put, List.setIfInBounds_toArray, List.set_cons_zero, List.set_cons_succ])
          refine wpAnyH_tk 23 (v := ?vc23) rfl (by kernel_rfl) (by kernel_rfl) (by kernel_rfl) (fun _ _ _ h => h) (by rfl) ?hyc23 (by assumption) ?_
          case hyc23 => (intro w hSw; (try dsimp only at hSw); go_simp <;> with_reducible rfl)
          (try simp only [Act.put, List.setIfInBounds_toArray, List.set_cons_zero, List.set_cons_succ])
          refine wpAnyH_tk 24 (v := ?vc24) rfl (by kernel_rfl) (by kernel_rfl) (by kernel_rfl) (fun _ _ _ h => h) (by rfl) ?hyc24 (by assumption) ?_
          case hyc24 => (intro w hSw; (try dsimp only at hSw); go_simp <;> with_reducible rfl)
          (try simp only [Act.put, List.setIfInBounds_toArray, List.set_cons_zero, List.set_cons_succ])
          refine wpAnyH_tk 25 (v := ?vc25) rfl (by kernel_rfl) (by kernel_rfl) (by kernel_rfl) (fun _ _ _ h => h) (by rfl) ?hyc25 (by assumption) ?_
          case hyc25 => (intro w hSw; (try dsimp only at hSw); go_simp <;> with_reducible rfl)
          (try simp only [Act.put, List.setIfInBounds_toArray, List.set_cons_zero, List.set_cons_succ])
          refine wpAnyH_tk 26 (v := ?vc26) rfl (by kernel_rfl) (by kernel_rfl) (by kernel_rfl) (fun _ _ _ h => h) (by rfl) ?hyc26 (by assumption) ?_
          case hyc26 => (intro w hSw; (try dsimp only at hSw); go_simp <;> with_reducible rfl)
          (try simp only [Act.put, List.setIfInBounds_toArray, List.set_cons_zero, List.set_cons_succ])
          refine wpAnyH_tk 27 (v := ?vc27) rfl (by kernel_rfl) (by kernel_rfl) (by kernel_rfl) (fun _ _ _ h => h) (by rfl) ?hyc27 (by assumption) ?_
          case hyc27 => (intro w hSw; (try dsimp only at hSw); go_simp <;> with_reducible rfl)
          (try simp only [Act.put, List.setIfInBounds_toArray, List.set_cons_zero, List.set_cons_succ])
          refine wpAnyH_one 28 rfl (by kernel_rfl) (by rfl) (fun K hK => ?_)
          go_simp
          (refine (awake_any _).mono ?_; rintro e wC ⟨rfl, heC⟩)
          refine hK.out _ _ ?hSc29 (fun hHeld => ?_)
          case hSc29 => (first | (exact HK2.out _ ((((Ext.refl _).drew.trans heA).trans heB).trans heC)) | ((try dsimp only); exact HK2.out _ ((((Ext.refl _).drew.trans heA).trans heB).trans heC)))
          clear hK K
          (try simp only [Act.put, List.setIfInBounds_toArray, List.set_cons_zero, List.set_cons_succ])
          refine wpAnyH_tk 29 (v := ?vc29) rfl (by kernel_rfl) (by kernel_rfl) (by kernel_rfl) (fun _ _ _ h => h) (by rfl) ?hyc29 (by assumption) ?_
          case hyc29 => (intro w hSw; (try dsimp only at hSw); go_simp <;> with_reducible rfl)
          (try simp only [Act.put, List.setIfInBounds_toArray, List.set_cons_zero, List.set_cons_succ])
          refine wpAnyH_tk 30 (v := ?vc30) rfl (by kernel_rfl) (by kernel_rfl) (by kernel_rfl) (fun _ _ _ h => h) (by rfl) ?hyc30 (by assumption) ?_
          case hyc30 => (intro w hSw; (try dsimp only at hSw); go_simp <;> with_reducible rfl)
          (try simp only [Act.put, List.setIfInBounds_toArray, List.set_cons_zero, List.set_cons_succ])
          refine wpAnyH_done (by kernel_rfl) ?_ _
          have EZ := hid (((HEX.out.drew.trans heA).trans heB).trans heC)
          clear heA heB heC hHeld hwd heb hpl hql
          go_wp2
          go_ret
          exact ⟨rfl, EZ.out⟩
      · have HNear : Hid (fw (costTo rs) N A B < far) := by show _ < _; omega
        clear hf hl
        go_wp2_with (fail)
        refine (Of_any _ ⟨N, rs⟩ _ (MapR.ext HM.out E4.out)).mono ?_
        rintro e w5 ⟨uU, rfl, hu, he5⟩
        dsimp only at hu
        rw [HTK.out] at hu
        clear c0 c1
        have X5 := hid (X4.out.ext he5)
        have T_5 := hid (T_4.out.ext he5)
        have E5 := hid (E4.out.trans he5)
        clear he5
        obtain ⟨c0, c1⟩ := X5.out.cells
        have U_5 := hid (hu.roads (by omega))
        clear hu
        go_wp2_with (fail)
        refine (Way_ok _ N rs A B _ U_5.out HB.out hA hB2 HNear.out).mono ?_
        rintro e w6 ⟨vw1, f, r, rfl, hiw, hway, hfN, he6⟩
        have HW := hid hway
        have hrl : r.length ≤ 18 := by have h := grow_len hway.1; simp only [List.length_singleton] at h; omega
        obtain ⟨-, aow, cpw, rfl, -⟩ := id hiw
        clear hway
        clear c0 c1
        have X6 := hid (X5.out.ext he6)
        have T_6 := hid (T_5.out.ext he6)
        have U_6 := hid (U_5.out.ext he6)
        have E6 := hid (E5.out.trans he6)
        clear he6
        obtain ⟨c0, c1⟩ := X6.out.cells
        have V_6 := hid (hiw)
        clear hiw
        go_wp2_with (fail)
        refine (Of_any _ ⟨N, rs⟩ _ (MapR.ext HM.out E6.out)).mono ?_
        rintro e w7 ⟨uU, rfl, hu, he7⟩
        dsimp only at hu
        rw [HTK.out] at hu
        clear c0 c1
        have X7 := hid (X6.out.ext he7)
        have T_7 := hid (T_6.out.ext he7)
        have V_7 := hid (V_6.out.ext he7)
        have E7 := hid (E6.out.trans he7)
        clear he7
        obtain ⟨c0, c1⟩ := X7.out.cells
        have U_7 := hid (hu.roads (by omega))
        clear hu
        go_wp2_with (fail)
        refine (Potentials_ok _ N rs A _ U_7.out HB.out hA).mono ?_
        rintro e w8 ⟨v5, x5, rfl, he8, hpost⟩
        obtain ⟨rfl, rfl⟩ : v5 = .slice none 0 0 ∧ x5 = 4 := by
          rcases hpost with ⟨-, h⟩ | ⟨h, -⟩
          · exact h
          · exact absurd HLn.out h
        clear hpost
        clear c0 c1
        have X8 := hid (X7.out.ext he8)
        have T_8 := hid (T_7.out.ext he8)
        have V_8 := hid (V_7.out.ext he8)
        have U_8 := hid (U_7.out.ext he8)
        have E8 := hid (E7.out.trans he8)
        clear he8
        obtain ⟨c0, c1⟩ := X8.out.cells
        go_wp2_with (fail)
        refine (Of_any _ ⟨N, rs⟩ _ (MapR.ext HM.out E8.out)).mono ?_
        rintro e w9 ⟨uU, rfl, hu, he9⟩
        dsimp only at hu
        rw [HTK.out] at hu
        clear c0 c1
        have X9 := hid (X8.out.ext he9)
        have T_9 := hid (T_8.out.ext he9)
        have E9 := hid (E8.out.trans he9)
        clear he9
        obtain ⟨c0, c1⟩ := X9.out.cells
        have U_9 := hid (hu.roads (by omega))
        clear hu
        go_wp2_with (fail)
        refine (list_any _ way _ (HWI.out.ext E9.out)).mono ?_
        rintro e w10 ⟨u1, rfl, hi1, he10⟩
        obtain ⟨-, a1, c1x, rfl, -⟩ := id hi1
        generalize (way.take 18).length = n1 at hi1 ⊢
        clear c0 c1
        have X10 := hid (X9.out.ext he10)
        have T_10 := hid (T_9.out.ext he10)
        have U_10 := hid (U_9.out.ext he10)
        have E10 := hid (E9.out.trans he10)
        clear he10
        obtain ⟨c0, c1⟩ := X10.out.cells
        have W1_10 := hid (hi1)
        clear hi1
        go_wp2_with (fail)
        refine (list_any _ pot _ (HPI.out.ext E10.out)).mono ?_
        rintro e w11 ⟨u2, rfl, hi2, he11⟩
        obtain ⟨-, a2, c2x, rfl, -⟩ := id hi2
        generalize (pot.take 18).length = n2 at hi2 ⊢
        clear c0 c1
        have X11 := hid (X10.out.ext he11)
        have T_11 := hid (T_10.out.ext he11)
        have U_11 := hid (U_10.out.ext he11)
        have W1_11 := hid (W1_10.out.ext he11)
        have E11 := hid (E10.out.trans he11)
        clear he11
        obtain ⟨c0, c1⟩ := X11.out.cells
        have P1_11 := hid (hi2)
        clear hi2
        go_wp2_with (fail)
        refine (CheckWay_ok _ _ _ N rs _ _ _ U_11.out W1_11.out P1_11.out HB.out (by rw [List.length_take]; omega)).mono ?_
        rw [shown_cut hN8]
        rintro e w12 ⟨rfl, he12⟩
        clear c0 c1
        have X12 := hid (X11.out.ext he12)
        have T_12 := hid (T_11.out.ext he12)
        have U_12 := hid (U_11.out.ext he12)
        have W1_12 := hid (W1_11.out.ext he12)
        have P1_12 := hid (P1_11.out.ext he12)
        have E12 := hid (E11.out.trans he12)
        clear he12
        obtain ⟨c0, c1⟩ := X12.out.cells
        cases hsh : shownB rs N way pot
        · clear hsh
          go_wp2_with (fail)
          refine (awake_any _).mono ?_
          rintro e w13 ⟨rfl, he13⟩
          clear c0 c1
          have E13 := hid (E12.out.trans he13)
          clear he13
          go_wp2
          go_ret
          exact ⟨rfl, E13.out⟩
        · obtain ⟨hpn, hne, hx, hy, hval, hpb⟩ := shown_proved HAll.out hN8 hsh
          have hwpos : 0 < way.length := List.length_pos_iff.2 hne
          clear hsh hne
          obtain ⟨p, hpx⟩ := Int.eq_ofNat_of_zero_le hx.1
          obtain ⟨q, hqy⟩ := Int.eq_ofNat_of_zero_le hy.1
          have hpN : p < N := by omega
          have hqN : q < N := by omega
          rw [hpx, hqy, Int.toNat_natCast, Int.toNat_natCast] at hval
          have HSX : Hid (stopB N (p : Int) = true) := by show _ = _; unfold stopB; rw [decide_eq_true_iff]; omega
          have HSY : Hid (stopB N (q : Int) = true) := by show _ = _; unfold stopB; rw [decide_eq_true_iff]; omega
          obtain ⟨bw, ow, rfl, -, hce⟩ := HWI.out.get (way.length - 1) (by omega)
          obtain ⟨bw2, ow2, he2, -, hcf⟩ := HWI.out.get 0 (by omega)
          simp only [Option.some.injEq, Addr.mk.injEq, and_true] at he2
          obtain ⟨rfl, rfl⟩ := he2
          have dl := hce _ E12.out
          have d0 := hcf _ E12.out
          rw [Nat.add_zero, hpx] at d0
          change (World.cell? _ _ = some (.int .i64 (lastI way))) at dl
          rw [hqy] at dl
          obtain ⟨bp, op, rfl, -, hca⟩ := HPI.out.get p (by omega)
          obtain ⟨bp2, op2, he2, -, hcb⟩ := HPI.out.get q (by omega)
          simp only [Option.some.injEq, Addr.mk.injEq, and_true] at he2
          obtain ⟨rfl, rfl⟩ := he2
          have ea := hca _ E12.out
          have eb := hcb _ E12.out
          obtain ⟨gr, ca, ia, -⟩ := T_12.out.row hpN
          have ca' : w12.cell? ⟨gb, p, none⟩ = some (.slice (some ⟨gr, 0, none⟩) N N) := ca
          have dpq := ia.cell (i := q) (by rw [rowL_len]; exact hqN)
          rw [rowL_fn hqN] at dpq
          have bp1 := hpb _ (intAt_mem (l := pot) (i := (p : Int)) (by omega) (by omega))
          have bq1 := hpb _ (intAt_mem (l := pot) (i := (q : Int)) (by omega) (by omega))
          obtain ⟨pa, hpa⟩ : ∃ x, x = fn pot q := ⟨_, rfl⟩
          obtain ⟨pb, hpb2⟩ : ∃ x, x = fn pot p := ⟨_, rfl⟩
          obtain ⟨dv, hdv⟩ : ∃ x, x = nn (fw (costTo rs) N p q) := ⟨_, rfl⟩
          change -1000 ≤ fn pot p ∧ fn pot p ≤ 1000 at bp1
          change -1000 ≤ fn pot q ∧ fn pot q ≤ 1000 at bq1
          change fn pot q - fn pot p = _ at hval
          rw [← hpa] at eb bq1 hval
          rw [← hpb2] at ea bp1 hval
          rw [← hdv] at dpq hval
          have hwd : IntKind.i64.wrap (pa - pb) = pa - pb := by rw [IntKind.wrap_i64]; omega
          have heb : (pa - pb == dv) = true := beq_iff_eq.2 hval
          have hk1 : ((way.length : Int) - 1).toNat = way.length - 1 := by omega
          have hk2 : IntKind.i64.wrap ((way.length : Int) - 1) = (way.length : Int) - 1 := by rw [IntKind.wrap_i64]; omega
          have hk3 : (1 : Int) ≤ (way.length : Int) := by omega
          have hk5 : (0 : Int) < (way.length : Int) := by omega
          have hk4 : (way.length : Int) - 1 < (way.length : Int) := by omega
          have hz : ((way.length : Int) == 0) = false := beq_eq_false_iff_ne.2 (by omega)
          have hzz : ¬ (way.length : Int) = 0 := by omega
          have hpb3 : ((pot.length : Int) != (N : Int)) = false := by rw [hpn]; simp
          have hpl : (p : Int) < (pot.length : Int) := by omega
          have hql : (q : Int) < (pot.length : Int) := by omega
          have HK : Hid (∀ w', Ext w12 w' → w'.cell? ⟨w.heap.size, 0, none⟩ = some (.int .i64 N) ∧ w'.cell? ⟨w.heap.size, 1, none⟩ = some (.slice ao rs.length cap) ∧ w'.cell? ⟨bp, op + p, none⟩ = some (.int .i64 pb) ∧ w'.cell? ⟨bp, op + q, none⟩ = some (.int .i64 pa) ∧ w'.cell? ⟨gb, p, none⟩ = some (.slice (some ⟨gr, 0, none⟩) N N) ∧ w'.cell? ⟨gr, q, none⟩ = some (.int .i64 dv)) :=
            fun w' e => ⟨e.cell c0, e.cell c1, e.cell ea, e.cell eb, e.cell ca', e.cell dpq⟩
          have HEX := hid (E12.out.drew)
          clear hce hcf hca hcb ca ia hpa hpb2 hdv hval bp1 bq1 hpb hx hy hpx hqy ea eb ca' dpq c1
          go_wp2
          refine wp_region_held_drew (S := (fun w' => w'.cell? ⟨bw, ow, none⟩ = some (.int .i64 p) ∧ w'.cell? ⟨bw, ow + (way.length - 1), none⟩ = some (.int .i64 q))) (by kernel_rfl) ?hSd0 (fun hHeld => ?_)
          case hSd0 => (first | (exact ⟨d0, dl⟩) | ((try dsimp only); exact ⟨d0, dl⟩))
          refine wpAnyH_tk 0 (v := ?vd0) rfl (by kernel_rfl) (by kernel_rfl) (by kernel_rfl) (fun _ _ _ h => h) (by rfl) ?hyd0 (by assumption) ?_
          case hyd0 => (intro w hSw; (try dsimp only at hSw); go_simp <;> with_reducible rfl)
          (try simp only [Act.put, List.setIfInBounds_toArray, List.set_cons_zero, List.set_cons_succ])
          refine wpAnyH_tk 1 (v := ?vd1) rfl (by kernel_rfl) (by kernel_rfl) (by kernel_rfl) (fun _ _ _ h => h) (by rfl) ?hyd1 (by assumption) ?_
          case hyd1 => (intro w hSw; (try dsimp only at hSw); go_simp <;> with_reducible rfl)
          (try simp only [Act.put, List.setIfInBounds_toArray, List.set_cons_zero, List.set_cons_succ])
          refine wpAnyH_tk 2 (v := ?vd2) rfl (by kernel_rfl) (by kernel_rfl) (by kernel_rfl) (fun _ _ _ h => h) (by rfl) ?hyd2 (by assumption) ?_
          case hyd2 => (intro w hSw; (try dsimp only at hSw); go_simp <;> with_reducible rfl)
          (try simp only [Act.put, List.setIfInBounds_toArray, List.set_cons_zero, List.set_cons_succ])
          refine wpAnyH_tk 3 (v := ?vd3) rfl (by kernel_rfl) (by kernel_rfl) (by kernel_rfl) (fun _ _ _ h => h) (by rfl) ?hyd3 (by assumption) ?_
          case hyd3 => (intro w hSw; (try dsimp only at hSw); go_simp <;> with_reducible rfl)
          (try simp only [Act.put, List.setIfInBounds_toArray, List.set_cons_zero, List.set_cons_succ])
          refine wpAnyH_tk 4 (v := ?vd4) rfl (by kernel_rfl) (by kernel_rfl) (by kernel_rfl) (fun _ _ _ h => h) (by rfl) ?hyd4 (by assumption) ?_
          case hyd4 => (intro w hSw; (try dsimp only at hSw); go_simp <;> with_reducible rfl)
          (try simp only [Act.put, List.setIfInBounds_toArray, List.set_cons_zero, List.set_cons_succ])
          refine wpAnyH_tk 5 (v := ?vd5) rfl (by kernel_rfl) (by kernel_rfl) (by kernel_rfl) (fun _ _ _ h => h) (by rfl) ?hyd5 (by assumption) ?_
          case hyd5 => (intro w hSw; (try dsimp only at hSw); go_simp <;> with_reducible rfl)
          (try simp only [Act.put, List.setIfInBounds_toArray, List.set_cons_zero, List.set_cons_succ])
          refine wpAnyH_tk 6 (v := ?vd6) rfl (by kernel_rfl) (by kernel_rfl) (by kernel_rfl) (fun _ _ _ h => h) (by rfl) ?hyd6 (by assumption) ?_
          case hyd6 => (intro w hSw; (try dsimp only at hSw); go_simp <;> with_reducible rfl)
          (try simp only [Act.put, List.setIfInBounds_toArray, List.set_cons_zero, List.set_cons_succ])
          refine wpAnyH_tk 7 (v := ?vd7) rfl (by kernel_rfl) (by kernel_rfl) (by kernel_rfl) (fun _ _ _ h => h) (by rfl) ?hyd7 (by assumption) ?_
          case hyd7 => (intro w hSw; (try dsimp only at hSw); go_simp <;> with_reducible rfl)
          (try simp only [Act.put, List.setIfInBounds_toArray, List.set_cons_zero, List.set_cons_succ])
          refine wpAnyH_tk 8 (v := ?vd8) rfl (by kernel_rfl) (by kernel_rfl) (by kernel_rfl) (fun _ _ _ h => h) (by rfl) ?hyd8 (by assumption) ?_
          case hyd8 => (intro w hSw; (try dsimp only at hSw); go_simp <;> with_reducible rfl)
          (try simp only [Act.put, List.setIfInBounds_toArray, List.set_cons_zero, List.set_cons_succ])
          refine wpAnyH_tk 9 (v := ?vd9) rfl (by kernel_rfl) (by kernel_rfl) (by kernel_rfl) (fun _ _ _ h => h) (by rfl) ?hyd9 (by assumption) ?_
          case hyd9 => (intro w hSw; (try dsimp only at hSw); go_simp <;> with_reducible rfl)
          (try simp only [Act.put, List.setIfInBounds_toArray, List.set_cons_zero, List.set_cons_succ])
          refine wpAnyH_tk 10 (v := ?vd10) rfl (by kernel_rfl) (by kernel_rfl) (by kernel_rfl) (fun _ _ _ h => h) (by rfl) ?hyd10 (by assumption) ?_
          case hyd10 => (intro w hSw; (try dsimp only at hSw); go_simp <;> with_reducible rfl)
          (try simp only [Act.put, List.setIfInBounds_toArray, List.set_cons_zero, List.set_cons_succ])
          refine wpAnyH_done (by kernel_rfl) ?_ _
          clear d0 dl c0 hHeld hz hzz hpb3 hk1 hk2 hk3 hk4 hk5
          have HK2 : Hid (∀ w', Ext w12.drew w' → _) := fun w' e => HK.out w' ((Ext.refl w12).drew.trans e)
          generalize w12.drew = wc at HEX HK2 ⊢
          go_wp2
          refine wp_region_held_drew (S := (fun w' => w'.cell? ⟨w.heap.size, 0, none⟩ = some (.int .i64 N) ∧ w'.cell? ⟨w.heap.size, 1, none⟩ = some (.slice ao rs.length cap) ∧ w'.cell? ⟨bp, op + p, none⟩ = some (.int .i64 pb) ∧ w'.cell? ⟨bp, op + q, none⟩ = some (.int .i64 pa) ∧ w'.cell? ⟨gb, p, none⟩ = some (.slice (some ⟨gr, 0, none⟩) N N) ∧ w'.cell? ⟨gr, q, none⟩ = some (.int .i64 dv))) (by kernel_rfl) ?hSe0 (fun hHeld => ?_)
          case hSe0 => (first | (exact HK2.out _ (Ext.refl _).drew) | ((try dsimp only); exact HK2.out _ (Ext.refl _).drew))
          refine wpAnyH_tk 0 (v := ?ve0) rfl (by kernel_rfl) (by kernel_rfl) (by kernel_rfl) (fun _ _ _ h => h) (by rfl) ?hye0 (by assumption) ?_
          case hye0 => (intro w hSw; (try dsimp only at hSw); go_simp <;> with_reducible rfl)
          (try simp only [Act.put, List.setIfInBounds_toArray, List.set_cons_zero, List.set_cons_succ])
          refine wpAnyH_tk 1 (v := ?ve1) rfl (by kernel_rfl) (by kernel_rfl) (by kernel_rfl) (fun _ _ _ h => h) (by rfl) ?hye1 (by assumption) ?_
          case hye1 => (intro w hSw; (try dsimp only at hSw); go_simp <;> with_reducible rfl)
          (try simp only [Act.put, List.setIfInBounds_toArray, List.set_cons_zero, List.set_cons_succ])
          refine wpAnyH_one 2 rfl (by kernel_rfl) (by rfl) (fun K hK => ?_)
          go_simp
          (refine (lawstop_any _ ⟨N, rs⟩ p _ (MapR.ext HM.out HEX.out.drew)).mono ?_; rw [HSX.out]; rintro e wA ⟨rfl, heA⟩)
          refine hK.out _ _ ?hSe3 (fun hHeld => ?_)
          case hSe3 => (first | (exact HK2.out _ ((Ext.refl _).drew.trans heA)) | ((try dsimp only); exact HK2.out _ ((Ext.refl _).drew.trans heA)))
          clear hK K
          (try simp only [Act.put, List.setIfInBounds_toArray, List.set_cons_zero, List.set_cons_succ])
          refine wpAnyH_tk 3 (v := ?ve3) rfl (by kernel_rfl) (by kernel_rfl) (by kernel_rfl) (fun _ _ _ h => h) (by rfl) ?hye3 (by assumption) ?_
          case hye3 => (intro w hSw; (try dsimp only at hSw); go_simp <;> with_reducible rfl)
          (try simp only [Act.put, List.setIfInBounds_toArray, List.set_cons_zero, List.set_cons_succ])
          refine wpAnyH_tk 4 (v := ?ve4) rfl (by kernel_rfl) (by kernel_rfl) (by kernel_rfl) (fun _ _ _ h => h) (by rfl) ?hye4 (by assumption) ?_
          case hye4 => (intro w hSw; (try dsimp only at hSw); go_simp <;> with_reducible rfl)
          (try simp only [Act.put, List.setIfInBounds_toArray, List.set_cons_zero, List.set_cons_succ])
          refine wpAnyH_tk 5 (v := ?ve5) rfl (by kernel_rfl) (by kernel_rfl) (by kernel_rfl) (fun _ _ _ h => h) (by rfl) ?hye5 (by assumption) ?_
          case hye5 => (intro w hSw; (try dsimp only at hSw); go_simp <;> with_reducible rfl)
          (try simp only [Act.put, List.setIfInBounds_toArray, List.set_cons_zero, List.set_cons_succ])
          refine wpAnyH_one 6 rfl (by kernel_rfl) (by rfl) (fun K hK => ?_)
          go_simp
          (refine (lawstop_any _ ⟨N, rs⟩ q _ (MapR.ext HM.out (HEX.out.drew.trans heA))).mono ?_; rw [HSY.out]; rintro e wB ⟨rfl, heB⟩)
          refine hK.out _ _ ?hSe7 (fun hHeld => ?_)
          case hSe7 => (first | (exact HK2.out _ (((Ext.refl _).drew.trans heA).trans heB)) | ((try dsimp only); exact HK2.out _ (((Ext.refl _).drew.trans heA).trans heB)))
          clear hK K
          (try simp only [Act.put, List.setIfInBounds_toArray, List.set_cons_zero, List.set_cons_succ])
          refine wpAnyH_tk 7 (v := ?ve7) rfl (by kernel_rfl) (by kernel_rfl) (by kernel_rfl) (fun _ _ _ h => h) (by rfl) ?hye7 (by assumption) ?_
          case hye7 => (intro w hSw; (try dsimp only at hSw); go_simp <;> with_reducible rfl)
          (try simp only [Act.put, List.setIfInBounds_toArray, List.set_cons_zero, List.set_cons_succ])
          refine wpAnyH_tk 8 (v := ?ve8) rfl (by kernel_rfl) (by kernel_rfl) (by kernel_rfl) (fun _ _ _ h => h) (by rfl) ?hye8 (by assumption) ?_
          case hye8 => (intro w hSw; (try dsimp only at hSw); go_simp <;> with_reducible rfl)
          (try simp only [Act.put, List.setIfInBounds_toArray, List.set_cons_zero, List.set_cons_succ])
          refine wpAnyH_tk 9 (v := ?ve9) rfl (by kernel_rfl) (by kernel_rfl) (by kernel_rfl) (fun _ _ _ h => h) (by rfl) ?hye9 (by assumption) ?_
          case hye9 => (intro w hSw; (try dsimp only at hSw); go_simp <;> with_reducible rfl)
          (try simp only [Act.put, List.setIfInBounds_toArray, List.set_cons_zero, List.set_cons_succ])
          refine wpAnyH_tk 10 (v := ?ve10) rfl (by kernel_rfl) (by kernel_rfl) (by kernel_rfl) (fun _ _ _ h => h) (by rfl) ?hye10 (by assumption) ?_
          case hye10 => (intro w hSw; (try dsimp only at hSw); go_simp <;> with_reducible rfl)
          (try simp only [Act.put, List.setIfInBounds_toArray, List.set_cons_zero, List.set_cons_succ])
          refine wpAnyH_tk 11 (v := ?ve11) rfl (by kernel_rfl) (by kernel_rfl) (by kernel_rfl) (fun _ _ _ h => h) (by rfl) ?hye11 (by assumption) ?_
          case hye11 => (intro w hSw; (try dsimp only at hSw); go_simp <;> with_reducible rfl)
          (try simp only [Act.put, List.setIfInBounds_toArray, List.set_cons_zero, List.set_cons_succ])
          refine wpAnyH_tk 12 (v := ?ve12) rfl (by kernel_rfl) (by kernel_rfl) (by kernel_rfl) (fun _ _ _ h => h) (by rfl) ?hye12 (by assumption) ?_
          case hye12 => (intro w hSw; (try dsimp only at hSw); go_simp <;> with_reducible rfl)
          (try simp only [Act.put, List.setIfInBounds_toArray, List.set_cons_zero, List.set_cons_succ])
          refine wpAnyH_tk 13 (v := ?ve13) rfl (by kernel_rfl) (by kernel_rfl) (by kernel_rfl) (fun _ _ _ h => h) (by rfl) ?hye13 (by assumption) ?_
          case hye13 => (intro w hSw; (try dsimp only at hSw); go_simp <;> with_reducible rfl)
          (try simp only [Act.put, List.setIfInBounds_toArray, List.set_cons_zero, List.set_cons_succ])
          refine wpAnyH_tk 14 (v := ?ve14) rfl (by kernel_rfl) (by kernel_rfl) (by kernel_rfl) (fun _ _ _ h => h) (by rfl) ?hye14 (by assumption) ?_
          case hye14 => (intro w hSw; (try dsimp only at hSw); go_simp <;> with_reducible rfl)
          (try simp only [Act.put, List.setIfInBounds_toArray, List.set_cons_zero, List.set_cons_succ])
          refine wpAnyH_tk 15 (v := ?ve15) rfl (by kernel_rfl) (by kernel_rfl) (by kernel_rfl) (fun _ _ _ h => h) (by rfl) ?hye15 (by assumption) ?_
          case hye15 => (intro w hSw; (try dsimp only at hSw); go_simp <;> with_reducible rfl)
          (try simp only [Act.put, List.setIfInBounds_toArray, List.set_cons_zero, List.set_cons_succ])
          refine wpAnyH_tk 16 (v := ?ve16) rfl (by kernel_rfl) (by kernel_rfl) (by kernel_rfl) (fun _ _ _ h => h) (by rfl) ?hye16 (by assumption) ?_
          case hye16 => (intro w hSw; (try dsimp only at hSw); go_simp <;> with_reducible rfl)
          (try simp only [Act.put, List.setIfInBounds_toArray, List.set_cons_zero, List.set_cons_succ])
          refine wpAnyH_tk 17 (v := ?ve17) rfl (by kernel_rfl) (by kernel_rfl) (by kernel_rfl) (fun _ _ _ h => h) (by rfl) ?hye17 (by assumption) ?_
          case hye17 => (intro w hSw; (try dsimp only at hSw); go_simp <;> with_reducible rfl)
          (try simp only [Act.put, List.setIfInBounds_toArray, List.set_cons_zero, List.set_cons_succ])
          refine wpAnyH_tk 18 (v := ?ve18) rfl (by kernel_rfl) (by kernel_rfl) (by kernel_rfl) (fun _ _ _ h => h) (by rfl) ?hye18 (by assumption) ?_
          case hye18 => (intro w hSw; (try dsimp only at hSw); go_simp <;> with_reducible rfl)
          (try simp only [Act.put, List.setIfInBounds_toArray, List.set_cons_zero, List.set_cons_succ])
          refine wpAnyH_tk 19 (v := ?ve19) rfl (by kernel_rfl) (by kernel_rfl) (by kernel_rfl) (fun _ _ _ h => h) (by rfl) ?hye19 (by assumption) ?_
          case hye19 => (intro w hSw; (try dsimp only at hSw); go_simp <;> with_reducible rfl)
          (try simp only [Act.put, List.setIfInBounds_toArray, List.set_cons_zero, List.set_cons_succ])
          refine wpAnyH_tk 20 (v := ?ve20) rfl (by kernel_rfl) (by kernel_rfl) (by kernel_rfl) (fun _ _ _ h => h) (by rfl) ?hye20 (by assumption) ?_
          case hye20 => (intro w hSw; (try dsimp only at hSw); go_simp <;> with_reducible rfl)
          (try simp only [Act.put, List.setIfInBounds_toArray, List.set_cons_zero, List.set_cons_succ])
          refine wpAnyH_tk 21 (v := ?ve21) rfl (by kernel_rfl) (by kernel_rfl) (by kernel_rfl) (fun _ _ _ h => h) (by rfl) ?hye21 (by assumption) ?_
          case hye21 => (intro w hSw; (try dsimp only at hSw); go_simp <;> with_reducible rfl)
          (try simp only [Act.put, List.setIfInBounds_toArray, List.set_cons_zero, List.set_cons_succ])
          refine wpAnyH_tk 22 (v := ?ve22) rfl (by kernel_rfl) (by kernel_rfl) (by kernel_rfl) (fun _ _ _ h => h) (by rfl) ?hye22 (by assumption) ?_
          case hye22 => (intro w hSw; (try dsimp only at hSw); go_simp <;> with_reducible rfl)
          (try simp only [Act.put, List.setIfInBounds_toArray, List.set_cons_zero, List.set_cons_succ])
          refine wpAnyH_tk 23 (v := ?ve23) rfl (by kernel_rfl) (by kernel_rfl) (by kernel_rfl) (fun _ _ _ h => h) (by rfl) ?hye23 (by assumption) ?_
          case hye23 => (intro w hSw; (try dsimp only at hSw); go_simp <;> with_reducible rfl)
          (try simp only [Act.put, List.setIfInBounds_toArray, List.set_cons_zero, List.set_cons_succ])
          refine wpAnyH_tk 24 (v := ?ve24) rfl (by kernel_rfl) (by kernel_rfl) (by kernel_rfl) (fun _ _ _ h => h) (by rfl) ?hye24 (by assumption) ?_
          case hye24 => (intro w hSw; (try dsimp only at hSw); go_simp <;> with_reducible rfl)
          (try simp only [Act.put, List.setIfInBounds_toArray, List.set_cons_zero, List.set_cons_succ])
          refine wpAnyH_tk 25 (v := ?ve25) rfl (by kernel_rfl) (by kernel_rfl) (by kernel_rfl) (fun _ _ _ h => h) (by rfl) ?hye25 (by assumption) ?_
          case hye25 => (intro w hSw; (try dsimp only at hSw); go_simp <;> with_reducible rfl)
          (try simp only [Act.put, List.setIfInBounds_toArray, List.set_cons_zero, List.set_cons_succ])
          refine wpAnyH_tk 26 (v := ?ve26) rfl (by kernel_rfl) (by kernel_rfl) (by kernel_rfl) (fun _ _ _ h => h) (by rfl) ?hye26 (by assumption) ?_
          case hye26 => (intro w hSw; (try dsimp only at hSw); go_simp <;> with_reducible rfl)
          (try simp only [Act.put, List.setIfInBounds_toArray, List.set_cons_zero, List.set_cons_succ])
          refine wpAnyH_tk 27 (v := ?ve27) rfl (by kernel_rfl) (by kernel_rfl) (by kernel_rfl) (fun _ _ _ h => h) (by rfl) ?hye27 (by assumption) ?_
          case hye27 => (intro w hSw; (try dsimp only at hSw); go_simp <;> with_reducible rfl)
          (try simp only [Act.put, List.setIfInBounds_toArray, List.set_cons_zero, List.set_cons_succ])
          refine wpAnyH_one 28 rfl (by kernel_rfl) (by rfl) (fun K hK => ?_)
          go_simp
          (refine (awake_any _).mono ?_; rintro e wC ⟨rfl, heC⟩)
          refine hK.out _ _ ?hSe29 (fun hHeld => ?_)
          case hSe29 => (first | (exact HK2.out _ ((((Ext.refl _).drew.trans heA).trans heB).trans heC)) | ((try dsimp only); exact HK2.out _ ((((Ext.refl _).drew.trans heA).trans heB).trans heC)))
          clear hK K
          (try simp only [Act.put, List.setIfInBounds_toArray, List.set_cons_zero, List.set_cons_succ])
          refine wpAnyH_tk 29 (v := ?ve29) rfl (by kernel_rfl) (by kernel_rfl) (by kernel_rfl) (fun _ _ _ h => h) (by rfl) ?hye29 (by assumption) ?_
          case hye29 => (intro w hSw; (try dsimp only at hSw); go_simp <;> with_reducible rfl)
          (try simp only [Act.put, List.setIfInBounds_toArray, List.set_cons_zero, List.set_cons_succ])
          refine wpAnyH_tk 30 (v := ?ve30) rfl (by kernel_rfl) (by kernel_rfl) (by kernel_rfl) (fun _ _ _ h => h) (by rfl) ?hye30 (by assumption) ?_
          case hye30 => (intro w hSw; (try dsimp only at hSw); go_simp <;> with_reducible rfl)
          (try simp only [Act.put, List.setIfInBounds_toArray, List.set_cons_zero, List.set_cons_succ])
          refine wpAnyH_done (by kernel_rfl) ?_ _
          have EZ := hid (((HEX.out.drew.trans heA).trans heB).trans heC)
          clear heA heB heC hHeld hwd heb hpl hql
          go_wp2
          go_ret
          exact ⟨rfl, EZ.out⟩
    · have HLn := hid hl
      have HNear : Hid (fw (costTo rs) N A B < far) := by
        show _ < _
        by_cases h : fw (costTo rs) N A B < far
        · exact h
        · exact absurd ⟨B, hB2, by omega⟩ hl
      clear hl
      go_wp2_with (fail)
      refine (Of_any _ ⟨N, rs⟩ _ (MapR.ext HM.out E4.out)).mono ?_
      rintro e w5 ⟨uU, rfl, hu, he5⟩
      dsimp only at hu
      rw [HTK.out] at hu
      clear c0 c1
      have X5 := hid (X4.out.ext he5)
      have T_5 := hid (T_4.out.ext he5)
      have E5 := hid (E4.out.trans he5)
      clear he5
      obtain ⟨c0, c1⟩ := X5.out.cells
      have U_5 := hid (hu.roads (by omega))
      clear hu
      go_wp2_with (fail)
      refine (Way_ok _ N rs A B _ U_5.out HB.out hA hB2 HNear.out).mono ?_
      rintro e w6 ⟨vw1, f, r, rfl, hiw, hway, hfN, he6⟩
      have HW := hid hway
      have hrl : r.length ≤ 18 := by have h := grow_len hway.1; simp only [List.length_singleton] at h; omega
      obtain ⟨-, aow, cpw, rfl, -⟩ := id hiw
      clear hway
      clear c0 c1
      have X6 := hid (X5.out.ext he6)
      have T_6 := hid (T_5.out.ext he6)
      have U_6 := hid (U_5.out.ext he6)
      have E6 := hid (E5.out.trans he6)
      clear he6
      obtain ⟨c0, c1⟩ := X6.out.cells
      have V_6 := hid (hiw)
      clear hiw
      go_wp2_with (fail)
      refine (Of_any _ ⟨N, rs⟩ _ (MapR.ext HM.out E6.out)).mono ?_
      rintro e w7 ⟨uU, rfl, hu, he7⟩
      dsimp only at hu
      rw [HTK.out] at hu
      clear c0 c1
      have X7 := hid (X6.out.ext he7)
      have T_7 := hid (T_6.out.ext he7)
      have V_7 := hid (V_6.out.ext he7)
      have E7 := hid (E6.out.trans he7)
      clear he7
      obtain ⟨c0, c1⟩ := X7.out.cells
      have U_7 := hid (hu.roads (by omega))
      clear hu
      go_wp2_with (fail)
      refine (Potentials_ok _ N rs A _ U_7.out HB.out hA).mono ?_
      rintro e w8 ⟨v5, x5, rfl, he8, hpost⟩
      obtain ⟨hiv, rfl⟩ : Ints w8 v5 (rowL N (fw (costTo rs) N A)) ∧ x5 = 0 := by
        rcases hpost with ⟨h, -⟩ | ⟨-, h⟩
        · exact absurd h HLn.out
        · exact h
      obtain ⟨-, aov, cpv, rfl, -⟩ := id hiv
      generalize (rowL N (fw (costTo rs) N A)).length = n5 at hiv ⊢
      clear hpost
      clear c0 c1
      have X8 := hid (X7.out.ext he8)
      have T_8 := hid (T_7.out.ext he8)
      have V_8 := hid (V_7.out.ext he8)
      have U_8 := hid (U_7.out.ext he8)
      have E8 := hid (E7.out.trans he8)
      clear he8
      obtain ⟨c0, c1⟩ := X8.out.cells
      have Q_8 := hid (hiv)
      clear hiv
      go_wp2_with (fail)
      refine (Of_any _ ⟨N, rs⟩ _ (MapR.ext HM.out E8.out)).mono ?_
      rintro e w9 ⟨uU, rfl, hu, he9⟩
      dsimp only at hu
      rw [HTK.out] at hu
      clear c0 c1
      have X9 := hid (X8.out.ext he9)
      have T_9 := hid (T_8.out.ext he9)
      have V_9 := hid (V_8.out.ext he9)
      have Q_9 := hid (Q_8.out.ext he9)
      have E9 := hid (E8.out.trans he9)
      clear he9
      obtain ⟨c0, c1⟩ := X9.out.cells
      have U_9 := hid (hu.roads (by omega))
      clear hu
      go_wp2_with (fail)
      refine (CheckWay_ok _ _ _ N rs r _ _ U_9.out V_9.out Q_9.out HB.out hrl).mono ?_
      rw [way_proved HAll.out hN8 hA hB2 HW.out HLn.out]
      rintro e w10 ⟨rfl, he10⟩
      clear c0 c1
      have X10 := hid (X9.out.ext he10)
      have T_10 := hid (T_9.out.ext he10)
      have V_10 := hid (V_9.out.ext he10)
      have Q_10 := hid (Q_9.out.ext he10)
      have U_10 := hid (U_9.out.ext he10)
      have E10 := hid (E9.out.trans he10)
      clear he10
      obtain ⟨c0, c1⟩ := X10.out.cells
      go_wp2_with (fail)
      refine (Of_any _ ⟨N, rs⟩ _ (MapR.ext HM.out E10.out)).mono ?_
      rintro e w11 ⟨uU, rfl, hu, he11⟩
      dsimp only at hu
      rw [HTK.out] at hu
      clear c0 c1
      have X11 := hid (X10.out.ext he11)
      have T_11 := hid (T_10.out.ext he11)
      have E11 := hid (E10.out.trans he11)
      clear he11
      obtain ⟨c0, c1⟩ := X11.out.cells
      have U_11 := hid (hu.roads (by omega))
      clear hu
      go_wp2_with (fail)
      refine (list_any _ way _ (HWI.out.ext E11.out)).mono ?_
      rintro e w12 ⟨u1, rfl, hi1, he12⟩
      obtain ⟨-, a1, c1x, rfl, -⟩ := id hi1
      generalize (way.take 18).length = n1 at hi1 ⊢
      clear c0 c1
      have X12 := hid (X11.out.ext he12)
      have T_12 := hid (T_11.out.ext he12)
      have U_12 := hid (U_11.out.ext he12)
      have E12 := hid (E11.out.trans he12)
      clear he12
      obtain ⟨c0, c1⟩ := X12.out.cells
      have W1_12 := hid (hi1)
      clear hi1
      go_wp2_with (fail)
      refine (list_any _ pot _ (HPI.out.ext E12.out)).mono ?_
      rintro e w13 ⟨u2, rfl, hi2, he13⟩
      obtain ⟨-, a2, c2x, rfl, -⟩ := id hi2
      generalize (pot.take 18).length = n2 at hi2 ⊢
      clear c0 c1
      have X13 := hid (X12.out.ext he13)
      have T_13 := hid (T_12.out.ext he13)
      have U_13 := hid (U_12.out.ext he13)
      have W1_13 := hid (W1_12.out.ext he13)
      have E13 := hid (E12.out.trans he13)
      clear he13
      obtain ⟨c0, c1⟩ := X13.out.cells
      have P1_13 := hid (hi2)
      clear hi2
      go_wp2_with (fail)
      refine (CheckWay_ok _ _ _ N rs _ _ _ U_13.out W1_13.out P1_13.out HB.out (by rw [List.length_take]; omega)).mono ?_
      rw [shown_cut hN8]
      rintro e w14 ⟨rfl, he14⟩
      clear c0 c1
      have X14 := hid (X13.out.ext he14)
      have T_14 := hid (T_13.out.ext he14)
      have U_14 := hid (U_13.out.ext he14)
      have W1_14 := hid (W1_13.out.ext he14)
      have P1_14 := hid (P1_13.out.ext he14)
      have E14 := hid (E13.out.trans he14)
      clear he14
      obtain ⟨c0, c1⟩ := X14.out.cells
      cases hsh : shownB rs N way pot
      · clear hsh
        go_wp2_with (fail)
        refine (awake_any _).mono ?_
        rintro e w15 ⟨rfl, he15⟩
        clear c0 c1
        have E15 := hid (E14.out.trans he15)
        clear he15
        go_wp2
        go_ret
        exact ⟨rfl, E15.out⟩
      · obtain ⟨hpn, hne, hx, hy, hval, hpb⟩ := shown_proved HAll.out hN8 hsh
        have hwpos : 0 < way.length := List.length_pos_iff.2 hne
        clear hsh hne
        obtain ⟨p, hpx⟩ := Int.eq_ofNat_of_zero_le hx.1
        obtain ⟨q, hqy⟩ := Int.eq_ofNat_of_zero_le hy.1
        have hpN : p < N := by omega
        have hqN : q < N := by omega
        rw [hpx, hqy, Int.toNat_natCast, Int.toNat_natCast] at hval
        have HSX : Hid (stopB N (p : Int) = true) := by show _ = _; unfold stopB; rw [decide_eq_true_iff]; omega
        have HSY : Hid (stopB N (q : Int) = true) := by show _ = _; unfold stopB; rw [decide_eq_true_iff]; omega
        obtain ⟨bw, ow, rfl, -, hce⟩ := HWI.out.get (way.length - 1) (by omega)
        obtain ⟨bw2, ow2, he2, -, hcf⟩ := HWI.out.get 0 (by omega)
        simp only [Option.some.injEq, Addr.mk.injEq, and_true] at he2
        obtain ⟨rfl, rfl⟩ := he2
        have dl := hce _ E14.out
        have d0 := hcf _ E14.out
        rw [Nat.add_zero, hpx] at d0
        change (World.cell? _ _ = some (.int .i64 (lastI way))) at dl
        rw [hqy] at dl
        obtain ⟨bp, op, rfl, -, hca⟩ := HPI.out.get p (by omega)
        obtain ⟨bp2, op2, he2, -, hcb⟩ := HPI.out.get q (by omega)
        simp only [Option.some.injEq, Addr.mk.injEq, and_true] at he2
        obtain ⟨rfl, rfl⟩ := he2
        have ea := hca _ E14.out
        have eb := hcb _ E14.out
        obtain ⟨gr, ca, ia, -⟩ := T_14.out.row hpN
        have ca' : w14.cell? ⟨gb, p, none⟩ = some (.slice (some ⟨gr, 0, none⟩) N N) := ca
        have dpq := ia.cell (i := q) (by rw [rowL_len]; exact hqN)
        rw [rowL_fn hqN] at dpq
        have bp1 := hpb _ (intAt_mem (l := pot) (i := (p : Int)) (by omega) (by omega))
        have bq1 := hpb _ (intAt_mem (l := pot) (i := (q : Int)) (by omega) (by omega))
        obtain ⟨pa, hpa⟩ : ∃ x, x = fn pot q := ⟨_, rfl⟩
        obtain ⟨pb, hpb2⟩ : ∃ x, x = fn pot p := ⟨_, rfl⟩
        obtain ⟨dv, hdv⟩ : ∃ x, x = nn (fw (costTo rs) N p q) := ⟨_, rfl⟩
        change -1000 ≤ fn pot p ∧ fn pot p ≤ 1000 at bp1
        change -1000 ≤ fn pot q ∧ fn pot q ≤ 1000 at bq1
        change fn pot q - fn pot p = _ at hval
        rw [← hpa] at eb bq1 hval
        rw [← hpb2] at ea bp1 hval
        rw [← hdv] at dpq hval
        have hwd : IntKind.i64.wrap (pa - pb) = pa - pb := by rw [IntKind.wrap_i64]; omega
        have heb : (pa - pb == dv) = true := beq_iff_eq.2 hval
        have hk1 : ((way.length : Int) - 1).toNat = way.length - 1 := by omega
        have hk2 : IntKind.i64.wrap ((way.length : Int) - 1) = (way.length : Int) - 1 := by rw [IntKind.wrap_i64]; omega
        have hk3 : (1 : Int) ≤ (way.length : Int) := by omega
        have hk5 : (0 : Int) < (way.length : Int) := by omega
        have hk4 : (way.length : Int) - 1 < (way.length : Int) := by omega
        have hz : ((way.length : Int) == 0) = false := beq_eq_false_iff_ne.2 (by omega)
        have hzz : ¬ (way.length : Int) = 0 := by omega
        have hpb3 : ((pot.length : Int) != (N : Int)) = false := by rw [hpn]; simp
        have hpl : (p : Int) < (pot.length : Int) := by omega
        have hql : (q : Int) < (pot.length : Int) := by omega
        have HK : Hid (∀ w', Ext w14 w' → w'.cell? ⟨w.heap.size, 0, none⟩ = some (.int .i64 N) ∧ w'.cell? ⟨w.heap.size, 1, none⟩ = some (.slice ao rs.length cap) ∧ w'.cell? ⟨bp, op + p, none⟩ = some (.int .i64 pb) ∧ w'.cell? ⟨bp, op + q, none⟩ = some (.int .i64 pa) ∧ w'.cell? ⟨gb, p, none⟩ = some (.slice (some ⟨gr, 0, none⟩) N N) ∧ w'.cell? ⟨gr, q, none⟩ = some (.int .i64 dv)) :=
          fun w' e => ⟨e.cell c0, e.cell c1, e.cell ea, e.cell eb, e.cell ca', e.cell dpq⟩
        have HEX := hid (E14.out.drew)
        clear hce hcf hca hcb ca ia hpa hpb2 hdv hval bp1 bq1 hpb hx hy hpx hqy ea eb ca' dpq c1
        go_wp2
        refine wp_region_held_drew (S := (fun w' => w'.cell? ⟨bw, ow, none⟩ = some (.int .i64 p) ∧ w'.cell? ⟨bw, ow + (way.length - 1), none⟩ = some (.int .i64 q))) (by kernel_rfl) ?hSf0 (fun hHeld => ?_)
        case hSf0 => (first | (exact ⟨d0, dl⟩) | ((try dsimp only); exact ⟨d0, dl⟩))
        refine wpAnyH_tk 0 (v := ?vf0) rfl (by kernel_rfl) (by kernel_rfl) (by kernel_rfl) (fun _ _ _ h => h) (by rfl) ?hyf0 (by assumption) ?_
        case hyf0 => (intro w hSw; (try dsimp only at hSw); go_simp <;> with_reducible rfl)
        (try simp only [Act.put, List.setIfInBounds_toArray, List.set_cons_zero, List.set_cons_succ])
        refine wpAnyH_tk 1 (v := ?vf1) rfl (by kernel_rfl) (by kernel_rfl) (by kernel_rfl) (fun _ _ _ h => h) (by rfl) ?hyf1 (by assumption) ?_
        case hyf1 => (intro w hSw; (try dsimp only at hSw); go_simp <;> with_reducible rfl)
        (try simp only [Act.put, List.setIfInBounds_toArray, List.set_cons_zero, List.set_cons_succ])
        refine wpAnyH_tk 2 (v := ?vf2) rfl (by kernel_rfl) (by kernel_rfl) (by kernel_rfl) (fun _ _ _ h => h) (by rfl) ?hyf2 (by assumption) ?_
        case hyf2 => (intro w hSw; (try dsimp only at hSw); go_simp <;> with_reducible rfl)
        (try simp only [Act.put, List.setIfInBounds_toArray, List.set_cons_zero, List.set_cons_succ])
        refine wpAnyH_tk 3 (v := ?vf3) rfl (by kernel_rfl) (by kernel_rfl) (by kernel_rfl) (fun _ _ _ h => h) (by rfl) ?hyf3 (by assumption) ?_
        case hyf3 => (intro w hSw; (try dsimp only at hSw); go_simp <;> with_reducible rfl)
        (try simp only [Act.put, List.setIfInBounds_toArray, List.set_cons_zero, List.set_cons_succ])
        refine wpAnyH_tk 4 (v := ?vf4) rfl (by kernel_rfl) (by kernel_rfl) (by kernel_rfl) (fun _ _ _ h => h) (by rfl) ?hyf4 (by assumption) ?_
        case hyf4 => (intro w hSw; (try dsimp only at hSw); go_simp <;> with_reducible rfl)
        (try simp only [Act.put, List.setIfInBounds_toArray, List.set_cons_zero, List.set_cons_succ])
        refine wpAnyH_tk 5 (v := ?vf5) rfl (by kernel_rfl) (by kernel_rfl) (by kernel_rfl) (fun _ _ _ h => h) (by rfl) ?hyf5 (by assumption) ?_
        case hyf5 => (intro w hSw; (try dsimp only at hSw); go_simp <;> with_reducible rfl)
        (try simp only [Act.put, List.setIfInBounds_toArray, List.set_cons_zero, List.set_cons_succ])
        refine wpAnyH_tk 6 (v := ?vf6) rfl (by kernel_rfl) (by kernel_rfl) (by kernel_rfl) (fun _ _ _ h => h) (by rfl) ?hyf6 (by assumption) ?_
        case hyf6 => (intro w hSw; (try dsimp only at hSw); go_simp <;> with_reducible rfl)
        (try simp only [Act.put, List.setIfInBounds_toArray, List.set_cons_zero, List.set_cons_succ])
        refine wpAnyH_tk 7 (v := ?vf7) rfl (by kernel_rfl) (by kernel_rfl) (by kernel_rfl) (fun _ _ _ h => h) (by rfl) ?hyf7 (by assumption) ?_
        case hyf7 => (intro w hSw; (try dsimp only at hSw); go_simp <;> with_reducible rfl)
        (try simp only [Act.put, List.setIfInBounds_toArray, List.set_cons_zero, List.set_cons_succ])
        refine wpAnyH_tk 8 (v := ?vf8) rfl (by kernel_rfl) (by kernel_rfl) (by kernel_rfl) (fun _ _ _ h => h) (by rfl) ?hyf8 (by assumption) ?_
        case hyf8 => (intro w hSw; (try dsimp only at hSw); go_simp <;> with_reducible rfl)
        (try simp only [Act.put, List.setIfInBounds_toArray, List.set_cons_zero, List.set_cons_succ])
        refine wpAnyH_tk 9 (v := ?vf9) rfl (by kernel_rfl) (by kernel_rfl) (by kernel_rfl) (fun _ _ _ h => h) (by rfl) ?hyf9 (by assumption) ?_
        case hyf9 => (intro w hSw; (try dsimp only at hSw); go_simp <;> with_reducible rfl)
        (try simp only [Act.put, List.setIfInBounds_toArray, List.set_cons_zero, List.set_cons_succ])
        refine wpAnyH_tk 10 (v := ?vf10) rfl (by kernel_rfl) (by kernel_rfl) (by kernel_rfl) (fun _ _ _ h => h) (by rfl) ?hyf10 (by assumption) ?_
        case hyf10 => (intro w hSw; (try dsimp only at hSw); go_simp <;> with_reducible rfl)
        (try simp only [Act.put, List.setIfInBounds_toArray, List.set_cons_zero, List.set_cons_succ])
        refine wpAnyH_done (by kernel_rfl) ?_ _
        clear d0 dl c0 hHeld hz hzz hpb3 hk1 hk2 hk3 hk4 hk5
        have HK2 : Hid (∀ w', Ext w14.drew w' → _) := fun w' e => HK.out w' ((Ext.refl w14).drew.trans e)
        generalize w14.drew = wc at HEX HK2 ⊢
        go_wp2
        refine wp_region_held_drew (S := (fun w' => w'.cell? ⟨w.heap.size, 0, none⟩ = some (.int .i64 N) ∧ w'.cell? ⟨w.heap.size, 1, none⟩ = some (.slice ao rs.length cap) ∧ w'.cell? ⟨bp, op + p, none⟩ = some (.int .i64 pb) ∧ w'.cell? ⟨bp, op + q, none⟩ = some (.int .i64 pa) ∧ w'.cell? ⟨gb, p, none⟩ = some (.slice (some ⟨gr, 0, none⟩) N N) ∧ w'.cell? ⟨gr, q, none⟩ = some (.int .i64 dv))) (by kernel_rfl) ?hSg0 (fun hHeld => ?_)
        case hSg0 => (first | (exact HK2.out _ (Ext.refl _).drew) | ((try dsimp only); exact HK2.out _ (Ext.refl _).drew))
        refine wpAnyH_tk 0 (v := ?vg0) rfl (by kernel_rfl) (by kernel_rfl) (by kernel_rfl) (fun _ _ _ h => h) (by rfl) ?hyg0 (by assumption) ?_
        case hyg0 => (intro w hSw; (try dsimp only at hSw); go_simp <;> with_reducible rfl)
        (try simp only [Act.put, List.setIfInBounds_toArray, List.set_cons_zero, List.set_cons_succ])
        refine wpAnyH_tk 1 (v := ?vg1) rfl (by kernel_rfl) (by kernel_rfl) (by kernel_rfl) (fun _ _ _ h => h) (by rfl) ?hyg1 (by assumption) ?_
        case hyg1 => (intro w hSw; (try dsimp only at hSw); go_simp <;> with_reducible rfl)
        (try simp only [Act.put, List.setIfInBounds_toArray, List.set_cons_zero, List.set_cons_succ])
        refine wpAnyH_one 2 rfl (by kernel_rfl) (by rfl) (fun K hK => ?_)
        go_simp
        (refine (lawstop_any _ ⟨N, rs⟩ p _ (MapR.ext HM.out HEX.out.drew)).mono ?_; rw [HSX.out]; rintro e wA ⟨rfl, heA⟩)
        refine hK.out _ _ ?hSg3 (fun hHeld => ?_)
        case hSg3 => (first | (exact HK2.out _ ((Ext.refl _).drew.trans heA)) | ((try dsimp only); exact HK2.out _ ((Ext.refl _).drew.trans heA)))
        clear hK K
        (try simp only [Act.put, List.setIfInBounds_toArray, List.set_cons_zero, List.set_cons_succ])
        refine wpAnyH_tk 3 (v := ?vg3) rfl (by kernel_rfl) (by kernel_rfl) (by kernel_rfl) (fun _ _ _ h => h) (by rfl) ?hyg3 (by assumption) ?_
        case hyg3 => (intro w hSw; (try dsimp only at hSw); go_simp <;> with_reducible rfl)
        (try simp only [Act.put, List.setIfInBounds_toArray, List.set_cons_zero, List.set_cons_succ])
        refine wpAnyH_tk 4 (v := ?vg4) rfl (by kernel_rfl) (by kernel_rfl) (by kernel_rfl) (fun _ _ _ h => h) (by rfl) ?hyg4 (by assumption) ?_
        case hyg4 => (intro w hSw; (try dsimp only at hSw); go_simp <;> with_reducible rfl)
        (try simp only [Act.put, List.setIfInBounds_toArray, List.set_cons_zero, List.set_cons_succ])
        refine wpAnyH_tk 5 (v := ?vg5) rfl (by kernel_rfl) (by kernel_rfl) (by kernel_rfl) (fun _ _ _ h => h) (by rfl) ?hyg5 (by assumption) ?_
        case hyg5 => (intro w hSw; (try dsimp only at hSw); go_simp <;> with_reducible rfl)
        (try simp only [Act.put, List.setIfInBounds_toArray, List.set_cons_zero, List.set_cons_succ])
        refine wpAnyH_one 6 rfl (by kernel_rfl) (by rfl) (fun K hK => ?_)
        go_simp
        (refine (lawstop_any _ ⟨N, rs⟩ q _ (MapR.ext HM.out (HEX.out.drew.trans heA))).mono ?_; rw [HSY.out]; rintro e wB ⟨rfl, heB⟩)
        refine hK.out _ _ ?hSg7 (fun hHeld => ?_)
        case hSg7 => (first | (exact HK2.out _ (((Ext.refl _).drew.trans heA).trans heB)) | ((try dsimp only); exact HK2.out _ (((Ext.refl _).drew.trans heA).trans heB)))
        clear hK K
        (try simp only [Act.put, List.setIfInBounds_toArray, List.set_cons_zero, List.set_cons_succ])
        refine wpAnyH_tk 7 (v := ?vg7) rfl (by kernel_rfl) (by kernel_rfl) (by kernel_rfl) (fun _ _ _ h => h) (by rfl) ?hyg7 (by assumption) ?_
        case hyg7 => (intro w hSw; (try dsimp only at hSw); go_simp <;> with_reducible rfl)
        (try simp only [Act.put, List.setIfInBounds_toArray, List.set_cons_zero, List.set_cons_succ])
        refine wpAnyH_tk 8 (v := ?vg8) rfl (by kernel_rfl) (by kernel_rfl) (by kernel_rfl) (fun _ _ _ h => h) (by rfl) ?hyg8 (by assumption) ?_
        case hyg8 => (intro w hSw; (try dsimp only at hSw); go_simp <;> with_reducible rfl)
        (try simp only [Act.put, List.setIfInBounds_toArray, List.set_cons_zero, List.set_cons_succ])
        refine wpAnyH_tk 9 (v := ?vg9) rfl (by kernel_rfl) (by kernel_rfl) (by kernel_rfl) (fun _ _ _ h => h) (by rfl) ?hyg9 (by assumption) ?_
        case hyg9 => (intro w hSw; (try dsimp only at hSw); go_simp <;> with_reducible rfl)
        (try simp only [Act.put, List.setIfInBounds_toArray, List.set_cons_zero, List.set_cons_succ])
        refine wpAnyH_tk 10 (v := ?vg10) rfl (by kernel_rfl) (by kernel_rfl) (by kernel_rfl) (fun _ _ _ h => h) (by rfl) ?hyg10 (by assumption) ?_
        case hyg10 => (intro w hSw; (try dsimp only at hSw); go_simp <;> with_reducible rfl)
        (try simp only [Act.put, List.setIfInBounds_toArray, List.set_cons_zero, List.set_cons_succ])
        refine wpAnyH_tk 11 (v := ?vg11) rfl (by kernel_rfl) (by kernel_rfl) (by kernel_rfl) (fun _ _ _ h => h) (by rfl) ?hyg11 (by assumption) ?_
        case hyg11 => (intro w hSw; (try dsimp only at hSw); go_simp <;> with_reducible rfl)
        (try simp only [Act.put, List.setIfInBounds_toArray, List.set_cons_zero, List.set_cons_succ])
        refine wpAnyH_tk 12 (v := ?vg12) rfl (by kernel_rfl) (by kernel_rfl) (by kernel_rfl) (fun _ _ _ h => h) (by rfl) ?hyg12 (by assumption) ?_
        case hyg12 => (intro w hSw; (try dsimp only at hSw); go_simp <;> with_reducible rfl)
        (try simp only [Act.put, List.setIfInBounds_toArray, List.set_cons_zero, List.set_cons_succ])
        refine wpAnyH_tk 13 (v := ?vg13) rfl (by kernel_rfl) (by kernel_rfl) (by kernel_rfl) (fun _ _ _ h => h) (by rfl) ?hyg13 (by assumption) ?_
        case hyg13 => (intro w hSw; (try dsimp only at hSw); go_simp <;> with_reducible rfl)
        (try simp only [Act.put, List.setIfInBounds_toArray, List.set_cons_zero, List.set_cons_succ])
        refine wpAnyH_tk 14 (v := ?vg14) rfl (by kernel_rfl) (by kernel_rfl) (by kernel_rfl) (fun _ _ _ h => h) (by rfl) ?hyg14 (by assumption) ?_
        case hyg14 => (intro w hSw; (try dsimp only at hSw); go_simp <;> with_reducible rfl)
        (try simp only [Act.put, List.setIfInBounds_toArray, List.set_cons_zero, List.set_cons_succ])
        refine wpAnyH_tk 15 (v := ?vg15) rfl (by kernel_rfl) (by kernel_rfl) (by kernel_rfl) (fun _ _ _ h => h) (by rfl) ?hyg15 (by assumption) ?_
        case hyg15 => (intro w hSw; (try dsimp only at hSw); go_simp <;> with_reducible rfl)
        (try simp only [Act.put, List.setIfInBounds_toArray, List.set_cons_zero, List.set_cons_succ])
        refine wpAnyH_tk 16 (v := ?vg16) rfl (by kernel_rfl) (by kernel_rfl) (by kernel_rfl) (fun _ _ _ h => h) (by rfl) ?hyg16 (by assumption) ?_
        case hyg16 => (intro w hSw; (try dsimp only at hSw); go_simp <;> with_reducible rfl)
        (try simp only [Act.put, List.setIfInBounds_toArray, List.set_cons_zero, List.set_cons_succ])
        refine wpAnyH_tk 17 (v := ?vg17) rfl (by kernel_rfl) (by kernel_rfl) (by kernel_rfl) (fun _ _ _ h => h) (by rfl) ?hyg17 (by assumption) ?_
        case hyg17 => (intro w hSw; (try dsimp only at hSw); go_simp <;> with_reducible rfl)
        (try simp only [Act.put, List.setIfInBounds_toArray, List.set_cons_zero, List.set_cons_succ])
        refine wpAnyH_tk 18 (v := ?vg18) rfl (by kernel_rfl) (by kernel_rfl) (by kernel_rfl) (fun _ _ _ h => h) (by rfl) ?hyg18 (by assumption) ?_
        case hyg18 => (intro w hSw; (try dsimp only at hSw); go_simp <;> with_reducible rfl)
        (try simp only [Act.put, List.setIfInBounds_toArray, List.set_cons_zero, List.set_cons_succ])
        refine wpAnyH_tk 19 (v := ?vg19) rfl (by kernel_rfl) (by kernel_rfl) (by kernel_rfl) (fun _ _ _ h => h) (by rfl) ?hyg19 (by assumption) ?_
        case hyg19 => (intro w hSw; (try dsimp only at hSw); go_simp <;> with_reducible rfl)
        (try simp only [Act.put, List.setIfInBounds_toArray, List.set_cons_zero, List.set_cons_succ])
        refine wpAnyH_tk 20 (v := ?vg20) rfl (by kernel_rfl) (by kernel_rfl) (by kernel_rfl) (fun _ _ _ h => h) (by rfl) ?hyg20 (by assumption) ?_
        case hyg20 => (intro w hSw; (try dsimp only at hSw); go_simp <;> with_reducible rfl)
        (try simp only [Act.put, List.setIfInBounds_toArray, List.set_cons_zero, List.set_cons_succ])
        refine wpAnyH_tk 21 (v := ?vg21) rfl (by kernel_rfl) (by kernel_rfl) (by kernel_rfl) (fun _ _ _ h => h) (by rfl) ?hyg21 (by assumption) ?_
        case hyg21 => (intro w hSw; (try dsimp only at hSw); go_simp <;> with_reducible rfl)
        (try simp only [Act.put, List.setIfInBounds_toArray, List.set_cons_zero, List.set_cons_succ])
        refine wpAnyH_tk 22 (v := ?vg22) rfl (by kernel_rfl) (by kernel_rfl) (by kernel_rfl) (fun _ _ _ h => h) (by rfl) ?hyg22 (by assumption) ?_
        case hyg22 => (intro w hSw; (try dsimp only at hSw); go_simp <;> with_reducible rfl)
        (try simp only [Act.put, List.setIfInBounds_toArray, List.set_cons_zero, List.set_cons_succ])
        refine wpAnyH_tk 23 (v := ?vg23) rfl (by kernel_rfl) (by kernel_rfl) (by kernel_rfl) (fun _ _ _ h => h) (by rfl) ?hyg23 (by assumption) ?_
        case hyg23 => (intro w hSw; (try dsimp only at hSw); go_simp <;> with_reducible rfl)
        (try simp only [Act.put, List.setIfInBounds_toArray, List.set_cons_zero, List.set_cons_succ])
        refine wpAnyH_tk 24 (v := ?vg24) rfl (by kernel_rfl) (by kernel_rfl) (by kernel_rfl) (fun _ _ _ h => h) (by rfl) ?hyg24 (by assumption) ?_
        case hyg24 => (intro w hSw; (try dsimp only at hSw); go_simp <;> with_reducible rfl)
        (try simp only [Act.put, List.setIfInBounds_toArray, List.set_cons_zero, List.set_cons_succ])
        refine wpAnyH_tk 25 (v := ?vg25) rfl (by kernel_rfl) (by kernel_rfl) (by kernel_rfl) (fun _ _ _ h => h) (by rfl) ?hyg25 (by assumption) ?_
        case hyg25 => (intro w hSw; (try dsimp only at hSw); go_simp <;> with_reducible rfl)
        (try simp only [Act.put, List.setIfInBounds_toArray, List.set_cons_zero, List.set_cons_succ])
        refine wpAnyH_tk 26 (v := ?vg26) rfl (by kernel_rfl) (by kernel_rfl) (by kernel_rfl) (fun _ _ _ h => h) (by rfl) ?hyg26 (by assumption) ?_
        case hyg26 => (intro w hSw; (try dsimp only at hSw); go_simp <;> with_reducible rfl)
        (try simp only [Act.put, List.setIfInBounds_toArray, List.set_cons_zero, List.set_cons_succ])
        refine wpAnyH_tk 27 (v := ?vg27) rfl (by kernel_rfl) (by kernel_rfl) (by kernel_rfl) (fun _ _ _ h => h) (by rfl) ?hyg27 (by assumption) ?_
        case hyg27 => (intro w hSw; (try dsimp only at hSw); go_simp <;> with_reducible rfl)
        (try simp only [Act.put, List.setIfInBounds_toArray, List.set_cons_zero, List.set_cons_succ])
        refine wpAnyH_one 28 rfl (by kernel_rfl) (by rfl) (fun K hK => ?_)
        go_simp
        (refine (awake_any _).mono ?_; rintro e wC ⟨rfl, heC⟩)
        refine hK.out _ _ ?hSg29 (fun hHeld => ?_)
        case hSg29 => (first | (exact HK2.out _ ((((Ext.refl _).drew.trans heA).trans heB).trans heC)) | ((try dsimp only); exact HK2.out _ ((((Ext.refl _).drew.trans heA).trans heB).trans heC)))
        clear hK K
        (try simp only [Act.put, List.setIfInBounds_toArray, List.set_cons_zero, List.set_cons_succ])
        refine wpAnyH_tk 29 (v := ?vg29) rfl (by kernel_rfl) (by kernel_rfl) (by kernel_rfl) (fun _ _ _ h => h) (by rfl) ?hyg29 (by assumption) ?_
        case hyg29 => (intro w hSw; (try dsimp only at hSw); go_simp <;> with_reducible rfl)
        (try simp only [Act.put, List.setIfInBounds_toArray, List.set_cons_zero, List.set_cons_succ])
        refine wpAnyH_tk 30 (v := ?vg30) rfl (by kernel_rfl) (by kernel_rfl) (by kernel_rfl) (fun _ _ _ h => h) (by rfl) ?hyg30 (by assumption) ?_
        case hyg30 => (intro w hSw; (try dsimp only at hSw); go_simp <;> with_reducible rfl)
        (try simp only [Act.put, List.setIfInBounds_toArray, List.set_cons_zero, List.set_cons_succ])
        refine wpAnyH_done (by kernel_rfl) ?_ _
        have EZ := hid (((HEX.out.drew.trans heA).trans heB).trans heC)
        clear heA heB heC hHeld hwd heb hpl hql
        go_wp2
        go_ret
        exact ⟨rfl, EZ.out⟩
  · have hbf : mapOk m = false := by rw [Bool.eq_false_iff]; exact hb
    have HBC : Hid (mapOk (cutM m) = false) := by show _ = _; rw [mapOk_cut, hbf]
    clear hb hbf
    go_enter Try.func8, Try.ntmps8
    go_wp2_with (fail)
    refine (Of_any _ m _ (MapR.ext HM.out (Ext.ofAlloc w _))).mono ?_
    rintro e w1 ⟨uU, rfl, hu, he1⟩
    have X1 := hid (X0.ext he1)
    have E1 := hid ((Ext.ofAlloc w _).trans he1)
    clear he1
    obtain ⟨c0, c1⟩ := X1.out.cells
    have U_1 := hid (hu.roads (by rw [List.length_take]; omega))
    clear hu
    go_wp2_with (fail)
    refine (Distances_bad _ (cutM m) _ U_1.out HBC.out).mono ?_
    rintro e w2 ⟨rfl, he2⟩
    clear c0 c1
    have X2 := hid (X1.out.ext he2)
    have U_2 := hid (U_1.out.ext he2)
    have E2 := hid (E1.out.trans he2)
    clear he2
    obtain ⟨c0, c1⟩ := X2.out.cells
    go_wp2_with (fail)
    refine (awake_any _).mono ?_
    rintro e w3 ⟨rfl, he3⟩
    clear c0 c1
    have E3 := hid (E2.out.trans he3)
    clear he3
    go_wp2
    go_ret
    exact ⟨rfl, E3.out⟩

end Go.Proofs.Ytkbkgkmogbkabaa
