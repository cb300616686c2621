/-
  The statement RouteMore is proved: for every map and every two numbers the call returns true, and its arguments read afterwards as before. No condition but the library's table, tied to the program's text.
-/
import Derived.Test.YtkbkgkmogbkabaaDoorK12
import Derived.Test.YtkbkgkmogbkabaaDoorK9
import Derived.Test.YtkbkgkmogbkabaaDoorK14
import Derived.Test.YtkbkgkmogbkabaaDoorK5
import Derived.Test.YtkbkgkmogbkabaaDoorCards
import Derived.Test.YtkbkgkmogbkabaaDoorTie
/-
  The statement RouteMore: its walk.
-/
namespace Go.Proofs.YtkbkgkmogbkabaaDoor
open Go.RowKit

theorem more_facts {rs : List RoadD} {N a b : Nat} (hok : mapOk ⟨N, rs⟩ = true) (ha : stopsB N a = true) (hb : stopsB N b = true) {x y z : Int} {o i t : Bool} (hx : CostVal rs N a x o) (hy : CostVal rs N b y i) (hz : CostVal rs N (a ||| b) z t) :
    (t = true → o = true ∧ i = true ∧ x ≤ z ∧ y ≤ z) ∧ (a &&& b ≠ 0 → o = true → i = true → t = true ∧ z ≤ x + y) ∧ 0 ≤ x ∧ 0 ≤ y ∧ x ≤ 1048576 ∧ y ≤ 1048576 := by
  obtain ⟨h1, h8, h16, hall, a0, aN⟩ := ok_parts hok ha
  obtain ⟨-, -, -, -, b0, bN⟩ := ok_parts hok hb
  have hor : a ||| b < 2 ^ N := Nat.or_lt_two_pow aN bN
  have hor0 : 0 < a ||| b := by
    have : a ≤ a ||| b := Nat.left_le_or
    omega
  have sa : ∀ x, a.testBit x = true → (a ||| b).testBit x = true := fun x hx => by rw [Nat.testBit_or, hx]; rfl
  have sb : ∀ x, b.testBit x = true → (a ||| b).testBit x = true := fun x hx => by rw [Nat.testBit_or, hx, Bool.or_true]
  have bd : ∀ s, 0 < s → s < 2 ^ N → ∀ c t, CostVal rs N s c t → 0 ≤ c ∧ c ≤ 1048576 := by
    intro s s0 sN c t h
    rcases h with ⟨hc, rfl, -⟩ | ⟨-, rfl, -⟩
    · obtain ⟨-, -, -, p, q⟩ := steiner_opt hall h1 h8 h16 s0 sN hc
      exact ⟨p, q⟩
    · omega
  obtain ⟨x0, x1⟩ := bd a a0 aN x o hx
  obtain ⟨y0, y1⟩ := bd b b0 bN y i hy
  refine ⟨fun ht => ?_, fun hab ho hi => ?_, x0, y0, x1, y1⟩
  · rcases hz with ⟨hc, rfl, -⟩ | ⟨-, -, h⟩
    · have ca : Cn rs a := fun u v hu hv => hc u v (sa u hu) (sa v hv)
      have cb : Cn rs b := fun u v hu hv => hc u v (sb u hu) (sb v hv)
      obtain ⟨l, ⟨t1, t2⟩, -, -, -⟩ := steiner_opt hall h1 h8 h16 hor0 hor hc
      have tc := treeP_cn t1
      have k1 := steiner_le hall h1 h8 a0 aN (treeP_in t1) (fun u v hu hv => tc u v (sa u hu) (sa v hv))
      have k2 := steiner_le hall h1 h8 b0 bN (treeP_in t1) (fun u v hu hv => tc u v (sb u hu) (sb v hv))
      rw [← costL_sum, t2] at k1 k2
      rcases hx with ⟨-, rfl, ho⟩ | ⟨h, -, -⟩
      · rcases hy with ⟨-, rfl, hi⟩ | ⟨h, -, -⟩
        · exact ⟨ho, hi, k1, k2⟩
        · exact absurd cb h
      · exact absurd ca h
    · rw [h] at ht; simp at ht
  · rcases hx with ⟨ca, rfl, -⟩ | ⟨-, -, h⟩
    · rcases hy with ⟨cb, rfl, -⟩ | ⟨-, -, h⟩
      · obtain ⟨p, hp⟩ := Nat.exists_testBit_of_ne_zero hab
        rw [Nat.testBit_and, Bool.and_eq_true] at hp
        obtain ⟨l1, ⟨t1, t2⟩, -, -, -⟩ := steiner_opt hall h1 h8 h16 a0 aN ca
        obtain ⟨l2, ⟨u1, u2⟩, -, -, -⟩ := steiner_opt hall h1 h8 h16 b0 bN cb
        have c1 := treeP_cn t1
        have c2 := treeP_cn u1
        have one : ∀ q, (a ||| b).testBit q = true → Conn (edges rs l1 ++ edges rs l2) p q := by
          intro q hq
          rw [Nat.testBit_or, Bool.or_eq_true] at hq
          rcases hq with hq | hq
          · exact (c1 p q hp.1 hq).left
          · exact (c2 p q hp.2 hq).right
        have hcn : Cn (edges rs l1 ++ edges rs l2) (a ||| b) := fun u v hu hv => (one u hu).symm.trans (one v hv)
        have hin : ∀ r ∈ edges rs l1 ++ edges rs l2, r ∈ rs := fun r hr => (List.mem_append.1 hr).elim (treeP_in t1 r) (treeP_in u1 r)
        have k := steiner_le hall h1 h8 hor0 hor hin hcn
        rw [sumC_app, ← costL_sum, ← costL_sum, t2, u2] at k
        rcases hz with ⟨-, rfl, ht⟩ | ⟨h, -, -⟩
        · exact ⟨ht, k⟩
        · exact absurd (fun u v hu hv => (hcn u v hu hv).mono hin) h
      · rw [h] at hi; simp at hi
    · rw [h] at ho; simp at ho

set_option maxRecDepth 20000 in
set_option maxHeartbeats 8000000 in
theorem RouteMore_any (vr : Value) (m : MapD) (a b : Int) (w : World) (hm : MapR w vr m) (hTZ : TZ w) :
    Calls Tryd.prog 5 #[.agg #[.int .i64 m.n, vr], .int .i64 a, .int .i64 b] w fun e w' => e = .returned (.bool true) ∧ Ext w w' := by
  obtain ⟨ao, cap, rfl⟩ := hm.shape
  have HM := hid hm
  have HTZ := hid hTZ
  have X0 := Box2.alloc w 24 (.int .i64 m.n) (.slice ao m.roads.length cap)
  clear hm hTZ
  by_cases hb : mapOk m = true
  · obtain ⟨n, rs⟩ := m
    have hok2 := hb
    unfold mapOk at hok2
    rw [Bool.and_eq_true, decide_eq_true_iff, List.all_eq_true] at hok2
    obtain ⟨⟨h1, h8, h16⟩, hall⟩ := hok2
    dsimp only at h1 h8 h16 hall
    obtain ⟨N, rfl⟩ := Int.eq_ofNat_of_zero_le (show 0 ≤ n by omega)
    have hN1 : 1 ≤ N := by omega
    have hN8 : N ≤ 8 := by omega
    have HB := hid hb
    have HAll := hid hall
    have HTK : Hid (rs.take 18 = rs) := congrArg MapD.roads (cutM_id hb)
    dsimp only at X0 HM
    clear hb hall
    by_cases hsa : stopsB N a = true
    · obtain ⟨A, rfl⟩ := Int.eq_ofNat_of_zero_le (show 0 ≤ a by unfold stopsB at hsa; rw [decide_eq_true_iff] at hsa; omega)
      have HSA := hid hsa
      by_cases hsb : stopsB N b = true
      · obtain ⟨B, rfl⟩ := Int.eq_ofNat_of_zero_le (show 0 ≤ b by unfold stopsB at hsb; rw [decide_eq_true_iff] at hsb; omega)
        have HSB := hid hsb
        obtain ⟨-, -, -, -, a0, aN⟩ := ok_parts HB.out hsa
        obtain ⟨-, -, -, -, b0, bN⟩ := ok_parts HB.out hsb
        have p8 : (2 : Nat) ^ N ≤ 2 ^ 8 := Nat.pow_le_pow_right (by decide) hN8
        have e8 : (2 : Nat) ^ 8 = 256 := by decide
        have hor : A ||| B < 2 ^ N := Nat.or_lt_two_pow aN bN
        have hle : A ≤ A ||| B := Nat.left_le_or
        have HSO : Hid (stopsB N ((A ||| B : Nat) : Int) = true) := by
          show _ = _
          unfold stopsB
          rw [decide_eq_true_iff, Int.toNat_natCast]
          exact ⟨by omega, by exact_mod_cast hor⟩
        have WOR := hid (bits_or_nat A B (by omega) (by omega))
        have WAN0 := bits_and_nat A B (by omega) (by omega)
        obtain ⟨x, o, hx⟩ := CostVal.ex rs N A
        obtain ⟨y, i, hy⟩ := CostVal.ex rs N B
        obtain ⟨z, t, hz⟩ := CostVal.ex rs N (A ||| B)
        obtain ⟨f1, f2, x0, y0, x1, y1⟩ := more_facts HB.out hsa hsb hx hy hz
        have HX := hid hx
        have HY := hid hy
        have HZ := hid hz
        have hw1 : IntKind.i64.wrap (x + y) = x + y := wraps_i64_62 _ (by omega) (by omega)
        have hw2 : wrap64 (x + y) = x + y := IntWalk.wrap64_in _ (by omega)
        clear hx hy hz hsa hsb aN bN hor hle p8 e8 a0 b0
        by_cases hab : A &&& B = 0
        · have WAN : Hid (bits .and .i64 A B = 0) := by show _ = _; rw [WAN0, hab]; rfl
          clear WAN0 f2 hab
          cases t
          · clear f1
            cases o
            · cases i
              · skip
                go_enter Tryd.func5, Tryd.ntmps5
                go_wp2_with (fail)
                refine (RValid_any _ ⟨N, rs⟩ _ (MapR.ext HM.out (Ext.ofAlloc w _))).mono ?_
                rw [HB.out]
                rintro e w1 ⟨rfl, he1⟩
                have X1 := hid (X0.ext he1)
                have E1 := hid ((Ext.ofAlloc w _).trans he1)
                clear he1
                obtain ⟨c0, c1⟩ := X1.out.cells
                go_wp2_with (fail)
                refine (RStops_any _ ⟨N, rs⟩ A _ (MapR.ext HM.out E1.out) (by show (0 : Int) ≤ N; omega) (by show (N : Int) ≤ 8; omega)).mono ?_
                rw [HSA.out]
                rintro e w2 ⟨rfl, he2⟩
                clear c0 c1
                have X2 := hid (X1.out.ext he2)
                have E2 := hid (E1.out.trans he2)
                clear he2
                obtain ⟨c0, c1⟩ := X2.out.cells
                go_wp2_with (fail)
                refine (RStops_any _ ⟨N, rs⟩ B _ (MapR.ext HM.out E2.out) (by show (0 : Int) ≤ N; omega) (by show (N : Int) ≤ 8; omega)).mono ?_
                rw [HSB.out]
                rintro e w3 ⟨rfl, he3⟩
                clear c0 c1
                have X3 := hid (X2.out.ext he3)
                have E3 := hid (E2.out.trans he3)
                clear he3
                obtain ⟨c0, c1⟩ := X3.out.cells
                go_wp2_with (fail)
                refine (lawcost_any _ N rs A _ (MapR.ext HM.out E3.out) HB.out HSA.out (HTZ.out.ext E3.out) HX.out).mono ?_
                rintro e w4 ⟨rfl, he4⟩
                clear c0 c1
                have X4 := hid (X3.out.ext he4)
                have E4 := hid (E3.out.trans he4)
                clear he4
                obtain ⟨c0, c1⟩ := X4.out.cells
                go_wp2_with (fail)
                refine (lawcost_any _ N rs B _ (MapR.ext HM.out E4.out) HB.out HSB.out (HTZ.out.ext E4.out) HY.out).mono ?_
                rintro e w5 ⟨rfl, he5⟩
                clear c0 c1
                have X5 := hid (X4.out.ext he5)
                have E5 := hid (E4.out.trans he5)
                clear he5
                obtain ⟨c0, c1⟩ := X5.out.cells
                have wor := WOR.out
                go_wp2_with (fail)
                refine (lawcost_any _ N rs (A ||| B) _ (MapR.ext HM.out E5.out) HB.out HSO.out (HTZ.out.ext E5.out) HZ.out).mono ?_
                rintro e w6 ⟨rfl, he6⟩
                clear c0 c1
                have X6 := hid (X5.out.ext he6)
                have E6 := hid (E5.out.trans he6)
                clear he6
                obtain ⟨c0, c1⟩ := X6.out.cells
                have wan := WAN.out
                clear wor
                go_wp2_with (fail)
                refine (awake_any _).mono ?_
                rintro e w7 ⟨rfl, he7⟩
                clear c0 c1
                have E7 := hid (E6.out.trans he7)
                clear he7
                go_wp2
                go_ret
                exact ⟨rfl, E7.out⟩
              · skip
                go_enter Tryd.func5, Tryd.ntmps5
                go_wp2_with (fail)
                refine (RValid_any _ ⟨N, rs⟩ _ (MapR.ext HM.out (Ext.ofAlloc w _))).mono ?_
                rw [HB.out]
                rintro e w1 ⟨rfl, he1⟩
                have X1 := hid (X0.ext he1)
                have E1 := hid ((Ext.ofAlloc w _).trans he1)
                clear he1
                obtain ⟨c0, c1⟩ := X1.out.cells
                go_wp2_with (fail)
                refine (RStops_any _ ⟨N, rs⟩ A _ (MapR.ext HM.out E1.out) (by show (0 : Int) ≤ N; omega) (by show (N : Int) ≤ 8; omega)).mono ?_
                rw [HSA.out]
                rintro e w2 ⟨rfl, he2⟩
                clear c0 c1
                have X2 := hid (X1.out.ext he2)
                have E2 := hid (E1.out.trans he2)
                clear he2
                obtain ⟨c0, c1⟩ := X2.out.cells
                go_wp2_with (fail)
                refine (RStops_any _ ⟨N, rs⟩ B _ (MapR.ext HM.out E2.out) (by show (0 : Int) ≤ N; omega) (by show (N : Int) ≤ 8; omega)).mono ?_
                rw [HSB.out]
                rintro e w3 ⟨rfl, he3⟩
                clear c0 c1
                have X3 := hid (X2.out.ext he3)
                have E3 := hid (E2.out.trans he3)
                clear he3
                obtain ⟨c0, c1⟩ := X3.out.cells
                go_wp2_with (fail)
                refine (lawcost_any _ N rs A _ (MapR.ext HM.out E3.out) HB.out HSA.out (HTZ.out.ext E3.out) HX.out).mono ?_
                rintro e w4 ⟨rfl, he4⟩
                clear c0 c1
                have X4 := hid (X3.out.ext he4)
                have E4 := hid (E3.out.trans he4)
                clear he4
                obtain ⟨c0, c1⟩ := X4.out.cells
                go_wp2_with (fail)
                refine (lawcost_any _ N rs B _ (MapR.ext HM.out E4.out) HB.out HSB.out (HTZ.out.ext E4.out) HY.out).mono ?_
                rintro e w5 ⟨rfl, he5⟩
                clear c0 c1
                have X5 := hid (X4.out.ext he5)
                have E5 := hid (E4.out.trans he5)
                clear he5
                obtain ⟨c0, c1⟩ := X5.out.cells
                have wor := WOR.out
                go_wp2_with (fail)
                refine (lawcost_any _ N rs (A ||| B) _ (MapR.ext HM.out E5.out) HB.out HSO.out (HTZ.out.ext E5.out) HZ.out).mono ?_
                rintro e w6 ⟨rfl, he6⟩
                clear c0 c1
                have X6 := hid (X5.out.ext he6)
                have E6 := hid (E5.out.trans he6)
                clear he6
                obtain ⟨c0, c1⟩ := X6.out.cells
                have wan := WAN.out
                clear wor
                go_wp2_with (fail)
                refine (awake_any _).mono ?_
                rintro e w7 ⟨rfl, he7⟩
                clear c0 c1
                have E7 := hid (E6.out.trans he7)
                clear he7
                go_wp2
                go_ret
                exact ⟨rfl, E7.out⟩
            · cases i
              · skip
                go_enter Tryd.func5, Tryd.ntmps5
                go_wp2_with (fail)
                refine (RValid_any _ ⟨N, rs⟩ _ (MapR.ext HM.out (Ext.ofAlloc w _))).mono ?_
                rw [HB.out]
                rintro e w1 ⟨rfl, he1⟩
                have X1 := hid (X0.ext he1)
                have E1 := hid ((Ext.ofAlloc w _).trans he1)
                clear he1
                obtain ⟨c0, c1⟩ := X1.out.cells
                go_wp2_with (fail)
                refine (RStops_any _ ⟨N, rs⟩ A _ (MapR.ext HM.out E1.out) (by show (0 : Int) ≤ N; omega) (by show (N : Int) ≤ 8; omega)).mono ?_
                rw [HSA.out]
                rintro e w2 ⟨rfl, he2⟩
                clear c0 c1
                have X2 := hid (X1.out.ext he2)
                have E2 := hid (E1.out.trans he2)
                clear he2
                obtain ⟨c0, c1⟩ := X2.out.cells
                go_wp2_with (fail)
                refine (RStops_any _ ⟨N, rs⟩ B _ (MapR.ext HM.out E2.out) (by show (0 : Int) ≤ N; omega) (by show (N : Int) ≤ 8; omega)).mono ?_
                rw [HSB.out]
                rintro e w3 ⟨rfl, he3⟩
                clear c0 c1
                have X3 := hid (X2.out.ext he3)
                have E3 := hid (E2.out.trans he3)
                clear he3
                obtain ⟨c0, c1⟩ := X3.out.cells
                go_wp2_with (fail)
                refine (lawcost_any _ N rs A _ (MapR.ext HM.out E3.out) HB.out HSA.out (HTZ.out.ext E3.out) HX.out).mono ?_
                rintro e w4 ⟨rfl, he4⟩
                clear c0 c1
                have X4 := hid (X3.out.ext he4)
                have E4 := hid (E3.out.trans he4)
                clear he4
                obtain ⟨c0, c1⟩ := X4.out.cells
                go_wp2_with (fail)
                refine (lawcost_any _ N rs B _ (MapR.ext HM.out E4.out) HB.out HSB.out (HTZ.out.ext E4.out) HY.out).mono ?_
                rintro e w5 ⟨rfl, he5⟩
                clear c0 c1
                have X5 := hid (X4.out.ext he5)
                have E5 := hid (E4.out.trans he5)
                clear he5
                obtain ⟨c0, c1⟩ := X5.out.cells
                have wor := WOR.out
                go_wp2_with (fail)
                refine (lawcost_any _ N rs (A ||| B) _ (MapR.ext HM.out E5.out) HB.out HSO.out (HTZ.out.ext E5.out) HZ.out).mono ?_
                rintro e w6 ⟨rfl, he6⟩
                clear c0 c1
                have X6 := hid (X5.out.ext he6)
                have E6 := hid (E5.out.trans he6)
                clear he6
                obtain ⟨c0, c1⟩ := X6.out.cells
                have wan := WAN.out
                clear wor
                go_wp2_with (fail)
                refine (awake_any _).mono ?_
                rintro e w7 ⟨rfl, he7⟩
                clear c0 c1
                have E7 := hid (E6.out.trans he7)
                clear he7
                go_wp2
                go_ret
                exact ⟨rfl, E7.out⟩
              · skip
                go_enter Tryd.func5, Tryd.ntmps5
                go_wp2_with (fail)
                refine (RValid_any _ ⟨N, rs⟩ _ (MapR.ext HM.out (Ext.ofAlloc w _))).mono ?_
                rw [HB.out]
                rintro e w1 ⟨rfl, he1⟩
                have X1 := hid (X0.ext he1)
                have E1 := hid ((Ext.ofAlloc w _).trans he1)
                clear he1
                obtain ⟨c0, c1⟩ := X1.out.cells
                go_wp2_with (fail)
                refine (RStops_any _ ⟨N, rs⟩ A _ (MapR.ext HM.out E1.out) (by show (0 : Int) ≤ N; omega) (by show (N : Int) ≤ 8; omega)).mono ?_
                rw [HSA.out]
                rintro e w2 ⟨rfl, he2⟩
                clear c0 c1
                have X2 := hid (X1.out.ext he2)
                have E2 := hid (E1.out.trans he2)
                clear he2
                obtain ⟨c0, c1⟩ := X2.out.cells
                go_wp2_with (fail)
                refine (RStops_any _ ⟨N, rs⟩ B _ (MapR.ext HM.out E2.out) (by show (0 : Int) ≤ N; omega) (by show (N : Int) ≤ 8; omega)).mono ?_
                rw [HSB.out]
                rintro e w3 ⟨rfl, he3⟩
                clear c0 c1
                have X3 := hid (X2.out.ext he3)
                have E3 := hid (E2.out.trans he3)
                clear he3
                obtain ⟨c0, c1⟩ := X3.out.cells
                go_wp2_with (fail)
                refine (lawcost_any _ N rs A _ (MapR.ext HM.out E3.out) HB.out HSA.out (HTZ.out.ext E3.out) HX.out).mono ?_
                rintro e w4 ⟨rfl, he4⟩
                clear c0 c1
                have X4 := hid (X3.out.ext he4)
                have E4 := hid (E3.out.trans he4)
                clear he4
                obtain ⟨c0, c1⟩ := X4.out.cells
                go_wp2_with (fail)
                refine (lawcost_any _ N rs B _ (MapR.ext HM.out E4.out) HB.out HSB.out (HTZ.out.ext E4.out) HY.out).mono ?_
                rintro e w5 ⟨rfl, he5⟩
                clear c0 c1
                have X5 := hid (X4.out.ext he5)
                have E5 := hid (E4.out.trans he5)
                clear he5
                obtain ⟨c0, c1⟩ := X5.out.cells
                have wor := WOR.out
                go_wp2_with (fail)
                refine (lawcost_any _ N rs (A ||| B) _ (MapR.ext HM.out E5.out) HB.out HSO.out (HTZ.out.ext E5.out) HZ.out).mono ?_
                rintro e w6 ⟨rfl, he6⟩
                clear c0 c1
                have X6 := hid (X5.out.ext he6)
                have E6 := hid (E5.out.trans he6)
                clear he6
                obtain ⟨c0, c1⟩ := X6.out.cells
                have wan := WAN.out
                clear wor
                go_wp2_with (fail)
                refine (awake_any _).mono ?_
                rintro e w7 ⟨rfl, he7⟩
                clear c0 c1
                have E7 := hid (E6.out.trans he7)
                clear he7
                go_wp2
                go_ret
                exact ⟨rfl, E7.out⟩
          · obtain ⟨rfl, rfl, g1, g2⟩ := f1 rfl
            clear f1
            go_enter Tryd.func5, Tryd.ntmps5
            go_wp2_with (fail)
            refine (RValid_any _ ⟨N, rs⟩ _ (MapR.ext HM.out (Ext.ofAlloc w _))).mono ?_
            rw [HB.out]
            rintro e w1 ⟨rfl, he1⟩
            have X1 := hid (X0.ext he1)
            have E1 := hid ((Ext.ofAlloc w _).trans he1)
            clear he1
            obtain ⟨c0, c1⟩ := X1.out.cells
            go_wp2_with (fail)
            refine (RStops_any _ ⟨N, rs⟩ A _ (MapR.ext HM.out E1.out) (by show (0 : Int) ≤ N; omega) (by show (N : Int) ≤ 8; omega)).mono ?_
            rw [HSA.out]
            rintro e w2 ⟨rfl, he2⟩
            clear c0 c1
            have X2 := hid (X1.out.ext he2)
            have E2 := hid (E1.out.trans he2)
            clear he2
            obtain ⟨c0, c1⟩ := X2.out.cells
            go_wp2_with (fail)
            refine (RStops_any _ ⟨N, rs⟩ B _ (MapR.ext HM.out E2.out) (by show (0 : Int) ≤ N; omega) (by show (N : Int) ≤ 8; omega)).mono ?_
            rw [HSB.out]
            rintro e w3 ⟨rfl, he3⟩
            clear c0 c1
            have X3 := hid (X2.out.ext he3)
            have E3 := hid (E2.out.trans he3)
            clear he3
            obtain ⟨c0, c1⟩ := X3.out.cells
            go_wp2_with (fail)
            refine (lawcost_any _ N rs A _ (MapR.ext HM.out E3.out) HB.out HSA.out (HTZ.out.ext E3.out) HX.out).mono ?_
            rintro e w4 ⟨rfl, he4⟩
            clear c0 c1
            have X4 := hid (X3.out.ext he4)
            have E4 := hid (E3.out.trans he4)
            clear he4
            obtain ⟨c0, c1⟩ := X4.out.cells
            go_wp2_with (fail)
            refine (lawcost_any _ N rs B _ (MapR.ext HM.out E4.out) HB.out HSB.out (HTZ.out.ext E4.out) HY.out).mono ?_
            rintro e w5 ⟨rfl, he5⟩
            clear c0 c1
            have X5 := hid (X4.out.ext he5)
            have E5 := hid (E4.out.trans he5)
            clear he5
            obtain ⟨c0, c1⟩ := X5.out.cells
            have wor := WOR.out
            go_wp2_with (fail)
            refine (lawcost_any _ N rs (A ||| B) _ (MapR.ext HM.out E5.out) HB.out HSO.out (HTZ.out.ext E5.out) HZ.out).mono ?_
            rintro e w6 ⟨rfl, he6⟩
            clear c0 c1
            have X6 := hid (X5.out.ext he6)
            have E6 := hid (E5.out.trans he6)
            clear he6
            obtain ⟨c0, c1⟩ := X6.out.cells
            have wan := WAN.out
            clear wor
            go_wp2_with (fail)
            refine (awake_any _).mono ?_
            rintro e w7 ⟨rfl, he7⟩
            clear c0 c1
            have E7 := hid (E6.out.trans he7)
            clear he7
            go_wp2
            go_ret
            exact ⟨rfl, E7.out⟩
        · have HAB := hid hab
          have hne : ¬ (((A &&& B : Nat) : Int) = 0) := by omega
          have hneb : (((A &&& B : Nat) : Int) == 0) = false := beq_eq_false_iff_ne.2 hne
          have WAN := hid WAN0
          clear WAN0 hab hne
          cases t
          · clear f1
            cases o
            · cases i
              · skip
                go_enter Tryd.func5, Tryd.ntmps5
                go_wp2_with (fail)
                refine (RValid_any _ ⟨N, rs⟩ _ (MapR.ext HM.out (Ext.ofAlloc w _))).mono ?_
                rw [HB.out]
                rintro e w1 ⟨rfl, he1⟩
                have X1 := hid (X0.ext he1)
                have E1 := hid ((Ext.ofAlloc w _).trans he1)
                clear he1
                obtain ⟨c0, c1⟩ := X1.out.cells
                go_wp2_with (fail)
                refine (RStops_any _ ⟨N, rs⟩ A _ (MapR.ext HM.out E1.out) (by show (0 : Int) ≤ N; omega) (by show (N : Int) ≤ 8; omega)).mono ?_
                rw [HSA.out]
                rintro e w2 ⟨rfl, he2⟩
                clear c0 c1
                have X2 := hid (X1.out.ext he2)
                have E2 := hid (E1.out.trans he2)
                clear he2
                obtain ⟨c0, c1⟩ := X2.out.cells
                go_wp2_with (fail)
                refine (RStops_any _ ⟨N, rs⟩ B _ (MapR.ext HM.out E2.out) (by show (0 : Int) ≤ N; omega) (by show (N : Int) ≤ 8; omega)).mono ?_
                rw [HSB.out]
                rintro e w3 ⟨rfl, he3⟩
                clear c0 c1
                have X3 := hid (X2.out.ext he3)
                have E3 := hid (E2.out.trans he3)
                clear he3
                obtain ⟨c0, c1⟩ := X3.out.cells
                go_wp2_with (fail)
                refine (lawcost_any _ N rs A _ (MapR.ext HM.out E3.out) HB.out HSA.out (HTZ.out.ext E3.out) HX.out).mono ?_
                rintro e w4 ⟨rfl, he4⟩
                clear c0 c1
                have X4 := hid (X3.out.ext he4)
                have E4 := hid (E3.out.trans he4)
                clear he4
                obtain ⟨c0, c1⟩ := X4.out.cells
                go_wp2_with (fail)
                refine (lawcost_any _ N rs B _ (MapR.ext HM.out E4.out) HB.out HSB.out (HTZ.out.ext E4.out) HY.out).mono ?_
                rintro e w5 ⟨rfl, he5⟩
                clear c0 c1
                have X5 := hid (X4.out.ext he5)
                have E5 := hid (E4.out.trans he5)
                clear he5
                obtain ⟨c0, c1⟩ := X5.out.cells
                have wor := WOR.out
                go_wp2_with (fail)
                refine (lawcost_any _ N rs (A ||| B) _ (MapR.ext HM.out E5.out) HB.out HSO.out (HTZ.out.ext E5.out) HZ.out).mono ?_
                rintro e w6 ⟨rfl, he6⟩
                clear c0 c1
                have X6 := hid (X5.out.ext he6)
                have E6 := hid (E5.out.trans he6)
                clear he6
                obtain ⟨c0, c1⟩ := X6.out.cells
                have wan := WAN.out
                clear wor
                go_wp2_with (fail)
                refine (awake_any _).mono ?_
                rintro e w7 ⟨rfl, he7⟩
                clear c0 c1
                have E7 := hid (E6.out.trans he7)
                clear he7
                go_wp2
                go_ret
                exact ⟨rfl, E7.out⟩
              · skip
                go_enter Tryd.func5, Tryd.ntmps5
                go_wp2_with (fail)
                refine (RValid_any _ ⟨N, rs⟩ _ (MapR.ext HM.out (Ext.ofAlloc w _))).mono ?_
                rw [HB.out]
                rintro e w1 ⟨rfl, he1⟩
                have X1 := hid (X0.ext he1)
                have E1 := hid ((Ext.ofAlloc w _).trans he1)
                clear he1
                obtain ⟨c0, c1⟩ := X1.out.cells
                go_wp2_with (fail)
                refine (RStops_any _ ⟨N, rs⟩ A _ (MapR.ext HM.out E1.out) (by show (0 : Int) ≤ N; omega) (by show (N : Int) ≤ 8; omega)).mono ?_
                rw [HSA.out]
                rintro e w2 ⟨rfl, he2⟩
                clear c0 c1
                have X2 := hid (X1.out.ext he2)
                have E2 := hid (E1.out.trans he2)
                clear he2
                obtain ⟨c0, c1⟩ := X2.out.cells
                go_wp2_with (fail)
                refine (RStops_any _ ⟨N, rs⟩ B _ (MapR.ext HM.out E2.out) (by show (0 : Int) ≤ N; omega) (by show (N : Int) ≤ 8; omega)).mono ?_
                rw [HSB.out]
                rintro e w3 ⟨rfl, he3⟩
                clear c0 c1
                have X3 := hid (X2.out.ext he3)
                have E3 := hid (E2.out.trans he3)
                clear he3
                obtain ⟨c0, c1⟩ := X3.out.cells
                go_wp2_with (fail)
                refine (lawcost_any _ N rs A _ (MapR.ext HM.out E3.out) HB.out HSA.out (HTZ.out.ext E3.out) HX.out).mono ?_
                rintro e w4 ⟨rfl, he4⟩
                clear c0 c1
                have X4 := hid (X3.out.ext he4)
                have E4 := hid (E3.out.trans he4)
                clear he4
                obtain ⟨c0, c1⟩ := X4.out.cells
                go_wp2_with (fail)
                refine (lawcost_any _ N rs B _ (MapR.ext HM.out E4.out) HB.out HSB.out (HTZ.out.ext E4.out) HY.out).mono ?_
                rintro e w5 ⟨rfl, he5⟩
                clear c0 c1
                have X5 := hid (X4.out.ext he5)
                have E5 := hid (E4.out.trans he5)
                clear he5
                obtain ⟨c0, c1⟩ := X5.out.cells
                have wor := WOR.out
                go_wp2_with (fail)
                refine (lawcost_any _ N rs (A ||| B) _ (MapR.ext HM.out E5.out) HB.out HSO.out (HTZ.out.ext E5.out) HZ.out).mono ?_
                rintro e w6 ⟨rfl, he6⟩
                clear c0 c1
                have X6 := hid (X5.out.ext he6)
                have E6 := hid (E5.out.trans he6)
                clear he6
                obtain ⟨c0, c1⟩ := X6.out.cells
                have wan := WAN.out
                clear wor
                go_wp2_with (fail)
                refine (awake_any _).mono ?_
                rintro e w7 ⟨rfl, he7⟩
                clear c0 c1
                have E7 := hid (E6.out.trans he7)
                clear he7
                go_wp2
                go_ret
                exact ⟨rfl, E7.out⟩
            · cases i
              · skip
                go_enter Tryd.func5, Tryd.ntmps5
                go_wp2_with (fail)
                refine (RValid_any _ ⟨N, rs⟩ _ (MapR.ext HM.out (Ext.ofAlloc w _))).mono ?_
                rw [HB.out]
                rintro e w1 ⟨rfl, he1⟩
                have X1 := hid (X0.ext he1)
                have E1 := hid ((Ext.ofAlloc w _).trans he1)
                clear he1
                obtain ⟨c0, c1⟩ := X1.out.cells
                go_wp2_with (fail)
                refine (RStops_any _ ⟨N, rs⟩ A _ (MapR.ext HM.out E1.out) (by show (0 : Int) ≤ N; omega) (by show (N : Int) ≤ 8; omega)).mono ?_
                rw [HSA.out]
                rintro e w2 ⟨rfl, he2⟩
                clear c0 c1
                have X2 := hid (X1.out.ext he2)
                have E2 := hid (E1.out.trans he2)
                clear he2
                obtain ⟨c0, c1⟩ := X2.out.cells
                go_wp2_with (fail)
                refine (RStops_any _ ⟨N, rs⟩ B _ (MapR.ext HM.out E2.out) (by show (0 : Int) ≤ N; omega) (by show (N : Int) ≤ 8; omega)).mono ?_
                rw [HSB.out]
                rintro e w3 ⟨rfl, he3⟩
                clear c0 c1
                have X3 := hid (X2.out.ext he3)
                have E3 := hid (E2.out.trans he3)
                clear he3
                obtain ⟨c0, c1⟩ := X3.out.cells
                go_wp2_with (fail)
                refine (lawcost_any _ N rs A _ (MapR.ext HM.out E3.out) HB.out HSA.out (HTZ.out.ext E3.out) HX.out).mono ?_
                rintro e w4 ⟨rfl, he4⟩
                clear c0 c1
                have X4 := hid (X3.out.ext he4)
                have E4 := hid (E3.out.trans he4)
                clear he4
                obtain ⟨c0, c1⟩ := X4.out.cells
                go_wp2_with (fail)
                refine (lawcost_any _ N rs B _ (MapR.ext HM.out E4.out) HB.out HSB.out (HTZ.out.ext E4.out) HY.out).mono ?_
                rintro e w5 ⟨rfl, he5⟩
                clear c0 c1
                have X5 := hid (X4.out.ext he5)
                have E5 := hid (E4.out.trans he5)
                clear he5
                obtain ⟨c0, c1⟩ := X5.out.cells
                have wor := WOR.out
                go_wp2_with (fail)
                refine (lawcost_any _ N rs (A ||| B) _ (MapR.ext HM.out E5.out) HB.out HSO.out (HTZ.out.ext E5.out) HZ.out).mono ?_
                rintro e w6 ⟨rfl, he6⟩
                clear c0 c1
                have X6 := hid (X5.out.ext he6)
                have E6 := hid (E5.out.trans he6)
                clear he6
                obtain ⟨c0, c1⟩ := X6.out.cells
                have wan := WAN.out
                clear wor
                go_wp2_with (fail)
                refine (awake_any _).mono ?_
                rintro e w7 ⟨rfl, he7⟩
                clear c0 c1
                have E7 := hid (E6.out.trans he7)
                clear he7
                go_wp2
                go_ret
                exact ⟨rfl, E7.out⟩
              · have := (f2 HAB.out rfl rfl).1
                simp at this
          · obtain ⟨rfl, rfl, g1, g2⟩ := f1 rfl
            have g3 := (f2 HAB.out rfl rfl).2
            clear f2
            clear f1
            go_enter Tryd.func5, Tryd.ntmps5
            go_wp2_with (fail)
            refine (RValid_any _ ⟨N, rs⟩ _ (MapR.ext HM.out (Ext.ofAlloc w _))).mono ?_
            rw [HB.out]
            rintro e w1 ⟨rfl, he1⟩
            have X1 := hid (X0.ext he1)
            have E1 := hid ((Ext.ofAlloc w _).trans he1)
            clear he1
            obtain ⟨c0, c1⟩ := X1.out.cells
            go_wp2_with (fail)
            refine (RStops_any _ ⟨N, rs⟩ A _ (MapR.ext HM.out E1.out) (by show (0 : Int) ≤ N; omega) (by show (N : Int) ≤ 8; omega)).mono ?_
            rw [HSA.out]
            rintro e w2 ⟨rfl, he2⟩
            clear c0 c1
            have X2 := hid (X1.out.ext he2)
            have E2 := hid (E1.out.trans he2)
            clear he2
            obtain ⟨c0, c1⟩ := X2.out.cells
            go_wp2_with (fail)
            refine (RStops_any _ ⟨N, rs⟩ B _ (MapR.ext HM.out E2.out) (by show (0 : Int) ≤ N; omega) (by show (N : Int) ≤ 8; omega)).mono ?_
            rw [HSB.out]
            rintro e w3 ⟨rfl, he3⟩
            clear c0 c1
            have X3 := hid (X2.out.ext he3)
            have E3 := hid (E2.out.trans he3)
            clear he3
            obtain ⟨c0, c1⟩ := X3.out.cells
            go_wp2_with (fail)
            refine (lawcost_any _ N rs A _ (MapR.ext HM.out E3.out) HB.out HSA.out (HTZ.out.ext E3.out) HX.out).mono ?_
            rintro e w4 ⟨rfl, he4⟩
            clear c0 c1
            have X4 := hid (X3.out.ext he4)
            have E4 := hid (E3.out.trans he4)
            clear he4
            obtain ⟨c0, c1⟩ := X4.out.cells
            go_wp2_with (fail)
            refine (lawcost_any _ N rs B _ (MapR.ext HM.out E4.out) HB.out HSB.out (HTZ.out.ext E4.out) HY.out).mono ?_
            rintro e w5 ⟨rfl, he5⟩
            clear c0 c1
            have X5 := hid (X4.out.ext he5)
            have E5 := hid (E4.out.trans he5)
            clear he5
            obtain ⟨c0, c1⟩ := X5.out.cells
            have wor := WOR.out
            go_wp2_with (fail)
            refine (lawcost_any _ N rs (A ||| B) _ (MapR.ext HM.out E5.out) HB.out HSO.out (HTZ.out.ext E5.out) HZ.out).mono ?_
            rintro e w6 ⟨rfl, he6⟩
            clear c0 c1
            have X6 := hid (X5.out.ext he6)
            have E6 := hid (E5.out.trans he6)
            clear he6
            obtain ⟨c0, c1⟩ := X6.out.cells
            have wan := WAN.out
            clear wor
            go_wp2_with (fail)
            refine (awake_any _).mono ?_
            rintro e w7 ⟨rfl, he7⟩
            clear c0 c1
            have E7 := hid (E6.out.trans he7)
            clear he7
            go_wp2
            go_ret
            exact ⟨rfl, E7.out⟩
      · have hsf : stopsB N b = false := by rw [Bool.eq_false_iff]; exact hsb
        have HST := hid hsf
        clear hsa hsb hsf
        go_enter Tryd.func5, Tryd.ntmps5
        go_wp2_with (fail)
        refine (RValid_any _ ⟨N, rs⟩ _ (MapR.ext HM.out (Ext.ofAlloc w _))).mono ?_
        rw [HB.out]
        rintro e w1 ⟨rfl, he1⟩
        have X1 := hid (X0.ext he1)
        have E1 := hid ((Ext.ofAlloc w _).trans he1)
        clear he1
        obtain ⟨c0, c1⟩ := X1.out.cells
        go_wp2_with (fail)
        refine (RStops_any _ ⟨N, rs⟩ A _ (MapR.ext HM.out E1.out) (by show (0 : Int) ≤ N; omega) (by show (N : Int) ≤ 8; omega)).mono ?_
        rw [HSA.out]
        rintro e w2 ⟨rfl, he2⟩
        clear c0 c1
        have X2 := hid (X1.out.ext he2)
        have E2 := hid (E1.out.trans he2)
        clear he2
        obtain ⟨c0, c1⟩ := X2.out.cells
        go_wp2_with (fail)
        refine (RStops_any _ ⟨N, rs⟩ b _ (MapR.ext HM.out E2.out) (by show (0 : Int) ≤ N; omega) (by show (N : Int) ≤ 8; omega)).mono ?_
        rw [HST.out]
        rintro e w3 ⟨rfl, he3⟩
        clear c0 c1
        have X3 := hid (X2.out.ext he3)
        have E3 := hid (E2.out.trans he3)
        clear he3
        obtain ⟨c0, c1⟩ := X3.out.cells
        go_wp2_with (fail)
        refine (awake_any _).mono ?_
        rintro e w4 ⟨rfl, he4⟩
        clear c0 c1
        have E4 := hid (E3.out.trans he4)
        clear he4
        go_wp2
        go_ret
        exact ⟨rfl, E4.out⟩
    · have hsf : stopsB N a = false := by rw [Bool.eq_false_iff]; exact hsa
      have HST := hid hsf
      clear hsa hsf
      go_enter Tryd.func5, Tryd.ntmps5
      go_wp2_with (fail)
      refine (RValid_any _ ⟨N, rs⟩ _ (MapR.ext HM.out (Ext.ofAlloc w _))).mono ?_
      rw [HB.out]
      rintro e w1 ⟨rfl, he1⟩
      have X1 := hid (X0.ext he1)
      have E1 := hid ((Ext.ofAlloc w _).trans he1)
      clear he1
      obtain ⟨c0, c1⟩ := X1.out.cells
      go_wp2_with (fail)
      refine (RStops_any _ ⟨N, rs⟩ a _ (MapR.ext HM.out E1.out) (by show (0 : Int) ≤ N; omega) (by show (N : Int) ≤ 8; omega)).mono ?_
      rw [HST.out]
      rintro e w2 ⟨rfl, he2⟩
      clear c0 c1
      have X2 := hid (X1.out.ext he2)
      have E2 := hid (E1.out.trans he2)
      clear he2
      obtain ⟨c0, c1⟩ := X2.out.cells
      go_wp2_with (fail)
      refine (awake_any _).mono ?_
      rintro e w3 ⟨rfl, he3⟩
      clear c0 c1
      have E3 := hid (E2.out.trans he3)
      clear he3
      go_wp2
      go_ret
      exact ⟨rfl, E3.out⟩
  · have hbf : mapOk m = false := by rw [Bool.eq_false_iff]; exact hb
    have HVal := hid hbf
    clear hb hbf
    go_enter Tryd.func5, Tryd.ntmps5
    go_wp2_with (fail)
    refine (RValid_any _ m _ (MapR.ext HM.out (Ext.ofAlloc w _))).mono ?_
    rw [HVal.out]
    rintro e w1 ⟨rfl, he1⟩
    have X1 := hid (X0.ext he1)
    have E1 := hid ((Ext.ofAlloc w _).trans he1)
    clear he1
    obtain ⟨c0, c1⟩ := X1.out.cells
    go_wp2_with (fail)
    refine (awake_any _).mono ?_
    rintro e w2 ⟨rfl, he2⟩
    clear c0 c1
    have E2 := hid (E1.out.trans he2)
    clear he2
    go_wp2
    go_ret
    exact ⟨rfl, E2.out⟩

end Go.Proofs.YtkbkgkmogbkabaaDoor

/-
  The statement RouteMore is proved: for every map and every two numbers the call returns true, and its arguments read afterwards as before. No condition but the library's table, tied to the program's text.
-/
namespace Go.Proofs.YtkbkgkmogbkabaaDoor
open Go.ChangeShapes Go.WideShapes Go.ChangeAt Go.RowKit

set_option maxRecDepth 100000 in
theorem routeMore_lifted (os : Os) (started : os.Started) (H : Type) (enc : TypeId × Value → H) :
    ReturnsInHanded {} Tryd.checked os 5 .any (fun w args => (Rows.routeMoreSpec.pre enc Tryd.prog Tryd.f5 [] false w args ∧ laidMetH Tryd.prog laid2 w) ∧ sizedMet enc Tryd.prog Tryd.f5 (OpenSpec.ofChange Rows.routeMoreSpec) false w args) (Rows.routeMoreSpec.post enc Tryd.prog Tryd.f5 false true false false) := by
  refine returnsInHanded_of_change_and (C := Tryd.checked) (X := fun w _ => laidMetH Tryd.prog laid2 w) (fun _ _ _ hh h => h.of_heap hh) own started (by kernel_rfl) Tryd.func5
    (ChangeSpec.witness_shaped (enc := enc) (C := Tryd.checked) (os := os) (X := fun w _ => laidMetH Tryd.prog laid2 w) false (World.doorLaid Tryd.prog 400 os) #[.agg #[.int .i64 0, .slice none 0 0], .int .i64 0, .int .i64 0] 8 rfl (World.shaped_of_RefB (by kernel_rfl) (by kernel_rfl)) (by kernel_rfl) (by kernel_rfl) (by kernel_rfl) (door_met os _)) ?_
  intro W base args ds gs before hval0 hW _ hsz0 hLd _
  have hTZ := TZ.of (tab_of_laid hLd)
  have hsz : (DataW.weightsEach Tryd.prog (Tryd.f5.params.toList ++ Rows.routeMoreSpec.plain.varTypes Tryd.prog) (ds ++ gs)).all (· ≤ reachBytes) = true := hsz0
  clear hsz0
  have hval : ∀ (j : Nat) t v, Tryd.f5.params[j]? = some t → args[j]? = some v → Value.okWide Tryd.prog W .any base t v := hval0
  have hW' := hW
  obtain ⟨p, q, hA0, hV, rfl, _, _⟩ := hW
  have hA : DataW.TrodAll enc Tryd.prog W 0 (fun _ => true) true Tryd.f5.params.toList args.toList ds p := hA0
  rw [Tryd.params5] at hA hval hsz
  obtain ⟨v0, vs0, d0, ds0, p0, q0, hargs, rfl, rfl, h0, r0⟩ := trodAll_cons hA
  obtain ⟨v1, vs1, d1, ds1, p1, q1, rfl, rfl, rfl, h1, r1⟩ := trodAll_cons r0
  obtain ⟨v2, vs2, d2, ds2, p2, q2, rfl, rfl, rfl, h2, r2⟩ := trodAll_cons r1
  obtain ⟨rfl, rfl, rfl⟩ := trodAll_nil r2
  obtain rfl : args = #[v0, v1, v2] := by cases args; simp_all
  obtain ⟨rfl, rfl⟩ := trodVars_none hV
  have k0 := h0
  have lt0 : ∀ x ∈ p0, x.block < W.heap.size := by obtain ⟨m, hm⟩ := k0; exact DataW.trod_lt m _ _ _ hm
  obtain ⟨vr, mp, rfl, hm⟩ := map_of_trod (hval 0 _ v0 rfl rfl) h0 (weights_at hsz (j := 0) rfl rfl)
  obtain ⟨a1, rfl, rfl, rfl, w1⟩ := open_int Tryd.underlying3 (hval 1 _ v1 rfl rfl) h1
  obtain ⟨a2, rfl, rfl, rfl, w2⟩ := open_int Tryd.underlying3 (hval 2 _ v2 rfl rfl) h2
  clear hA0 hval0
  refine (RouteMore_any vr mp a1 a2 W hm hTZ).mono fun e W' ⟨he, bel⟩ => ?_
  subst he
  exact ⟨_, rfl, _, _, _, [], _, [], hW', trodAll_mk1 (shut_bool Tryd.underlying4 _),
    (trodAll_cons_mk (Below.trod laidOut (by kernel_rfl) (of_decide_eq_true (by kernel_rfl)) k0 bel lt0) (trodAll_cons_mk (shut_int Tryd.underlying3 w1) (trodAll_cons_mk (shut_int Tryd.underlying3 w2) trodAll_mk0))), rfl, bel.frame _, fun h => by cases h⟩

theorem routeMore_row : Rows.RouteMoreSaid :=
  OpenClaim.holds_of_wide 5 Tryd.f5 rfl rfl rfl rfl rfl rfl rfl ⟨rfl, rfl, rfl, rfl, rfl⟩ rfl rfl rfl rfl rfl (by kernel_rfl) Tryd.func5 (by kernel_rfl)
    (of_decide_eq_true (by kernel_rfl)) (by unfold Func.isWrapper; first | (rw [if_pos (by decide +kernel)]; kernel_rfl) | (rw [if_neg (by decide +kernel)]; exact ⟨rfl, rfl⟩))
    (fun os started H enc _ => routeMore_lifted os started H enc)

theorem routeMore_holds : Rows.RouteMoreCardSaid :=
  Claim7.holds_tied_plain_at .later [] [.data, .data] true (true, "21947a5a87ddc905c2c0e4241b411cf4012465f53c335e9effae5daa1c3095b2") false
    routeMore_row (fun _ h => by cases h) (by kernel_rfl) (fun _ h => by cases h) routeMore_row_tie rfl ⟨rfl, rfl⟩ (by kernel_rfl) rfl
    (fun f fn hf hfn => by
      obtain rfl : f = 5 := Option.some.inj ((show Tryd.prog.funcNamed "corrody/corrodylaw05.RouteMore" = some 5 by kernel_rfl).symm.trans hf) |>.symm
      obtain rfl : fn = Tryd.f5 := (Option.some.inj (Tryd.func5.symm.trans hfn)).symm
      exact ⟨by kernel_rfl, fun j t ht => by
        rw [Tryd.params5] at ht
        have hm : t ∈ [24, 3, 3] := by simpa using Array.mem_of_getElem? ht
        have hall : ([24, 3, 3].all fun u => !Tryd.prog.wantsStandIn u) = true := by kernel_rfl
        exact (show Tryd.prog.wantsStandIn t = false by simpa using List.all_eq_true.1 hall t hm)⟩)
    (by kernel_rfl)

end Go.Proofs.YtkbkgkmogbkabaaDoor

#print axioms Go.Proofs.YtkbkgkmogbkabaaDoor.routeMore_holds
