/-
  Contract of the reference's Way.
-/
import Derived.Test.YtkbkgkmogbkabaaRtWays
import Derived.Test.YtkbkgkmogbkabaaRtRDist
namespace Go.Proofs.Ytkbkgkmogbkabaa
open Go.RowKit

set_option maxRecDepth 20000 in
set_option maxHeartbeats 8000000 in
theorem RWay_any (vr : Value) (N : Nat) (rs : List RoadD) (a b : Nat) (w : World) (hv : Roads w vr rs) (hok : mapOk ⟨N, rs⟩ = true) (ha : a < N) (hb : b < N) :
    Calls Try.prog 20 #[.agg #[.int .i64 N, vr], .int .i64 a, .int .i64 b] w fun e w' => ∃ v x, e = .returned (.tuple #[v, .int .i64 x]) ∧ Ext w w' ∧
      ((far ≤ fw (costTo rs) N a b ∧ v = .slice none 0 0 ∧ x = 4) ∨ (fw (costTo rs) N a b < far ∧ (∃ f r, IsWay (costTo rs) (fw (costTo rs) N) N a b f r ∧ Ints w' v r) ∧ x = 0)) := by
  obtain ⟨ao, cap, rfl⟩ := hv.shape
  have HV := hid hv
  have HOk := hid hok
  have hok2 := hok
  unfold mapOk at hok2
  rw [Bool.and_eq_true, decide_eq_true_iff, List.all_eq_true] at hok2
  obtain ⟨⟨h1, h8, h16⟩, hall⟩ := hok2
  dsimp only at h1 h8 h16 hall
  have hN8 : N ≤ 8 := by omega
  have HAll := hid hall
  have TAB := hid (costs_tab HAll.out)
  have X0 := hid (Box2.alloc w 24 (.int .i64 N) (.slice ao rs.length cap))
  have HLO := hid (((costs_tab HAll.out).fw N (Nat.le_refl _)).lo ha hb)
  clear hv hok hall
  go_enter Try.func20, Try.ntmps20
  go_wp2_with (fail)
  refine (RDistances_any _ N rs _ (Roads.ext HV.out (Ext.ofAlloc _ _)) HOk.out).mono ?_
  rintro e W ⟨v, rfl, hm, he⟩
  obtain ⟨gb, kb, rfl, -⟩ := hm.head (by omega)
  obtain ⟨ga, ca, ia, -⟩ := hm.row ha
  have ca' : W.cell? ⟨gb, a, none⟩ = some (.slice (some ⟨ga, 0, none⟩) N N) := ca
  have dab := ia.cell (i := b) (by rw [rowL_len]; exact hb)
  rw [rowL_fn hb] at dab
  have HE := hid ((Ext.ofAlloc w _).trans he)
  have HX := hid (X0.out.ext he)
  clear hm ca ia he X0
  by_cases hf : far ≤ fw (costTo rs) N a b
  · have e1 : nn (fw (costTo rs) N a b) = -1 := by unfold nn; rw [if_pos hf]
    rw [e1] at dab
    have HF := hid hf
    clear hf e1
    go_wp2
    go_ret2
    exact ⟨_, _, rfl, HE.out, .inl ⟨HF.out, rfl, rfl⟩⟩
  · have e1 : nn (fw (costTo rs) N a b) = fw (costTo rs) N a b := by unfold nn; rw [if_neg hf]
    rw [e1] at dab
    have hf2 : fw (costTo rs) N a b < far := by omega
    obtain ⟨f0, r, hway, hf0⟩ := way_ex TAB.out hN8 ha hb hf2
    have WA : Hid (∀ (f : Nat) (w' : World), f ≤ 8 → Roads w' (.slice ao rs.length cap) rs →
        Calls Try.prog 38 #[.agg #[.int .i64 N, .slice ao rs.length cap], .slice (some ⟨w'.heap.size, 0, none⟩) 1 1, .int .i64 b, .int .i64 (1 + (f : Int)), .int .i64 (fw (costTo rs) N a b)] (w'.alloc (.cells #[.int .i64 a] 3))
          (WaysPost (growP (costTo rs) (fw (costTo rs) N) N b (fw (costTo rs) N a b) f [(a : Int)] a 0) (w'.alloc (.cells #[.int .i64 a] 3)))) := by
      intro f w' hf8 hR
      have hblk : IntBlock (w'.alloc (.cells #[.int .i64 a] 3)) w'.heap.size [(a : Int)] := heap_alloc_new w' _
      have := ways_any (.slice ao rs.length cap) N rs b (fw (costTo rs) N a b) HAll.out hN8 f [(a : Int)] (.slice (some ⟨w'.heap.size, 0, none⟩) 1 1) _ (Roads.ext hR (Ext.ofAlloc w' (.cells #[.int .i64 a] 3))) (hblk.ints (n := 1) rfl (by simp)) (by simp) (by simp; omega)
      rw [ways_way HAll.out ha hb hf2, show (([(a : Int)].length + f : Nat) : Int) = 1 + (f : Int) by simp] at this
      exact this
    have HW := hid hway
    have HF := hid hf2
    obtain ⟨F, hF⟩ : ∃ F, F = fw (costTo rs) N a b := ⟨_, rfl⟩
    have HFE := hid hF
    have hlo := HLO.out
    rw [← hF] at dab hlo WA
    have hnl : ¬ F < 0 := by omega
    clear hf e1 hf2 hway hF hlo HLO
    go_wp2
    clear ca' dab
    go_loopg [9] f0 (fun g i wr => ∃ f : Nat, f + g = f0 ∧ i = .int .i64 ((1 + f : Nat) : Int) ∧ Hid (Ext W wr))
    case atStart => exact ⟨0, by omega, rfl, Ext.refl _⟩
    case round =>
      obtain ⟨f, hff, rfl, E⟩ := hrel
      have hf8 : f ≤ 8 := by omega
      have hfl : (1 : Int) + f ≤ N := by omega
      have Hff := hid hff
      obtain ⟨c0, c1⟩ := (HX.out.ext E.out).cells
      clear hff
      go_wp2_with (fail)
      refine (WA.out f wr hf8 (Roads.ext HV.out (HE.out.trans E.out))).mono ?_
      rintro e w7 ⟨u, rfl, he, hu⟩
      have E7 := hid ((E.out.alloc (.cells #[.int .i64 a] 3)).trans he)
      clear he c0 c1
      by_cases ef : f = f0
      · rcases hu with ⟨hu, -⟩ | ⟨r', b', o', c', hr, rfl, hi⟩
        · exfalso
          rw [ef, HFE.out, HW.out.1] at hu
          simp at hu
        · have HI := hid hi
          have hrr : r' = r := by
            rw [ef, HFE.out, HW.out.1] at hr
            simp only [Option.some.injEq] at hr
            exact hr.symm
          have HRR := hid hrr
          clear hi hr hrr
          go_wp2
          go_ret2
          exact ⟨_, _, rfl, HE.out.trans E7.out, .inr ⟨HF.out, ⟨f0, r, HW.out, by rw [← HRR.out]; exact HI.out⟩, rfl⟩⟩
      · rcases hu with ⟨-, rfl⟩ | ⟨r', b', o', c', hr, -, -⟩
        · have Hef := hid ef
          clear ef
          go_wp2
          go_roundg (gk - 1)
          case rel => exact ⟨f + 1, by have := Hff.out; have := Hef.out; omega, by go_num, E7.out⟩
          case measure => have := Hff.out; have := Hef.out; omega
        · exfalso
          rw [HFE.out, HW.out.2 f (by have := Hff.out; omega)] at hr
          simp at hr

end Go.Proofs.Ytkbkgkmogbkabaa
