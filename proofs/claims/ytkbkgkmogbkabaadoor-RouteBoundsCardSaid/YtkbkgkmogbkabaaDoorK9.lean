/-
  Texts of this claim, part 9: RtWayBad, RtAwake, RtList, TrPlain, TrMeets, TrTreePlain, TrParts, TrApart, RtMoat.
-/
import Derived.Test.YtkbkgkmogbkabaaDoorK8
/-
  Way where there is none.
-/
namespace Go.Proofs.YtkbkgkmogbkabaaDoor
open Go.RowKit

set_option maxRecDepth 20000 in
set_option maxHeartbeats 16000000 in
theorem Way_far (vr : Value) (N : Nat) (rs : List RoadD) (a b : Nat) (w : World) (hv : Roads w vr rs) (hok : mapOk ⟨N, rs⟩ = true) (ha : a < N) (hb : b < N) (hf : far ≤ fw (costTo rs) N a b) :
    Calls Tryd.prog 33 #[.agg #[.int .i64 N, vr], .int .i64 a, .int .i64 b] w fun e w' => e = .returned (.tuple #[.slice none 0 0, .int .i64 4]) ∧ Ext w w' := by
  obtain ⟨ao, cap, rfl⟩ := hv.shape
  have HV := hid hv
  have hok2 := hok
  unfold mapOk at hok2
  rw [Bool.and_eq_true, decide_eq_true_iff, List.all_eq_true] at hok2
  obtain ⟨⟨h1, h8, h16⟩, hall⟩ := hok2
  dsimp only at h1 h8 h16 hall
  have hN1 : 1 ≤ N := by omega
  have hN8 : N ≤ 8 := by omega
  have HAll := hid hall
  have HOk := hid hok
  have HF := hid hf
  have TAB := hid (costs_tab HAll.out)
  have HSA : Hid (stopB N a = true) := by show _ = _; unfold stopB; rw [decide_eq_true_iff]; omega
  have HSB : Hid (stopB N b = true) := by show _ = _; unfold stopB; rw [decide_eq_true_iff]; omega
  have X0 := hid (Box2.alloc w 31 (.int .i64 N) (.slice ao rs.length cap))
  clear hv hok hall hf
  go_enter Tryd.func33, Tryd.ntmps33
  go_wp2_with (fail)
  refine (valid_any _ ⟨N, rs⟩ _ (Roads.ext HV.out (((Ext.ofAlloc _ _).alloc _).alloc _))).mono ?_
  rw [HOk.out]
  rintro e w1 ⟨rfl, he⟩
  have HE := hid ((((Ext.ofAlloc w _).alloc _).alloc _).trans he)
  obtain ⟨c0, c1⟩ := (((X0.out.ext (Ext.ofAlloc _ _)).ext (Ext.ofAlloc _ _)).ext he).cells
  have ca : w1.cell? ⟨w.heap.size + 1, 0, none⟩ = some (.int .i64 a) := by have h := he.cell ((Ext.ofAlloc _ _).cell (World.cell?_alloc_new _ _ _ 0)); simpa using h
  have cb : w1.cell? ⟨w.heap.size + 1 + 1, 0, none⟩ = some (.int .i64 b) := by have h := he.cell (World.cell?_alloc_new _ _ _ 0); simpa using h
  clear he
  go_wp2_with (fail)
  refine (stop_any _ ⟨N, rs⟩ a _ (Roads.ext HV.out HE.out)).mono ?_
  rw [HSA.out]
  rintro e w2 ⟨rfl, he⟩
  replace HE := hid (HE.out.trans he)
  replace c0 := he.cell c0
  replace c1 := he.cell c1
  replace ca := he.cell ca
  replace cb := he.cell cb
  clear he
  go_wp2_with (fail)
  refine (stop_any _ ⟨N, rs⟩ b _ (Roads.ext HV.out HE.out)).mono ?_
  rw [HSB.out]
  rintro e w4 ⟨rfl, he⟩
  replace HE := hid (HE.out.trans he)
  replace c0 := he.cell c0
  replace c1 := he.cell c1
  replace ca := he.cell ca
  replace cb := he.cell cb
  clear he
  go_wp2
  have HKEEP : Hid (∀ w', Ext w4 w' → (w'.cell? ⟨w.heap.size, 0, none⟩ = some (.int .i64 N) ∧ w'.cell? ⟨w.heap.size, 1, none⟩ = some (.slice ao rs.length cap))) := fun w' e => ⟨e.cell c0, e.cell c1⟩
  have E := hid ((Ext.refl w4).drew)
  have CA := hid ca
  have CB := hid cb
  have C0 := hid c0
  clear c0 c1 ca cb
  apply wp_mid (F := Tables w4 N rs)
  case h1 =>
    refine wp_region_held_drew (S := (fun w' => (w'.cell? ⟨w.heap.size, 0, none⟩ = some (.int .i64 N) ∧ w'.cell? ⟨w.heap.size, 1, none⟩ = some (.slice ao rs.length cap)))) (by kernel_rfl) ?hSa0 (fun hHeld => ?_)
    case hSa0 => exact HKEEP.out _ E.out
    refine wpAnyH_tk 0 (v := ?va0x1) rfl (by kernel_rfl) (by kernel_rfl) (by kernel_rfl) (fun _ _ _ h => h) (by rfl) ?hya0x1 (by assumption) ?_
    case hya0x1 => (intro w hSw; (try dsimp only at hSw); go_simp <;> with_reducible rfl)
    (try simp only [Act.put, List.setIfInBounds_toArray, List.set_cons_zero, List.set_cons_succ])
    refine wpAnyH_tk 2 (v := ?va2x2) rfl (by kernel_rfl) (by kernel_rfl) (by kernel_rfl) (fun _ _ _ h => h) (by rfl) ?hya2x2 (by assumption) ?_
    case hya2x2 => (intro w hSw; (try dsimp only at hSw); go_simp <;> with_reducible rfl)
    (try simp only [Act.put, List.setIfInBounds_toArray, List.set_cons_zero, List.set_cons_succ])
    refine wpAnyH_three 1 4 5 rfl rfl rfl (by kernel_rfl) (by rfl) (by rfl) (by rfl) (fun K hK => ?_) (fun K hK => ?_) (fun K hK => ?_)
    · skip
      go_simp
      refine (distances_any _ N rs _ (Roads.ext HV.out (HE.out.trans E.out)) hN1 hN8 h16 HAll.out (TAB.out.good (by decide))).mono ?_
      rintro e W0 ⟨v8, rfl, hm, he⟩
      obtain ⟨a8, k8, rfl⟩ := hm.shape
      have M8 := hid (hm.base E.out.size)
      replace E := hid (E.out.trans he)
      clear hm he
      refine hK.out _ _ ?hSa1x3 (fun hHeld => ?_)
      case hSa1x3 => exact HKEEP.out _ E.out
      clear hK K
      (try simp only [Act.put, List.setIfInBounds_toArray, List.set_cons_zero, List.set_cons_succ])
      refine wpAnyH_three 3 4 5 rfl rfl rfl (by kernel_rfl) (by rfl) (by rfl) (by rfl) (fun K hK => ?_) (fun K hK => ?_) (fun K hK => ?_)
      · skip
        go_simp
        refine (costs_any _ N rs _ (Roads.ext HV.out (HE.out.trans E.out)) hN1 hN8 h16 HAll.out).mono ?_
        rintro e W1 ⟨v9, rfl, hm, he⟩
        obtain ⟨a9, k9, rfl⟩ := hm.shape
        have M9 := hid (hm.base E.out.size)
        replace E := hid (E.out.trans he)
        replace M8 := hid (M8.out.ext he)
        clear hm he
        refine hK.out _ _ ?hSa3x4 (fun hHeld => ?_)
        case hSa3x4 => exact HKEEP.out _ E.out
        clear hK K
        (try simp only [Act.put, List.setIfInBounds_toArray, List.set_cons_zero, List.set_cons_succ])
        refine wpAnyH_two 4 5 rfl rfl (by kernel_rfl) (by rfl) (by rfl) (fun K hK => ?_) (fun K hK => ?_)
        · skip
          go_simp
          have he : Ext W1 (W1.alloc (.cells #[Value.slice none 0 0] 52)) := Ext.ofAlloc _ _
          have hx := heap_alloc_new W1 (.cells #[Value.slice none 0 0] 52)
          have hs := E.out.size
          generalize W1.alloc (.cells #[Value.slice none 0 0] 52) = W2 at he hx ⊢
          generalize W1.heap.size = b8 at hx hs ⊢
          have B8 : Hid (TBox W2 b8 (.slice none 0 0)) := hx
          have S8 := hid hs
          replace E := hid (E.out.trans he)
          replace M8 := hid (M8.out.ext he)
          replace M9 := hid (M9.out.ext he)
          clear he hx hs
          refine hK.out _ _ ?hSa4x5 (fun hHeld => ?_)
          case hSa4x5 => exact HKEEP.out _ E.out
          clear hK K
          (try simp only [Act.put, List.setIfInBounds_toArray, List.set_cons_zero, List.set_cons_succ])
          refine wpAnyH_one 5 rfl (by kernel_rfl) (by rfl) (fun K hK => ?_)
          go_simp
          have he : Ext W2 (W2.alloc (.cells #[Value.slice none 0 0] 52)) := Ext.ofAlloc _ _
          have hx := heap_alloc_new W2 (.cells #[Value.slice none 0 0] 52)
          have hs := E.out.size
          have hlt := B8.out.lt
          generalize W2.alloc (.cells #[Value.slice none 0 0] 52) = W3 at he hx ⊢
          generalize W2.heap.size = b9 at hx hs hlt ⊢
          have B9 : Hid (TBox W3 b9 (.slice none 0 0)) := hx
          have S9 := hid hs
          have HNE : Hid (b8 ≠ b9) := Nat.ne_of_lt hlt
          replace E := hid (E.out.trans he)
          replace M8 := hid (M8.out.ext he)
          replace M9 := hid (M9.out.ext he)
          replace B8 := hid (B8.out.ext he)
          clear he hx hs hlt
          refine hK.out _ _ ?hSa5x6 (fun hHeld => ?_)
          case hSa5x6 => exact HKEEP.out _ E.out
          clear hK K
          (try simp only [Act.put, List.setIfInBounds_toArray, List.set_cons_zero, List.set_cons_succ])
          have d8 := B8.out.cell
          have fr8 := B8.out.free
          refine wpAnyH_one 6 rfl (by kernel_rfl) (by rfl) (fun K hK => ?_)
          go_simp
          replace E := hid (Ext.setCell E.out S8.out 0 (.slice a8 N k8))
          replace M8 := hid (M8.out.setBox B8.out (.slice a8 N k8))
          replace M9 := hid (M9.out.setBox B8.out (.slice a8 N k8))
          replace B9 := hid (B9.out.other HNE.out (.slice a8 N k8))
          replace B8 := hid (B8.out.set (.slice a8 N k8))
          clear d8 fr8
          generalize W3.setCell ⟨b8, 0, none⟩ (.slice a8 N k8) = W4 at E M8 M9 B8 B9 ⊢
          refine hK.out _ _ ?hSa6x7 (fun hHeld => ?_)
          case hSa6x7 => exact HKEEP.out _ E.out
          clear hK K
          (try simp only [Act.put, List.setIfInBounds_toArray, List.set_cons_zero, List.set_cons_succ])
          have d8 := B9.out.cell
          have fr8 := B9.out.free
          refine wpAnyH_one 7 rfl (by kernel_rfl) (by rfl) (fun K hK => ?_)
          go_simp
          replace E := hid (Ext.setCell E.out S9.out 0 (.slice a9 N k9))
          replace M8 := hid (M8.out.setBox B9.out (.slice a9 N k9))
          replace M9 := hid (M9.out.setBox B9.out (.slice a9 N k9))
          replace B8 := hid (B8.out.other HNE.out.symm (.slice a9 N k9))
          replace B9 := hid (B9.out.set (.slice a9 N k9))
          clear d8 fr8
          generalize W4.setCell ⟨b9, 0, none⟩ (.slice a9 N k9) = W5 at E M8 M9 B8 B9 ⊢
          refine hK.out _ _ ?hSa7x8 (fun hHeld => ?_)
          case hSa7x8 => exact HKEEP.out _ E.out
          clear hK K
          (try simp only [Act.put, List.setIfInBounds_toArray, List.set_cons_zero, List.set_cons_succ])
          refine wpAnyH_done (by kernel_rfl) ?_ _
          exact ⟨b8, b9, a8, k8, a9, k9, rfl, ⟨E.out, M8.out, M9.out, B8.out, B9.out, S8.out, S9.out⟩⟩
        · skip
          go_simp
          have he : Ext W1 (W1.alloc (.cells #[Value.slice none 0 0] 52)) := Ext.ofAlloc _ _
          have hx := heap_alloc_new W1 (.cells #[Value.slice none 0 0] 52)
          have hs := E.out.size
          generalize W1.alloc (.cells #[Value.slice none 0 0] 52) = W2 at he hx ⊢
          generalize W1.heap.size = b9 at hx hs ⊢
          have B9 : Hid (TBox W2 b9 (.slice none 0 0)) := hx
          have S9 := hid hs
          replace E := hid (E.out.trans he)
          replace M8 := hid (M8.out.ext he)
          replace M9 := hid (M9.out.ext he)
          clear he hx hs
          refine hK.out _ _ ?hSa5x9 (fun hHeld => ?_)
          case hSa5x9 => exact HKEEP.out _ E.out
          clear hK K
          (try simp only [Act.put, List.setIfInBounds_toArray, List.set_cons_zero, List.set_cons_succ])
          refine wpAnyH_one 4 rfl (by kernel_rfl) (by rfl) (fun K hK => ?_)
          go_simp
          have he : Ext W2 (W2.alloc (.cells #[Value.slice none 0 0] 52)) := Ext.ofAlloc _ _
          have hx := heap_alloc_new W2 (.cells #[Value.slice none 0 0] 52)
          have hs := E.out.size
          have hlt := B9.out.lt
          generalize W2.alloc (.cells #[Value.slice none 0 0] 52) = W3 at he hx ⊢
          generalize W2.heap.size = b8 at hx hs hlt ⊢
          have B8 : Hid (TBox W3 b8 (.slice none 0 0)) := hx
          have S8 := hid hs
          have HNE : Hid (b8 ≠ b9) := Nat.ne_of_gt hlt
          replace E := hid (E.out.trans he)
          replace M8 := hid (M8.out.ext he)
          replace M9 := hid (M9.out.ext he)
          replace B9 := hid (B9.out.ext he)
          clear he hx hs hlt
          refine hK.out _ _ ?hSa4x10 (fun hHeld => ?_)
          case hSa4x10 => exact HKEEP.out _ E.out
          clear hK K
          (try simp only [Act.put, List.setIfInBounds_toArray, List.set_cons_zero, List.set_cons_succ])
          have d8 := B8.out.cell
          have fr8 := B8.out.free
          refine wpAnyH_one 6 rfl (by kernel_rfl) (by rfl) (fun K hK => ?_)
          go_simp
          replace E := hid (Ext.setCell E.out S8.out 0 (.slice a8 N k8))
          replace M8 := hid (M8.out.setBox B8.out (.slice a8 N k8))
          replace M9 := hid (M9.out.setBox B8.out (.slice a8 N k8))
          replace B9 := hid (B9.out.other HNE.out (.slice a8 N k8))
          replace B8 := hid (B8.out.set (.slice a8 N k8))
          clear d8 fr8
          generalize W3.setCell ⟨b8, 0, none⟩ (.slice a8 N k8) = W4 at E M8 M9 B8 B9 ⊢
          refine hK.out _ _ ?hSa6x11 (fun hHeld => ?_)
          case hSa6x11 => exact HKEEP.out _ E.out
          clear hK K
          (try simp only [Act.put, List.setIfInBounds_toArray, List.set_cons_zero, List.set_cons_succ])
          have d8 := B9.out.cell
          have fr8 := B9.out.free
          refine wpAnyH_one 7 rfl (by kernel_rfl) (by rfl) (fun K hK => ?_)
          go_simp
          replace E := hid (Ext.setCell E.out S9.out 0 (.slice a9 N k9))
          replace M8 := hid (M8.out.setBox B9.out (.slice a9 N k9))
          replace M9 := hid (M9.out.setBox B9.out (.slice a9 N k9))
          replace B8 := hid (B8.out.other HNE.out.symm (.slice a9 N k9))
          replace B9 := hid (B9.out.set (.slice a9 N k9))
          clear d8 fr8
          generalize W4.setCell ⟨b9, 0, none⟩ (.slice a9 N k9) = W5 at E M8 M9 B8 B9 ⊢
          refine hK.out _ _ ?hSa7x12 (fun hHeld => ?_)
          case hSa7x12 => exact HKEEP.out _ E.out
          clear hK K
          (try simp only [Act.put, List.setIfInBounds_toArray, List.set_cons_zero, List.set_cons_succ])
          refine wpAnyH_done (by kernel_rfl) ?_ _
          exact ⟨b8, b9, a8, k8, a9, k9, rfl, ⟨E.out, M8.out, M9.out, B8.out, B9.out, S8.out, S9.out⟩⟩
      · skip
        go_simp
        have he : Ext W0 (W0.alloc (.cells #[Value.slice none 0 0] 52)) := Ext.ofAlloc _ _
        have hx := heap_alloc_new W0 (.cells #[Value.slice none 0 0] 52)
        have hs := E.out.size
        generalize W0.alloc (.cells #[Value.slice none 0 0] 52) = W1 at he hx ⊢
        generalize W0.heap.size = b8 at hx hs ⊢
        have B8 : Hid (TBox W1 b8 (.slice none 0 0)) := hx
        have S8 := hid hs
        replace E := hid (E.out.trans he)
        replace M8 := hid (M8.out.ext he)
        clear he hx hs
        refine hK.out _ _ ?hSa4x13 (fun hHeld => ?_)
        case hSa4x13 => exact HKEEP.out _ E.out
        clear hK K
        (try simp only [Act.put, List.setIfInBounds_toArray, List.set_cons_zero, List.set_cons_succ])
        refine wpAnyH_two 3 5 rfl rfl (by kernel_rfl) (by rfl) (by rfl) (fun K hK => ?_) (fun K hK => ?_)
        · skip
          go_simp
          refine (costs_any _ N rs _ (Roads.ext HV.out (HE.out.trans E.out)) hN1 hN8 h16 HAll.out).mono ?_
          rintro e W2 ⟨v9, rfl, hm, he⟩
          obtain ⟨a9, k9, rfl⟩ := hm.shape
          have M9 := hid (hm.base E.out.size)
          replace E := hid (E.out.trans he)
          replace M8 := hid (M8.out.ext he)
          replace B8 := hid (B8.out.ext he)
          clear hm he
          refine hK.out _ _ ?hSa3x14 (fun hHeld => ?_)
          case hSa3x14 => exact HKEEP.out _ E.out
          clear hK K
          (try simp only [Act.put, List.setIfInBounds_toArray, List.set_cons_zero, List.set_cons_succ])
          refine wpAnyH_one 5 rfl (by kernel_rfl) (by rfl) (fun K hK => ?_)
          go_simp
          have he : Ext W2 (W2.alloc (.cells #[Value.slice none 0 0] 52)) := Ext.ofAlloc _ _
          have hx := heap_alloc_new W2 (.cells #[Value.slice none 0 0] 52)
          have hs := E.out.size
          have hlt := B8.out.lt
          generalize W2.alloc (.cells #[Value.slice none 0 0] 52) = W3 at he hx ⊢
          generalize W2.heap.size = b9 at hx hs hlt ⊢
          have B9 : Hid (TBox W3 b9 (.slice none 0 0)) := hx
          have S9 := hid hs
          have HNE : Hid (b8 ≠ b9) := Nat.ne_of_lt hlt
          replace E := hid (E.out.trans he)
          replace M8 := hid (M8.out.ext he)
          replace M9 := hid (M9.out.ext he)
          replace B8 := hid (B8.out.ext he)
          clear he hx hs hlt
          refine hK.out _ _ ?hSa5x15 (fun hHeld => ?_)
          case hSa5x15 => exact HKEEP.out _ E.out
          clear hK K
          (try simp only [Act.put, List.setIfInBounds_toArray, List.set_cons_zero, List.set_cons_succ])
          have d8 := B8.out.cell
          have fr8 := B8.out.free
          refine wpAnyH_one 6 rfl (by kernel_rfl) (by rfl) (fun K hK => ?_)
          go_simp
          replace E := hid (Ext.setCell E.out S8.out 0 (.slice a8 N k8))
          replace M8 := hid (M8.out.setBox B8.out (.slice a8 N k8))
          replace M9 := hid (M9.out.setBox B8.out (.slice a8 N k8))
          replace B9 := hid (B9.out.other HNE.out (.slice a8 N k8))
          replace B8 := hid (B8.out.set (.slice a8 N k8))
          clear d8 fr8
          generalize W3.setCell ⟨b8, 0, none⟩ (.slice a8 N k8) = W4 at E M8 M9 B8 B9 ⊢
          refine hK.out _ _ ?hSa6x16 (fun hHeld => ?_)
          case hSa6x16 => exact HKEEP.out _ E.out
          clear hK K
          (try simp only [Act.put, List.setIfInBounds_toArray, List.set_cons_zero, List.set_cons_succ])
          have d8 := B9.out.cell
          have fr8 := B9.out.free
          refine wpAnyH_one 7 rfl (by kernel_rfl) (by rfl) (fun K hK => ?_)
          go_simp
          replace E := hid (Ext.setCell E.out S9.out 0 (.slice a9 N k9))
          replace M8 := hid (M8.out.setBox B9.out (.slice a9 N k9))
          replace M9 := hid (M9.out.setBox B9.out (.slice a9 N k9))
          replace B8 := hid (B8.out.other HNE.out.symm (.slice a9 N k9))
          replace B9 := hid (B9.out.set (.slice a9 N k9))
          clear d8 fr8
          generalize W4.setCell ⟨b9, 0, none⟩ (.slice a9 N k9) = W5 at E M8 M9 B8 B9 ⊢
          refine hK.out _ _ ?hSa7x17 (fun hHeld => ?_)
          case hSa7x17 => exact HKEEP.out _ E.out
          clear hK K
          (try simp only [Act.put, List.setIfInBounds_toArray, List.set_cons_zero, List.set_cons_succ])
          refine wpAnyH_done (by kernel_rfl) ?_ _
          exact ⟨b8, b9, a8, k8, a9, k9, rfl, ⟨E.out, M8.out, M9.out, B8.out, B9.out, S8.out, S9.out⟩⟩
        · skip
          go_simp
          have he : Ext W1 (W1.alloc (.cells #[Value.slice none 0 0] 52)) := Ext.ofAlloc _ _
          have hx := heap_alloc_new W1 (.cells #[Value.slice none 0 0] 52)
          have hs := E.out.size
          have hlt := B8.out.lt
          generalize W1.alloc (.cells #[Value.slice none 0 0] 52) = W2 at he hx ⊢
          generalize W1.heap.size = b9 at hx hs hlt ⊢
          have B9 : Hid (TBox W2 b9 (.slice none 0 0)) := hx
          have S9 := hid hs
          have HNE : Hid (b8 ≠ b9) := Nat.ne_of_lt hlt
          replace E := hid (E.out.trans he)
          replace M8 := hid (M8.out.ext he)
          replace B8 := hid (B8.out.ext he)
          clear he hx hs hlt
          refine hK.out _ _ ?hSa5x18 (fun hHeld => ?_)
          case hSa5x18 => exact HKEEP.out _ E.out
          clear hK K
          (try simp only [Act.put, List.setIfInBounds_toArray, List.set_cons_zero, List.set_cons_succ])
          refine wpAnyH_one 3 rfl (by kernel_rfl) (by rfl) (fun K hK => ?_)
          go_simp
          refine (costs_any _ N rs _ (Roads.ext HV.out (HE.out.trans E.out)) hN1 hN8 h16 HAll.out).mono ?_
          rintro e W3 ⟨v9, rfl, hm, he⟩
          obtain ⟨a9, k9, rfl⟩ := hm.shape
          have M9 := hid (hm.base E.out.size)
          replace E := hid (E.out.trans he)
          replace M8 := hid (M8.out.ext he)
          replace B8 := hid (B8.out.ext he)
          replace B9 := hid (B9.out.ext he)
          clear hm he
          refine hK.out _ _ ?hSa3x19 (fun hHeld => ?_)
          case hSa3x19 => exact HKEEP.out _ E.out
          clear hK K
          (try simp only [Act.put, List.setIfInBounds_toArray, List.set_cons_zero, List.set_cons_succ])
          have d8 := B8.out.cell
          have fr8 := B8.out.free
          refine wpAnyH_one 6 rfl (by kernel_rfl) (by rfl) (fun K hK => ?_)
          go_simp
          replace E := hid (Ext.setCell E.out S8.out 0 (.slice a8 N k8))
          replace M8 := hid (M8.out.setBox B8.out (.slice a8 N k8))
          replace M9 := hid (M9.out.setBox B8.out (.slice a8 N k8))
          replace B9 := hid (B9.out.other HNE.out (.slice a8 N k8))
          replace B8 := hid (B8.out.set (.slice a8 N k8))
          clear d8 fr8
          generalize W3.setCell ⟨b8, 0, none⟩ (.slice a8 N k8) = W4 at E M8 M9 B8 B9 ⊢
          refine hK.out _ _ ?hSa6x20 (fun hHeld => ?_)
          case hSa6x20 => exact HKEEP.out _ E.out
          clear hK K
          (try simp only [Act.put, List.setIfInBounds_toArray, List.set_cons_zero, List.set_cons_succ])
          have d8 := B9.out.cell
          have fr8 := B9.out.free
          refine wpAnyH_one 7 rfl (by kernel_rfl) (by rfl) (fun K hK => ?_)
          go_simp
          replace E := hid (Ext.setCell E.out S9.out 0 (.slice a9 N k9))
          replace M8 := hid (M8.out.setBox B9.out (.slice a9 N k9))
          replace M9 := hid (M9.out.setBox B9.out (.slice a9 N k9))
          replace B8 := hid (B8.out.other HNE.out.symm (.slice a9 N k9))
          replace B9 := hid (B9.out.set (.slice a9 N k9))
          clear d8 fr8
          generalize W4.setCell ⟨b9, 0, none⟩ (.slice a9 N k9) = W5 at E M8 M9 B8 B9 ⊢
          refine hK.out _ _ ?hSa7x21 (fun hHeld => ?_)
          case hSa7x21 => exact HKEEP.out _ E.out
          clear hK K
          (try simp only [Act.put, List.setIfInBounds_toArray, List.set_cons_zero, List.set_cons_succ])
          refine wpAnyH_done (by kernel_rfl) ?_ _
          exact ⟨b8, b9, a8, k8, a9, k9, rfl, ⟨E.out, M8.out, M9.out, B8.out, B9.out, S8.out, S9.out⟩⟩
      · skip
        go_simp
        have he : Ext W0 (W0.alloc (.cells #[Value.slice none 0 0] 52)) := Ext.ofAlloc _ _
        have hx := heap_alloc_new W0 (.cells #[Value.slice none 0 0] 52)
        have hs := E.out.size
        generalize W0.alloc (.cells #[Value.slice none 0 0] 52) = W1 at he hx ⊢
        generalize W0.heap.size = b9 at hx hs ⊢
        have B9 : Hid (TBox W1 b9 (.slice none 0 0)) := hx
        have S9 := hid hs
        replace E := hid (E.out.trans he)
        replace M8 := hid (M8.out.ext he)
        clear he hx hs
        refine hK.out _ _ ?hSa5x22 (fun hHeld => ?_)
        case hSa5x22 => exact HKEEP.out _ E.out
        clear hK K
        (try simp only [Act.put, List.setIfInBounds_toArray, List.set_cons_zero, List.set_cons_succ])
        refine wpAnyH_two 3 4 rfl rfl (by kernel_rfl) (by rfl) (by rfl) (fun K hK => ?_) (fun K hK => ?_)
        · skip
          go_simp
          refine (costs_any _ N rs _ (Roads.ext HV.out (HE.out.trans E.out)) hN1 hN8 h16 HAll.out).mono ?_
          rintro e W2 ⟨v9, rfl, hm, he⟩
          obtain ⟨a9, k9, rfl⟩ := hm.shape
          have M9 := hid (hm.base E.out.size)
          replace E := hid (E.out.trans he)
          replace M8 := hid (M8.out.ext he)
          replace B9 := hid (B9.out.ext he)
          clear hm he
          refine hK.out _ _ ?hSa3x23 (fun hHeld => ?_)
          case hSa3x23 => exact HKEEP.out _ E.out
          clear hK K
          (try simp only [Act.put, List.setIfInBounds_toArray, List.set_cons_zero, List.set_cons_succ])
          refine wpAnyH_one 4 rfl (by kernel_rfl) (by rfl) (fun K hK => ?_)
          go_simp
          have he : Ext W2 (W2.alloc (.cells #[Value.slice none 0 0] 52)) := Ext.ofAlloc _ _
          have hx := heap_alloc_new W2 (.cells #[Value.slice none 0 0] 52)
          have hs := E.out.size
          have hlt := B9.out.lt
          generalize W2.alloc (.cells #[Value.slice none 0 0] 52) = W3 at he hx ⊢
          generalize W2.heap.size = b8 at hx hs hlt ⊢
          have B8 : Hid (TBox W3 b8 (.slice none 0 0)) := hx
          have S8 := hid hs
          have HNE : Hid (b8 ≠ b9) := Nat.ne_of_gt hlt
          replace E := hid (E.out.trans he)
          replace M8 := hid (M8.out.ext he)
          replace M9 := hid (M9.out.ext he)
          replace B9 := hid (B9.out.ext he)
          clear he hx hs hlt
          refine hK.out _ _ ?hSa4x24 (fun hHeld => ?_)
          case hSa4x24 => exact HKEEP.out _ E.out
          clear hK K
          (try simp only [Act.put, List.setIfInBounds_toArray, List.set_cons_zero, List.set_cons_succ])
          have d8 := B8.out.cell
          have fr8 := B8.out.free
          refine wpAnyH_one 6 rfl (by kernel_rfl) (by rfl) (fun K hK => ?_)
          go_simp
          replace E := hid (Ext.setCell E.out S8.out 0 (.slice a8 N k8))
          replace M8 := hid (M8.out.setBox B8.out (.slice a8 N k8))
          replace M9 := hid (M9.out.setBox B8.out (.slice a8 N k8))
          replace B9 := hid (B9.out.other HNE.out (.slice a8 N k8))
          replace B8 := hid (B8.out.set (.slice a8 N k8))
          clear d8 fr8
          generalize W3.setCell ⟨b8, 0, none⟩ (.slice a8 N k8) = W4 at E M8 M9 B8 B9 ⊢
          refine hK.out _ _ ?hSa6x25 (fun hHeld => ?_)
          case hSa6x25 => exact HKEEP.out _ E.out
          clear hK K
          (try simp only [Act.put, List.setIfInBounds_toArray, List.set_cons_zero, List.set_cons_succ])
          have d8 := B9.out.cell
          have fr8 := B9.out.free
          refine wpAnyH_one 7 rfl (by kernel_rfl) (by rfl) (fun K hK => ?_)
          go_simp
          replace E := hid (Ext.setCell E.out S9.out 0 (.slice a9 N k9))
          replace M8 := hid (M8.out.setBox B9.out (.slice a9 N k9))
          replace M9 := hid (M9.out.setBox B9.out (.slice a9 N k9))
          replace B8 := hid (B8.out.other HNE.out.symm (.slice a9 N k9))
          replace B9 := hid (B9.out.set (.slice a9 N k9))
          clear d8 fr8
          generalize W4.setCell ⟨b9, 0, none⟩ (.slice a9 N k9) = W5 at E M8 M9 B8 B9 ⊢
          refine hK.out _ _ ?hSa7x26 (fun hHeld => ?_)
          case hSa7x26 => exact HKEEP.out _ E.out
          clear hK K
          (try simp only [Act.put, List.setIfInBounds_toArray, List.set_cons_zero, List.set_cons_succ])
          refine wpAnyH_done (by kernel_rfl) ?_ _
          exact ⟨b8, b9, a8, k8, a9, k9, rfl, ⟨E.out, M8.out, M9.out, B8.out, B9.out, S8.out, S9.out⟩⟩
        · skip
          go_simp
          have he : Ext W1 (W1.alloc (.cells #[Value.slice none 0 0] 52)) := Ext.ofAlloc _ _
          have hx := heap_alloc_new W1 (.cells #[Value.slice none 0 0] 52)
          have hs := E.out.size
          have hlt := B9.out.lt
          generalize W1.alloc (.cells #[Value.slice none 0 0] 52) = W2 at he hx ⊢
          generalize W1.heap.size = b8 at hx hs hlt ⊢
          have B8 : Hid (TBox W2 b8 (.slice none 0 0)) := hx
          have S8 := hid hs
          have HNE : Hid (b8 ≠ b9) := Nat.ne_of_gt hlt
          replace E := hid (E.out.trans he)
          replace M8 := hid (M8.out.ext he)
          replace B9 := hid (B9.out.ext he)
          clear he hx hs hlt
          refine hK.out _ _ ?hSa4x27 (fun hHeld => ?_)
          case hSa4x27 => exact HKEEP.out _ E.out
          clear hK K
          (try simp only [Act.put, List.setIfInBounds_toArray, List.set_cons_zero, List.set_cons_succ])
          refine wpAnyH_one 3 rfl (by kernel_rfl) (by rfl) (fun K hK => ?_)
          go_simp
          refine (costs_any _ N rs _ (Roads.ext HV.out (HE.out.trans E.out)) hN1 hN8 h16 HAll.out).mono ?_
          rintro e W3 ⟨v9, rfl, hm, he⟩
          obtain ⟨a9, k9, rfl⟩ := hm.shape
          have M9 := hid (hm.base E.out.size)
          replace E := hid (E.out.trans he)
          replace M8 := hid (M8.out.ext he)
          replace B8 := hid (B8.out.ext he)
          replace B9 := hid (B9.out.ext he)
          clear hm he
          refine hK.out _ _ ?hSa3x28 (fun hHeld => ?_)
          case hSa3x28 => exact HKEEP.out _ E.out
          clear hK K
          (try simp only [Act.put, List.setIfInBounds_toArray, List.set_cons_zero, List.set_cons_succ])
          have d8 := B8.out.cell
          have fr8 := B8.out.free
          refine wpAnyH_one 6 rfl (by kernel_rfl) (by rfl) (fun K hK => ?_)
          go_simp
          replace E := hid (Ext.setCell E.out S8.out 0 (.slice a8 N k8))
          replace M8 := hid (M8.out.setBox B8.out (.slice a8 N k8))
          replace M9 := hid (M9.out.setBox B8.out (.slice a8 N k8))
          replace B9 := hid (B9.out.other HNE.out (.slice a8 N k8))
          replace B8 := hid (B8.out.set (.slice a8 N k8))
          clear d8 fr8
          generalize W3.setCell ⟨b8, 0, none⟩ (.slice a8 N k8) = W4 at E M8 M9 B8 B9 ⊢
          refine hK.out _ _ ?hSa6x29 (fun hHeld => ?_)
          case hSa6x29 => exact HKEEP.out _ E.out
          clear hK K
          (try simp only [Act.put, List.setIfInBounds_toArray, List.set_cons_zero, List.set_cons_succ])
          have d8 := B9.out.cell
          have fr8 := B9.out.free
          refine wpAnyH_one 7 rfl (by kernel_rfl) (by rfl) (fun K hK => ?_)
          go_simp
          replace E := hid (Ext.setCell E.out S9.out 0 (.slice a9 N k9))
          replace M8 := hid (M8.out.setBox B9.out (.slice a9 N k9))
          replace M9 := hid (M9.out.setBox B9.out (.slice a9 N k9))
          replace B8 := hid (B8.out.other HNE.out.symm (.slice a9 N k9))
          replace B9 := hid (B9.out.set (.slice a9 N k9))
          clear d8 fr8
          generalize W4.setCell ⟨b9, 0, none⟩ (.slice a9 N k9) = W5 at E M8 M9 B8 B9 ⊢
          refine hK.out _ _ ?hSa7x30 (fun hHeld => ?_)
          case hSa7x30 => exact HKEEP.out _ E.out
          clear hK K
          (try simp only [Act.put, List.setIfInBounds_toArray, List.set_cons_zero, List.set_cons_succ])
          refine wpAnyH_done (by kernel_rfl) ?_ _
          exact ⟨b8, b9, a8, k8, a9, k9, rfl, ⟨E.out, M8.out, M9.out, B8.out, B9.out, S8.out, S9.out⟩⟩
    · skip
      go_simp
      have he : Ext w4 (w4.alloc (.cells #[Value.slice none 0 0] 52)).drew := (Ext.ofAlloc _ _).drew
      have hx : (w4.alloc (.cells #[Value.slice none 0 0] 52)).drew.heap[w4.heap.size]? = _ := heap_alloc_new w4 (.cells #[Value.slice none 0 0] 52)
      replace E := hid (Ext.refl w4)
      have hs := E.out.size
      generalize (w4.alloc (.cells #[Value.slice none 0 0] 52)).drew = W0 at he hx ⊢
      clear hs
      generalize hbb : w4.heap.size = b8 at hx ⊢
      have hs : w4.heap.size ≤ b8 := Nat.le_of_eq hbb
      clear hbb
      have B8 : Hid (TBox W0 b8 (.slice none 0 0)) := hx
      have S8 := hid hs
      replace E := hid (E.out.trans he)
      clear he hx hs
      refine hK.out _ _ ?hSa4x31 (fun hHeld => ?_)
      case hSa4x31 => exact HKEEP.out _ E.out
      clear hK K
      (try simp only [Act.put, List.setIfInBounds_toArray, List.set_cons_zero, List.set_cons_succ])
      refine wpAnyH_two 1 5 rfl rfl (by kernel_rfl) (by rfl) (by rfl) (fun K hK => ?_) (fun K hK => ?_)
      · skip
        go_simp
        refine (distances_any _ N rs _ (Roads.ext HV.out (HE.out.trans E.out)) hN1 hN8 h16 HAll.out (TAB.out.good (by decide))).mono ?_
        rintro e W1 ⟨v8, rfl, hm, he⟩
        obtain ⟨a8, k8, rfl⟩ := hm.shape
        have M8 := hid (hm.base E.out.size)
        replace E := hid (E.out.trans he)
        replace B8 := hid (B8.out.ext he)
        clear hm he
        refine hK.out _ _ ?hSa1x32 (fun hHeld => ?_)
        case hSa1x32 => exact HKEEP.out _ E.out
        clear hK K
        (try simp only [Act.put, List.setIfInBounds_toArray, List.set_cons_zero, List.set_cons_succ])
        refine wpAnyH_two 3 5 rfl rfl (by kernel_rfl) (by rfl) (by rfl) (fun K hK => ?_) (fun K hK => ?_)
        · skip
          go_simp
          refine (costs_any _ N rs _ (Roads.ext HV.out (HE.out.trans E.out)) hN1 hN8 h16 HAll.out).mono ?_
          rintro e W2 ⟨v9, rfl, hm, he⟩
          obtain ⟨a9, k9, rfl⟩ := hm.shape
          have M9 := hid (hm.base E.out.size)
          replace E := hid (E.out.trans he)
          replace M8 := hid (M8.out.ext he)
          replace B8 := hid (B8.out.ext he)
          clear hm he
          refine hK.out _ _ ?hSa3x33 (fun hHeld => ?_)
          case hSa3x33 => exact HKEEP.out _ E.out
          clear hK K
          (try simp only [Act.put, List.setIfInBounds_toArray, List.set_cons_zero, List.set_cons_succ])
          refine wpAnyH_one 5 rfl (by kernel_rfl) (by rfl) (fun K hK => ?_)
          go_simp
          have he : Ext W2 (W2.alloc (.cells #[Value.slice none 0 0] 52)) := Ext.ofAlloc _ _
          have hx := heap_alloc_new W2 (.cells #[Value.slice none 0 0] 52)
          have hs := E.out.size
          have hlt := B8.out.lt
          generalize W2.alloc (.cells #[Value.slice none 0 0] 52) = W3 at he hx ⊢
          generalize W2.heap.size = b9 at hx hs hlt ⊢
          have B9 : Hid (TBox W3 b9 (.slice none 0 0)) := hx
          have S9 := hid hs
          have HNE : Hid (b8 ≠ b9) := Nat.ne_of_lt hlt
          replace E := hid (E.out.trans he)
          replace M8 := hid (M8.out.ext he)
          replace M9 := hid (M9.out.ext he)
          replace B8 := hid (B8.out.ext he)
          clear he hx hs hlt
          refine hK.out _ _ ?hSa5x34 (fun hHeld => ?_)
          case hSa5x34 => exact HKEEP.out _ E.out
          clear hK K
          (try simp only [Act.put, List.setIfInBounds_toArray, List.set_cons_zero, List.set_cons_succ])
          have d8 := B8.out.cell
          have fr8 := B8.out.free
          refine wpAnyH_one 6 rfl (by kernel_rfl) (by rfl) (fun K hK => ?_)
          go_simp
          replace E := hid (Ext.setCell E.out S8.out 0 (.slice a8 N k8))
          replace M8 := hid (M8.out.setBox B8.out (.slice a8 N k8))
          replace M9 := hid (M9.out.setBox B8.out (.slice a8 N k8))
          replace B9 := hid (B9.out.other HNE.out (.slice a8 N k8))
          replace B8 := hid (B8.out.set (.slice a8 N k8))
          clear d8 fr8
          generalize W3.setCell ⟨b8, 0, none⟩ (.slice a8 N k8) = W4 at E M8 M9 B8 B9 ⊢
          refine hK.out _ _ ?hSa6x35 (fun hHeld => ?_)
          case hSa6x35 => exact HKEEP.out _ E.out
          clear hK K
          (try simp only [Act.put, List.setIfInBounds_toArray, List.set_cons_zero, List.set_cons_succ])
          have d8 := B9.out.cell
          have fr8 := B9.out.free
          refine wpAnyH_one 7 rfl (by kernel_rfl) (by rfl) (fun K hK => ?_)
          go_simp
          replace E := hid (Ext.setCell E.out S9.out 0 (.slice a9 N k9))
          replace M8 := hid (M8.out.setBox B9.out (.slice a9 N k9))
          replace M9 := hid (M9.out.setBox B9.out (.slice a9 N k9))
          replace B8 := hid (B8.out.other HNE.out.symm (.slice a9 N k9))
          replace B9 := hid (B9.out.set (.slice a9 N k9))
          clear d8 fr8
          generalize W4.setCell ⟨b9, 0, none⟩ (.slice a9 N k9) = W5 at E M8 M9 B8 B9 ⊢
          refine hK.out _ _ ?hSa7x36 (fun hHeld => ?_)
          case hSa7x36 => exact HKEEP.out _ E.out
          clear hK K
          (try simp only [Act.put, List.setIfInBounds_toArray, List.set_cons_zero, List.set_cons_succ])
          refine wpAnyH_done (by kernel_rfl) ?_ _
          exact ⟨b8, b9, a8, k8, a9, k9, rfl, ⟨E.out, M8.out, M9.out, B8.out, B9.out, S8.out, S9.out⟩⟩
        · skip
          go_simp
          have he : Ext W1 (W1.alloc (.cells #[Value.slice none 0 0] 52)) := Ext.ofAlloc _ _
          have hx := heap_alloc_new W1 (.cells #[Value.slice none 0 0] 52)
          have hs := E.out.size
          have hlt := B8.out.lt
          generalize W1.alloc (.cells #[Value.slice none 0 0] 52) = W2 at he hx ⊢
          generalize W1.heap.size = b9 at hx hs hlt ⊢
          have B9 : Hid (TBox W2 b9 (.slice none 0 0)) := hx
          have S9 := hid hs
          have HNE : Hid (b8 ≠ b9) := Nat.ne_of_lt hlt
          replace E := hid (E.out.trans he)
          replace M8 := hid (M8.out.ext he)
          replace B8 := hid (B8.out.ext he)
          clear he hx hs hlt
          refine hK.out _ _ ?hSa5x37 (fun hHeld => ?_)
          case hSa5x37 => exact HKEEP.out _ E.out
          clear hK K
          (try simp only [Act.put, List.setIfInBounds_toArray, List.set_cons_zero, List.set_cons_succ])
          refine wpAnyH_one 3 rfl (by kernel_rfl) (by rfl) (fun K hK => ?_)
          go_simp
          refine (costs_any _ N rs _ (Roads.ext HV.out (HE.out.trans E.out)) hN1 hN8 h16 HAll.out).mono ?_
          rintro e W3 ⟨v9, rfl, hm, he⟩
          obtain ⟨a9, k9, rfl⟩ := hm.shape
          have M9 := hid (hm.base E.out.size)
          replace E := hid (E.out.trans he)
          replace M8 := hid (M8.out.ext he)
          replace B8 := hid (B8.out.ext he)
          replace B9 := hid (B9.out.ext he)
          clear hm he
          refine hK.out _ _ ?hSa3x38 (fun hHeld => ?_)
          case hSa3x38 => exact HKEEP.out _ E.out
          clear hK K
          (try simp only [Act.put, List.setIfInBounds_toArray, List.set_cons_zero, List.set_cons_succ])
          have d8 := B8.out.cell
          have fr8 := B8.out.free
          refine wpAnyH_one 6 rfl (by kernel_rfl) (by rfl) (fun K hK => ?_)
          go_simp
          replace E := hid (Ext.setCell E.out S8.out 0 (.slice a8 N k8))
          replace M8 := hid (M8.out.setBox B8.out (.slice a8 N k8))
          replace M9 := hid (M9.out.setBox B8.out (.slice a8 N k8))
          replace B9 := hid (B9.out.other HNE.out (.slice a8 N k8))
          replace B8 := hid (B8.out.set (.slice a8 N k8))
          clear d8 fr8
          generalize W3.setCell ⟨b8, 0, none⟩ (.slice a8 N k8) = W4 at E M8 M9 B8 B9 ⊢
          refine hK.out _ _ ?hSa6x39 (fun hHeld => ?_)
          case hSa6x39 => exact HKEEP.out _ E.out
          clear hK K
          (try simp only [Act.put, List.setIfInBounds_toArray, List.set_cons_zero, List.set_cons_succ])
          have d8 := B9.out.cell
          have fr8 := B9.out.free
          refine wpAnyH_one 7 rfl (by kernel_rfl) (by rfl) (fun K hK => ?_)
          go_simp
          replace E := hid (Ext.setCell E.out S9.out 0 (.slice a9 N k9))
          replace M8 := hid (M8.out.setBox B9.out (.slice a9 N k9))
          replace M9 := hid (M9.out.setBox B9.out (.slice a9 N k9))
          replace B8 := hid (B8.out.other HNE.out.symm (.slice a9 N k9))
          replace B9 := hid (B9.out.set (.slice a9 N k9))
          clear d8 fr8
          generalize W4.setCell ⟨b9, 0, none⟩ (.slice a9 N k9) = W5 at E M8 M9 B8 B9 ⊢
          refine hK.out _ _ ?hSa7x40 (fun hHeld => ?_)
          case hSa7x40 => exact HKEEP.out _ E.out
          clear hK K
          (try simp only [Act.put, List.setIfInBounds_toArray, List.set_cons_zero, List.set_cons_succ])
          refine wpAnyH_done (by kernel_rfl) ?_ _
          exact ⟨b8, b9, a8, k8, a9, k9, rfl, ⟨E.out, M8.out, M9.out, B8.out, B9.out, S8.out, S9.out⟩⟩
      · skip
        go_simp
        have he : Ext W0 (W0.alloc (.cells #[Value.slice none 0 0] 52)) := Ext.ofAlloc _ _
        have hx := heap_alloc_new W0 (.cells #[Value.slice none 0 0] 52)
        have hs := E.out.size
        have hlt := B8.out.lt
        generalize W0.alloc (.cells #[Value.slice none 0 0] 52) = W1 at he hx ⊢
        generalize W0.heap.size = b9 at hx hs hlt ⊢
        have B9 : Hid (TBox W1 b9 (.slice none 0 0)) := hx
        have S9 := hid hs
        have HNE : Hid (b8 ≠ b9) := Nat.ne_of_lt hlt
        replace E := hid (E.out.trans he)
        replace B8 := hid (B8.out.ext he)
        clear he hx hs hlt
        refine hK.out _ _ ?hSa5x41 (fun hHeld => ?_)
        case hSa5x41 => exact HKEEP.out _ E.out
        clear hK K
        (try simp only [Act.put, List.setIfInBounds_toArray, List.set_cons_zero, List.set_cons_succ])
        refine wpAnyH_one 1 rfl (by kernel_rfl) (by rfl) (fun K hK => ?_)
        go_simp
        refine (distances_any _ N rs _ (Roads.ext HV.out (HE.out.trans E.out)) hN1 hN8 h16 HAll.out (TAB.out.good (by decide))).mono ?_
        rintro e W2 ⟨v8, rfl, hm, he⟩
        obtain ⟨a8, k8, rfl⟩ := hm.shape
        have M8 := hid (hm.base E.out.size)
        replace E := hid (E.out.trans he)
        replace B8 := hid (B8.out.ext he)
        replace B9 := hid (B9.out.ext he)
        clear hm he
        refine hK.out _ _ ?hSa1x42 (fun hHeld => ?_)
        case hSa1x42 => exact HKEEP.out _ E.out
        clear hK K
        (try simp only [Act.put, List.setIfInBounds_toArray, List.set_cons_zero, List.set_cons_succ])
        refine wpAnyH_one 3 rfl (by kernel_rfl) (by rfl) (fun K hK => ?_)
        go_simp
        refine (costs_any _ N rs _ (Roads.ext HV.out (HE.out.trans E.out)) hN1 hN8 h16 HAll.out).mono ?_
        rintro e W3 ⟨v9, rfl, hm, he⟩
        obtain ⟨a9, k9, rfl⟩ := hm.shape
        have M9 := hid (hm.base E.out.size)
        replace E := hid (E.out.trans he)
        replace M8 := hid (M8.out.ext he)
        replace B8 := hid (B8.out.ext he)
        replace B9 := hid (B9.out.ext he)
        clear hm he
        refine hK.out _ _ ?hSa3x43 (fun hHeld => ?_)
        case hSa3x43 => exact HKEEP.out _ E.out
        clear hK K
        (try simp only [Act.put, List.setIfInBounds_toArray, List.set_cons_zero, List.set_cons_succ])
        have d8 := B8.out.cell
        have fr8 := B8.out.free
        refine wpAnyH_one 6 rfl (by kernel_rfl) (by rfl) (fun K hK => ?_)
        go_simp
        replace E := hid (Ext.setCell E.out S8.out 0 (.slice a8 N k8))
        replace M8 := hid (M8.out.setBox B8.out (.slice a8 N k8))
        replace M9 := hid (M9.out.setBox B8.out (.slice a8 N k8))
        replace B9 := hid (B9.out.other HNE.out (.slice a8 N k8))
        replace B8 := hid (B8.out.set (.slice a8 N k8))
        clear d8 fr8
        generalize W3.setCell ⟨b8, 0, none⟩ (.slice a8 N k8) = W4 at E M8 M9 B8 B9 ⊢
        refine hK.out _ _ ?hSa6x44 (fun hHeld => ?_)
        case hSa6x44 => exact HKEEP.out _ E.out
        clear hK K
        (try simp only [Act.put, List.setIfInBounds_toArray, List.set_cons_zero, List.set_cons_succ])
        have d8 := B9.out.cell
        have fr8 := B9.out.free
        refine wpAnyH_one 7 rfl (by kernel_rfl) (by rfl) (fun K hK => ?_)
        go_simp
        replace E := hid (Ext.setCell E.out S9.out 0 (.slice a9 N k9))
        replace M8 := hid (M8.out.setBox B9.out (.slice a9 N k9))
        replace M9 := hid (M9.out.setBox B9.out (.slice a9 N k9))
        replace B8 := hid (B8.out.other HNE.out.symm (.slice a9 N k9))
        replace B9 := hid (B9.out.set (.slice a9 N k9))
        clear d8 fr8
        generalize W4.setCell ⟨b9, 0, none⟩ (.slice a9 N k9) = W5 at E M8 M9 B8 B9 ⊢
        refine hK.out _ _ ?hSa7x45 (fun hHeld => ?_)
        case hSa7x45 => exact HKEEP.out _ E.out
        clear hK K
        (try simp only [Act.put, List.setIfInBounds_toArray, List.set_cons_zero, List.set_cons_succ])
        refine wpAnyH_done (by kernel_rfl) ?_ _
        exact ⟨b8, b9, a8, k8, a9, k9, rfl, ⟨E.out, M8.out, M9.out, B8.out, B9.out, S8.out, S9.out⟩⟩
    · skip
      go_simp
      have he : Ext w4 (w4.alloc (.cells #[Value.slice none 0 0] 52)).drew := (Ext.ofAlloc _ _).drew
      have hx : (w4.alloc (.cells #[Value.slice none 0 0] 52)).drew.heap[w4.heap.size]? = _ := heap_alloc_new w4 (.cells #[Value.slice none 0 0] 52)
      replace E := hid (Ext.refl w4)
      have hs := E.out.size
      generalize (w4.alloc (.cells #[Value.slice none 0 0] 52)).drew = W0 at he hx ⊢
      clear hs
      generalize hbb : w4.heap.size = b9 at hx ⊢
      have hs : w4.heap.size ≤ b9 := Nat.le_of_eq hbb
      clear hbb
      have B9 : Hid (TBox W0 b9 (.slice none 0 0)) := hx
      have S9 := hid hs
      replace E := hid (E.out.trans he)
      clear he hx hs
      refine hK.out _ _ ?hSa5x46 (fun hHeld => ?_)
      case hSa5x46 => exact HKEEP.out _ E.out
      clear hK K
      (try simp only [Act.put, List.setIfInBounds_toArray, List.set_cons_zero, List.set_cons_succ])
      refine wpAnyH_two 1 4 rfl rfl (by kernel_rfl) (by rfl) (by rfl) (fun K hK => ?_) (fun K hK => ?_)
      · skip
        go_simp
        refine (distances_any _ N rs _ (Roads.ext HV.out (HE.out.trans E.out)) hN1 hN8 h16 HAll.out (TAB.out.good (by decide))).mono ?_
        rintro e W1 ⟨v8, rfl, hm, he⟩
        obtain ⟨a8, k8, rfl⟩ := hm.shape
        have M8 := hid (hm.base E.out.size)
        replace E := hid (E.out.trans he)
        replace B9 := hid (B9.out.ext he)
        clear hm he
        refine hK.out _ _ ?hSa1x47 (fun hHeld => ?_)
        case hSa1x47 => exact HKEEP.out _ E.out
        clear hK K
        (try simp only [Act.put, List.setIfInBounds_toArray, List.set_cons_zero, List.set_cons_succ])
        refine wpAnyH_two 3 4 rfl rfl (by kernel_rfl) (by rfl) (by rfl) (fun K hK => ?_) (fun K hK => ?_)
        · skip
          go_simp
          refine (costs_any _ N rs _ (Roads.ext HV.out (HE.out.trans E.out)) hN1 hN8 h16 HAll.out).mono ?_
          rintro e W2 ⟨v9, rfl, hm, he⟩
          obtain ⟨a9, k9, rfl⟩ := hm.shape
          have M9 := hid (hm.base E.out.size)
          replace E := hid (E.out.trans he)
          replace M8 := hid (M8.out.ext he)
          replace B9 := hid (B9.out.ext he)
          clear hm he
          refine hK.out _ _ ?hSa3x48 (fun hHeld => ?_)
          case hSa3x48 => exact HKEEP.out _ E.out
          clear hK K
          (try simp only [Act.put, List.setIfInBounds_toArray, List.set_cons_zero, List.set_cons_succ])
          refine wpAnyH_one 4 rfl (by kernel_rfl) (by rfl) (fun K hK => ?_)
          go_simp
          have he : Ext W2 (W2.alloc (.cells #[Value.slice none 0 0] 52)) := Ext.ofAlloc _ _
          have hx := heap_alloc_new W2 (.cells #[Value.slice none 0 0] 52)
          have hs := E.out.size
          have hlt := B9.out.lt
          generalize W2.alloc (.cells #[Value.slice none 0 0] 52) = W3 at he hx ⊢
          generalize W2.heap.size = b8 at hx hs hlt ⊢
          have B8 : Hid (TBox W3 b8 (.slice none 0 0)) := hx
          have S8 := hid hs
          have HNE : Hid (b8 ≠ b9) := Nat.ne_of_gt hlt
          replace E := hid (E.out.trans he)
          replace M8 := hid (M8.out.ext he)
          replace M9 := hid (M9.out.ext he)
          replace B9 := hid (B9.out.ext he)
          clear he hx hs hlt
          refine hK.out _ _ ?hSa4x49 (fun hHeld => ?_)
          case hSa4x49 => exact HKEEP.out _ E.out
          clear hK K
          (try simp only [Act.put, List.setIfInBounds_toArray, List.set_cons_zero, List.set_cons_succ])
          have d8 := B8.out.cell
          have fr8 := B8.out.free
          refine wpAnyH_one 6 rfl (by kernel_rfl) (by rfl) (fun K hK => ?_)
          go_simp
          replace E := hid (Ext.setCell E.out S8.out 0 (.slice a8 N k8))
          replace M8 := hid (M8.out.setBox B8.out (.slice a8 N k8))
          replace M9 := hid (M9.out.setBox B8.out (.slice a8 N k8))
          replace B9 := hid (B9.out.other HNE.out (.slice a8 N k8))
          replace B8 := hid (B8.out.set (.slice a8 N k8))
          clear d8 fr8
          generalize W3.setCell ⟨b8, 0, none⟩ (.slice a8 N k8) = W4 at E M8 M9 B8 B9 ⊢
          refine hK.out _ _ ?hSa6x50 (fun hHeld => ?_)
          case hSa6x50 => exact HKEEP.out _ E.out
          clear hK K
          (try simp only [Act.put, List.setIfInBounds_toArray, List.set_cons_zero, List.set_cons_succ])
          have d8 := B9.out.cell
          have fr8 := B9.out.free
          refine wpAnyH_one 7 rfl (by kernel_rfl) (by rfl) (fun K hK => ?_)
          go_simp
          replace E := hid (Ext.setCell E.out S9.out 0 (.slice a9 N k9))
          replace M8 := hid (M8.out.setBox B9.out (.slice a9 N k9))
          replace M9 := hid (M9.out.setBox B9.out (.slice a9 N k9))
          replace B8 := hid (B8.out.other HNE.out.symm (.slice a9 N k9))
          replace B9 := hid (B9.out.set (.slice a9 N k9))
          clear d8 fr8
          generalize W4.setCell ⟨b9, 0, none⟩ (.slice a9 N k9) = W5 at E M8 M9 B8 B9 ⊢
          refine hK.out _ _ ?hSa7x51 (fun hHeld => ?_)
          case hSa7x51 => exact HKEEP.out _ E.out
          clear hK K
          (try simp only [Act.put, List.setIfInBounds_toArray, List.set_cons_zero, List.set_cons_succ])
          refine wpAnyH_done (by kernel_rfl) ?_ _
          exact ⟨b8, b9, a8, k8, a9, k9, rfl, ⟨E.out, M8.out, M9.out, B8.out, B9.out, S8.out, S9.out⟩⟩
        · skip
          go_simp
          have he : Ext W1 (W1.alloc (.cells #[Value.slice none 0 0] 52)) := Ext.ofAlloc _ _
          have hx := heap_alloc_new W1 (.cells #[Value.slice none 0 0] 52)
          have hs := E.out.size
          have hlt := B9.out.lt
          generalize W1.alloc (.cells #[Value.slice none 0 0] 52) = W2 at he hx ⊢
          generalize W1.heap.size = b8 at hx hs hlt ⊢
          have B8 : Hid (TBox W2 b8 (.slice none 0 0)) := hx
          have S8 := hid hs
          have HNE : Hid (b8 ≠ b9) := Nat.ne_of_gt hlt
          replace E := hid (E.out.trans he)
          replace M8 := hid (M8.out.ext he)
          replace B9 := hid (B9.out.ext he)
          clear he hx hs hlt
          refine hK.out _ _ ?hSa4x52 (fun hHeld => ?_)
          case hSa4x52 => exact HKEEP.out _ E.out
          clear hK K
          (try simp only [Act.put, List.setIfInBounds_toArray, List.set_cons_zero, List.set_cons_succ])
          refine wpAnyH_one 3 rfl (by kernel_rfl) (by rfl) (fun K hK => ?_)
          go_simp
          refine (costs_any _ N rs _ (Roads.ext HV.out (HE.out.trans E.out)) hN1 hN8 h16 HAll.out).mono ?_
          rintro e W3 ⟨v9, rfl, hm, he⟩
          obtain ⟨a9, k9, rfl⟩ := hm.shape
          have M9 := hid (hm.base E.out.size)
          replace E := hid (E.out.trans he)
          replace M8 := hid (M8.out.ext he)
          replace B8 := hid (B8.out.ext he)
          replace B9 := hid (B9.out.ext he)
          clear hm he
          refine hK.out _ _ ?hSa3x53 (fun hHeld => ?_)
          case hSa3x53 => exact HKEEP.out _ E.out
          clear hK K
          (try simp only [Act.put, List.setIfInBounds_toArray, List.set_cons_zero, List.set_cons_succ])
          have d8 := B8.out.cell
          have fr8 := B8.out.free
          refine wpAnyH_one 6 rfl (by kernel_rfl) (by rfl) (fun K hK => ?_)
          go_simp
          replace E := hid (Ext.setCell E.out S8.out 0 (.slice a8 N k8))
          replace M8 := hid (M8.out.setBox B8.out (.slice a8 N k8))
          replace M9 := hid (M9.out.setBox B8.out (.slice a8 N k8))
          replace B9 := hid (B9.out.other HNE.out (.slice a8 N k8))
          replace B8 := hid (B8.out.set (.slice a8 N k8))
          clear d8 fr8
          generalize W3.setCell ⟨b8, 0, none⟩ (.slice a8 N k8) = W4 at E M8 M9 B8 B9 ⊢
          refine hK.out _ _ ?hSa6x54 (fun hHeld => ?_)
          case hSa6x54 => exact HKEEP.out _ E.out
          clear hK K
          (try simp only [Act.put, List.setIfInBounds_toArray, List.set_cons_zero, List.set_cons_succ])
          have d8 := B9.out.cell
          have fr8 := B9.out.free
          refine wpAnyH_one 7 rfl (by kernel_rfl) (by rfl) (fun K hK => ?_)
          go_simp
          replace E := hid (Ext.setCell E.out S9.out 0 (.slice a9 N k9))
          replace M8 := hid (M8.out.setBox B9.out (.slice a9 N k9))
          replace M9 := hid (M9.out.setBox B9.out (.slice a9 N k9))
          replace B8 := hid (B8.out.other HNE.out.symm (.slice a9 N k9))
          replace B9 := hid (B9.out.set (.slice a9 N k9))
          clear d8 fr8
          generalize W4.setCell ⟨b9, 0, none⟩ (.slice a9 N k9) = W5 at E M8 M9 B8 B9 ⊢
          refine hK.out _ _ ?hSa7x55 (fun hHeld => ?_)
          case hSa7x55 => exact HKEEP.out _ E.out
          clear hK K
          (try simp only [Act.put, List.setIfInBounds_toArray, List.set_cons_zero, List.set_cons_succ])
          refine wpAnyH_done (by kernel_rfl) ?_ _
          exact ⟨b8, b9, a8, k8, a9, k9, rfl, ⟨E.out, M8.out, M9.out, B8.out, B9.out, S8.out, S9.out⟩⟩
      · skip
        go_simp
        have he : Ext W0 (W0.alloc (.cells #[Value.slice none 0 0] 52)) := Ext.ofAlloc _ _
        have hx := heap_alloc_new W0 (.cells #[Value.slice none 0 0] 52)
        have hs := E.out.size
        have hlt := B9.out.lt
        generalize W0.alloc (.cells #[Value.slice none 0 0] 52) = W1 at he hx ⊢
        generalize W0.heap.size = b8 at hx hs hlt ⊢
        have B8 : Hid (TBox W1 b8 (.slice none 0 0)) := hx
        have S8 := hid hs
        have HNE : Hid (b8 ≠ b9) := Nat.ne_of_gt hlt
        replace E := hid (E.out.trans he)
        replace B9 := hid (B9.out.ext he)
        clear he hx hs hlt
        refine hK.out _ _ ?hSa4x56 (fun hHeld => ?_)
        case hSa4x56 => exact HKEEP.out _ E.out
        clear hK K
        (try simp only [Act.put, List.setIfInBounds_toArray, List.set_cons_zero, List.set_cons_succ])
        refine wpAnyH_one 1 rfl (by kernel_rfl) (by rfl) (fun K hK => ?_)
        go_simp
        refine (distances_any _ N rs _ (Roads.ext HV.out (HE.out.trans E.out)) hN1 hN8 h16 HAll.out (TAB.out.good (by decide))).mono ?_
        rintro e W2 ⟨v8, rfl, hm, he⟩
        obtain ⟨a8, k8, rfl⟩ := hm.shape
        have M8 := hid (hm.base E.out.size)
        replace E := hid (E.out.trans he)
        replace B8 := hid (B8.out.ext he)
        replace B9 := hid (B9.out.ext he)
        clear hm he
        refine hK.out _ _ ?hSa1x57 (fun hHeld => ?_)
        case hSa1x57 => exact HKEEP.out _ E.out
        clear hK K
        (try simp only [Act.put, List.setIfInBounds_toArray, List.set_cons_zero, List.set_cons_succ])
        refine wpAnyH_one 3 rfl (by kernel_rfl) (by rfl) (fun K hK => ?_)
        go_simp
        refine (costs_any _ N rs _ (Roads.ext HV.out (HE.out.trans E.out)) hN1 hN8 h16 HAll.out).mono ?_
        rintro e W3 ⟨v9, rfl, hm, he⟩
        obtain ⟨a9, k9, rfl⟩ := hm.shape
        have M9 := hid (hm.base E.out.size)
        replace E := hid (E.out.trans he)
        replace M8 := hid (M8.out.ext he)
        replace B8 := hid (B8.out.ext he)
        replace B9 := hid (B9.out.ext he)
        clear hm he
        refine hK.out _ _ ?hSa3x58 (fun hHeld => ?_)
        case hSa3x58 => exact HKEEP.out _ E.out
        clear hK K
        (try simp only [Act.put, List.setIfInBounds_toArray, List.set_cons_zero, List.set_cons_succ])
        have d8 := B8.out.cell
        have fr8 := B8.out.free
        refine wpAnyH_one 6 rfl (by kernel_rfl) (by rfl) (fun K hK => ?_)
        go_simp
        replace E := hid (Ext.setCell E.out S8.out 0 (.slice a8 N k8))
        replace M8 := hid (M8.out.setBox B8.out (.slice a8 N k8))
        replace M9 := hid (M9.out.setBox B8.out (.slice a8 N k8))
        replace B9 := hid (B9.out.other HNE.out (.slice a8 N k8))
        replace B8 := hid (B8.out.set (.slice a8 N k8))
        clear d8 fr8
        generalize W3.setCell ⟨b8, 0, none⟩ (.slice a8 N k8) = W4 at E M8 M9 B8 B9 ⊢
        refine hK.out _ _ ?hSa6x59 (fun hHeld => ?_)
        case hSa6x59 => exact HKEEP.out _ E.out
        clear hK K
        (try simp only [Act.put, List.setIfInBounds_toArray, List.set_cons_zero, List.set_cons_succ])
        have d8 := B9.out.cell
        have fr8 := B9.out.free
        refine wpAnyH_one 7 rfl (by kernel_rfl) (by rfl) (fun K hK => ?_)
        go_simp
        replace E := hid (Ext.setCell E.out S9.out 0 (.slice a9 N k9))
        replace M8 := hid (M8.out.setBox B9.out (.slice a9 N k9))
        replace M9 := hid (M9.out.setBox B9.out (.slice a9 N k9))
        replace B8 := hid (B8.out.other HNE.out.symm (.slice a9 N k9))
        replace B9 := hid (B9.out.set (.slice a9 N k9))
        clear d8 fr8
        generalize W4.setCell ⟨b9, 0, none⟩ (.slice a9 N k9) = W5 at E M8 M9 B8 B9 ⊢
        refine hK.out _ _ ?hSa7x60 (fun hHeld => ?_)
        case hSa7x60 => exact HKEEP.out _ E.out
        clear hK K
        (try simp only [Act.put, List.setIfInBounds_toArray, List.set_cons_zero, List.set_cons_succ])
        refine wpAnyH_done (by kernel_rfl) ?_ _
        exact ⟨b8, b9, a8, k8, a9, k9, rfl, ⟨E.out, M8.out, M9.out, B8.out, B9.out, S8.out, S9.out⟩⟩
  case h2 =>
    intro b8 b9 a8 k8 a9 k9 w5 T
    obtain ⟨g8, kk, he8, -⟩ := T.m8.head (by omega)
    simp only [Value.slice.injEq, true_and] at he8
    obtain ⟨rfl, rfl⟩ := he8
    obtain ⟨gr, cr, ir, -⟩ := T.m8.row ha
    have cr' : w5.cell? ⟨g8, a, none⟩ = some (.slice (some ⟨gr, 0, none⟩) N N) := cr
    have ce := ir.cell (i := b) (by rw [rowL_len]; exact hb)
    rw [rowL_fn hb] at ce
    have c8 := T.t8.cell
    have ca := T.e.cell CA.out
    have cb := T.e.cell CB.out
    have hfb : decide (1048576 ≤ fw (costTo rs) N a b) = true := decide_eq_true (by have h := HF.out; unfold far at h; omega)
    have E6 := hid (T.e.drew)
    have M8 := hid (T.m8.ext (Ext.refl w5).drew)
    have M9 := hid (T.m9.ext (Ext.refl w5).drew)
    have B8 := hid (T.t8.ext (Ext.refl w5).drew)
    have B9 := hid (T.t9.ext (Ext.refl w5).drew)
    have S8 := hid T.s8
    have S9 := hid T.s9
    clear T cr ir
    go_wp2
    refine wp_region_held_drew (S := (fun w' => w'.cell? ⟨b8, 0, none⟩ = some (.slice (some ⟨g8, 0, none⟩) N k8) ∧ w'.cell? ⟨g8, a, none⟩ = some (.slice (some ⟨gr, 0, none⟩) N N) ∧ w'.cell? ⟨gr, b, none⟩ = some (.int .i64 (fw (costTo rs) N a b)) ∧ w'.cell? ⟨w.heap.size + 1, 0, none⟩ = some (.int .i64 a) ∧ w'.cell? ⟨w.heap.size + 1 + 1, 0, none⟩ = some (.int .i64 b))) (by kernel_rfl) ?hSb0 (fun hHeld => ?_)
    case hSb0 => (first | (exact ⟨c8, cr', ce, ca, cb⟩) | ((try dsimp only); exact ⟨c8, cr', ce, ca, cb⟩))
    refine wpAnyH_tk 0 (v := ?vb0) rfl (by kernel_rfl) (by kernel_rfl) (by kernel_rfl) (fun _ _ _ h => h) (by rfl) ?hyb0 (by assumption) ?_
    case hyb0 => (intro w hSw; (try dsimp only at hSw); go_simp <;> with_reducible rfl)
    (try simp only [Act.put, List.setIfInBounds_toArray, List.set_cons_zero, List.set_cons_succ])
    refine wpAnyH_tk 1 (v := ?vb1) rfl (by kernel_rfl) (by kernel_rfl) (by kernel_rfl) (fun _ _ _ h => h) (by rfl) ?hyb1 (by assumption) ?_
    case hyb1 => (intro w hSw; (try dsimp only at hSw); go_simp <;> with_reducible rfl)
    (try simp only [Act.put, List.setIfInBounds_toArray, List.set_cons_zero, List.set_cons_succ])
    refine wpAnyH_tk 2 (v := ?vb2) rfl (by kernel_rfl) (by kernel_rfl) (by kernel_rfl) (fun _ _ _ h => h) (by rfl) ?hyb2 (by assumption) ?_
    case hyb2 => (intro w hSw; (try dsimp only at hSw); go_simp <;> with_reducible rfl)
    (try simp only [Act.put, List.setIfInBounds_toArray, List.set_cons_zero, List.set_cons_succ])
    refine wpAnyH_tk 3 (v := ?vb3) rfl (by kernel_rfl) (by kernel_rfl) (by kernel_rfl) (fun _ _ _ h => h) (by rfl) ?hyb3 (by assumption) ?_
    case hyb3 => (intro w hSw; (try dsimp only at hSw); go_simp <;> with_reducible rfl)
    (try simp only [Act.put, List.setIfInBounds_toArray, List.set_cons_zero, List.set_cons_succ])
    refine wpAnyH_tk 4 (v := ?vb4) rfl (by kernel_rfl) (by kernel_rfl) (by kernel_rfl) (fun _ _ _ h => h) (by rfl) ?hyb4 (by assumption) ?_
    case hyb4 => (intro w hSw; (try dsimp only at hSw); go_simp <;> with_reducible rfl)
    (try simp only [Act.put, List.setIfInBounds_toArray, List.set_cons_zero, List.set_cons_succ])
    refine wpAnyH_tk 5 (v := ?vb5) rfl (by kernel_rfl) (by kernel_rfl) (by kernel_rfl) (fun _ _ _ h => h) (by rfl) ?hyb5 (by assumption) ?_
    case hyb5 => (intro w hSw; (try dsimp only at hSw); go_simp <;> with_reducible rfl)
    (try simp only [Act.put, List.setIfInBounds_toArray, List.set_cons_zero, List.set_cons_succ])
    refine wpAnyH_tk 6 (v := ?vb6) rfl (by kernel_rfl) (by kernel_rfl) (by kernel_rfl) (fun _ _ _ h => h) (by rfl) ?hyb6 (by assumption) ?_
    case hyb6 => (intro w hSw; (try dsimp only at hSw); go_simp <;> with_reducible rfl)
    (try simp only [Act.put, List.setIfInBounds_toArray, List.set_cons_zero, List.set_cons_succ])
    refine wpAnyH_tk 7 (v := ?vb7) rfl (by kernel_rfl) (by kernel_rfl) (by kernel_rfl) (fun _ _ _ h => h) (by rfl) ?hyb7 (by assumption) ?_
    case hyb7 => (intro w hSw; (try dsimp only at hSw); go_simp <;> with_reducible rfl)
    (try simp only [Act.put, List.setIfInBounds_toArray, List.set_cons_zero, List.set_cons_succ])
    refine wpAnyH_done (by kernel_rfl) ?_ _
    clear c8 ca cb cr' ce hHeld
    have HX := hid (HE.out.trans E6.out)
    clear HE E6 M8 M9 B8 B9 CA CB C0
    go_wp2
    go_ret2
    exact ⟨rfl, HX.out⟩

set_option maxRecDepth 20000 in
set_option maxHeartbeats 16000000 in
theorem Way_bad (vr : Value) (m : MapD) (a b : Int) (w : World) (hm : MapR w vr m) (hb : (mapOk m && stopB m.n a && stopB m.n b) = false) :
    Calls Tryd.prog 33 #[.agg #[.int .i64 m.n, vr], .int .i64 a, .int .i64 b] w fun e w' => e = .returned (.tuple #[.slice none 0 0, .int .i64 2]) ∧ Ext w w' := by
  obtain ⟨ao, cap, rfl⟩ := hm.shape
  have HV := hid hm
  have HB := hid hb
  have X0 := hid (Box2.alloc w 31 (.int .i64 m.n) (.slice ao m.roads.length cap))
  clear hm hb
  go_enter Tryd.func33, Tryd.ntmps33
  go_wp2_with (fail)
  refine (valid_any _ m _ (MapR.ext HV.out (((Ext.ofAlloc _ _).alloc _).alloc _))).mono ?_
  rintro e w1 ⟨rfl, he⟩
  have HE := hid ((((Ext.ofAlloc w _).alloc _).alloc _).trans he)
  obtain ⟨c0, c1⟩ := (((X0.out.ext (Ext.ofAlloc _ _)).ext (Ext.ofAlloc _ _)).ext he).cells
  have ca : w1.cell? ⟨w.heap.size + 1, 0, none⟩ = some (.int .i64 a) := by have h := he.cell ((Ext.ofAlloc _ _).cell (World.cell?_alloc_new _ _ _ 0)); simpa using h
  have cb : w1.cell? ⟨w.heap.size + 1 + 1, 0, none⟩ = some (.int .i64 b) := by have h := he.cell (World.cell?_alloc_new _ _ _ 0); simpa using h
  clear he
  cases h1 : mapOk m
  · clear HB
    go_wp2
    go_ret2
    exact ⟨rfl, HE.out⟩
  · have HB1 := HB.out
    rw [h1, Bool.true_and] at HB1
    have HB2 := hid HB1
    clear HB1 HB h1
    go_wp2_with (fail)
    refine (stop_any _ m a _ (MapR.ext HV.out HE.out)).mono ?_
    rintro e w2 ⟨rfl, he⟩
    replace HE := hid (HE.out.trans he)
    replace c0 := he.cell c0
    replace c1 := he.cell c1
    replace ca := he.cell ca
    replace cb := he.cell cb
    clear he
    cases h2 : stopB m.n a
    · clear HB2
      go_wp2
      go_ret2
      exact ⟨rfl, HE.out⟩
    · have HB1 := HB2.out
      rw [h2, Bool.true_and] at HB1
      clear HB2 h2
      go_wp2_with (fail)
      refine (stop_any _ m b _ (MapR.ext HV.out HE.out)).mono ?_
      rw [HB1]
      rintro e w3 ⟨rfl, he⟩
      replace HE := hid (HE.out.trans he)
      clear he HB1 c0 c1 ca cb
      go_wp2
      go_ret2
      exact ⟨rfl, HE.out⟩

end Go.Proofs.YtkbkgkmogbkabaaDoor

/-
  Contract of awake, of the statements.
-/
namespace Go.Proofs.YtkbkgkmogbkabaaDoor
open Go.RowKit

def rs0 : List RoadD := [⟨1, 0, 3⟩]
theorem way0 {f : Nat} {r : List Int} (h : IsWay (costTo rs0) (fw (costTo rs0) 2) 2 0 1 f r) (hf : f < 2) : r = [0, 1] := by
  have h0 : growP (costTo rs0) (fw (costTo rs0) 2) 2 1 (fw (costTo rs0) 2 0 1) 0 [((0 : Nat) : Int)] 0 0 = none := by decide
  have h1 : growP (costTo rs0) (fw (costTo rs0) 2) 2 1 (fw (costTo rs0) 2 0 1) 1 [((0 : Nat) : Int)] 0 0 = some [0, 1] := by decide
  obtain ⟨g, -⟩ := h
  match f, hf with
  | 0, _ => rw [h0] at g; simp at g
  | 1, _ => rw [h1] at g; simp only [Option.some.injEq] at g; exact g.symm
theorem EqualE_any (va vb : Value) (xs ys : List Int) (w : World) (hx : Ints w va xs) (hy : Ints w vb ys) :
    Calls Tryd.prog 28 #[va, vb] w fun e w' => e = .returned (.bool (eqI xs ys)) ∧ Ext w w' := by
  refine (Equal_any va vb xs ys w hx hy).mono ?_
  rintro e w1 ⟨rfl, n, rfl⟩
  exact ⟨rfl, (Ext.refl _).drewN _⟩

set_option maxRecDepth 20000 in
set_option maxHeartbeats 4000000 in
theorem awake_any (w : World) : Calls Tryd.prog 16 #[] w fun e w' => e = .returned (.bool true) ∧ Ext w w' := by
  have hro : Roads (w.alloc (.cells #[.int .i64 1, .int .i64 0, .int .i64 3] 55)) (.slice (some ⟨w.heap.size, 0, none⟩) 1 1) rs0 := by
    obtain ⟨c0, c1, c2⟩ := (Box3.alloc w 55 (.int .i64 1) (.int .i64 0) (.int .i64 3)).cells
    refine ⟨by decide, _, _, rfl, by decide, fun i hi => ?_⟩
    have : i = 0 := by have : rs0.length = 1 := rfl; omega
    subst this
    exact ⟨_, _, rfl, c0, c1, c2⟩
  have HR := hid hro
  clear hro
  go_enter Tryd.func16, Tryd.ntmps16
  go_wp2_with (fail)
  refine (Way_ok _ 2 rs0 0 1 _ HR.out (by decide) (by decide) (by decide) (by decide)).mono ?_
  rintro e w1 ⟨v, f, r, rfl, hi, hway, hf, he⟩
  have hr := way0 hway hf
  subst hr
  obtain ⟨-, ao, cap, rfl, -⟩ := id hi
  have HI := hid hi
  have HE := hid ((Ext.ofAlloc w _).trans he)
  clear hi hway hf he HR
  go_wp2_with (fail)
  refine (EqualE_any _ _ [0, 1] [0, 1] _ (HI.out.ext (Ext.ofAlloc _ _)) (IntBlock.ints (xs := [0, 1]) (heap_alloc_new w1 _) rfl (by decide))).mono ?_
  rintro e w2 ⟨rfl, he⟩
  have h1 : eqI [0, 1] [0, 1] = true := by decide
  rw [h1]
  have HE2 := hid ((HE.out.alloc _).trans he)
  clear he
  go_wp2
  go_ret
  exact ⟨rfl, HE2.out⟩

end Go.Proofs.YtkbkgkmogbkabaaDoor

/-
  Contract of the statements' list.
-/
namespace Go.Proofs.YtkbkgkmogbkabaaDoor
open Go.RowKit

set_option maxRecDepth 20000 in
set_option maxHeartbeats 4000000 in
theorem list_any (v : Value) (xs : List Int) (w : World) (hv : Ints w v xs) :
    Calls Tryd.prog 13 #[v] w fun e w' => ∃ u, e = .returned u ∧ Ints w' u (xs.take 18) ∧ Ext w w' := by
  have HV := hid hv
  obtain ⟨hl, ao, cap, rfl, hcap, -⟩ := hv
  by_cases h18 : xs.length ≤ 18
  · have hmin : min (xs.length : Int) 18 = xs.length := by omega
    have ht : xs.take 18 = xs := List.take_of_length_le h18
    have HT : Hid (Ints w (.slice ao xs.length cap) (xs.take 18)) := by show Ints _ _ _; rw [ht]; exact HV.out
    clear ht
    have hcc : xs.length ≤ cap := hcap
    go_enter Tryd.func13, Tryd.ntmps13
    go_wp2_with (fail)
    refine (Clone_any _ (xs.take 18) _ HT.out).mono ?_
    rintro e w1 ⟨u, rfl, hu, he⟩
    have HU := hid (hu.ints (by rw [List.length_take]; omega))
    have HE := hid he
    clear hu he
    go_wp2
    go_ret
    exact ⟨_, rfl, HU.out, HE.out⟩
  · have hmin : min (xs.length : Int) 18 = 18 := by omega
    have HT := hid (HV.out.take (k := 18) (by omega))
    have hcc : 18 ≤ cap := by omega
    have hcc2 : (18 : Int) ≤ cap := by omega
    go_enter Tryd.func13, Tryd.ntmps13
    go_wp2_with (fail)
    refine (Clone_any _ (xs.take 18) _ HT.out).mono ?_
    rintro e w1 ⟨u, rfl, hu, he⟩
    have HU := hid (hu.ints (by rw [List.length_take]; omega))
    have HE := hid he
    clear hu he
    go_wp2
    go_ret
    exact ⟨_, rfl, HU.out, HE.out⟩

end Go.Proofs.YtkbkgkmogbkabaaDoor

/-
  Which stops roads connect, in plain Lean: labels, and the closure by rounds.
-/
namespace Go.Proofs.YtkbkgkmogbkabaaDoor
open Go.RowKit

/-- A road between two stops. -/
def Edge (E : List RoadD) (b c : Nat) : Prop := ∃ r ∈ E, (r.a.toNat = b ∧ r.b.toNat = c) ∨ (r.a.toNat = c ∧ r.b.toNat = b)
theorem Edge.symm {E : List RoadD} {b c : Nat} (h : Edge E b c) : Edge E c b := by
  obtain ⟨r, hr, h⟩ := h
  exact ⟨r, hr, h.symm⟩
/-- Connected. -/
inductive Conn (E : List RoadD) (a : Nat) : Nat → Prop
  | refl : Conn E a a
  | step {b c : Nat} : Conn E a b → Edge E b c → Conn E a c
theorem Conn.trans {E : List RoadD} {a b c : Nat} (h : Conn E a b) (k : Conn E b c) : Conn E a c := by
  induction k with
  | refl => exact h
  | step _ e ih => exact ih.step e
theorem Conn.symm {E : List RoadD} {a b : Nat} (h : Conn E a b) : Conn E b a := by
  induction h with
  | refl => exact .refl
  | step _ e ih => exact (Conn.step .refl e.symm).trans ih
theorem Conn.mono {E F : List RoadD} (hs : ∀ r ∈ E, r ∈ F) {a b : Nat} (h : Conn E a b) : Conn F a b := by
  induction h with
  | refl => exact .refl
  | step _ e ih =>
    obtain ⟨r, hr, g⟩ := e
    exact ih.step ⟨r, hs r hr, g⟩
/-- One road more. -/
theorem conn_push {E : List RoadD} {r : RoadD} {i j : Nat} : Conn (E ++ [r]) i j ↔ Conn E i j ∨ ((Conn E i r.a.toNat ∨ Conn E i r.b.toNat) ∧ (Conn E j r.a.toNat ∨ Conn E j r.b.toNat)) := by
  have hm : ∀ q ∈ E, q ∈ E ++ [r] := fun q hq => List.mem_append_left _ hq
  have he : Edge (E ++ [r]) r.a.toNat r.b.toNat := ⟨r, by simp, .inl ⟨rfl, rfl⟩⟩
  constructor
  · intro h
    induction h with
    | refl => exact .inl .refl
    | step _ e ih =>
      obtain ⟨q, hq, g⟩ := e
      rcases List.mem_append.1 hq with hq | hq
      · have e' : Edge E _ _ := ⟨q, hq, g⟩
        rcases ih with h | ⟨h1, h2⟩
        · exact .inl (h.step e')
        · refine .inr ⟨h1, ?_⟩
          rcases h2 with h2 | h2
          · exact .inl ((Conn.step .refl e'.symm).trans h2)
          · exact .inr ((Conn.step .refl e'.symm).trans h2)
      · simp only [List.mem_singleton] at hq
        subst hq
        rcases g with ⟨rfl, rfl⟩ | ⟨rfl, rfl⟩
        · rcases ih with h | ⟨h1, -⟩
          · exact .inr ⟨.inl h, .inr .refl⟩
          · exact .inr ⟨h1, .inr .refl⟩
        · rcases ih with h | ⟨h1, -⟩
          · exact .inr ⟨.inr h, .inl .refl⟩
          · exact .inr ⟨h1, .inl .refl⟩
  · rintro (h | ⟨h1, h2⟩)
    · exact h.mono hm
    · have k : Conn (E ++ [r]) r.a.toNat r.b.toNat := Conn.step .refl he
      rcases h1 with h1 | h1 <;> rcases h2 with h2 | h2
      · exact (h1.mono hm).trans (h2.mono hm).symm
      · exact ((h1.mono hm).trans k).trans (h2.mono hm).symm
      · exact ((h1.mono hm).trans k.symm).trans (h2.mono hm).symm
      · exact (h1.mono hm).trans (h2.mono hm).symm

/-- Labels that tell the parts. -/
def Lab (E : List RoadD) (p : Nat → Int) : Prop := ∀ i j, i < 8 → j < 8 → (p i = p j ↔ Conn E i j)
def joinL (p : Nat → Int) (a b : Nat) : Nat → Int := fun i => if p i = max (p a) (p b) then min (p a) (p b) else p i
theorem Lab.nil : Lab [] (fun i => (i : Int)) := by
  intro i j hi hj
  constructor
  · intro h
    have h' : (i : Int) = j := h
    have : i = j := by omega
    subst this
    exact .refl
  · intro h
    cases h with
    | refl => rfl
    | step _ e =>
      obtain ⟨r, hr, -⟩ := e
      simp at hr
theorem Lab.join {E : List RoadD} {p : Nat → Int} (h : Lab E p) {r : RoadD} (ha : r.a.toNat < 8) (hb : r.b.toNat < 8) : Lab (E ++ [r]) (joinL p r.a.toNat r.b.toNat) := by
  intro i j hi hj
  rw [conn_push, ← h i j hi hj, ← h i _ hi ha, ← h i _ hi hb, ← h j _ hj ha, ← h j _ hj hb]
  unfold joinL
  generalize p r.a.toNat = x
  generalize p r.b.toNat = y
  generalize p i = u
  generalize p j = v
  by_cases c : x ≤ y
  · rw [Int.max_eq_right c, Int.min_eq_left c]
    split <;> split <;> (constructor <;> intro h <;> omega)
  · rw [Int.max_eq_left (by omega), Int.min_eq_right (by omega)]
    split <;> split <;> (constructor <;> intro h <;> omega)

/-- How many of the first n. -/
def cnt (f : Nat → Bool) : Nat → Nat
  | 0 => 0
  | n + 1 => cnt f n + (if f n then 1 else 0)
theorem cnt_hi (f : Nat → Bool) : ∀ n, cnt f n ≤ n
  | 0 => Nat.le_refl _
  | n + 1 => by have := cnt_hi f n; unfold cnt; split <;> omega
theorem cnt_le {f g : Nat → Bool} (h : ∀ x, f x = true → g x = true) : ∀ n, cnt f n ≤ cnt g n
  | 0 => Nat.le_refl _
  | n + 1 => by
    have := cnt_le h n
    unfold cnt
    by_cases e : f n = true
    · rw [if_pos e, if_pos (h n e)]; omega
    · rw [if_neg e]; split <;> omega
theorem cnt_lt {f g : Nat → Bool} (h : ∀ x, f x = true → g x = true) {x : Nat} (hf : ¬ f x = true) (hg : g x = true) : ∀ n, x < n → cnt f n < cnt g n
  | 0, hx => by omega
  | n + 1, hx => by
    unfold cnt
    by_cases e : x = n
    · subst e
      have := cnt_le h x
      rw [if_neg hf, if_pos hg]; omega
    · have := cnt_lt h hf hg n (by omega)
      by_cases e2 : f n = true
      · rw [if_pos e2, if_pos (h n e2)]; omega
      · rw [if_neg e2]; split <;> omega

/-- One road: both its ends are met if one is. -/
def met1 (f : Nat → Bool) (r : RoadD) : Nat → Bool := fun x => f x || ((f r.a.toNat || f r.b.toNat) && (x == r.a.toNat || x == r.b.toNat))
def metR (E : List RoadD) (f : Nat → Bool) : Nat → Bool := E.foldl met1 f
def metN (E : List RoadD) (f : Nat → Bool) : Nat → Nat → Bool
  | 0 => f
  | k + 1 => metR E (metN E f k)
theorem met1_le (f : Nat → Bool) (r : RoadD) (x : Nat) (h : f x = true) : met1 f r x = true := by unfold met1; rw [h]; rfl
theorem metR_le : ∀ (E : List RoadD) (f : Nat → Bool) (x : Nat), f x = true → metR E f x = true
  | [], _, _, h => h
  | r :: E, f, x, h => metR_le E (met1 f r) x (met1_le f r x h)
theorem metR_hit : ∀ (E : List RoadD) (f : Nat → Bool) (r : RoadD), r ∈ E → (f r.a.toNat = true ∨ f r.b.toNat = true) → metR E f r.a.toNat = true ∧ metR E f r.b.toNat = true
  | q :: E, f, r, hr, h => by
    rcases List.mem_cons.1 hr with rfl | hr
    · have h1 : met1 f r r.a.toNat = true ∧ met1 f r r.b.toNat = true := by
        unfold met1
        rcases h with h | h <;> rw [h] <;> simp
      exact ⟨metR_le E _ _ h1.1, metR_le E _ _ h1.2⟩
    · exact metR_hit E (met1 f q) r hr (h.imp (met1_le f q _) (met1_le f q _))
theorem metR_sound {E0 : List RoadD} {s : Nat} : ∀ (E : List RoadD) (f : Nat → Bool), (∀ r ∈ E, r ∈ E0) → (∀ x, f x = true → Conn E0 s x) → ∀ x, metR E f x = true → Conn E0 s x
  | [], _, _, h, x, hx => h x hx
  | r :: E, f, hs, h, x, hx => by
    refine metR_sound E (met1 f r) (fun q hq => hs q (List.mem_cons_of_mem _ hq)) (fun y hy => ?_) x hx
    unfold met1 at hy
    rw [Bool.or_eq_true, Bool.and_eq_true, Bool.or_eq_true, Bool.or_eq_true, beq_iff_eq, beq_iff_eq] at hy
    have he : Edge E0 r.a.toNat r.b.toNat := ⟨r, hs r (List.mem_cons_self ..), .inl ⟨rfl, rfl⟩⟩
    rcases hy with hy | ⟨h1, h2⟩
    · exact h y hy
    · rcases h1 with h1 | h1 <;> rcases h2 with rfl | rfl
      · exact h _ h1
      · exact (h _ h1).step he
      · exact (h _ h1).step he.symm
      · exact h _ h1
theorem metN_le (E : List RoadD) (f : Nat → Bool) (k x : Nat) (h : f x = true) : metN E f k x = true := by
  induction k with
  | zero => exact h
  | succ k ih => exact metR_le E _ x ih
theorem metN_sound {E : List RoadD} {s : Nat} {f : Nat → Bool} (h : ∀ x, f x = true → Conn E s x) (k : Nat) : ∀ x, metN E f k x = true → Conn E s x := by
  induction k with
  | zero => exact h
  | succ k ih => exact metR_sound E _ (fun _ h => h) ih
/-- All that is connected is met, after as many rounds as there are stops. -/
theorem metN_all {E : List RoadD} {N s : Nat} (hE : ∀ r ∈ E, r.a.toNat < N ∧ r.b.toNat < N) (hs : s < N) (x : Nat) : metN E (fun y => y == s) N x = true ↔ Conn E s x := by
  constructor
  · exact metN_sound (fun y hy => by rw [beq_iff_eq] at hy; subst hy; exact .refl) N x
  · have key : ∀ k, (∃ j, j ≤ k ∧ ∀ r ∈ E, metN E (fun y => y == s) j r.a.toNat = metN E (fun y => y == s) j r.b.toNat) ∨ k + 1 ≤ cnt (metN E (fun y => y == s) k) N := by
      intro k
      induction k with
      | zero =>
        right
        have := cnt_lt (f := fun _ => false) (g := fun y => y == s) (fun y hy => by simp at hy) (x := s) (by simp) (by simp) N hs
        show 1 ≤ cnt (fun y => y == s) N
        omega
      | succ k ih =>
        rcases ih with ⟨j, hj, h⟩ | h
        · exact .inl ⟨j, by omega, h⟩
        · by_cases c : ∀ r ∈ E, metN E (fun y => y == s) k r.a.toNat = metN E (fun y => y == s) k r.b.toNat
          · exact .inl ⟨k, by omega, c⟩
          · right
            have ⟨r, hr, hne⟩ : ∃ r, r ∈ E ∧ ¬ metN E (fun y => y == s) k r.a.toNat = metN E (fun y => y == s) k r.b.toNat := by
              refine Classical.byContradiction fun g => c (fun r hr => Classical.byContradiction fun g2 => g ⟨r, hr, g2⟩)
            have hle : ∀ y, metN E (fun y => y == s) k y = true → metN E (fun y => y == s) (k + 1) y = true := fun y hy => metR_le E _ y hy
            obtain ⟨ha, hb⟩ := hE r hr
            cases e1 : metN E (fun y => y == s) k r.a.toNat with
            | true =>
              have e2 : ¬ metN E (fun y => y == s) k r.b.toNat = true := fun g => hne (by rw [e1, g])
              have := cnt_lt hle e2 (metR_hit E _ r hr (.inl e1)).2 N hb
              omega
            | false =>
              have e2 : metN E (fun y => y == s) k r.b.toNat = true := by
                cases g : metN E (fun y => y == s) k r.b.toNat with
                | true => rfl
                | false => exact absurd (by rw [e1, g]) hne
              have := cnt_lt hle (by rw [e1]; simp) (metR_hit E _ r hr (.inr e2)).1 N ha
              omega
    intro hc
    obtain ⟨j, hj, hcl⟩ : ∃ j, j ≤ N ∧ ∀ r ∈ E, metN E (fun y => y == s) j r.a.toNat = metN E (fun y => y == s) j r.b.toNat := by
      rcases key N with h | h
      · exact h
      · have := cnt_hi (metN E (fun y => y == s) N) N; omega
    have hj2 : metN E (fun y => y == s) j x = true := by
      induction hc with
      | refl => exact metN_le E _ j s (by simp)
      | step _ e ih =>
        obtain ⟨r, hr, ⟨rfl, rfl⟩ | ⟨rfl, rfl⟩⟩ := e
        · rw [← hcl r hr]; exact ih
        · rw [hcl r hr]; exact ih
    have up : ∀ m, metN E (fun y => y == s) (j + m) x = true := by
      intro m
      induction m with
      | zero => exact hj2
      | succ m ih => exact metR_le E _ x ih
    have := up (N - j)
    rw [show j + (N - j) = N by omega] at this
    exact this

end Go.Proofs.YtkbkgkmogbkabaaDoor

/-
  Sets of stops as numbers: the reference's closure on bits, in plain Lean.
-/
namespace Go.Proofs.YtkbkgkmogbkabaaDoor
open Go.RowKit

def bothN (r : RoadD) : Nat := 2 ^ r.a.toNat ||| 2 ^ r.b.toNat
theorem both_bit (r : RoadD) (x : Nat) : (bothN r).testBit x = (x == r.a.toNat || x == r.b.toNat) := by
  unfold bothN
  rw [Nat.testBit_or, Nat.testBit_two_pow, Nat.testBit_two_pow]
  rw [Bool.eq_iff_iff]
  simp only [Bool.or_eq_true, decide_eq_true_iff, beq_iff_eq]
  constructor <;> intro h <;> omega
theorem meet_iff (m : Nat) (r : RoadD) : m &&& bothN r ≠ 0 ↔ (m.testBit r.a.toNat = true ∨ m.testBit r.b.toNat = true) := by
  constructor
  · intro h
    obtain ⟨i, hi⟩ := Nat.exists_testBit_of_ne_zero h
    rw [Nat.testBit_and, both_bit, Bool.and_eq_true, Bool.or_eq_true, beq_iff_eq, beq_iff_eq] at hi
    obtain ⟨h1, rfl | rfl⟩ := hi
    · exact .inl h1
    · exact .inr h1
  · rintro (h | h) e
    · have : (m &&& bothN r).testBit r.a.toNat = true := by rw [Nat.testBit_and, both_bit, h]; simp
      rw [e] at this; simp at this
    · have : (m &&& bothN r).testBit r.b.toNat = true := by rw [Nat.testBit_and, both_bit, h]; simp
      rw [e] at this; simp at this
/-- A number that says which stops are met. -/
def Meets (m : Nat) (f : Nat → Bool) : Prop := m < 256 ∧ ∀ x, m.testBit x = f x
def meet1 (m : Nat) (r : RoadD) : Nat := if m &&& bothN r ≠ 0 then m ||| bothN r else m
theorem both_lt {r : RoadD} (ha : r.a.toNat < 8) (hb : r.b.toNat < 8) : bothN r < 256 := by
  have e : (256 : Nat) = 2 ^ 8 := by decide
  unfold bothN
  rw [e]
  exact Nat.or_lt_two_pow (Nat.pow_lt_pow_right (by decide) ha) (Nat.pow_lt_pow_right (by decide) hb)
theorem Meets.step {m : Nat} {f : Nat → Bool} (h : Meets m f) {r : RoadD} (ha : r.a.toNat < 8) (hb : r.b.toNat < 8) : Meets (meet1 m r) (met1 f r) := by
  obtain ⟨h1, h2⟩ := h
  unfold meet1
  by_cases c : m &&& bothN r ≠ 0
  · rw [if_pos c]
    have c2 := (meet_iff m r).1 c
    rw [h2, h2] at c2
    refine ⟨?_, fun x => ?_⟩
    · have e : (256 : Nat) = 2 ^ 8 := by decide
      rw [e] at h1 ⊢
      exact Nat.or_lt_two_pow h1 (by rw [← e]; exact both_lt ha hb)
    · rw [Nat.testBit_or, h2, both_bit]
      unfold met1
      have : (f r.a.toNat || f r.b.toNat) = true := by rw [Bool.or_eq_true]; exact c2
      rw [this, Bool.true_and]
  · rw [if_neg c]
    refine ⟨h1, fun x => ?_⟩
    have c2 := fun g => c ((meet_iff m r).2 g)
    rw [h2, h2] at c2
    unfold met1
    have : (f r.a.toNat || f r.b.toNat) = false := by
      rw [Bool.eq_false_iff, ne_eq, Bool.or_eq_true]
      exact c2
    rw [this, Bool.false_and, Bool.or_false]
    exact h2 x
theorem Meets.start {s : Nat} (hs : s < 8) : Meets (2 ^ s) (fun y => y == s) := by
  refine ⟨?_, fun x => ?_⟩
  · have e : (256 : Nat) = 2 ^ 8 := by decide
    rw [e]; exact Nat.pow_lt_pow_right (by decide) hs
  · rw [Nat.testBit_two_pow, Bool.eq_iff_iff, decide_eq_true_iff, beq_iff_eq]
    constructor <;> intro h <;> exact h.symm
def meetR (E : List RoadD) (m : Nat) : Nat := E.foldl meet1 m
def meetN (E : List RoadD) (m : Nat) : Nat → Nat
  | 0 => m
  | k + 1 => meetR E (meetN E m k)
theorem Meets.round : ∀ (E : List RoadD) (m : Nat) (f : Nat → Bool), Meets m f → (∀ r ∈ E, r.a.toNat < 8 ∧ r.b.toNat < 8) → Meets (meetR E m) (metR E f)
  | [], _, _, h, _ => h
  | r :: E, m, f, h, hE => Meets.round E (meet1 m r) (met1 f r) (h.step (hE r (List.mem_cons_self ..)).1 (hE r (List.mem_cons_self ..)).2) (fun q hq => hE q (List.mem_cons_of_mem _ hq))
theorem Meets.rounds {E : List RoadD} {m : Nat} {f : Nat → Bool} (h : Meets m f) (hE : ∀ r ∈ E, r.a.toNat < 8 ∧ r.b.toNat < 8) : ∀ k, Meets (meetN E m k) (metN E f k)
  | 0 => h
  | k + 1 => Meets.round E _ _ (Meets.rounds h hE k) hE
/-- What the reference's joined tells. -/
theorem joined_bit {E : List RoadD} {N s : Nat} (hE : ∀ r ∈ E, r.a.toNat < N ∧ r.b.toNat < N) (hN : N ≤ 8) (hs : s < N) (x : Nat) : (meetN E (2 ^ s) N).testBit x = true ↔ Conn E s x := by
  have h := (Meets.start (by omega : s < 8)).rounds (E := E) (fun r hr => by have := hE r hr; omega) N
  rw [h.2 x]
  exact metN_all hE hs x

end Go.Proofs.YtkbkgkmogbkabaaDoor

/-
  Trees, in plain Lean.
-/
namespace Go.Proofs.YtkbkgkmogbkabaaDoor
open Go.RowKit

def edges (rs : List RoadD) (l : List Int) : List RoadD := l.map (fun i => roadAt rs i.toNat)
theorem edges_take (rs : List RoadD) (l : List Int) (k : Nat) : edges rs (l.take k) = (edges rs l).take k := by unfold edges; rw [List.map_take]
/-- The k-th road of a tree is one, is behind the one ahead of it, and closes no cycle. -/
def okAt (rs : List RoadD) (l : List Int) (k : Nat) : Prop :=
  (0 ≤ fn l k ∧ fn l k < rs.length ∧ (0 < k → fn l (k - 1) < fn l k)) ∧ ¬ Conn (edges rs (l.take k)) (roadAt rs (fn l k).toNat).a.toNat (roadAt rs (fn l k).toNat).b.toNat
/-- The stops that must be in one part. -/
def touch (stops : Nat) (E : List RoadD) (x : Nat) : Prop := stops.testBit x = true ∨ ∃ r ∈ E, x = r.a.toNat ∨ x = r.b.toNat
def treeP (rs : List RoadD) (stops : Nat) (l : List Int) : Prop := (∀ k, k < l.length → okAt rs l k) ∧ ∀ x y, touch stops (edges rs l) x → touch stops (edges rs l) y → Conn (edges rs l) x y
def costL (rs : List RoadD) (l : List Int) : Int := (edges rs l).foldl (fun acc r => acc + r.cost) 0

/-- One label for all that is touched: one part. -/
theorem one_label {E : List RoadD} {p : Nat → Int} (hp : Lab E p) {T : Nat → Prop} {k : Nat} (hT : ∀ x, T x → x < 8) (hk : T k) : (∀ x, T x → p x = p k) ↔ ∀ x y, T x → T y → Conn E x y := by
  constructor
  · intro h x y hx hy
    exact (hp x y (hT x hx) (hT y hy)).1 (by rw [h x hx, h y hy])
  · intro h x hx
    exact (hp x k (hT x hx) (hT k hk)).2 (h x k hx hk)
/-- All that is touched is connected with one of it. -/
theorem one_met {E : List RoadD} {T : Nat → Prop} {k : Nat} (hk : T k) : (∀ x, T x → Conn E k x) ↔ ∀ x y, T x → T y → Conn E x y := by
  constructor
  · intro h x y hx hy
    exact (h x hx).symm.trans (h y hy)
  · intro h x hx
    exact h k x hk hx
theorem touch_lt {stops : Nat} {E : List RoadD} (hs : stops < 256) (hE : ∀ r ∈ E, r.a.toNat < 8 ∧ r.b.toNat < 8) {x : Nat} (h : touch stops E x) : x < 8 := by
  rcases h with h | ⟨r, hr, h⟩
  · rcases Nat.lt_or_ge x 8 with g | g
    · exact g
    · exfalso
      have : stops < 2 ^ x := Nat.lt_of_lt_of_le (by have e : (256 : Nat) = 2 ^ 8 := by decide
                                                     rw [e] at hs; exact hs) (Nat.pow_le_pow_right (by decide) g)
      rw [Nat.testBit_lt_two_pow this] at h
      simp at h
  · have := hE r hr
    rcases h with rfl | rfl <;> omega
/-- The bits of all that is touched. -/
def touchN (stops : Nat) (E : List RoadD) : Nat := E.foldl (fun m r => m ||| bothN r) stops
theorem touchN_bit : ∀ (E : List RoadD) (stops x : Nat), (touchN stops E).testBit x = true ↔ touch stops E x
  | [], stops, x => by
    show stops.testBit x = true ↔ _
    unfold touch
    simp
  | r :: E, stops, x => by
    show (touchN (stops ||| bothN r) E).testBit x = true ↔ _
    rw [touchN_bit E (stops ||| bothN r) x]
    unfold touch
    rw [Nat.testBit_or, Bool.or_eq_true, both_bit, Bool.or_eq_true, beq_iff_eq, beq_iff_eq]
    constructor
    · rintro ((h | h) | ⟨q, hq, h⟩)
      · exact .inl h
      · exact .inr ⟨r, List.mem_cons_self .., h⟩
      · exact .inr ⟨q, List.mem_cons_of_mem _ hq, h⟩
    · rintro (h | ⟨q, hq, h⟩)
      · exact .inl (.inl h)
      · rcases List.mem_cons.1 hq with rfl | hq
        · exact .inl (.inr h)
        · exact .inr ⟨q, hq, h⟩

end Go.Proofs.YtkbkgkmogbkabaaDoor

/-
  Contracts of apart and join.
-/
namespace Go.Proofs.YtkbkgkmogbkabaaDoor
open Go.RowKit

/-- All blocks that were there are as they were, other than one. -/
structure Only (b : Nat) (w w' : World) : Prop where
  os : w'.os = w.os
  tape : w'.tape = w.tape
  output : w'.output = w.output
  size : w.heap.size ≤ w'.heap.size
  block : ∀ k, k < w.heap.size → k ≠ b → w'.heap[k]? = w.heap[k]?
theorem Only.ofExt {b : Nat} {w w' : World} (h : Ext w w') : Only b w w' := ⟨h.os, h.tape, h.output, h.size, fun k hk _ => h.block k hk⟩
theorem Only.trans {b : Nat} {x y z : World} (h : Only b x y) (k : Only b y z) : Only b x z := by
  refine ⟨by rw [k.os, h.os], by rw [k.tape, h.tape], by rw [k.output, h.output], Nat.le_trans h.size k.size, fun i hi hb => ?_⟩
  have := h.size
  rw [k.block i (by omega) hb, h.block i hi hb]
theorem Only.set {b : Nat} {w w' : World} (h : Only b w w') (i : Nat) (v : Value) : Only b w (w'.setCell ⟨b, i, none⟩ v) :=
  ⟨h.os, h.tape, h.output, by have := h.size; simpa using this, fun k hk hb => by rw [Below.heap_setCell _ _ _ _ hb]; exact h.block k hk hb⟩
/-- A world that was ahead of the block. -/
theorem Only.ext {a w w' : World} {b : Nat} (h : Only b w w') (e : Ext a w) (hb : a.heap.size ≤ b) : Ext a w' := by
  refine ⟨by rw [h.os, e.os], by rw [h.tape, e.tape], by rw [h.output, e.output], Nat.le_trans e.size h.size, fun k hk => ?_⟩
  have := e.size
  rw [h.block k (by omega) (by omega), e.block k hk]

/-- A block of eight labels. -/
def PBox (w : World) (b : Nat) (p : Nat → Int) : Prop := w.heap[b]? = some (.cells #[.int .i64 (p 0), .int .i64 (p 1), .int .i64 (p 2), .int .i64 (p 3), .int .i64 (p 4), .int .i64 (p 5), .int .i64 (p 6), .int .i64 (p 7)] 69 (0, 0))
theorem PBox.cell {w : World} {b : Nat} {p : Nat → Int} (h : PBox w b p) {i : Nat} (hi : i < 8) : w.cell? ⟨b, i, none⟩ = some (.int .i64 (p i)) := by
  have h' : w.heap[b]? = some _ := h
  rw [cell_of_row w b i _ _ _ h']
  match i, hi with
  | 0, _ => rfl
  | 1, _ => rfl
  | 2, _ => rfl
  | 3, _ => rfl
  | 4, _ => rfl
  | 5, _ => rfl
  | 6, _ => rfl
  | 7, _ => rfl
theorem PBox.free {w : World} {b : Nat} {p : Nat → Int} (h : PBox w b p) (i : Nat) : w.frozen? ⟨b, i, none⟩ = false := by
  have h' : w.heap[b]? = some _ := h
  simp [World.frozen?, h']
theorem PBox.set {w : World} {b : Nat} {p : Nat → Int} (h : PBox w b p) {i : Nat} (hi : i < 8) (v : Int) : PBox (w.setCell ⟨b, i, none⟩ (.int .i64 v)) b (fun k => if k = i then v else p k) := by
  have h' : w.heap[b]? = some _ := h
  show (w.setCell _ _).heap[b]? = _
  simp only [World.setCell, Array.getElem?_modify, if_true, h', Option.map_some]
  match i, hi with
  | 0, _ => simp
  | 1, _ => simp
  | 2, _ => simp
  | 3, _ => simp
  | 4, _ => simp
  | 5, _ => simp
  | 6, _ => simp
  | 7, _ => simp
theorem PBox.ext {w w' : World} {b : Nat} {p : Nat → Int} (h : PBox w b p) (e : Ext w w') : PBox w' b p := heap_ext h e
theorem PBox.congr {w : World} {b : Nat} {p q : Nat → Int} (h : PBox w b p) (e : ∀ i, i < 8 → p i = q i) : PBox w b q := by
  unfold PBox at h ⊢
  rw [← e 0 (by omega), ← e 1 (by omega), ← e 2 (by omega), ← e 3 (by omega), ← e 4 (by omega), ← e 5 (by omega), ← e 6 (by omega), ← e 7 (by omega)]
  exact h

/-- In the middle of a join. -/
def joinTo (p : Nat → Int) (a b k : Nat) : Nat → Int := fun i => if i < k then joinL p a b i else p i
theorem joinTo_succ (p : Nat → Int) (a b k i : Nat) : joinTo p a b (k + 1) i = if i = k then joinL p a b k else joinTo p a b k i := by
  unfold joinTo
  by_cases e : i = k
  · subst e; simp
  · rw [if_neg e]
    have : (i < k + 1) ↔ i < k := by omega
    simp only [this]

set_option maxRecDepth 20000 in
set_option maxHeartbeats 4000000 in
theorem join_any (b : Nat) (p : Nat → Int) (r : RoadD) (w : World) (hp : PBox w b p) (ha0 : 0 ≤ r.a) (ha8 : r.a < 8) (hb0 : 0 ≤ r.b) (hb8 : r.b < 8) :
    Calls Tryd.prog 41 #[.pointer (some ⟨b, 0, none⟩), .agg #[.int .i64 r.a, .int .i64 r.b, .int .i64 r.cost]] w fun e w' => e = .returned (.bool (p r.a.toNat != p r.b.toNat)) ∧ PBox w' b (joinL p r.a.toNat r.b.toNat) ∧ Only b w w' := by
  have HP := hid hp
  have hbw : b < w.heap.size := lt_of_block hp
  obtain ⟨b0, b1, b2⟩ := (Box3.alloc w 55 (.int .i64 r.a) (.int .i64 r.b) (.int .i64 r.cost)).cells
  have d1 := (hp.ext (Ext.ofAlloc w (.cells #[.int .i64 r.a, .int .i64 r.b, .int .i64 r.cost] 55))).cell (i := r.a.toNat) (by omega)
  have d2 := (hp.ext (Ext.ofAlloc w (.cells #[.int .i64 r.a, .int .i64 r.b, .int .i64 r.cost] 55))).cell (i := r.b.toNat) (by omega)
  have P0 := hid ((hp.ext (Ext.ofAlloc w (.cells #[.int .i64 r.a, .int .i64 r.b, .int .i64 r.cost] 55))).ext (Ext.refl _).drew)
  have O0 := hid (Only.ofExt (b := b) (Ext.ofAlloc w (.cells #[.int .i64 r.a, .int .i64 r.b, .int .i64 r.cost] 55)).drew)
  clear hp
  go_enter Tryd.func41, Tryd.ntmps41
  go_wp2
  refine wp_region_held_drew (S := (fun w' => w'.cell? ⟨w.heap.size, 0, none⟩ = some (.int .i64 r.a) ∧ w'.cell? ⟨w.heap.size, 1, none⟩ = some (.int .i64 r.b) ∧ w'.cell? ⟨b, r.a.toNat, none⟩ = some (.int .i64 (p r.a.toNat)) ∧ w'.cell? ⟨b, r.b.toNat, none⟩ = some (.int .i64 (p r.b.toNat)))) (by kernel_rfl) ?hSa0 (fun hHeld => ?_)
  case hSa0 => (first | (exact ⟨b0, b1, d1, d2⟩) | ((try dsimp only); exact ⟨b0, b1, d1, d2⟩))
  refine wpAnyH_tk 0 (v := ?va0) rfl (by kernel_rfl) (by kernel_rfl) (by kernel_rfl) (fun _ _ _ h => h) (by rfl) ?hya0 (by assumption) ?_
  case hya0 => (intro w hSw; (try dsimp only at hSw); go_simp <;> with_reducible rfl)
  (try simp only [Act.put, List.setIfInBounds_toArray, List.set_cons_zero, List.set_cons_succ])
  refine wpAnyH_tk 1 (v := ?va1) rfl (by kernel_rfl) (by kernel_rfl) (by kernel_rfl) (fun _ _ _ h => h) (by rfl) ?hya1 (by assumption) ?_
  case hya1 => (intro w hSw; (try dsimp only at hSw); go_simp <;> with_reducible rfl)
  (try simp only [Act.put, List.setIfInBounds_toArray, List.set_cons_zero, List.set_cons_succ])
  refine wpAnyH_tk 2 (v := ?va2) rfl (by kernel_rfl) (by kernel_rfl) (by kernel_rfl) (fun _ _ _ h => h) (by rfl) ?hya2 (by assumption) ?_
  case hya2 => (intro w hSw; (try dsimp only at hSw); go_simp <;> with_reducible rfl)
  (try simp only [Act.put, List.setIfInBounds_toArray, List.set_cons_zero, List.set_cons_succ])
  refine wpAnyH_tk 3 (v := ?va3) rfl (by kernel_rfl) (by kernel_rfl) (by kernel_rfl) (fun _ _ _ h => h) (by rfl) ?hya3 (by assumption) ?_
  case hya3 => (intro w hSw; (try dsimp only at hSw); go_simp <;> with_reducible rfl)
  (try simp only [Act.put, List.setIfInBounds_toArray, List.set_cons_zero, List.set_cons_succ])
  refine wpAnyH_tk 4 (v := ?va4) rfl (by kernel_rfl) (by kernel_rfl) (by kernel_rfl) (fun _ _ _ h => h) (by rfl) ?hya4 (by assumption) ?_
  case hya4 => (intro w hSw; (try dsimp only at hSw); go_simp <;> with_reducible rfl)
  (try simp only [Act.put, List.setIfInBounds_toArray, List.set_cons_zero, List.set_cons_succ])
  refine wpAnyH_tk 5 (v := ?va5) rfl (by kernel_rfl) (by kernel_rfl) (by kernel_rfl) (fun _ _ _ h => h) (by rfl) ?hya5 (by assumption) ?_
  case hya5 => (intro w hSw; (try dsimp only at hSw); go_simp <;> with_reducible rfl)
  (try simp only [Act.put, List.setIfInBounds_toArray, List.set_cons_zero, List.set_cons_succ])
  refine wpAnyH_tk 6 (v := ?va6) rfl (by kernel_rfl) (by kernel_rfl) (by kernel_rfl) (fun _ _ _ h => h) (by rfl) ?hya6 (by assumption) ?_
  case hya6 => (intro w hSw; (try dsimp only at hSw); go_simp <;> with_reducible rfl)
  (try simp only [Act.put, List.setIfInBounds_toArray, List.set_cons_zero, List.set_cons_succ])
  refine wpAnyH_tk 7 (v := ?va7) rfl (by kernel_rfl) (by kernel_rfl) (by kernel_rfl) (fun _ _ _ h => h) (by rfl) ?hya7 (by assumption) ?_
  case hya7 => (intro w hSw; (try dsimp only at hSw); go_simp <;> with_reducible rfl)
  (try simp only [Act.put, List.setIfInBounds_toArray, List.set_cons_zero, List.set_cons_succ])
  refine wpAnyH_tk 8 (v := ?va8) rfl (by kernel_rfl) (by kernel_rfl) (by kernel_rfl) (fun _ _ _ h => h) (by rfl) ?hya8 (by assumption) ?_
  case hya8 => (intro w hSw; (try dsimp only at hSw); go_simp <;> with_reducible rfl)
  (try simp only [Act.put, List.setIfInBounds_toArray, List.set_cons_zero, List.set_cons_succ])
  refine wpAnyH_tk 9 (v := ?va9) rfl (by kernel_rfl) (by kernel_rfl) (by kernel_rfl) (fun _ _ _ h => h) (by rfl) ?hya9 (by assumption) ?_
  case hya9 => (intro w hSw; (try dsimp only at hSw); go_simp <;> with_reducible rfl)
  (try simp only [Act.put, List.setIfInBounds_toArray, List.set_cons_zero, List.set_cons_succ])
  refine wpAnyH_tk 10 (v := ?va10) rfl (by kernel_rfl) (by kernel_rfl) (by kernel_rfl) (fun _ _ _ h => h) (by rfl) ?hya10 (by assumption) ?_
  case hya10 => (intro w hSw; (try dsimp only at hSw); go_simp <;> with_reducible rfl)
  (try simp only [Act.put, List.setIfInBounds_toArray, List.set_cons_zero, List.set_cons_succ])
  refine wpAnyH_tk 11 (v := ?va11) rfl (by kernel_rfl) (by kernel_rfl) (by kernel_rfl) (fun _ _ _ h => h) (by rfl) ?hya11 (by assumption) ?_
  case hya11 => (intro w hSw; (try dsimp only at hSw); go_simp <;> with_reducible rfl)
  (try simp only [Act.put, List.setIfInBounds_toArray, List.set_cons_zero, List.set_cons_succ])
  refine wpAnyH_tk 12 (v := ?va12) rfl (by kernel_rfl) (by kernel_rfl) (by kernel_rfl) (fun _ _ _ h => h) (by rfl) ?hya12 (by assumption) ?_
  case hya12 => (intro w hSw; (try dsimp only at hSw); go_simp <;> with_reducible rfl)
  (try simp only [Act.put, List.setIfInBounds_toArray, List.set_cons_zero, List.set_cons_succ])
  refine wpAnyH_tk 13 (v := ?va13) rfl (by kernel_rfl) (by kernel_rfl) (by kernel_rfl) (fun _ _ _ h => h) (by rfl) ?hya13 (by assumption) ?_
  case hya13 => (intro w hSw; (try dsimp only at hSw); go_simp <;> with_reducible rfl)
  (try simp only [Act.put, List.setIfInBounds_toArray, List.set_cons_zero, List.set_cons_succ])
  refine wpAnyH_done (by kernel_rfl) ?_ _
  clear b0 b1 b2 d1 d2 hHeld
  generalize (w.alloc (.cells #[.int .i64 r.a, .int .i64 r.b, .int .i64 r.cost] 55)).drew = W at P0 O0 ⊢
  obtain ⟨x, hx⟩ : ∃ x, x = p r.a.toNat := ⟨_, rfl⟩
  obtain ⟨y, hy⟩ : ∃ y, y = p r.b.toNat := ⟨_, rfl⟩
  rw [← hx, ← hy]
  have HX := hid hx
  have HY := hid hy
  clear hx hy
  go_wp2
  go_loopg [20] 8 (fun g i wr => ∃ k : Nat, k + g = 8 ∧ i = .int .i64 k ∧ Hid (PBox wr b (joinTo p r.a.toNat r.b.toNat k)) ∧ Hid (Only b w wr))
  case atStart => exact ⟨0, by omega, rfl, P0.out.congr (fun i _ => by unfold joinTo; simp), O0⟩
  case round =>
    clear P0 O0
    obtain ⟨k, hk, rfl, PB, O⟩ := hrel
    have hk8 : k ≤ 8 := by omega
    have Hk := hid hk
    clear hk
    by_cases hlt : k < 8
    · have dk := PB.out.cell hlt
      have fr := PB.out.free k
      have e0 : joinTo p r.a.toNat r.b.toNat k k = p k := by unfold joinTo; simp
      rw [e0] at dk
      obtain ⟨z, hz⟩ : ∃ z, z = p k := ⟨_, rfl⟩
      rw [← hz] at dk
      have HZ := hid hz
      clear hz e0
      by_cases l1 : x < y
      · have l2 : ¬ y < x := by omega
        by_cases ez : z = y
        · have ezb : (z == y) = true := beq_iff_eq.2 ez
          have HJ : Hid (joinL p r.a.toNat r.b.toNat k = x) := by
            show _ = _
            unfold joinL
            rw [← HX.out, ← HY.out, ← HZ.out, if_pos (by omega)]; omega
          have H1 := hid ((PB.out.set hlt (x)).congr (q := joinTo p r.a.toNat r.b.toNat (k + 1)) (fun i _ => by rw [joinTo_succ, HJ.out]))
          have O1 := hid (O.out.set k (.int .i64 (x)))
          clear ez
          go_wp2
          go_roundg (gk - 1)
          case rel => exact ⟨k + 1, by have := Hk.out; omega, by go_num, H1.out, O1.out⟩
          case measure => have := Hk.out; omega
        · have ezb : (z == y) = false := beq_eq_false_iff_ne.2 ez
          have HJ : Hid (joinL p r.a.toNat r.b.toNat k = z) := by
            show _ = _
            unfold joinL
            rw [← HX.out, ← HY.out, ← HZ.out, if_neg (by omega)]
          have H1 := hid (PB.out.congr (q := joinTo p r.a.toNat r.b.toNat (k + 1)) (fun i _ => by
            rw [joinTo_succ]
            by_cases e : i = k
            · subst e
              rw [if_pos rfl, HJ.out, HZ.out]; unfold joinTo; simp
            · rw [if_neg e]))
          clear ez
          go_wp2
          go_roundg (gk - 1)
          case rel => exact ⟨k + 1, by have := Hk.out; omega, by go_num, H1.out, O.out⟩
          case measure => have := Hk.out; omega
      · by_cases l2 : y < x
        · skip
          by_cases ez : z = x
          · have ezb : (z == x) = true := beq_iff_eq.2 ez
            have HJ : Hid (joinL p r.a.toNat r.b.toNat k = y) := by
              show _ = _
              unfold joinL
              rw [← HX.out, ← HY.out, ← HZ.out, if_pos (by omega)]; omega
            have H1 := hid ((PB.out.set hlt (y)).congr (q := joinTo p r.a.toNat r.b.toNat (k + 1)) (fun i _ => by rw [joinTo_succ, HJ.out]))
            have O1 := hid (O.out.set k (.int .i64 (y)))
            clear ez
            go_wp2
            go_roundg (gk - 1)
            case rel => exact ⟨k + 1, by have := Hk.out; omega, by go_num, H1.out, O1.out⟩
            case measure => have := Hk.out; omega
          · have ezb : (z == x) = false := beq_eq_false_iff_ne.2 ez
            have HJ : Hid (joinL p r.a.toNat r.b.toNat k = z) := by
              show _ = _
              unfold joinL
              rw [← HX.out, ← HY.out, ← HZ.out, if_neg (by omega)]
            have H1 := hid (PB.out.congr (q := joinTo p r.a.toNat r.b.toNat (k + 1)) (fun i _ => by
              rw [joinTo_succ]
              by_cases e : i = k
              · subst e
                rw [if_pos rfl, HJ.out, HZ.out]; unfold joinTo; simp
              · rw [if_neg e]))
            clear ez
            go_wp2
            go_roundg (gk - 1)
            case rel => exact ⟨k + 1, by have := Hk.out; omega, by go_num, H1.out, O.out⟩
            case measure => have := Hk.out; omega
        · skip
          by_cases ez : z = x
          · have ezb : (z == x) = true := beq_iff_eq.2 ez
            have HJ : Hid (joinL p r.a.toNat r.b.toNat k = x) := by
              show _ = _
              unfold joinL
              rw [← HX.out, ← HY.out, ← HZ.out, if_pos (by omega)]; omega
            have H1 := hid ((PB.out.set hlt (x)).congr (q := joinTo p r.a.toNat r.b.toNat (k + 1)) (fun i _ => by rw [joinTo_succ, HJ.out]))
            have O1 := hid (O.out.set k (.int .i64 (x)))
            clear ez
            go_wp2
            go_roundg (gk - 1)
            case rel => exact ⟨k + 1, by have := Hk.out; omega, by go_num, H1.out, O1.out⟩
            case measure => have := Hk.out; omega
          · have ezb : (z == x) = false := beq_eq_false_iff_ne.2 ez
            have HJ : Hid (joinL p r.a.toNat r.b.toNat k = z) := by
              show _ = _
              unfold joinL
              rw [← HX.out, ← HY.out, ← HZ.out, if_neg (by omega)]
            have H1 := hid (PB.out.congr (q := joinTo p r.a.toNat r.b.toNat (k + 1)) (fun i _ => by
              rw [joinTo_succ]
              by_cases e : i = k
              · subst e
                rw [if_pos rfl, HJ.out, HZ.out]; unfold joinTo; simp
              · rw [if_neg e]))
            clear ez
            go_wp2
            go_roundg (gk - 1)
            case rel => exact ⟨k + 1, by have := Hk.out; omega, by go_num, H1.out, O.out⟩
            case measure => have := Hk.out; omega
    · have h1 : PBox wr b (joinL p r.a.toNat r.b.toNat) := PB.out.congr (fun i hi => by unfold joinTo; rw [if_pos (by omega)])
      have H1 := hid h1
      clear h1
      go_wp2
      go_ret
      exact ⟨ret_bool (by rw [← HX.out, ← HY.out]), H1.out, O.out⟩

end Go.Proofs.YtkbkgkmogbkabaaDoor

/-
  Contract of apart.
-/
namespace Go.Proofs.YtkbkgkmogbkabaaDoor
open Go.RowKit

def upTo (k : Nat) : Nat → Int := fun i => if i < k then (i : Int) else 0
theorem PBox.other {w : World} {b b' : Nat} {p : Nat → Int} (h : PBox w b p) (hb : b' ≠ b) (i : Nat) (v : Value) : PBox (w.setCell ⟨b', i, none⟩ v) b p := by
  show (w.setCell _ _).heap[b]? = _
  simp only [World.setCell, Array.getElem?_modify]
  rw [if_neg hb]; exact h

set_option maxRecDepth 20000 in
set_option maxHeartbeats 4000000 in
theorem apart_any (w : World) : Calls Tryd.prog 36 #[] w fun e w' => e = .returned (.agg #[.int .i64 0, .int .i64 1, .int .i64 2, .int .i64 3, .int .i64 4, .int .i64 5, .int .i64 6, .int .i64 7]) ∧ Ext w w' := by
  go_enter Tryd.func36, Tryd.ntmps36
  go_wp2
  have h0 : PBox ((w.alloc (.cells #[.int .i64 0, .int .i64 0, .int .i64 0, .int .i64 0, .int .i64 0, .int .i64 0, .int .i64 0, .int .i64 0] 69)).alloc (.cells #[.int .i64 0, .int .i64 0, .int .i64 0, .int .i64 0, .int .i64 0, .int .i64 0, .int .i64 0, .int .i64 0] 69)) w.heap.size (fun _ => 0) := heap_ext (heap_alloc_new w _) (Ext.ofAlloc _ _)
  have h1 : PBox ((w.alloc (.cells #[.int .i64 0, .int .i64 0, .int .i64 0, .int .i64 0, .int .i64 0, .int .i64 0, .int .i64 0, .int .i64 0] 69)).alloc (.cells #[.int .i64 0, .int .i64 0, .int .i64 0, .int .i64 0, .int .i64 0, .int .i64 0, .int .i64 0, .int .i64 0] 69)) (w.heap.size + 1) (upTo 0) := by
    have h := heap_alloc_new (w.alloc (.cells #[.int .i64 0, .int .i64 0, .int .i64 0, .int .i64 0, .int .i64 0, .int .i64 0, .int .i64 0, .int .i64 0] 69)) (.cells #[.int .i64 0, .int .i64 0, .int .i64 0, .int .i64 0, .int .i64 0, .int .i64 0, .int .i64 0, .int .i64 0] 69)
    rw [World.size_alloc] at h
    exact h
  have H0 := hid h0
  have H1 := hid h1
  have HE := hid ((Ext.ofAlloc w (.cells #[.int .i64 0, .int .i64 0, .int .i64 0, .int .i64 0, .int .i64 0, .int .i64 0, .int .i64 0, .int .i64 0] 69)).alloc (.cells #[.int .i64 0, .int .i64 0, .int .i64 0, .int .i64 0, .int .i64 0, .int .i64 0, .int .i64 0, .int .i64 0] 69))
  clear h0 h1
  go_loopg [3] 8 (fun g i wr => ∃ k : Nat, k + g = 8 ∧ i = .int .i64 k ∧ Hid (PBox wr (w.heap.size + 1) (upTo k)) ∧ Hid (PBox wr w.heap.size (fun _ => 0)) ∧ Hid (Ext w wr))
  case atStart => exact ⟨0, by omega, rfl, H1, H0, HE⟩
  case round =>
    clear H0 H1 HE
    obtain ⟨k, hk, rfl, H1, H0, E⟩ := hrel
    have hk8 : k ≤ 8 := by omega
    have Hk := hid hk
    clear hk
    by_cases hlt : k < 8
    · have dk := H1.out.cell hlt
      have fr := H1.out.free k
      have h2 : PBox (wr.setCell ⟨w.heap.size + 1, k, none⟩ (.int .i64 k)) (w.heap.size + 1) (upTo (k + 1)) := (H1.out.set hlt (k : Int)).congr (fun i _ => by
        unfold upTo
        by_cases e : i = k
        · subst e; simp
        · have : (i < k + 1) ↔ i < k := by omega
          simp only [e, this, if_false])
      have H2 := hid h2
      have H3 := hid (H0.out.other (by omega : w.heap.size + 1 ≠ w.heap.size) k (.int .i64 k))
      have E2 := hid (E.out.setCell (Nat.le_succ _ : w.heap.size ≤ w.heap.size + 1) k (.int .i64 k))
      clear h2
      go_wp2
      go_roundg (gk - 1)
      case rel => exact ⟨k + 1, by have := Hk.out; omega, by go_num, H2.out, H3.out, E2.out⟩
      case measure => have := Hk.out; omega
    · have ek : k = 8 := by omega
      subst ek
      have d0 := H1.out.cell (i := 0) (by omega)
      have d1 := H1.out.cell (i := 1) (by omega)
      have d2 := H1.out.cell (i := 2) (by omega)
      have d3 := H1.out.cell (i := 3) (by omega)
      have d4 := H1.out.cell (i := 4) (by omega)
      have d5 := H1.out.cell (i := 5) (by omega)
      have d6 := H1.out.cell (i := 6) (by omega)
      have d7 := H1.out.cell (i := 7) (by omega)
      have z0 := H0.out.cell (i := 0) (by omega)
      have z1 := H0.out.cell (i := 1) (by omega)
      have z2 := H0.out.cell (i := 2) (by omega)
      have z3 := H0.out.cell (i := 3) (by omega)
      have z4 := H0.out.cell (i := 4) (by omega)
      have z5 := H0.out.cell (i := 5) (by omega)
      have z6 := H0.out.cell (i := 6) (by omega)
      have z7 := H0.out.cell (i := 7) (by omega)
      have f0 := H0.out.free 0
      have f1 := H0.out.free 1
      have f2 := H0.out.free 2
      have f3 := H0.out.free 3
      have f4 := H0.out.free 4
      have f5 := H0.out.free 5
      have f6 := H0.out.free 6
      have f7 := H0.out.free 7
      go_wp2
      clear d0 d1 d2 d3 d4 d5 d6 d7 z0 z1 z2 z3 z4 z5 z6 z7 f0 f1 f2 f3 f4 f5 f6 f7
      have PF : PBox ((((((((wr.setCell ⟨w.heap.size, 0, none⟩ (.int .i64 (upTo 8 0))).setCell ⟨w.heap.size, 1, none⟩ (.int .i64 (upTo 8 1))).setCell ⟨w.heap.size, 2, none⟩ (.int .i64 (upTo 8 2))).setCell ⟨w.heap.size, 3, none⟩ (.int .i64 (upTo 8 3))).setCell ⟨w.heap.size, 4, none⟩ (.int .i64 (upTo 8 4))).setCell ⟨w.heap.size, 5, none⟩ (.int .i64 (upTo 8 5))).setCell ⟨w.heap.size, 6, none⟩ (.int .i64 (upTo 8 6))).setCell ⟨w.heap.size, 7, none⟩ (.int .i64 (upTo 8 7))) w.heap.size (fun i => (i : Int)) := ((((((((H0.out.set (i := 0) (by omega) (upTo 8 0)).set (i := 1) (by omega) (upTo 8 1)).set (i := 2) (by omega) (upTo 8 2)).set (i := 3) (by omega) (upTo 8 3)).set (i := 4) (by omega) (upTo 8 4)).set (i := 5) (by omega) (upTo 8 5)).set (i := 6) (by omega) (upTo 8 6)).set (i := 7) (by omega) (upTo 8 7)).congr (fun i hi => by
        match i, hi with
        | 0, _ => rfl
        | 1, _ => rfl
        | 2, _ => rfl
        | 3, _ => rfl
        | 4, _ => rfl
        | 5, _ => rfl
        | 6, _ => rfl
        | 7, _ => rfl)
      have EF := hid ((((((((E.out.setCell (Nat.le_refl w.heap.size) 0 (.int .i64 (upTo 8 0))).setCell (Nat.le_refl w.heap.size) 1 (.int .i64 (upTo 8 1))).setCell (Nat.le_refl w.heap.size) 2 (.int .i64 (upTo 8 2))).setCell (Nat.le_refl w.heap.size) 3 (.int .i64 (upTo 8 3))).setCell (Nat.le_refl w.heap.size) 4 (.int .i64 (upTo 8 4))).setCell (Nat.le_refl w.heap.size) 5 (.int .i64 (upTo 8 5))).setCell (Nat.le_refl w.heap.size) 6 (.int .i64 (upTo 8 6))).setCell (Nat.le_refl w.heap.size) 7 (.int .i64 (upTo 8 7)))
      generalize ((((((((wr.setCell ⟨w.heap.size, 0, none⟩ (.int .i64 (upTo 8 0))).setCell ⟨w.heap.size, 1, none⟩ (.int .i64 (upTo 8 1))).setCell ⟨w.heap.size, 2, none⟩ (.int .i64 (upTo 8 2))).setCell ⟨w.heap.size, 3, none⟩ (.int .i64 (upTo 8 3))).setCell ⟨w.heap.size, 4, none⟩ (.int .i64 (upTo 8 4))).setCell ⟨w.heap.size, 5, none⟩ (.int .i64 (upTo 8 5))).setCell ⟨w.heap.size, 6, none⟩ (.int .i64 (upTo 8 6))).setCell ⟨w.heap.size, 7, none⟩ (.int .i64 (upTo 8 7))) = WF at PF EF ⊢
      have q0 := PF.cell (i := 0) (by omega)
      have q1 := PF.cell (i := 1) (by omega)
      have q2 := PF.cell (i := 2) (by omega)
      have q3 := PF.cell (i := 3) (by omega)
      have q4 := PF.cell (i := 4) (by omega)
      have q5 := PF.cell (i := 5) (by omega)
      have q6 := PF.cell (i := 6) (by omega)
      have q7 := PF.cell (i := 7) (by omega)
      refine bodyPost_ret (v := .agg #[.int .i64 0, .int .i64 1, .int .i64 2, .int .i64 3, .int .i64 4, .int .i64 5, .int .i64 6, .int .i64 7]) (by simp [results, Tryd.results36, go_sem, q0, q1, q2, q3, q4, q5, q6, q7]) rfl ?_
      exact ⟨rfl, EF.out⟩

end Go.Proofs.YtkbkgkmogbkabaaDoor

/-
  Moats: what a slice of moats reads as; the statements' copy of moats.
-/
namespace Go.Proofs.YtkbkgkmogbkabaaDoor
open Go.RowKit

/-- A moat, as data. -/
structure MoatD where
  set : Int
  width : Int
deriving DecidableEq
instance : Inhabited MoatD := ⟨⟨0, 0⟩⟩
def MoatD.cells (r : MoatD) : List Value := [.int .i64 r.set, .int .i64 r.width]
def mcells (rs : List MoatD) : List Value := rs.flatMap MoatD.cells
theorem mcells_len (rs : List MoatD) : (mcells rs).length = rs.length * 2 := by
  induction rs with
  | nil => rfl
  | cons q rs ih =>
    have e : mcells (q :: rs) = .int .i64 q.set :: .int .i64 q.width :: mcells rs := rfl
    rw [e, List.length_cons, List.length_cons, ih, List.length_cons]; omega
theorem mcells_get : ∀ (rs : List MoatD) (i : Nat) (h : i < rs.length), (mcells rs)[i * 2]? = some (.int .i64 rs[i].set) ∧ (mcells rs)[i * 2 + 1]? = some (.int .i64 rs[i].width)
  | [], i, h => by simp at h
  | q :: rs, 0, h => ⟨rfl, rfl⟩
  | q :: rs, i + 1, h => by
    have ih := mcells_get rs i (by simpa using h)
    have e : mcells (q :: rs) = .int .i64 q.set :: .int .i64 q.width :: mcells rs := rfl
    rw [e, show (i + 1) * 2 = i * 2 + 1 + 1 from by omega]
    exact ih
theorem mcells_app (xs ys : List MoatD) : mcells (xs ++ ys) = mcells xs ++ mcells ys := by unfold mcells; rw [List.flatMap_append]

/-- The slice v reads as moats. -/
def Moats (w : World) (v : Value) (rs : List MoatD) : Prop :=
  rs.length ≤ 8796093022208 ∧ ∃ ao cap, v = .slice ao rs.length cap ∧ rs.length ≤ cap ∧
    ∀ i, (h : i < rs.length) → ∃ b off, ao = some ⟨b, off, none⟩ ∧ w.cell? ⟨b, off + i * 2, none⟩ = some (.int .i64 rs[i].set) ∧ w.cell? ⟨b, off + i * 2 + 1, none⟩ = some (.int .i64 rs[i].width)
theorem Moats.ext {w w' : World} {v : Value} {rs : List MoatD} (h : Moats w v rs) (e : Ext w w') : Moats w' v rs := by
  obtain ⟨hl, ao, cap, rfl, hcap, hc⟩ := h
  refine ⟨hl, ao, cap, rfl, hcap, fun i hi => ?_⟩
  obtain ⟨b, off, ha, h1, h2⟩ := hc i hi
  exact ⟨b, off, ha, e.cell h1, e.cell h2⟩
def moatAt (rs : List MoatD) (i : Nat) : MoatD := rs.getD i ⟨0, 0⟩
theorem moatAt_get {rs : List MoatD} {i : Nat} (h : i < rs.length) : moatAt rs i = rs[i] := by
  unfold moatAt; rw [List.getD_eq_getElem?_getD, List.getElem?_eq_getElem h]; rfl
theorem moatAt_mem {rs : List MoatD} {i : Nat} (h : i < rs.length) : moatAt rs i ∈ rs := by rw [moatAt_get h]; exact List.getElem_mem h
theorem Moats.get {w : World} {ao : Option Addr} {n cap : Nat} {rs : List MoatD} (h : Moats w (.slice ao n cap) rs) (i : Nat) (hi : i < rs.length) :
    ∃ b off, ao = some ⟨b, off, none⟩ ∧ (∀ w', Ext w w' → w'.cell? ⟨b, off + i * 2, none⟩ = some (.int .i64 (moatAt rs i).set) ∧ w'.cell? ⟨b, off + i * 2 + 1, none⟩ = some (.int .i64 (moatAt rs i).width)) := by
  obtain ⟨hl, ao', cap', he, hcap, hc⟩ := h
  simp only [Value.slice.injEq] at he
  obtain ⟨rfl, rfl, rfl⟩ := he
  obtain ⟨b, off, ha, h1, h2⟩ := hc i hi
  rw [moatAt_get hi]
  exact ⟨b, off, ha, fun w' e => ⟨e.cell h1, e.cell h2⟩⟩
theorem Moats.shape {w : World} {v : Value} {rs : List MoatD} (h : Moats w v rs) : ∃ ao cap, v = .slice ao rs.length cap := by
  obtain ⟨-, ao, cap, rfl, -⟩ := h; exact ⟨_, _, rfl⟩

/-- Moats of the call's own. -/
abbrev OwnMt (B : Nat) (w : World) (v : Value) (rs : List MoatD) : Prop := w.ownsRow B 74 2 v rs.length (mcells rs)
theorem OwnMt.moats {B : Nat} {w : World} {v : Value} {rs : List MoatD} (h : OwnMt B w v rs) (hl : rs.length ≤ 8796093022208) : Moats w v rs := by
  refine ⟨hl, ?_⟩
  have h0 := h
  obtain ⟨hlen, h | ⟨g, cap, cur, rfl, hg, hh, hn, hm, hs, ht⟩⟩ := h
  · obtain ⟨rfl, hn⟩ := h
    exact ⟨none, 0, by rw [hn], by omega, fun i hi => by omega⟩
  · refine ⟨_, cap, rfl, hn, fun i hi => ⟨g, 0, rfl, ?_, ?_⟩⟩
    · have h2 := World.ownsRow.cells h0 rfl (i * 2) _ (mcells_get rs i hi).1
      rw [Addr.add_lit] at h2; exact h2
    · have h2 := World.ownsRow.cells h0 rfl (i * 2 + 1) _ (mcells_get rs i hi).2
      rw [Addr.add_lit] at h2; exact h2
theorem OwnMt.push {B : Nat} {w' : World} {v' : Value} {rs : List MoatD} {r : MoatD} {n : Nat} (hn : n = rs.length + 1) (h : w'.ownsRow B 74 2 v' n (mcells rs ++ r.cells)) : OwnMt B w' v' (rs ++ [r]) := by
  subst hn
  show w'.ownsRow B _ 2 v' (rs ++ [r]).length (mcells (rs ++ [r]))
  rw [List.length_append, mcells_app]
  have e : mcells [r] = r.cells := by simp [mcells]
  rw [e]; exact h
theorem info_moat : (Tryd.prog.info? 74).map (fun i => (i.zero, i.size, i.bytes)) = some (some (.agg #[.int .i64 0, .int .i64 0]), 2, 16) := by kernel_rfl
theorem cell_two_new (w : World) (t : TypeId) (x y : Value) : ∀ (j : Nat) (u : Value), [x, y][j]? = some u → (w.alloc (.cells #[x, y] t)).cell? ((⟨w.heap.size, 0, none⟩ : Addr).add j) = some u := by
  intro j u hj
  obtain ⟨c0, c1⟩ := (Box2.alloc w t x y).cells
  rw [Addr.add_lit]
  match j, hj with
  | 0, hj => simp at hj; subst hj; exact c0
  | 1, hj => simp at hj; subst hj; exact c1

def cutMo (rs : List MoatD) (k : Nat) : List MoatD := (rs.take k).take 202
theorem cutMo_hit {rs : List MoatD} {k : Nat} (hk : k < rs.length) (h : k < 202) : cutMo rs (k + 1) = cutMo rs k ++ [moatAt rs k] := by
  unfold cutMo
  rw [List.take_take, List.take_take, Nat.min_eq_right (by omega), Nat.min_eq_right (by omega), List.take_succ_eq_append_getElem hk, moatAt_get hk]
theorem cutMo_miss {rs : List MoatD} {k : Nat} (h : 202 ≤ k) : cutMo rs (k + 1) = cutMo rs k := by
  unfold cutMo
  rw [List.take_take, List.take_take, Nat.min_eq_left (by omega), Nat.min_eq_left (by omega)]
theorem cutMo_len (rs : List MoatD) (k : Nat) : (cutMo rs k).length ≤ 202 := by unfold cutMo; rw [List.length_take]; omega
theorem cutMo_all (rs : List MoatD) : cutMo rs rs.length = rs.take 202 := by unfold cutMo; rw [List.take_of_length_le (Nat.le_refl _)]

set_option maxRecDepth 20000 in
set_option maxHeartbeats 4000000 in
theorem moats_any (v : Value) (ms : List MoatD) (w : World) (hm : Moats w v ms) :
    Calls Tryd.prog 26 #[v] w fun e w' => ∃ u, e = .returned u ∧ OwnMt w.heap.size w' u (ms.take 202) ∧ Ext w w' := by
  obtain ⟨ao, cap, rfl⟩ := hm.shape
  have HM := hid hm
  have hlen : ms.length ≤ 8796093022208 := hm.1
  obtain ⟨i0, hi, hz0, hz1, hz2⟩ := info_parts info_moat
  clear hm
  have HO0 : Hid (OwnMt w.heap.size w (.slice none 0 0) (cutMo ms 0)) := World.ownsRow_nil _ _ _ _
  go_enter Tryd.func26, Tryd.ntmps26
  go_wp2
  go_loopg [8, 3] ms.length (fun g i u wr => ∃ k : Nat, k + g = ms.length ∧ i = .int .i64 k ∧ Hid (OwnMt w.heap.size wr u (cutMo ms k)) ∧ Hid (Ext w wr))
  case atStart => exact ⟨0, by omega, rfl, HO0, Ext.refl _⟩
  case round =>
    clear HO0
    obtain ⟨k, hk, rfl, OWN, E⟩ := hrel
    have hkl : k ≤ ms.length := by omega
    have Hk := hid hk
    clear hk
    by_cases hlt : k < ms.length
    · obtain ⟨b, off, rfl, hc⟩ := Moats.get HM.out k hlt
      obtain ⟨c0, c1⟩ := hc _ E.out
      obtain ⟨av, nv, cv, rfl⟩ := own_shape OWN.out
      have hsz := E.out.size
      clear hc
      by_cases h18 : k < 202
      · have Hc := hid (cutMo_hit hlt h18)
        have hcl := cutMo_len ms k
        generalize moatAt ms k = r at *
        have O2 := hid ((World.ownsRow.alloc OWN.out (.cells #[.int .i64 r.set, .int .i64 r.width] 76)).alloc (.cells #[.int .i64 r.set, .int .i64 r.width] 74))
        have hE := hid ((E.out.alloc (.cells #[.int .i64 r.set, .int .i64 r.width] 76)).alloc (.cells #[.int .i64 r.set, .int .i64 r.width] 74))
        obtain ⟨d0, d1⟩ := (Box2.alloc wr 76 (.int .i64 r.set) (.int .i64 r.width)).cells
        go_wp2_with (at_builtin; go_must (refine wpList_append_own _ rfl _ _ 40 rfl w.heap.size 74 i0 (.agg #[.int .i64 0, .int .i64 0]) 2 16 Tryd.underlying40 hi hz0 hz1 hz2 rfl (by decide) _ _ _ rfl O2.out ⟨wr.heap.size + 1, 0, none⟩ 1 1 [.int .i64 r.set, .int .i64 r.width] rfl rfl ?c1 ?c2 ?c3 ?c4 ?c5 ?_))
        case c1 =>
          have h := cell_two_new (wr.alloc (.cells #[.int .i64 r.set, .int .i64 r.width] 76)) 74 (.int .i64 r.set) (.int .i64 r.width)
          rw [World.size_alloc] at h
          exact h
        case c2 => intro u hu; simp at hu; rcases hu with rfl | rfl <;> rfl
        case c3 => unfold maxLen; omega
        case c4 => omega
        case c5 => simp; omega
        intro v' w7 hown' hg _
        have hR := OwnMt.push rfl hown'
        rw [← Hc.out] at hR
        have hB := (Below.refl w.heap.size _).grown hg (by simp; omega) (fun k hk => (O2.out.lt k hk).1)
        have HE7 : Hid (Ext w w7) := hE.out.trans' hB (Nat.le_refl _)
        have HR7 := hid hR
        clear hown' hg hR hB c0 c1 d0 d1
        go_wp2
        go_roundg (gk - 1)
        case rel => exact ⟨k + 1, by have := Hk.out; omega, by go_num, HR7.out, HE7.out⟩
        case measure => have := Hk.out; omega
      · have Hc := hid (cutMo_miss (rs := ms) (k := k) (by omega))
        generalize moatAt ms k = r at *
        have HE := hid (E.out.alloc (.cells #[.int .i64 r.set, .int .i64 r.width] 76))
        have O2 := hid (World.ownsRow.alloc OWN.out (.cells #[.int .i64 r.set, .int .i64 r.width] 76))
        go_wp2
        go_roundg (gk - 1)
        case rel => exact ⟨k + 1, by have := Hk.out; omega, by go_num, by rw [Hc.out]; exact O2.out, HE.out⟩
        case measure => have := Hk.out; omega
    · have ek : k = ms.length := by omega
      have hO := OWN.out
      rw [ek, cutMo_all] at hO
      have HO := hid hO
      clear ek hO
      go_wp2
      go_ret
      exact ⟨_, rfl, HO.out, E.out⟩

end Go.Proofs.YtkbkgkmogbkabaaDoor
