/-
  Way where there is none.
-/
import Derived.Test.YtkbkgkmogbkabaaDoorRtWayTop
namespace Go.Proofs.YtkbkgkmogbkabaaDoor
open Go.RowKit

set_option maxRecDepth 20000 in
set_option maxHeartbeats 16000000 in
theorem Way_far (vr : Value) (N : Nat) (rs : List RoadD) (a b : Nat) (w : World) (hv : Roads w vr rs) (hok : mapOk ⟨N, rs⟩ = true) (ha : a < N) (hb : b < N) (hf : far ≤ fw (costTo rs) N a b) :
    Calls Tryd.prog 33 #[.agg #[.int .i64 N, vr], .int .i64 a, .int .i64 b] w fun e w' => e = .returned (.tuple #[.slice none 0 0, .int .i64 4]) ∧ Ext w w' := by
  obtain ⟨ao, cap, rfl⟩ := hv.shape
  have HV := hid hv
  have hok2 := hok
  unfold mapOk at hok2
  rw [Bool.and_eq_true, decide_eq_true_iff, List.all_eq_true] at hok2
  obtain ⟨⟨h1, h8, h16⟩, hall⟩ := hok2
  dsimp only at h1 h8 h16 hall
  have hN1 : 1 ≤ N := by omega
  have hN8 : N ≤ 8 := by omega
  have HAll := hid hall
  have HOk := hid hok
  have HF := hid hf
  have TAB := hid (costs_tab HAll.out)
  have HSA : Hid (stopB N a = true) := by show _ = _; unfold stopB; rw [decide_eq_true_iff]; omega
  have HSB : Hid (stopB N b = true) := by show _ = _; unfold stopB; rw [decide_eq_true_iff]; omega
  have X0 := hid (Box2.alloc w 31 (.int .i64 N) (.slice ao rs.length cap))
  clear hv hok hall hf
  go_enter Tryd.func33, Tryd.ntmps33
  go_wp2_with (fail)
  refine (valid_any _ ⟨N, rs⟩ _ (Roads.ext HV.out (((Ext.ofAlloc _ _).alloc _).alloc _))).mono ?_
  rw [HOk.out]
  rintro e w1 ⟨rfl, he⟩
  have HE := hid ((((Ext.ofAlloc w _).alloc _).alloc _).trans he)
  obtain ⟨c0, c1⟩ := (((X0.out.ext (Ext.ofAlloc _ _)).ext (Ext.ofAlloc _ _)).ext he).cells
  have ca : w1.cell? ⟨w.heap.size + 1, 0, none⟩ = some (.int .i64 a) := by have h := he.cell ((Ext.ofAlloc _ _).cell (World.cell?_alloc_new _ _ _ 0)); simpa using h
  have cb : w1.cell? ⟨w.heap.size + 1 + 1, 0, none⟩ = some (.int .i64 b) := by have h := he.cell (World.cell?_alloc_new _ _ _ 0); simpa using h
  clear he
  go_wp2_with (fail)
  refine (stop_any _ ⟨N, rs⟩ a _ (Roads.ext HV.out HE.out)).mono ?_
  rw [HSA.out]
  rintro e w2 ⟨rfl, he⟩
  replace HE := hid (HE.out.trans he)
  replace c0 := he.cell c0
  replace c1 := he.cell c1
  replace ca := he.cell ca
  replace cb := he.cell cb
  clear he
  go_wp2_with (fail)
  refine (stop_any _ ⟨N, rs⟩ b _ (Roads.ext HV.out HE.out)).mono ?_
  rw [HSB.out]
  rintro e w4 ⟨rfl, he⟩
  replace HE := hid (HE.out.trans he)
  replace c0 := he.cell c0
  replace c1 := he.cell c1
  replace ca := he.cell ca
  replace cb := he.cell cb
  clear he
  go_wp2
  have HKEEP : Hid (∀ w', Ext w4 w' → (w'.cell? ⟨w.heap.size, 0, none⟩ = some (.int .i64 N) ∧ w'.cell? ⟨w.heap.size, 1, none⟩ = some (.slice ao rs.length cap))) := fun w' e => ⟨e.cell c0, e.cell c1⟩
  have E := hid ((Ext.refl w4).drew)
  have CA := hid ca
  have CB := hid cb
  have C0 := hid c0
  clear c0 c1 ca cb
  apply wp_mid (F := Tables w4 N rs)
  case h1 =>
    refine wp_region_held_drew (S := (fun w' => (w'.cell? ⟨w.heap.size, 0, none⟩ = some (.int .i64 N) ∧ w'.cell? ⟨w.heap.size, 1, none⟩ = some (.slice ao rs.length cap)))) (by kernel_rfl) ?hSa0 (fun hHeld => ?_)
    case hSa0 => exact HKEEP.out _ E.out
    refine wpAnyH_tk 0 (v := ?va0x1) rfl (by kernel_rfl) (by kernel_rfl) (by kernel_rfl) (fun _ _ _ h => h) (by rfl) ?hya0x1 (by assumption) ?_
    case hya0x1 => (intro w hSw; (try dsimp only at hSw); go_simp <;> with_reducible rfl)
    (try simp only [Act.put, List.setIfInBounds_toArray, List.set_cons_zero, List.set_cons_succ])
    refine wpAnyH_tk 2 (v := ?va2x2) rfl (by kernel_rfl) (by kernel_rfl) (by kernel_rfl) (fun _ _ _ h => h) (by rfl) ?hya2x2 (by assumption) ?_
    case hya2x2 => (intro w hSw; (try dsimp only at hSw); go_simp <;> with_reducible rfl)
    (try simp only [Act.put, List.setIfInBounds_toArray, List.set_cons_zero, List.set_cons_succ])
    refine wpAnyH_three 1 4 5 rfl rfl rfl (by kernel_rfl) (by rfl) (by rfl) (by rfl) (fun K hK => ?_) (fun K hK => ?_) (fun K hK => ?_)
    · skip
      go_simp
      refine (distances_any _ N rs _ (Roads.ext HV.out (HE.out.trans E.out)) hN1 hN8 h16 HAll.out (TAB.out.good (by decide))).mono ?_
      rintro e W0 ⟨v8, rfl, hm, he⟩
      obtain ⟨a8, k8, rfl⟩ := hm.shape
      have M8 := hid (hm.base E.out.size)
      replace E := hid (E.out.trans he)
      clear hm he
      refine hK.out _ _ ?hSa1x3 (fun hHeld => ?_)
      case hSa1x3 => exact HKEEP.out _ E.out
      clear hK K
      (try simp only [Act.put, List.setIfInBounds_toArray, List.set_cons_zero, List.set_cons_succ])
      refine wpAnyH_three 3 4 5 rfl rfl rfl (by kernel_rfl) (by rfl) (by rfl) (by rfl) (fun K hK => ?_) (fun K hK => ?_) (fun K hK => ?_)
      · skip
        go_simp
        refine (costs_any _ N rs _ (Roads.ext HV.out (HE.out.trans E.out)) hN1 hN8 h16 HAll.out).mono ?_
        rintro e W1 ⟨v9, rfl, hm, he⟩
        obtain ⟨a9, k9, rfl⟩ := hm.shape
        have M9 := hid (hm.base E.out.size)
        replace E := hid (E.out.trans he)
        replace M8 := hid (M8.out.ext he)
        clear hm he
        refine hK.out _ _ ?hSa3x4 (fun hHeld => ?_)
        case hSa3x4 => exact HKEEP.out _ E.out
        clear hK K
        (try simp only [Act.put, List.setIfInBounds_toArray, List.set_cons_zero, List.set_cons_succ])
        refine wpAnyH_two 4 5 rfl rfl (by kernel_rfl) (by rfl) (by rfl) (fun K hK => ?_) (fun K hK => ?_)
        · skip
          go_simp
          have he : Ext W1 (W1.alloc (.cells #[Value.slice none 0 0] 52)) := Ext.ofAlloc _ _
          have hx := heap_alloc_new W1 (.cells #[Value.slice none 0 0] 52)
          have hs := E.out.size
          generalize W1.alloc (.cells #[Value.slice none 0 0] 52) = W2 at he hx ⊢
          generalize W1.heap.size = b8 at hx hs ⊢
          have B8 : Hid (TBox W2 b8 (.slice none 0 0)) := hx
          have S8 := hid hs
          replace E := hid (E.out.trans he)
          replace M8 := hid (M8.out.ext he)
          replace M9 := hid (M9.out.ext he)
          clear he hx hs
          refine hK.out _ _ ?hSa4x5 (fun hHeld => ?_)
          case hSa4x5 => exact HKEEP.out _ E.out
          clear hK K
          (try simp only [Act.put, List.setIfInBounds_toArray, List.set_cons_zero, List.set_cons_succ])
          refine wpAnyH_one 5 rfl (by kernel_rfl) (by rfl) (fun K hK => ?_)
          go_simp
          have he : Ext W2 (W2.alloc (.cells #[Value.slice none 0 0] 52)) := Ext.ofAlloc _ _
          have hx := heap_alloc_new W2 (.cells #[Value.slice none 0 0] 52)
          have hs := E.out.size
          have hlt := B8.out.lt
          generalize W2.alloc (.cells #[Value.slice none 0 0] 52) = W3 at he hx ⊢
          generalize W2.heap.size = b9 at hx hs hlt ⊢
          have B9 : Hid (TBox W3 b9 (.slice none 0 0)) := hx
          have S9 := hid hs
          have HNE : Hid (b8 ≠ b9) := Nat.ne_of_lt hlt
          replace E := hid (E.out.trans he)
          replace M8 := hid (M8.out.ext he)
          replace M9 := hid (M9.out.ext he)
          replace B8 := hid (B8.out.ext he)
          clear he hx hs hlt
          refine hK.out _ _ ?hSa5x6 (fun hHeld => ?_)
          case hSa5x6 => exact HKEEP.out _ E.out
          clear hK K
          (try simp only [Act.put, List.setIfInBounds_toArray, List.set_cons_zero, List.set_cons_succ])
          have d8 := B8.out.cell
          have fr8 := B8.out.free
          refine wpAnyH_one 6 rfl (by kernel_rfl) (by rfl) (fun K hK => ?_)
          go_simp
          replace E := hid (Ext.setCell E.out S8.out 0 (.slice a8 N k8))
          replace M8 := hid (M8.out.setBox B8.out (.slice a8 N k8))
          replace M9 := hid (M9.out.setBox B8.out (.slice a8 N k8))
          replace B9 := hid (B9.out.other HNE.out (.slice a8 N k8))
          replace B8 := hid (B8.out.set (.slice a8 N k8))
          clear d8 fr8
          generalize W3.setCell ⟨b8, 0, none⟩ (.slice a8 N k8) = W4 at E M8 M9 B8 B9 ⊢
          refine hK.out _ _ ?hSa6x7 (fun hHeld => ?_)
          case hSa6x7 => exact HKEEP.out _ E.out
          clear hK K
          (try simp only [Act.put, List.setIfInBounds_toArray, List.set_cons_zero, List.set_cons_succ])
          have d8 := B9.out.cell
          have fr8 := B9.out.free
          refine wpAnyH_one 7 rfl (by kernel_rfl) (by rfl) (fun K hK => ?_)
          go_simp
          replace E := hid (Ext.setCell E.out S9.out 0 (.slice a9 N k9))
          replace M8 := hid (M8.out.setBox B9.out (.slice a9 N k9))
          replace M9 := hid (M9.out.setBox B9.out (.slice a9 N k9))
          replace B8 := hid (B8.out.other HNE.out.symm (.slice a9 N k9))
          replace B9 := hid (B9.out.set (.slice a9 N k9))
          clear d8 fr8
          generalize W4.setCell ⟨b9, 0, none⟩ (.slice a9 N k9) = W5 at E M8 M9 B8 B9 ⊢
          refine hK.out _ _ ?hSa7x8 (fun hHeld => ?_)
          case hSa7x8 => exact HKEEP.out _ E.out
          clear hK K
          (try simp only [Act.put, List.setIfInBounds_toArray, List.set_cons_zero, List.set_cons_succ])
          refine wpAnyH_done (by kernel_rfl) ?_ _
          exact ⟨b8, b9, a8, k8, a9, k9, rfl, ⟨E.out, M8.out, M9.out, B8.out, B9.out, S8.out, S9.out⟩⟩
        · skip
          go_simp
          have he : Ext W1 (W1.alloc (.cells #[Value.slice none 0 0] 52)) := Ext.ofAlloc _ _
          have hx := heap_alloc_new W1 (.cells #[Value.slice none 0 0] 52)
          have hs := E.out.size
          generalize W1.alloc (.cells #[Value.slice none 0 0] 52) = W2 at he hx ⊢
          generalize W1.heap.size = b9 at hx hs ⊢
          have B9 : Hid (TBox W2 b9 (.slice none 0 0)) := hx
          have S9 := hid hs
          replace E := hid (E.out.trans he)
          replace M8 := hid (M8.out.ext he)
          replace M9 := hid (M9.out.ext he)
          clear he hx hs
          refine hK.out _ _ ?hSa5x9 (fun hHeld => ?_)
          case hSa5x9 => exact HKEEP.out _ E.out
          clear hK K
          (try simp only [Act.put, List.setIfInBounds_toArray, List.set_cons_zero, List.set_cons_succ])
          refine wpAnyH_one 4 rfl (by kernel_rfl) (by rfl) (fun K hK => ?_)
          go_simp
          have he : Ext W2 (W2.alloc (.cells #[Value.slice none 0 0] 52)) := Ext.ofAlloc _ _
          have hx := heap_alloc_new W2 (.cells #[Value.slice none 0 0] 52)
          have hs := E.out.size
          have hlt := B9.out.lt
          generalize W2.alloc (.cells #[Value.slice none 0 0] 52) = W3 at he hx ⊢
          generalize W2.heap.size = b8 at hx hs hlt ⊢
          have B8 : Hid (TBox W3 b8 (.slice none 0 0)) := hx
          have S8 := hid hs
          have HNE : Hid (b8 ≠ b9) := Nat.ne_of_gt hlt
          replace E := hid (E.out.trans he)
          replace M8 := hid (M8.out.ext he)
          replace M9 := hid (M9.out.ext he)
          replace B9 := hid (B9.out.ext he)
          clear he hx hs hlt
          refine hK.out _ _ ?hSa4x10 (fun hHeld => ?_)
          case hSa4x10 => exact HKEEP.out _ E.out
          clear hK K
          (try simp only [Act.put, List.setIfInBounds_toArray, List.set_cons_zero, List.set_cons_succ])
          have d8 := B8.out.cell
          have fr8 := B8.out.free
          refine wpAnyH_one 6 rfl (by kernel_rfl) (by rfl) (fun K hK => ?_)
          go_simp
          replace E := hid (Ext.setCell E.out S8.out 0 (.slice a8 N k8))
          replace M8 := hid (M8.out.setBox B8.out (.slice a8 N k8))
          replace M9 := hid (M9.out.setBox B8.out (.slice a8 N k8))
          replace B9 := hid (B9.out.other HNE.out (.slice a8 N k8))
          replace B8 := hid (B8.out.set (.slice a8 N k8))
          clear d8 fr8
          generalize W3.setCell ⟨b8, 0, none⟩ (.slice a8 N k8) = W4 at E M8 M9 B8 B9 ⊢
          refine hK.out _ _ ?hSa6x11 (fun hHeld => ?_)
          case hSa6x11 => exact HKEEP.out _ E.out
          clear hK K
          (try simp only [Act.put, List.setIfInBounds_toArray, List.set_cons_zero, List.set_cons_succ])
          have d8 := B9.out.cell
          have fr8 := B9.out.free
          refine wpAnyH_one 7 rfl (by kernel_rfl) (by rfl) (fun K hK => ?_)
          go_simp
          replace E := hid (Ext.setCell E.out S9.out 0 (.slice a9 N k9))
          replace M8 := hid (M8.out.setBox B9.out (.slice a9 N k9))
          replace M9 := hid (M9.out.setBox B9.out (.slice a9 N k9))
          replace B8 := hid (B8.out.other HNE.out.symm (.slice a9 N k9))
          replace B9 := hid (B9.out.set (.slice a9 N k9))
          clear d8 fr8
          generalize W4.setCell ⟨b9, 0, none⟩ (.slice a9 N k9) = W5 at E M8 M9 B8 B9 ⊢
          refine hK.out _ _ ?hSa7x12 (fun hHeld => ?_)
          case hSa7x12 => exact HKEEP.out _ E.out
          clear hK K
          (try simp only [Act.put, List.setIfInBounds_toArray, List.set_cons_zero, List.set_cons_succ])
          refine wpAnyH_done (by kernel_rfl) ?_ _
          exact ⟨b8, b9, a8, k8, a9, k9, rfl, ⟨E.out, M8.out, M9.out, B8.out, B9.out, S8.out, S9.out⟩⟩
      · skip
        go_simp
        have he : Ext W0 (W0.alloc (.cells #[Value.slice none 0 0] 52)) := Ext.ofAlloc _ _
        have hx := heap_alloc_new W0 (.cells #[Value.slice none 0 0] 52)
        have hs := E.out.size
        generalize W0.alloc (.cells #[Value.slice none 0 0] 52) = W1 at he hx ⊢
        generalize W0.heap.size = b8 at hx hs ⊢
        have B8 : Hid (TBox W1 b8 (.slice none 0 0)) := hx
        have S8 := hid hs
        replace E := hid (E.out.trans he)
        replace M8 := hid (M8.out.ext he)
        clear he hx hs
        refine hK.out _ _ ?hSa4x13 (fun hHeld => ?_)
        case hSa4x13 => exact HKEEP.out _ E.out
        clear hK K
        (try simp only [Act.put, List.setIfInBounds_toArray, List.set_cons_zero, List.set_cons_succ])
        refine wpAnyH_two 3 5 rfl rfl (by kernel_rfl) (by rfl) (by rfl) (fun K hK => ?_) (fun K hK => ?_)
        · skip
          go_simp
          refine (costs_any _ N rs _ (Roads.ext HV.out (HE.out.trans E.out)) hN1 hN8 h16 HAll.out).mono ?_
          rintro e W2 ⟨v9, rfl, hm, he⟩
          obtain ⟨a9, k9, rfl⟩ := hm.shape
          have M9 := hid (hm.base E.out.size)
          replace E := hid (E.out.trans he)
          replace M8 := hid (M8.out.ext he)
          replace B8 := hid (B8.out.ext he)
          clear hm he
          refine hK.out _ _ ?hSa3x14 (fun hHeld => ?_)
          case hSa3x14 => exact HKEEP.out _ E.out
          clear hK K
          (try simp only [Act.put, List.setIfInBounds_toArray, List.set_cons_zero, List.set_cons_succ])
          refine wpAnyH_one 5 rfl (by kernel_rfl) (by rfl) (fun K hK => ?_)
          go_simp
          have he : Ext W2 (W2.alloc (.cells #[Value.slice none 0 0] 52)) := Ext.ofAlloc _ _
          have hx := heap_alloc_new W2 (.cells #[Value.slice none 0 0] 52)
          have hs := E.out.size
          have hlt := B8.out.lt
          generalize W2.alloc (.cells #[Value.slice none 0 0] 52) = W3 at he hx ⊢
          generalize W2.heap.size = b9 at hx hs hlt ⊢
          have B9 : Hid (TBox W3 b9 (.slice none 0 0)) := hx
          have S9 := hid hs
          have HNE : Hid (b8 ≠ b9) := Nat.ne_of_lt hlt
          replace E := hid (E.out.trans he)
          replace M8 := hid (M8.out.ext he)
          replace M9 := hid (M9.out.ext he)
          replace B8 := hid (B8.out.ext he)
          clear he hx hs hlt
          refine hK.out _ _ ?hSa5x15 (fun hHeld => ?_)
          case hSa5x15 => exact HKEEP.out _ E.out
          clear hK K
          (try simp only [Act.put, List.setIfInBounds_toArray, List.set_cons_zero, List.set_cons_succ])
          have d8 := B8.out.cell
          have fr8 := B8.out.free
          refine wpAnyH_one 6 rfl (by kernel_rfl) (by rfl) (fun K hK => ?_)
          go_simp
          replace E := hid (Ext.setCell E.out S8.out 0 (.slice a8 N k8))
          replace M8 := hid (M8.out.setBox B8.out (.slice a8 N k8))
          replace M9 := hid (M9.out.setBox B8.out (.slice a8 N k8))
          replace B9 := hid (B9.out.other HNE.out (.slice a8 N k8))
          replace B8 := hid (B8.out.set (.slice a8 N k8))
          clear d8 fr8
          generalize W3.setCell ⟨b8, 0, none⟩ (.slice a8 N k8) = W4 at E M8 M9 B8 B9 ⊢
          refine hK.out _ _ ?hSa6x16 (fun hHeld => ?_)
          case hSa6x16 => exact HKEEP.out _ E.out
          clear hK K
          (try simp only [Act.put, List.setIfInBounds_toArray, List.set_cons_zero, List.set_cons_succ])
          have d8 := B9.out.cell
          have fr8 := B9.out.free
          refine wpAnyH_one 7 rfl (by kernel_rfl) (by rfl) (fun K hK => ?_)
          go_simp
          replace E := hid (Ext.setCell E.out S9.out 0 (.slice a9 N k9))
          replace M8 := hid (M8.out.setBox B9.out (.slice a9 N k9))
          replace M9 := hid (M9.out.setBox B9.out (.slice a9 N k9))
          replace B8 := hid (B8.out.other HNE.out.symm (.slice a9 N k9))
          replace B9 := hid (B9.out.set (.slice a9 N k9))
          clear d8 fr8
          generalize W4.setCell ⟨b9, 0, none⟩ (.slice a9 N k9) = W5 at E M8 M9 B8 B9 ⊢
          refine hK.out _ _ ?hSa7x17 (fun hHeld => ?_)
          case hSa7x17 => exact HKEEP.out _ E.out
          clear hK K
          (try simp only [Act.put, List.setIfInBounds_toArray, List.set_cons_zero, List.set_cons_succ])
          refine wpAnyH_done (by kernel_rfl) ?_ _
          exact ⟨b8, b9, a8, k8, a9, k9, rfl, ⟨E.out, M8.out, M9.out, B8.out, B9.out, S8.out, S9.out⟩⟩
        · skip
          go_simp
          have he : Ext W1 (W1.alloc (.cells #[Value.slice none 0 0] 52)) := Ext.ofAlloc _ _
          have hx := heap_alloc_new W1 (.cells #[Value.slice none 0 0] 52)
          have hs := E.out.size
          have hlt := B8.out.lt
          generalize W1.alloc (.cells #[Value.slice none 0 0] 52) = W2 at he hx ⊢
          generalize W1.heap.size = b9 at hx hs hlt ⊢
          have B9 : Hid (TBox W2 b9 (.slice none 0 0)) := hx
          have S9 := hid hs
          have HNE : Hid (b8 ≠ b9) := Nat.ne_of_lt hlt
          replace E := hid (E.out.trans he)
          replace M8 := hid (M8.out.ext he)
          replace B8 := hid (B8.out.ext he)
          clear he hx hs hlt
          refine hK.out _ _ ?hSa5x18 (fun hHeld => ?_)
          case hSa5x18 => exact HKEEP.out _ E.out
          clear hK K
          (try simp only [Act.put, List.setIfInBounds_toArray, List.set_cons_zero, List.set_cons_succ])
          refine wpAnyH_one 3 rfl (by kernel_rfl) (by rfl) (fun K hK => ?_)
          go_simp
          refine (costs_any _ N rs _ (Roads.ext HV.out (HE.out.trans E.out)) hN1 hN8 h16 HAll.out).mono ?_
          rintro e W3 ⟨v9, rfl, hm, he⟩
          obtain ⟨a9, k9, rfl⟩ := hm.shape
          have M9 := hid (hm.base E.out.size)
          replace E := hid (E.out.trans he)
          replace M8 := hid (M8.out.ext he)
          replace B8 := hid (B8.out.ext he)
          replace B9 := hid (B9.out.ext he)
          clear hm he
          refine hK.out _ _ ?hSa3x19 (fun hHeld => ?_)
          case hSa3x19 => exact HKEEP.out _ E.out
          clear hK K
          (try simp only [Act.put, List.setIfInBounds_toArray, List.set_cons_zero, List.set_cons_succ])
          have d8 := B8.out.cell
          have fr8 := B8.out.free
          refine wpAnyH_one 6 rfl (by kernel_rfl) (by rfl) (fun K hK => ?_)
          go_simp
          replace E := hid (Ext.setCell E.out S8.out 0 (.slice a8 N k8))
          replace M8 := hid (M8.out.setBox B8.out (.slice a8 N k8))
          replace M9 := hid (M9.out.setBox B8.out (.slice a8 N k8))
          replace B9 := hid (B9.out.other HNE.out (.slice a8 N k8))
          replace B8 := hid (B8.out.set (.slice a8 N k8))
          clear d8 fr8
          generalize W3.setCell ⟨b8, 0, none⟩ (.slice a8 N k8) = W4 at E M8 M9 B8 B9 ⊢
          refine hK.out _ _ ?hSa6x20 (fun hHeld => ?_)
          case hSa6x20 => exact HKEEP.out _ E.out
          clear hK K
          (try simp only [Act.put, List.setIfInBounds_toArray, List.set_cons_zero, List.set_cons_succ])
          have d8 := B9.out.cell
          have fr8 := B9.out.free
          refine wpAnyH_one 7 rfl (by kernel_rfl) (by rfl) (fun K hK => ?_)
          go_simp
          replace E := hid (Ext.setCell E.out S9.out 0 (.slice a9 N k9))
          replace M8 := hid (M8.out.setBox B9.out (.slice a9 N k9))
          replace M9 := hid (M9.out.setBox B9.out (.slice a9 N k9))
          replace B8 := hid (B8.out.other HNE.out.symm (.slice a9 N k9))
          replace B9 := hid (B9.out.set (.slice a9 N k9))
          clear d8 fr8
          generalize W4.setCell ⟨b9, 0, none⟩ (.slice a9 N k9) = W5 at E M8 M9 B8 B9 ⊢
          refine hK.out _ _ ?hSa7x21 (fun hHeld => ?_)
          case hSa7x21 => exact HKEEP.out _ E.out
          clear hK K
          (try simp only [Act.put, List.setIfInBounds_toArray, List.set_cons_zero, List.set_cons_succ])
          refine wpAnyH_done (by kernel_rfl) ?_ _
          exact ⟨b8, b9, a8, k8, a9, k9, rfl, ⟨E.out, M8.out, M9.out, B8.out, B9.out, S8.out, S9.out⟩⟩
      · skip
        go_simp
        have he : Ext W0 (W0.alloc (.cells #[Value.slice none 0 0] 52)) := Ext.ofAlloc _ _
        have hx := heap_alloc_new W0 (.cells #[Value.slice none 0 0] 52)
        have hs := E.out.size
        generalize W0.alloc (.cells #[Value.slice none 0 0] 52) = W1 at he hx ⊢
        generalize W0.heap.size = b9 at hx hs ⊢
        have B9 : Hid (TBox W1 b9 (.slice none 0 0)) := hx
        have S9 := hid hs
        replace E := hid (E.out.trans he)
        replace M8 := hid (M8.out.ext he)
        clear he hx hs
        refine hK.out _ _ ?hSa5x22 (fun hHeld => ?_)
        case hSa5x22 => exact HKEEP.out _ E.out
        clear hK K
        (try simp only [Act.put, List.setIfInBounds_toArray, List.set_cons_zero, List.set_cons_succ])
        refine wpAnyH_two 3 4 rfl rfl (by kernel_rfl) (by rfl) (by rfl) (fun K hK => ?_) (fun K hK => ?_)
        · skip
          go_simp
          refine (costs_any _ N rs _ (Roads.ext HV.out (HE.out.trans E.out)) hN1 hN8 h16 HAll.out).mono ?_
          rintro e W2 ⟨v9, rfl, hm, he⟩
          obtain ⟨a9, k9, rfl⟩ := hm.shape
          have M9 := hid (hm.base E.out.size)
          replace E := hid (E.out.trans he)
          replace M8 := hid (M8.out.ext he)
          replace B9 := hid (B9.out.ext he)
          clear hm he
          refine hK.out _ _ ?hSa3x23 (fun hHeld => ?_)
          case hSa3x23 => exact HKEEP.out _ E.out
          clear hK K
          (try simp only [Act.put, List.setIfInBounds_toArray, List.set_cons_zero, List.set_cons_succ])
          refine wpAnyH_one 4 rfl (by kernel_rfl) (by rfl) (fun K hK => ?_)
          go_simp
          have he : Ext W2 (W2.alloc (.cells #[Value.slice none 0 0] 52)) := Ext.ofAlloc _ _
          have hx := heap_alloc_new W2 (.cells #[Value.slice none 0 0] 52)
          have hs := E.out.size
          have hlt := B9.out.lt
          generalize W2.alloc (.cells #[Value.slice none 0 0] 52) = W3 at he hx ⊢
          generalize W2.heap.size = b8 at hx hs hlt ⊢
          have B8 : Hid (TBox W3 b8 (.slice none 0 0)) := hx
          have S8 := hid hs
          have HNE : Hid (b8 ≠ b9) := Nat.ne_of_gt hlt
          replace E := hid (E.out.trans he)
          replace M8 := hid (M8.out.ext he)
          replace M9 := hid (M9.out.ext he)
          replace B9 := hid (B9.out.ext he)
          clear he hx hs hlt
          refine hK.out _ _ ?hSa4x24 (fun hHeld => ?_)
          case hSa4x24 => exact HKEEP.out _ E.out
          clear hK K
          (try simp only [Act.put, List.setIfInBounds_toArray, List.set_cons_zero, List.set_cons_succ])
          have d8 := B8.out.cell
          have fr8 := B8.out.free
          refine wpAnyH_one 6 rfl (by kernel_rfl) (by rfl) (fun K hK => ?_)
          go_simp
          replace E := hid (Ext.setCell E.out S8.out 0 (.slice a8 N k8))
          replace M8 := hid (M8.out.setBox B8.out (.slice a8 N k8))
          replace M9 := hid (M9.out.setBox B8.out (.slice a8 N k8))
          replace B9 := hid (B9.out.other HNE.out (.slice a8 N k8))
          replace B8 := hid (B8.out.set (.slice a8 N k8))
          clear d8 fr8
          generalize W3.setCell ⟨b8, 0, none⟩ (.slice a8 N k8) = W4 at E M8 M9 B8 B9 ⊢
          refine hK.out _ _ ?hSa6x25 (fun hHeld => ?_)
          case hSa6x25 => exact HKEEP.out _ E.out
          clear hK K
          (try simp only [Act.put, List.setIfInBounds_toArray, List.set_cons_zero, List.set_cons_succ])
          have d8 := B9.out.cell
          have fr8 := B9.out.free
          refine wpAnyH_one 7 rfl (by kernel_rfl) (by rfl) (fun K hK => ?_)
          go_simp
          replace E := hid (Ext.setCell E.out S9.out 0 (.slice a9 N k9))
          replace M8 := hid (M8.out.setBox B9.out (.slice a9 N k9))
          replace M9 := hid (M9.out.setBox B9.out (.slice a9 N k9))
          replace B8 := hid (B8.out.other HNE.out.symm (.slice a9 N k9))
          replace B9 := hid (B9.out.set (.slice a9 N k9))
          clear d8 fr8
          generalize W4.setCell ⟨b9, 0, none⟩ (.slice a9 N k9) = W5 at E M8 M9 B8 B9 ⊢
          refine hK.out _ _ ?hSa7x26 (fun hHeld => ?_)
          case hSa7x26 => exact HKEEP.out _ E.out
          clear hK K
          (try simp only [Act.put, List.setIfInBounds_toArray, List.set_cons_zero, List.set_cons_succ])
          refine wpAnyH_done (by kernel_rfl) ?_ _
          exact ⟨b8, b9, a8, k8, a9, k9, rfl, ⟨E.out, M8.out, M9.out, B8.out, B9.out, S8.out, S9.out⟩⟩
        · skip
          go_simp
          have he : Ext W1 (W1.alloc (.cells #[Value.slice none 0 0] 52)) := Ext.ofAlloc _ _
          have hx := heap_alloc_new W1 (.cells #[Value.slice none 0 0] 52)
          have hs := E.out.size
          have hlt := B9.out.lt
          generalize W1.alloc (.cells #[Value.slice none 0 0] 52) = W2 at he hx ⊢
          generalize W1.heap.size = b8 at hx hs hlt ⊢
          have B8 : Hid (TBox W2 b8 (.slice none 0 0)) := hx
          have S8 := hid hs
          have HNE : Hid (b8 ≠ b9) := Nat.ne_of_gt hlt
          replace E := hid (E.out.trans he)
          replace M8 := hid (M8.out.ext he)
          replace B9 := hid (B9.out.ext he)
          clear he hx hs hlt
          refine hK.out _ _ ?hSa4x27 (fun hHeld => ?_)
          case hSa4x27 => exact HKEEP.out _ E.out
          clear hK K
          (try simp only [Act.put, List.setIfInBounds_toArray, List.set_cons_zero, List.set_cons_succ])
          refine wpAnyH_one 3 rfl (by kernel_rfl) (by rfl) (fun K hK => ?_)
          go_simp
          refine (costs_any _ N rs _ (Roads.ext HV.out (HE.out.trans E.out)) hN1 hN8 h16 HAll.out).mono ?_
          rintro e W3 ⟨v9, rfl, hm, he⟩
          obtain ⟨a9, k9, rfl⟩ := hm.shape
          have M9 := hid (hm.base E.out.size)
          replace E := hid (E.out.trans he)
          replace M8 := hid (M8.out.ext he)
          replace B8 := hid (B8.out.ext he)
          replace B9 := hid (B9.out.ext he)
          clear hm he
          refine hK.out _ _ ?hSa3x28 (fun hHeld => ?_)
          case hSa3x28 => exact HKEEP.out _ E.out
          clear hK K
          (try simp only [Act.put, List.setIfInBounds_toArray, List.set_cons_zero, List.set_cons_succ])
          have d8 := B8.out.cell
          have fr8 := B8.out.free
          refine wpAnyH_one 6 rfl (by kernel_rfl) (by rfl) (fun K hK => ?_)
          go_simp
          replace E := hid (Ext.setCell E.out S8.out 0 (.slice a8 N k8))
          replace M8 := hid (M8.out.setBox B8.out (.slice a8 N k8))
          replace M9 := hid (M9.out.setBox B8.out (.slice a8 N k8))
          replace B9 := hid (B9.out.other HNE.out (.slice a8 N k8))
          replace B8 := hid (B8.out.set (.slice a8 N k8))
          clear d8 fr8
          generalize W3.setCell ⟨b8, 0, none⟩ (.slice a8 N k8) = W4 at E M8 M9 B8 B9 ⊢
          refine hK.out _ _ ?hSa6x29 (fun hHeld => ?_)
          case hSa6x29 => exact HKEEP.out _ E.out
          clear hK K
          (try simp only [Act.put, List.setIfInBounds_toArray, List.set_cons_zero, List.set_cons_succ])
          have d8 := B9.out.cell
          have fr8 := B9.out.free
          refine wpAnyH_one 7 rfl (by kernel_rfl) (by rfl) (fun K hK => ?_)
          go_simp
          replace E := hid (Ext.setCell E.out S9.out 0 (.slice a9 N k9))
          replace M8 := hid (M8.out.setBox B9.out (.slice a9 N k9))
          replace M9 := hid (M9.out.setBox B9.out (.slice a9 N k9))
          replace B8 := hid (B8.out.other HNE.out.symm (.slice a9 N k9))
          replace B9 := hid (B9.out.set (.slice a9 N k9))
          clear d8 fr8
          generalize W4.setCell ⟨b9, 0, none⟩ (.slice a9 N k9) = W5 at E M8 M9 B8 B9 ⊢
          refine hK.out _ _ ?hSa7x30 (fun hHeld => ?_)
          case hSa7x30 => exact HKEEP.out _ E.out
          clear hK K
          (try simp only [Act.put, List.setIfInBounds_toArray, List.set_cons_zero, List.set_cons_succ])
          refine wpAnyH_done (by kernel_rfl) ?_ _
          exact ⟨b8, b9, a8, k8, a9, k9, rfl, ⟨E.out, M8.out, M9.out, B8.out, B9.out, S8.out, S9.out⟩⟩
    · skip
      go_simp
      have he : Ext w4 (w4.alloc (.cells #[Value.slice none 0 0] 52)).drew := (Ext.ofAlloc _ _).drew
      have hx : (w4.alloc (.cells #[Value.slice none 0 0] 52)).drew.heap[w4.heap.size]? = _ := heap_alloc_new w4 (.cells #[Value.slice none 0 0] 52)
      replace E := hid (Ext.refl w4)
      have hs := E.out.size
      generalize (w4.alloc (.cells #[Value.slice none 0 0] 52)).drew = W0 at he hx ⊢
      clear hs
      generalize hbb : w4.heap.size = b8 at hx ⊢
      have hs : w4.heap.size ≤ b8 := Nat.le_of_eq hbb
      clear hbb
      have B8 : Hid (TBox W0 b8 (.slice none 0 0)) := hx
      have S8 := hid hs
      replace E := hid (E.out.trans he)
      clear he hx hs
      refine hK.out _ _ ?hSa4x31 (fun hHeld => ?_)
      case hSa4x31 => exact HKEEP.out _ E.out
      clear hK K
      (try simp only [Act.put, List.setIfInBounds_toArray, List.set_cons_zero, List.set_cons_succ])
      refine wpAnyH_two 1 5 rfl rfl (by kernel_rfl) (by rfl) (by rfl) (fun K hK => ?_) (fun K hK => ?_)
      · skip
        go_simp
        refine (distances_any _ N rs _ (Roads.ext HV.out (HE.out.trans E.out)) hN1 hN8 h16 HAll.out (TAB.out.good (by decide))).mono ?_
        rintro e W1 ⟨v8, rfl, hm, he⟩
        obtain ⟨a8, k8, rfl⟩ := hm.shape
        have M8 := hid (hm.base E.out.size)
        replace E := hid (E.out.trans he)
        replace B8 := hid (B8.out.ext he)
        clear hm he
        refine hK.out _ _ ?hSa1x32 (fun hHeld => ?_)
        case hSa1x32 => exact HKEEP.out _ E.out
        clear hK K
        (try simp only [Act.put, List.setIfInBounds_toArray, List.set_cons_zero, List.set_cons_succ])
        refine wpAnyH_two 3 5 rfl rfl (by kernel_rfl) (by rfl) (by rfl) (fun K hK => ?_) (fun K hK => ?_)
        · skip
          go_simp
          refine (costs_any _ N rs _ (Roads.ext HV.out (HE.out.trans E.out)) hN1 hN8 h16 HAll.out).mono ?_
          rintro e W2 ⟨v9, rfl, hm, he⟩
          obtain ⟨a9, k9, rfl⟩ := hm.shape
          have M9 := hid (hm.base E.out.size)
          replace E := hid (E.out.trans he)
          replace M8 := hid (M8.out.ext he)
          replace B8 := hid (B8.out.ext he)
          clear hm he
          refine hK.out _ _ ?hSa3x33 (fun hHeld => ?_)
          case hSa3x33 => exact HKEEP.out _ E.out
          clear hK K
          (try simp only [Act.put, List.setIfInBounds_toArray, List.set_cons_zero, List.set_cons_succ])
          refine wpAnyH_one 5 rfl (by kernel_rfl) (by rfl) (fun K hK => ?_)
          go_simp
          have he : Ext W2 (W2.alloc (.cells #[Value.slice none 0 0] 52)) := Ext.ofAlloc _ _
          have hx := heap_alloc_new W2 (.cells #[Value.slice none 0 0] 52)
          have hs := E.out.size
          have hlt := B8.out.lt
          generalize W2.alloc (.cells #[Value.slice none 0 0] 52) = W3 at he hx ⊢
          generalize W2.heap.size = b9 at hx hs hlt ⊢
          have B9 : Hid (TBox W3 b9 (.slice none 0 0)) := hx
          have S9 := hid hs
          have HNE : Hid (b8 ≠ b9) := Nat.ne_of_lt hlt
          replace E := hid (E.out.trans he)
          replace M8 := hid (M8.out.ext he)
          replace M9 := hid (M9.out.ext he)
          replace B8 := hid (B8.out.ext he)
          clear he hx hs hlt
          refine hK.out _ _ ?hSa5x34 (fun hHeld => ?_)
          case hSa5x34 => exact HKEEP.out _ E.out
          clear hK K
          (try simp only [Act.put, List.setIfInBounds_toArray, List.set_cons_zero, List.set_cons_succ])
          have d8 := B8.out.cell
          have fr8 := B8.out.free
          refine wpAnyH_one 6 rfl (by kernel_rfl) (by rfl) (fun K hK => ?_)
          go_simp
          replace E := hid (Ext.setCell E.out S8.out 0 (.slice a8 N k8))
          replace M8 := hid (M8.out.setBox B8.out (.slice a8 N k8))
          replace M9 := hid (M9.out.setBox B8.out (.slice a8 N k8))
          replace B9 := hid (B9.out.other HNE.out (.slice a8 N k8))
          replace B8 := hid (B8.out.set (.slice a8 N k8))
          clear d8 fr8
          generalize W3.setCell ⟨b8, 0, none⟩ (.slice a8 N k8) = W4 at E M8 M9 B8 B9 ⊢
          refine hK.out _ _ ?hSa6x35 (fun hHeld => ?_)
          case hSa6x35 => exact HKEEP.out _ E.out
          clear hK K
          (try simp only [Act.put, List.setIfInBounds_toArray, List.set_cons_zero, List.set_cons_succ])
          have d8 := B9.out.cell
          have fr8 := B9.out.free
          refine wpAnyH_one 7 rfl (by kernel_rfl) (by rfl) (fun K hK => ?_)
          go_simp
          replace E := hid (Ext.setCell E.out S9.out 0 (.slice a9 N k9))
          replace M8 := hid (M8.out.setBox B9.out (.slice a9 N k9))
          replace M9 := hid (M9.out.setBox B9.out (.slice a9 N k9))
          replace B8 := hid (B8.out.other HNE.out.symm (.slice a9 N k9))
          replace B9 := hid (B9.out.set (.slice a9 N k9))
          clear d8 fr8
          generalize W4.setCell ⟨b9, 0, none⟩ (.slice a9 N k9) = W5 at E M8 M9 B8 B9 ⊢
          refine hK.out _ _ ?hSa7x36 (fun hHeld => ?_)
          case hSa7x36 => exact HKEEP.out _ E.out
          clear hK K
          (try simp only [Act.put, List.setIfInBounds_toArray, List.set_cons_zero, List.set_cons_succ])
          refine wpAnyH_done (by kernel_rfl) ?_ _
          exact ⟨b8, b9, a8, k8, a9, k9, rfl, ⟨E.out, M8.out, M9.out, B8.out, B9.out, S8.out, S9.out⟩⟩
        · skip
          go_simp
          have he : Ext W1 (W1.alloc (.cells #[Value.slice none 0 0] 52)) := Ext.ofAlloc _ _
          have hx := heap_alloc_new W1 (.cells #[Value.slice none 0 0] 52)
          have hs := E.out.size
          have hlt := B8.out.lt
          generalize W1.alloc (.cells #[Value.slice none 0 0] 52) = W2 at he hx ⊢
          generalize W1.heap.size = b9 at hx hs hlt ⊢
          have B9 : Hid (TBox W2 b9 (.slice none 0 0)) := hx
          have S9 := hid hs
          have HNE : Hid (b8 ≠ b9) := Nat.ne_of_lt hlt
          replace E := hid (E.out.trans he)
          replace M8 := hid (M8.out.ext he)
          replace B8 := hid (B8.out.ext he)
          clear he hx hs hlt
          refine hK.out _ _ ?hSa5x37 (fun hHeld => ?_)
          case hSa5x37 => exact HKEEP.out _ E.out
          clear hK K
          (try simp only [Act.put, List.setIfInBounds_toArray, List.set_cons_zero, List.set_cons_succ])
          refine wpAnyH_one 3 rfl (by kernel_rfl) (by rfl) (fun K hK => ?_)
          go_simp
          refine (costs_any _ N rs _ (Roads.ext HV.out (HE.out.trans E.out)) hN1 hN8 h16 HAll.out).mono ?_
          rintro e W3 ⟨v9, rfl, hm, he⟩
          obtain ⟨a9, k9, rfl⟩ := hm.shape
          have M9 := hid (hm.base E.out.size)
          replace E := hid (E.out.trans he)
          replace M8 := hid (M8.out.ext he)
          replace B8 := hid (B8.out.ext he)
          replace B9 := hid (B9.out.ext he)
          clear hm he
          refine hK.out _ _ ?hSa3x38 (fun hHeld => ?_)
          case hSa3x38 => exact HKEEP.out _ E.out
          clear hK K
          (try simp only [Act.put, List.setIfInBounds_toArray, List.set_cons_zero, List.set_cons_succ])
          have d8 := B8.out.cell
          have fr8 := B8.out.free
          refine wpAnyH_one 6 rfl (by kernel_rfl) (by rfl) (fun K hK => ?_)
          go_simp
          replace E := hid (Ext.setCell E.out S8.out 0 (.slice a8 N k8))
          replace M8 := hid (M8.out.setBox B8.out (.slice a8 N k8))
          replace M9 := hid (M9.out.setBox B8.out (.slice a8 N k8))
          replace B9 := hid (B9.out.other HNE.out (.slice a8 N k8))
          replace B8 := hid (B8.out.set (.slice a8 N k8))
          clear d8 fr8
          generalize W3.setCell ⟨b8, 0, none⟩ (.slice a8 N k8) = W4 at E M8 M9 B8 B9 ⊢
          refine hK.out _ _ ?hSa6x39 (fun hHeld => ?_)
          case hSa6x39 => exact HKEEP.out _ E.out
          clear hK K
          (try simp only [Act.put, List.setIfInBounds_toArray, List.set_cons_zero, List.set_cons_succ])
          have d8 := B9.out.cell
          have fr8 := B9.out.free
          refine wpAnyH_one 7 rfl (by kernel_rfl) (by rfl) (fun K hK => ?_)
          go_simp
          replace E := hid (Ext.setCell E.out S9.out 0 (.slice a9 N k9))
          replace M8 := hid (M8.out.setBox B9.out (.slice a9 N k9))
          replace M9 := hid (M9.out.setBox B9.out (.slice a9 N k9))
          replace B8 := hid (B8.out.other HNE.out.symm (.slice a9 N k9))
          replace B9 := hid (B9.out.set (.slice a9 N k9))
          clear d8 fr8
          generalize W4.setCell ⟨b9, 0, none⟩ (.slice a9 N k9) = W5 at E M8 M9 B8 B9 ⊢
          refine hK.out _ _ ?hSa7x40 (fun hHeld => ?_)
          case hSa7x40 => exact HKEEP.out _ E.out
          clear hK K
          (try simp only [Act.put, List.setIfInBounds_toArray, List.set_cons_zero, List.set_cons_succ])
          refine wpAnyH_done (by kernel_rfl) ?_ _
          exact ⟨b8, b9, a8, k8, a9, k9, rfl, ⟨E.out, M8.out, M9.out, B8.out, B9.out, S8.out, S9.out⟩⟩
      · skip
        go_simp
        have he : Ext W0 (W0.alloc (.cells #[Value.slice none 0 0] 52)) := Ext.ofAlloc _ _
        have hx := heap_alloc_new W0 (.cells #[Value.slice none 0 0] 52)
        have hs := E.out.size
        have hlt := B8.out.lt
        generalize W0.alloc (.cells #[Value.slice none 0 0] 52) = W1 at he hx ⊢
        generalize W0.heap.size = b9 at hx hs hlt ⊢
        have B9 : Hid (TBox W1 b9 (.slice none 0 0)) := hx
        have S9 := hid hs
        have HNE : Hid (b8 ≠ b9) := Nat.ne_of_lt hlt
        replace E := hid (E.out.trans he)
        replace B8 := hid (B8.out.ext he)
        clear he hx hs hlt
        refine hK.out _ _ ?hSa5x41 (fun hHeld => ?_)
        case hSa5x41 => exact HKEEP.out _ E.out
        clear hK K
        (try simp only [Act.put, List.setIfInBounds_toArray, List.set_cons_zero, List.set_cons_succ])
        refine wpAnyH_one 1 rfl (by kernel_rfl) (by rfl) (fun K hK => ?_)
        go_simp
        refine (distances_any _ N rs _ (Roads.ext HV.out (HE.out.trans E.out)) hN1 hN8 h16 HAll.out (TAB.out.good (by decide))).mono ?_
        rintro e W2 ⟨v8, rfl, hm, he⟩
        obtain ⟨a8, k8, rfl⟩ := hm.shape
        have M8 := hid (hm.base E.out.size)
        replace E := hid (E.out.trans he)
        replace B8 := hid (B8.out.ext he)
        replace B9 := hid (B9.out.ext he)
        clear hm he
        refine hK.out _ _ ?hSa1x42 (fun hHeld => ?_)
        case hSa1x42 => exact HKEEP.out _ E.out
        clear hK K
        (try simp only [Act.put, List.setIfInBounds_toArray, List.set_cons_zero, List.set_cons_succ])
        refine wpAnyH_one 3 rfl (by kernel_rfl) (by rfl) (fun K hK => ?_)
        go_simp
        refine (costs_any _ N rs _ (Roads.ext HV.out (HE.out.trans E.out)) hN1 hN8 h16 HAll.out).mono ?_
        rintro e W3 ⟨v9, rfl, hm, he⟩
        obtain ⟨a9, k9, rfl⟩ := hm.shape
        have M9 := hid (hm.base E.out.size)
        replace E := hid (E.out.trans he)
        replace M8 := hid (M8.out.ext he)
        replace B8 := hid (B8.out.ext he)
        replace B9 := hid (B9.out.ext he)
        clear hm he
        refine hK.out _ _ ?hSa3x43 (fun hHeld => ?_)
        case hSa3x43 => exact HKEEP.out _ E.out
        clear hK K
        (try simp only [Act.put, List.setIfInBounds_toArray, List.set_cons_zero, List.set_cons_succ])
        have d8 := B8.out.cell
        have fr8 := B8.out.free
        refine wpAnyH_one 6 rfl (by kernel_rfl) (by rfl) (fun K hK => ?_)
        go_simp
        replace E := hid (Ext.setCell E.out S8.out 0 (.slice a8 N k8))
        replace M8 := hid (M8.out.setBox B8.out (.slice a8 N k8))
        replace M9 := hid (M9.out.setBox B8.out (.slice a8 N k8))
        replace B9 := hid (B9.out.other HNE.out (.slice a8 N k8))
        replace B8 := hid (B8.out.set (.slice a8 N k8))
        clear d8 fr8
        generalize W3.setCell ⟨b8, 0, none⟩ (.slice a8 N k8) = W4 at E M8 M9 B8 B9 ⊢
        refine hK.out _ _ ?hSa6x44 (fun hHeld => ?_)
        case hSa6x44 => exact HKEEP.out _ E.out
        clear hK K
        (try simp only [Act.put, List.setIfInBounds_toArray, List.set_cons_zero, List.set_cons_succ])
        have d8 := B9.out.cell
        have fr8 := B9.out.free
        refine wpAnyH_one 7 rfl (by kernel_rfl) (by rfl) (fun K hK => ?_)
        go_simp
        replace E := hid (Ext.setCell E.out S9.out 0 (.slice a9 N k9))
        replace M8 := hid (M8.out.setBox B9.out (.slice a9 N k9))
        replace M9 := hid (M9.out.setBox B9.out (.slice a9 N k9))
        replace B8 := hid (B8.out.other HNE.out.symm (.slice a9 N k9))
        replace B9 := hid (B9.out.set (.slice a9 N k9))
        clear d8 fr8
        generalize W4.setCell ⟨b9, 0, none⟩ (.slice a9 N k9) = W5 at E M8 M9 B8 B9 ⊢
        refine hK.out _ _ ?hSa7x45 (fun hHeld => ?_)
        case hSa7x45 => exact HKEEP.out _ E.out
        clear hK K
        (try simp only [Act.put, List.setIfInBounds_toArray, List.set_cons_zero, List.set_cons_succ])
        refine wpAnyH_done (by kernel_rfl) ?_ _
        exact ⟨b8, b9, a8, k8, a9, k9, rfl, ⟨E.out, M8.out, M9.out, B8.out, B9.out, S8.out, S9.out⟩⟩
    · skip
      go_simp
      have he : Ext w4 (w4.alloc (.cells #[Value.slice none 0 0] 52)).drew := (Ext.ofAlloc _ _).drew
      have hx : (w4.alloc (.cells #[Value.slice none 0 0] 52)).drew.heap[w4.heap.size]? = _ := heap_alloc_new w4 (.cells #[Value.slice none 0 0] 52)
      replace E := hid (Ext.refl w4)
      have hs := E.out.size
      generalize (w4.alloc (.cells #[Value.slice none 0 0] 52)).drew = W0 at he hx ⊢
      clear hs
      generalize hbb : w4.heap.size = b9 at hx ⊢
      have hs : w4.heap.size ≤ b9 := Nat.le_of_eq hbb
      clear hbb
      have B9 : Hid (TBox W0 b9 (.slice none 0 0)) := hx
      have S9 := hid hs
      replace E := hid (E.out.trans he)
      clear he hx hs
      refine hK.out _ _ ?hSa5x46 (fun hHeld => ?_)
      case hSa5x46 => exact HKEEP.out _ E.out
      clear hK K
      (try simp only [Act.put, List.setIfInBounds_toArray, List.set_cons_zero, List.set_cons_succ])
      refine wpAnyH_two 1 4 rfl rfl (by kernel_rfl) (by rfl) (by rfl) (fun K hK => ?_) (fun K hK => ?_)
      · skip
        go_simp
        refine (distances_any _ N rs _ (Roads.ext HV.out (HE.out.trans E.out)) hN1 hN8 h16 HAll.out (TAB.out.good (by decide))).mono ?_
        rintro e W1 ⟨v8, rfl, hm, he⟩
        obtain ⟨a8, k8, rfl⟩ := hm.shape
        have M8 := hid (hm.base E.out.size)
        replace E := hid (E.out.trans he)
        replace B9 := hid (B9.out.ext he)
        clear hm he
        refine hK.out _ _ ?hSa1x47 (fun hHeld => ?_)
        case hSa1x47 => exact HKEEP.out _ E.out
        clear hK K
        (try simp only [Act.put, List.setIfInBounds_toArray, List.set_cons_zero, List.set_cons_succ])
        refine wpAnyH_two 3 4 rfl rfl (by kernel_rfl) (by rfl) (by rfl) (fun K hK => ?_) (fun K hK => ?_)
        · skip
          go_simp
          refine (costs_any _ N rs _ (Roads.ext HV.out (HE.out.trans E.out)) hN1 hN8 h16 HAll.out).mono ?_
          rintro e W2 ⟨v9, rfl, hm, he⟩
          obtain ⟨a9, k9, rfl⟩ := hm.shape
          have M9 := hid (hm.base E.out.size)
          replace E := hid (E.out.trans he)
          replace M8 := hid (M8.out.ext he)
          replace B9 := hid (B9.out.ext he)
          clear hm he
          refine hK.out _ _ ?hSa3x48 (fun hHeld => ?_)
          case hSa3x48 => exact HKEEP.out _ E.out
          clear hK K
          (try simp only [Act.put, List.setIfInBounds_toArray, List.set_cons_zero, List.set_cons_succ])
          refine wpAnyH_one 4 rfl (by kernel_rfl) (by rfl) (fun K hK => ?_)
          go_simp
          have he : Ext W2 (W2.alloc (.cells #[Value.slice none 0 0] 52)) := Ext.ofAlloc _ _
          have hx := heap_alloc_new W2 (.cells #[Value.slice none 0 0] 52)
          have hs := E.out.size
          have hlt := B9.out.lt
          generalize W2.alloc (.cells #[Value.slice none 0 0] 52) = W3 at he hx ⊢
          generalize W2.heap.size = b8 at hx hs hlt ⊢
          have B8 : Hid (TBox W3 b8 (.slice none 0 0)) := hx
          have S8 := hid hs
          have HNE : Hid (b8 ≠ b9) := Nat.ne_of_gt hlt
          replace E := hid (E.out.trans he)
          replace M8 := hid (M8.out.ext he)
          replace M9 := hid (M9.out.ext he)
          replace B9 := hid (B9.out.ext he)
          clear he hx hs hlt
          refine hK.out _ _ ?hSa4x49 (fun hHeld => ?_)
          case hSa4x49 => exact HKEEP.out _ E.out
          clear hK K
          (try simp only [Act.put, List.setIfInBounds_toArray, List.set_cons_zero, List.set_cons_succ])
          have d8 := B8.out.cell
          have fr8 := B8.out.free
          refine wpAnyH_one 6 rfl (by kernel_rfl) (by rfl) (fun K hK => ?_)
          go_simp
          replace E := hid (Ext.setCell E.out S8.out 0 (.slice a8 N k8))
          replace M8 := hid (M8.out.setBox B8.out (.slice a8 N k8))
          replace M9 := hid (M9.out.setBox B8.out (.slice a8 N k8))
          replace B9 := hid (B9.out.other HNE.out (.slice a8 N k8))
          replace B8 := hid (B8.out.set (.slice a8 N k8))
          clear d8 fr8
          generalize W3.setCell ⟨b8, 0, none⟩ (.slice a8 N k8) = W4 at E M8 M9 B8 B9 ⊢
          refine hK.out _ _ ?hSa6x50 (fun hHeld => ?_)
          case hSa6x50 => exact HKEEP.out _ E.out
          clear hK K
          (try simp only [Act.put, List.setIfInBounds_toArray, List.set_cons_zero, List.set_cons_succ])
          have d8 := B9.out.cell
          have fr8 := B9.out.free
          refine wpAnyH_one 7 rfl (by kernel_rfl) (by rfl) (fun K hK => ?_)
          go_simp
          replace E := hid (Ext.setCell E.out S9.out 0 (.slice a9 N k9))
          replace M8 := hid (M8.out.setBox B9.out (.slice a9 N k9))
          replace M9 := hid (M9.out.setBox B9.out (.slice a9 N k9))
          replace B8 := hid (B8.out.other HNE.out.symm (.slice a9 N k9))
          replace B9 := hid (B9.out.set (.slice a9 N k9))
          clear d8 fr8
          generalize W4.setCell ⟨b9, 0, none⟩ (.slice a9 N k9) = W5 at E M8 M9 B8 B9 ⊢
          refine hK.out _ _ ?hSa7x51 (fun hHeld => ?_)
          case hSa7x51 => exact HKEEP.out _ E.out
          clear hK K
          (try simp only [Act.put, List.setIfInBounds_toArray, List.set_cons_zero, List.set_cons_succ])
          refine wpAnyH_done (by kernel_rfl) ?_ _
          exact ⟨b8, b9, a8, k8, a9, k9, rfl, ⟨E.out, M8.out, M9.out, B8.out, B9.out, S8.out, S9.out⟩⟩
        · skip
          go_simp
          have he : Ext W1 (W1.alloc (.cells #[Value.slice none 0 0] 52)) := Ext.ofAlloc _ _
          have hx := heap_alloc_new W1 (.cells #[Value.slice none 0 0] 52)
          have hs := E.out.size
          have hlt := B9.out.lt
          generalize W1.alloc (.cells #[Value.slice none 0 0] 52) = W2 at he hx ⊢
          generalize W1.heap.size = b8 at hx hs hlt ⊢
          have B8 : Hid (TBox W2 b8 (.slice none 0 0)) := hx
          have S8 := hid hs
          have HNE : Hid (b8 ≠ b9) := Nat.ne_of_gt hlt
          replace E := hid (E.out.trans he)
          replace M8 := hid (M8.out.ext he)
          replace B9 := hid (B9.out.ext he)
          clear he hx hs hlt
          refine hK.out _ _ ?hSa4x52 (fun hHeld => ?_)
          case hSa4x52 => exact HKEEP.out _ E.out
          clear hK K
          (try simp only [Act.put, List.setIfInBounds_toArray, List.set_cons_zero, List.set_cons_succ])
          refine wpAnyH_one 3 rfl (by kernel_rfl) (by rfl) (fun K hK => ?_)
          go_simp
          refine (costs_any _ N rs _ (Roads.ext HV.out (HE.out.trans E.out)) hN1 hN8 h16 HAll.out).mono ?_
          rintro e W3 ⟨v9, rfl, hm, he⟩
          obtain ⟨a9, k9, rfl⟩ := hm.shape
          have M9 := hid (hm.base E.out.size)
          replace E := hid (E.out.trans he)
          replace M8 := hid (M8.out.ext he)
          replace B8 := hid (B8.out.ext he)
          replace B9 := hid (B9.out.ext he)
          clear hm he
          refine hK.out _ _ ?hSa3x53 (fun hHeld => ?_)
          case hSa3x53 => exact HKEEP.out _ E.out
          clear hK K
          (try simp only [Act.put, List.setIfInBounds_toArray, List.set_cons_zero, List.set_cons_succ])
          have d8 := B8.out.cell
          have fr8 := B8.out.free
          refine wpAnyH_one 6 rfl (by kernel_rfl) (by rfl) (fun K hK => ?_)
          go_simp
          replace E := hid (Ext.setCell E.out S8.out 0 (.slice a8 N k8))
          replace M8 := hid (M8.out.setBox B8.out (.slice a8 N k8))
          replace M9 := hid (M9.out.setBox B8.out (.slice a8 N k8))
          replace B9 := hid (B9.out.other HNE.out (.slice a8 N k8))
          replace B8 := hid (B8.out.set (.slice a8 N k8))
          clear d8 fr8
          generalize W3.setCell ⟨b8, 0, none⟩ (.slice a8 N k8) = W4 at E M8 M9 B8 B9 ⊢
          refine hK.out _ _ ?hSa6x54 (fun hHeld => ?_)
          case hSa6x54 => exact HKEEP.out _ E.out
          clear hK K
          (try simp only [Act.put, List.setIfInBounds_toArray, List.set_cons_zero, List.set_cons_succ])
          have d8 := B9.out.cell
          have fr8 := B9.out.free
          refine wpAnyH_one 7 rfl (by kernel_rfl) (by rfl) (fun K hK => ?_)
          go_simp
          replace E := hid (Ext.setCell E.out S9.out 0 (.slice a9 N k9))
          replace M8 := hid (M8.out.setBox B9.out (.slice a9 N k9))
          replace M9 := hid (M9.out.setBox B9.out (.slice a9 N k9))
          replace B8 := hid (B8.out.other HNE.out.symm (.slice a9 N k9))
          replace B9 := hid (B9.out.set (.slice a9 N k9))
          clear d8 fr8
          generalize W4.setCell ⟨b9, 0, none⟩ (.slice a9 N k9) = W5 at E M8 M9 B8 B9 ⊢
          refine hK.out _ _ ?hSa7x55 (fun hHeld => ?_)
          case hSa7x55 => exact HKEEP.out _ E.out
          clear hK K
          (try simp only [Act.put, List.setIfInBounds_toArray, List.set_cons_zero, List.set_cons_succ])
          refine wpAnyH_done (by kernel_rfl) ?_ _
          exact ⟨b8, b9, a8, k8, a9, k9, rfl, ⟨E.out, M8.out, M9.out, B8.out, B9.out, S8.out, S9.out⟩⟩
      · skip
        go_simp
        have he : Ext W0 (W0.alloc (.cells #[Value.slice none 0 0] 52)) := Ext.ofAlloc _ _
        have hx := heap_alloc_new W0 (.cells #[Value.slice none 0 0] 52)
        have hs := E.out.size
        have hlt := B9.out.lt
        generalize W0.alloc (.cells #[Value.slice none 0 0] 52) = W1 at he hx ⊢
        generalize W0.heap.size = b8 at hx hs hlt ⊢
        have B8 : Hid (TBox W1 b8 (.slice none 0 0)) := hx
        have S8 := hid hs
        have HNE : Hid (b8 ≠ b9) := Nat.ne_of_gt hlt
        replace E := hid (E.out.trans he)
        replace B9 := hid (B9.out.ext he)
        clear he hx hs hlt
        refine hK.out _ _ ?hSa4x56 (fun hHeld => ?_)
        case hSa4x56 => exact HKEEP.out _ E.out
        clear hK K
        (try simp only [Act.put, List.setIfInBounds_toArray, List.set_cons_zero, List.set_cons_succ])
        refine wpAnyH_one 1 rfl (by kernel_rfl) (by rfl) (fun K hK => ?_)
        go_simp
        refine (distances_any _ N rs _ (Roads.ext HV.out (HE.out.trans E.out)) hN1 hN8 h16 HAll.out (TAB.out.good (by decide))).mono ?_
        rintro e W2 ⟨v8, rfl, hm, he⟩
        obtain ⟨a8, k8, rfl⟩ := hm.shape
        have M8 := hid (hm.base E.out.size)
        replace E := hid (E.out.trans he)
        replace B8 := hid (B8.out.ext he)
        replace B9 := hid (B9.out.ext he)
        clear hm he
        refine hK.out _ _ ?hSa1x57 (fun hHeld => ?_)
        case hSa1x57 => exact HKEEP.out _ E.out
        clear hK K
        (try simp only [Act.put, List.setIfInBounds_toArray, List.set_cons_zero, List.set_cons_succ])
        refine wpAnyH_one 3 rfl (by kernel_rfl) (by rfl) (fun K hK => ?_)
        go_simp
        refine (costs_any _ N rs _ (Roads.ext HV.out (HE.out.trans E.out)) hN1 hN8 h16 HAll.out).mono ?_
        rintro e W3 ⟨v9, rfl, hm, he⟩
        obtain ⟨a9, k9, rfl⟩ := hm.shape
        have M9 := hid (hm.base E.out.size)
        replace E := hid (E.out.trans he)
        replace M8 := hid (M8.out.ext he)
        replace B8 := hid (B8.out.ext he)
        replace B9 := hid (B9.out.ext he)
        clear hm he
        refine hK.out _ _ ?hSa3x58 (fun hHeld => ?_)
        case hSa3x58 => exact HKEEP.out _ E.out
        clear hK K
        (try simp only [Act.put, List.setIfInBounds_toArray, List.set_cons_zero, List.set_cons_succ])
        have d8 := B8.out.cell
        have fr8 := B8.out.free
        refine wpAnyH_one 6 rfl (by kernel_rfl) (by rfl) (fun K hK => ?_)
        go_simp
        replace E := hid (Ext.setCell E.out S8.out 0 (.slice a8 N k8))
        replace M8 := hid (M8.out.setBox B8.out (.slice a8 N k8))
        replace M9 := hid (M9.out.setBox B8.out (.slice a8 N k8))
        replace B9 := hid (B9.out.other HNE.out (.slice a8 N k8))
        replace B8 := hid (B8.out.set (.slice a8 N k8))
        clear d8 fr8
        generalize W3.setCell ⟨b8, 0, none⟩ (.slice a8 N k8) = W4 at E M8 M9 B8 B9 ⊢
        refine hK.out _ _ ?hSa6x59 (fun hHeld => ?_)
        case hSa6x59 => exact HKEEP.out _ E.out
        clear hK K
        (try simp only [Act.put, List.setIfInBounds_toArray, List.set_cons_zero, List.set_cons_succ])
        have d8 := B9.out.cell
        have fr8 := B9.out.free
        refine wpAnyH_one 7 rfl (by kernel_rfl) (by rfl) (fun K hK => ?_)
        go_simp
        replace E := hid (Ext.setCell E.out S9.out 0 (.slice a9 N k9))
        replace M8 := hid (M8.out.setBox B9.out (.slice a9 N k9))
        replace M9 := hid (M9.out.setBox B9.out (.slice a9 N k9))
        replace B8 := hid (B8.out.other HNE.out.symm (.slice a9 N k9))
        replace B9 := hid (B9.out.set (.slice a9 N k9))
        clear d8 fr8
        generalize W4.setCell ⟨b9, 0, none⟩ (.slice a9 N k9) = W5 at E M8 M9 B8 B9 ⊢
        refine hK.out _ _ ?hSa7x60 (fun hHeld => ?_)
        case hSa7x60 => exact HKEEP.out _ E.out
        clear hK K
        (try simp only [Act.put, List.setIfInBounds_toArray, List.set_cons_zero, List.set_cons_succ])
        refine wpAnyH_done (by kernel_rfl) ?_ _
        exact ⟨b8, b9, a8, k8, a9, k9, rfl, ⟨E.out, M8.out, M9.out, B8.out, B9.out, S8.out, S9.out⟩⟩
  case h2 =>
    intro b8 b9 a8 k8 a9 k9 w5 T
    obtain ⟨g8, kk, he8, -⟩ := T.m8.head (by omega)
    simp only [Value.slice.injEq, true_and] at he8
    obtain ⟨rfl, rfl⟩ := he8
    obtain ⟨gr, cr, ir, -⟩ := T.m8.row ha
    have cr' : w5.cell? ⟨g8, a, none⟩ = some (.slice (some ⟨gr, 0, none⟩) N N) := cr
    have ce := ir.cell (i := b) (by rw [rowL_len]; exact hb)
    rw [rowL_fn hb] at ce
    have c8 := T.t8.cell
    have ca := T.e.cell CA.out
    have cb := T.e.cell CB.out
    have hfb : decide (1048576 ≤ fw (costTo rs) N a b) = true := decide_eq_true (by have h := HF.out; unfold far at h; omega)
    have E6 := hid (T.e.drew)
    have M8 := hid (T.m8.ext (Ext.refl w5).drew)
    have M9 := hid (T.m9.ext (Ext.refl w5).drew)
    have B8 := hid (T.t8.ext (Ext.refl w5).drew)
    have B9 := hid (T.t9.ext (Ext.refl w5).drew)
    have S8 := hid T.s8
    have S9 := hid T.s9
    clear T cr ir
    go_wp2
    refine wp_region_held_drew (S := (fun w' => w'.cell? ⟨b8, 0, none⟩ = some (.slice (some ⟨g8, 0, none⟩) N k8) ∧ w'.cell? ⟨g8, a, none⟩ = some (.slice (some ⟨gr, 0, none⟩) N N) ∧ w'.cell? ⟨gr, b, none⟩ = some (.int .i64 (fw (costTo rs) N a b)) ∧ w'.cell? ⟨w.heap.size + 1, 0, none⟩ = some (.int .i64 a) ∧ w'.cell? ⟨w.heap.size + 1 + 1, 0, none⟩ = some (.int .i64 b))) (by kernel_rfl) ?hSb0 (fun hHeld => ?_)
    case hSb0 => (first | (exact ⟨c8, cr', ce, ca, cb⟩) | ((try dsimp only); exact ⟨c8, cr', ce, ca, cb⟩))
    refine wpAnyH_tk 0 (v := ?vb0) rfl (by kernel_rfl) (by kernel_rfl) (by kernel_rfl) (fun _ _ _ h => h) (by rfl) ?hyb0 (by assumption) ?_
    case hyb0 => (intro w hSw; (try dsimp only at hSw); go_simp <;> with_reducible rfl)
    (try simp only [Act.put, List.setIfInBounds_toArray, List.set_cons_zero, List.set_cons_succ])
    refine wpAnyH_tk 1 (v := ?vb1) rfl (by kernel_rfl) (by kernel_rfl) (by kernel_rfl) (fun _ _ _ h => h) (by rfl) ?hyb1 (by assumption) ?_
    case hyb1 => (intro w hSw; (try dsimp only at hSw); go_simp <;> with_reducible rfl)
    (try simp only [Act.put, List.setIfInBounds_toArray, List.set_cons_zero, List.set_cons_succ])
    refine wpAnyH_tk 2 (v := ?vb2) rfl (by kernel_rfl) (by kernel_rfl) (by kernel_rfl) (fun _ _ _ h => h) (by rfl) ?hyb2 (by assumption) ?_
    case hyb2 => (intro w hSw; (try dsimp only at hSw); go_simp <;> with_reducible rfl)
    (try simp only [Act.put, List.setIfInBounds_toArray, List.set_cons_zero, List.set_cons_succ])
    refine wpAnyH_tk 3 (v := ?vb3) rfl (by kernel_rfl) (by kernel_rfl) (by kernel_rfl) (fun _ _ _ h => h) (by rfl) ?hyb3 (by assumption) ?_
    case hyb3 => (intro w hSw; (try dsimp only at hSw); go_simp <;> with_reducible rfl)
    (try simp only [Act.put, List.setIfInBounds_toArray, List.set_cons_zero, List.set_cons_succ])
    refine wpAnyH_tk 4 (v := ?vb4) rfl (by kernel_rfl) (by kernel_rfl) (by kernel_rfl) (fun _ _ _ h => h) (by rfl) ?hyb4 (by assumption) ?_
    case hyb4 => (intro w hSw; (try dsimp only at hSw); go_simp <;> with_reducible rfl)
    (try simp only [Act.put, List.setIfInBounds_toArray, List.set_cons_zero, List.set_cons_succ])
    refine wpAnyH_tk 5 (v := ?vb5) rfl (by kernel_rfl) (by kernel_rfl) (by kernel_rfl) (fun _ _ _ h => h) (by rfl) ?hyb5 (by assumption) ?_
    case hyb5 => (intro w hSw; (try dsimp only at hSw); go_simp <;> with_reducible rfl)
    (try simp only [Act.put, List.setIfInBounds_toArray, List.set_cons_zero, List.set_cons_succ])
    refine wpAnyH_tk 6 (v := ?vb6) rfl (by kernel_rfl) (by kernel_rfl) (by kernel_rfl) (fun _ _ _ h => h) (by rfl) ?hyb6 (by assumption) ?_
    case hyb6 => (intro w hSw; (try dsimp only at hSw); go_simp <;> with_reducible rfl)
    (try simp only [Act.put, List.setIfInBounds_toArray, List.set_cons_zero, List.set_cons_succ])
    refine wpAnyH_tk 7 (v := ?vb7) rfl (by kernel_rfl) (by kernel_rfl) (by kernel_rfl) (fun _ _ _ h => h) (by rfl) ?hyb7 (by assumption) ?_
    case hyb7 => (intro w hSw; (try dsimp only at hSw); go_simp <;> with_reducible rfl)
    (try simp only [Act.put, List.setIfInBounds_toArray, List.set_cons_zero, List.set_cons_succ])
    refine wpAnyH_done (by kernel_rfl) ?_ _
    clear c8 ca cb cr' ce hHeld
    have HX := hid (HE.out.trans E6.out)
    clear HE E6 M8 M9 B8 B9 CA CB C0
    go_wp2
    go_ret2
    exact ⟨rfl, HX.out⟩

set_option maxRecDepth 20000 in
set_option maxHeartbeats 16000000 in
theorem Way_bad (vr : Value) (m : MapD) (a b : Int) (w : World) (hm : MapR w vr m) (hb : (mapOk m && stopB m.n a && stopB m.n b) = false) :
    Calls Tryd.prog 33 #[.agg #[.int .i64 m.n, vr], .int .i64 a, .int .i64 b] w fun e w' => e = .returned (.tuple #[.slice none 0 0, .int .i64 2]) ∧ Ext w w' := by
  obtain ⟨ao, cap, rfl⟩ := hm.shape
  have HV := hid hm
  have HB := hid hb
  have X0 := hid (Box2.alloc w 31 (.int .i64 m.n) (.slice ao m.roads.length cap))
  clear hm hb
  go_enter Tryd.func33, Tryd.ntmps33
  go_wp2_with (fail)
  refine (valid_any _ m _ (MapR.ext HV.out (((Ext.ofAlloc _ _).alloc _).alloc _))).mono ?_
  rintro e w1 ⟨rfl, he⟩
  have HE := hid ((((Ext.ofAlloc w _).alloc _).alloc _).trans he)
  obtain ⟨c0, c1⟩ := (((X0.out.ext (Ext.ofAlloc _ _)).ext (Ext.ofAlloc _ _)).ext he).cells
  have ca : w1.cell? ⟨w.heap.size + 1, 0, none⟩ = some (.int .i64 a) := by have h := he.cell ((Ext.ofAlloc _ _).cell (World.cell?_alloc_new _ _ _ 0)); simpa using h
  have cb : w1.cell? ⟨w.heap.size + 1 + 1, 0, none⟩ = some (.int .i64 b) := by have h := he.cell (World.cell?_alloc_new _ _ _ 0); simpa using h
  clear he
  cases h1 : mapOk m
  · clear HB
    go_wp2
    go_ret2
    exact ⟨rfl, HE.out⟩
  · have HB1 := HB.out
    rw [h1, Bool.true_and] at HB1
    have HB2 := hid HB1
    clear HB1 HB h1
    go_wp2_with (fail)
    refine (stop_any _ m a _ (MapR.ext HV.out HE.out)).mono ?_
    rintro e w2 ⟨rfl, he⟩
    replace HE := hid (HE.out.trans he)
    replace c0 := he.cell c0
    replace c1 := he.cell c1
    replace ca := he.cell ca
    replace cb := he.cell cb
    clear he
    cases h2 : stopB m.n a
    · clear HB2
      go_wp2
      go_ret2
      exact ⟨rfl, HE.out⟩
    · have HB1 := HB2.out
      rw [h2, Bool.true_and] at HB1
      clear HB2 h2
      go_wp2_with (fail)
      refine (stop_any _ m b _ (MapR.ext HV.out HE.out)).mono ?_
      rw [HB1]
      rintro e w3 ⟨rfl, he⟩
      replace HE := hid (HE.out.trans he)
      clear he HB1 c0 c1 ca cb
      go_wp2
      go_ret2
      exact ⟨rfl, HE.out⟩

end Go.Proofs.YtkbkgkmogbkabaaDoor
