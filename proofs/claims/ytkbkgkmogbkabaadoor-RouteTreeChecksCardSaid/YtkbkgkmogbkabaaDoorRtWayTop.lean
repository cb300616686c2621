/-
  Contract of Way.
-/
import Derived.Test.YtkbkgkmogbkabaaDoorRtWayStep
import Derived.Test.YtkbkgkmogbkabaaDoorRtWayLen
namespace Go.Proofs.YtkbkgkmogbkabaaDoor
open Go.RowKit

/-- Three operations may come up. -/
theorem wpAnyH_two {P : Program} {md : Region.Mode} {ops : Array Oper} {Q : Exit → Act → World → Prop} {S : World → Prop} {w : World} (i j : Nat) {o o2 : Oper} {fuel : Nat} {listed : Array Bool} {a : Act} (hi : ops.toList[i]? = some o) (hj : ops.toList[j]? = some o2)
    (hr : Region.ready md ops listed = [i, j]) (hw : Region.wanted o (yielded ops a.tmps) = true) (hw2 : Region.wanted o2 (yielded ops a.tmps) = true)
    (h : ∀ K' : Act → World → Prop, Shut (∀ a w, S w → (S w → wpAnyH P md ops Q S fuel (listed.setIfInBounds i true) a w) → K' a w) → Oper.wp P o a w K' Q)
    (h2 : ∀ K' : Act → World → Prop, Shut (∀ a w, S w → (S w → wpAnyH P md ops Q S fuel (listed.setIfInBounds j true) a w) → K' a w) → Oper.wp P o2 a w K' Q) : wpAnyH P md ops Q S (fuel + 1) listed a w :=
  wpAnyH_ready hr (by simp) (AllReadyH.cons (by rw [← Array.getElem?_toList]; exact hi) (fun K' hK => by rw [if_pos hw]; exact h K' hK) (AllReadyH.cons (by rw [← Array.getElem?_toList]; exact hj) (fun K' hK => by rw [if_pos hw2]; exact h2 K' hK) AllReadyH.nil))
theorem wpAnyH_three {P : Program} {md : Region.Mode} {ops : Array Oper} {Q : Exit → Act → World → Prop} {S : World → Prop} {w : World} (i j k : Nat) {o o2 o3 : Oper} {fuel : Nat} {listed : Array Bool} {a : Act} (hi : ops.toList[i]? = some o) (hj : ops.toList[j]? = some o2) (hk : ops.toList[k]? = some o3)
    (hr : Region.ready md ops listed = [i, j, k]) (hw : Region.wanted o (yielded ops a.tmps) = true) (hw2 : Region.wanted o2 (yielded ops a.tmps) = true) (hw3 : Region.wanted o3 (yielded ops a.tmps) = true)
    (h : ∀ K' : Act → World → Prop, Shut (∀ a w, S w → (S w → wpAnyH P md ops Q S fuel (listed.setIfInBounds i true) a w) → K' a w) → Oper.wp P o a w K' Q)
    (h2 : ∀ K' : Act → World → Prop, Shut (∀ a w, S w → (S w → wpAnyH P md ops Q S fuel (listed.setIfInBounds j true) a w) → K' a w) → Oper.wp P o2 a w K' Q)
    (h3 : ∀ K' : Act → World → Prop, Shut (∀ a w, S w → (S w → wpAnyH P md ops Q S fuel (listed.setIfInBounds k true) a w) → K' a w) → Oper.wp P o3 a w K' Q) : wpAnyH P md ops Q S (fuel + 1) listed a w :=
  wpAnyH_ready hr (by simp) (AllReadyH.cons (by rw [← Array.getElem?_toList]; exact hi) (fun K' hK => by rw [if_pos hw]; exact h K' hK) (AllReadyH.cons (by rw [← Array.getElem?_toList]; exact hj) (fun K' hK => by rw [if_pos hw2]; exact h2 K' hK) (AllReadyH.cons (by rw [← Array.getElem?_toList]; exact hk) (fun K' hK => by rw [if_pos hw3]; exact h3 K' hK) AllReadyH.nil)))

/-- A box of one table. -/
def TBox (w : World) (b : Nat) (u : Value) : Prop := w.heap[b]? = some (.cells #[u] 52 (0, 0))
theorem TBox.ext {w w' : World} {b : Nat} {u : Value} (h : TBox w b u) (e : Ext w w') : TBox w' b u := heap_ext h e
theorem TBox.lt {w : World} {b : Nat} {u : Value} (h : TBox w b u) : b < w.heap.size := lt_of_block h
theorem TBox.cell {w : World} {b : Nat} {u : Value} (h : TBox w b u) : w.cell? ⟨b, 0, none⟩ = some u := cell_of_row w b 0 _ _ _ h
theorem TBox.free {w : World} {b : Nat} {u : Value} (h : TBox w b u) : w.frozen? ⟨b, 0, none⟩ = false := by
  have h' : w.heap[b]? = some (.cells #[u] 52 (0, 0)) := h
  simp [World.frozen?, h']
theorem TBox.set {w : World} {b : Nat} {u : Value} (h : TBox w b u) (v : Value) : TBox (w.setCell ⟨b, 0, none⟩ v) b v := by
  have h' : w.heap[b]? = some (.cells #[u] 52 (0, 0)) := h
  show (w.setCell _ _).heap[b]? = _
  simp only [World.setCell, Array.getElem?_modify, if_true, h', Option.map_some]
  simp
theorem TBox.other {w : World} {b b' : Nat} {u : Value} (h : TBox w b u) (hb : b' ≠ b) (v : Value) : TBox (w.setCell ⟨b', 0, none⟩ v) b u := by
  have h' : w.heap[b]? = some (.cells #[u] 52 (0, 0)) := h
  show (w.setCell _ _).heap[b]? = _
  simp only [World.setCell, Array.getElem?_modify]
  rw [if_neg hb]; exact h'
theorem Mat.setBox {B : Nat} {w : World} {v : Value} {k n : Nat} {D : Nat → Nat → Int} (h : Mat B w v k n D) {b : Nat} {u : Value} (hb : TBox w b u) (x : Value) : Mat B (w.setCell ⟨b, 0, none⟩ x) v k n D := by
  have hb' : w.heap[b]? = some (.cells #[u] 52 (0, 0)) := hb
  obtain ⟨gs, h1, h2, h3, h4, h5⟩ := h
  refine ⟨gs, h1, h2, ownsRow_setCell_other h3 (a := ⟨b, 0, none⟩) ?_ _, h4, fun i hi => ?_⟩
  · intro e
    obtain ⟨-, ⟨h, -⟩ | ⟨g, cap, cur, h, hB, hg, -⟩⟩ := h3
    · rw [h] at e; simp [Value.ownBlock] at e
    · rw [h] at e
      simp only [Value.ownBlock, Option.some.injEq] at e
      subst e
      rw [hg] at hb'; simp at hb'
  · have hi5 : w.heap[gs[i]]? = _ := h5 i hi
    have : b ≠ gs[i] := by
      intro e
      rw [← e, hb'] at hi5; simp at hi5
    exact (h5 i hi).other this 0 x

/-- A part of the code that makes two boxes of tables: what holds behind it. -/
theorem wp_mid {P : Program} {c : Code} {a : Act} {w : World} {Q : Exit → Act → World → Prop} {A : Nat → Nat → Option Addr → Nat → Option Addr → Nat → Act} {F : Nat → Nat → Option Addr → Nat → Option Addr → Nat → World → Prop}
    (h1 : c.wp P (Exit.then (fun a' w' => ∃ b8 b9 a8 k8 a9 k9, a' = A b8 b9 a8 k8 a9 k9 ∧ F b8 b9 a8 k8 a9 k9 w') (fun _ _ _ => False)) a w) (h2 : ∀ b8 b9 a8 k8 a9 k9 w', F b8 b9 a8 k8 a9 k9 w' → Q .normal (A b8 b9 a8 k8 a9 k9) w') : c.wp P Q a w :=
  wp_mono h1 (fun e a' w' h => by
    cases e with
    | normal => obtain ⟨b8, b9, a8, k8, a9, k9, rfl, hf⟩ := h; exact h2 _ _ _ _ _ _ _ hf
    | _ => exact h.elim)

structure Tables (w : World) (N : Nat) (rs : List RoadD) (b8 b9 : Nat) (a8 : Option Addr) (k8 : Nat) (a9 : Option Addr) (k9 : Nat) (w' : World) : Prop where
  e : Ext w w'
  m8 : Mat w.heap.size w' (.slice a8 N k8) N N (fw (costTo rs) N)
  m9 : Mat w.heap.size w' (.slice a9 N k9) N N (costTo rs)
  t8 : TBox w' b8 (.slice a8 N k8)
  t9 : TBox w' b9 (.slice a9 N k9)
  s8 : w.heap.size ≤ b8
  s9 : w.heap.size ≤ b9

theorem Live.start (w6 : World) (ps : Array Value) (t : TypeId) : Live w6 w6.heap.size ps ((w6.alloc (.cells #[Value.slice none 0 0] 25)).alloc (.cells #[.func (.func 54) #[] ps] t)) := by
  refine ⟨((Ext.refl w6).alloc _).alloc _, Nat.le_refl _, by simp, ?_, ?_⟩
  · simp
  · exact ⟨.slice none 0 0, heap_ext (heap_alloc_new w6 _) (Ext.ofAlloc _ _)⟩

set_option maxRecDepth 20000 in
set_option maxHeartbeats 16000000 in
theorem Way_ok (vr : Value) (N : Nat) (rs : List RoadD) (a b : Nat) (w : World) (hv : Roads w vr rs) (hok : mapOk ⟨N, rs⟩ = true) (ha : a < N) (hb : b < N) (hf : fw (costTo rs) N a b < far) :
    Calls Tryd.prog 33 #[.agg #[.int .i64 N, vr], .int .i64 a, .int .i64 b] w fun e w' => ∃ v f r, e = .returned (.tuple #[v, .int .i64 0]) ∧ Ints w' v r ∧ IsWay (costTo rs) (fw (costTo rs) N) N a b f r ∧ f < N ∧ Ext w w' := by
  obtain ⟨ao, cap, rfl⟩ := hv.shape
  have HV := hid hv
  have hok2 := hok
  unfold mapOk at hok2
  rw [Bool.and_eq_true, decide_eq_true_iff, List.all_eq_true] at hok2
  obtain ⟨⟨h1, h8, h16⟩, hall⟩ := hok2
  dsimp only at h1 h8 h16 hall
  have hN1 : 1 ≤ N := by omega
  have hN8 : N ≤ 8 := by omega
  have HAll := hid hall
  have HOk := hid hok
  have HF := hid hf
  have TAB := hid (costs_tab HAll.out)
  have HSA : Hid (stopB N a = true) := by show _ = _; unfold stopB; rw [decide_eq_true_iff]; omega
  have HSB : Hid (stopB N b = true) := by show _ = _; unfold stopB; rw [decide_eq_true_iff]; omega
  have X0 := hid (Box2.alloc w 31 (.int .i64 N) (.slice ao rs.length cap))
  clear hv hok hall hf
  go_enter Tryd.func33, Tryd.ntmps33
  go_wp2_with (fail)
  refine (valid_any _ ⟨N, rs⟩ _ (Roads.ext HV.out (((Ext.ofAlloc _ _).alloc _).alloc _))).mono ?_
  rw [HOk.out]
  rintro e w1 ⟨rfl, he⟩
  have HE := hid ((((Ext.ofAlloc w _).alloc _).alloc _).trans he)
  obtain ⟨c0, c1⟩ := (((X0.out.ext (Ext.ofAlloc _ _)).ext (Ext.ofAlloc _ _)).ext he).cells
  have ca : w1.cell? ⟨w.heap.size + 1, 0, none⟩ = some (.int .i64 a) := by have h := he.cell ((Ext.ofAlloc _ _).cell (World.cell?_alloc_new _ _ _ 0)); simpa using h
  have cb : w1.cell? ⟨w.heap.size + 1 + 1, 0, none⟩ = some (.int .i64 b) := by have h := he.cell (World.cell?_alloc_new _ _ _ 0); simpa using h
  clear he
  go_wp2_with (fail)
  refine (stop_any _ ⟨N, rs⟩ a _ (Roads.ext HV.out HE.out)).mono ?_
  rw [HSA.out]
  rintro e w2 ⟨rfl, he⟩
  replace HE := hid (HE.out.trans he)
  replace c0 := he.cell c0
  replace c1 := he.cell c1
  replace ca := he.cell ca
  replace cb := he.cell cb
  clear he
  go_wp2_with (fail)
  refine (stop_any _ ⟨N, rs⟩ b _ (Roads.ext HV.out HE.out)).mono ?_
  rw [HSB.out]
  rintro e w4 ⟨rfl, he⟩
  replace HE := hid (HE.out.trans he)
  replace c0 := he.cell c0
  replace c1 := he.cell c1
  replace ca := he.cell ca
  replace cb := he.cell cb
  clear he
  go_wp2
  have HKEEP : Hid (∀ w', Ext w4 w' → (w'.cell? ⟨w.heap.size, 0, none⟩ = some (.int .i64 N) ∧ w'.cell? ⟨w.heap.size, 1, none⟩ = some (.slice ao rs.length cap))) := fun w' e => ⟨e.cell c0, e.cell c1⟩
  have E := hid ((Ext.refl w4).drew)
  have CA := hid ca
  have CB := hid cb
  have C0 := hid c0
  clear c0 c1 ca cb
  apply wp_mid (F := Tables w4 N rs)
  case h1 =>
    refine wp_region_held_drew (S := (fun w' => (w'.cell? ⟨w.heap.size, 0, none⟩ = some (.int .i64 N) ∧ w'.cell? ⟨w.heap.size, 1, none⟩ = some (.slice ao rs.length cap)))) (by kernel_rfl) ?hSa0 (fun hHeld => ?_)
    case hSa0 => exact HKEEP.out _ E.out
    refine wpAnyH_tk 0 (v := ?va0x1) rfl (by kernel_rfl) (by kernel_rfl) (by kernel_rfl) (fun _ _ _ h => h) (by rfl) ?hya0x1 (by assumption) ?_
    case hya0x1 => (intro w hSw; (try dsimp only at hSw); go_simp <;> with_reducible rfl)
    (try simp only [Act.put, List.setIfInBounds_toArray, List.set_cons_zero, List.set_cons_succ])
    refine wpAnyH_tk 2 (v := ?va2x2) rfl (by kernel_rfl) (by kernel_rfl) (by kernel_rfl) (fun _ _ _ h => h) (by rfl) ?hya2x2 (by assumption) ?_
    case hya2x2 => (intro w hSw; (try dsimp only at hSw); go_simp <;> with_reducible rfl)
    (try simp only [Act.put, List.setIfInBounds_toArray, List.set_cons_zero, List.set_cons_succ])
    refine wpAnyH_three 1 4 5 rfl rfl rfl (by kernel_rfl) (by rfl) (by rfl) (by rfl) (fun K hK => ?_) (fun K hK => ?_) (fun K hK => ?_)
    · skip
      go_simp
      refine (distances_any _ N rs _ (Roads.ext HV.out (HE.out.trans E.out)) hN1 hN8 h16 HAll.out (TAB.out.good (by decide))).mono ?_
      rintro e W0 ⟨v8, rfl, hm, he⟩
      obtain ⟨a8, k8, rfl⟩ := hm.shape
      have M8 := hid (hm.base E.out.size)
      replace E := hid (E.out.trans he)
      clear hm he
      refine hK.out _ _ ?hSa1x3 (fun hHeld => ?_)
      case hSa1x3 => exact HKEEP.out _ E.out
      clear hK K
      (try simp only [Act.put, List.setIfInBounds_toArray, List.set_cons_zero, List.set_cons_succ])
      refine wpAnyH_three 3 4 5 rfl rfl rfl (by kernel_rfl) (by rfl) (by rfl) (by rfl) (fun K hK => ?_) (fun K hK => ?_) (fun K hK => ?_)
      · skip
        go_simp
        refine (costs_any _ N rs _ (Roads.ext HV.out (HE.out.trans E.out)) hN1 hN8 h16 HAll.out).mono ?_
        rintro e W1 ⟨v9, rfl, hm, he⟩
        obtain ⟨a9, k9, rfl⟩ := hm.shape
        have M9 := hid (hm.base E.out.size)
        replace E := hid (E.out.trans he)
        replace M8 := hid (M8.out.ext he)
        clear hm he
        refine hK.out _ _ ?hSa3x4 (fun hHeld => ?_)
        case hSa3x4 => exact HKEEP.out _ E.out
        clear hK K
        (try simp only [Act.put, List.setIfInBounds_toArray, List.set_cons_zero, List.set_cons_succ])
        refine wpAnyH_two 4 5 rfl rfl (by kernel_rfl) (by rfl) (by rfl) (fun K hK => ?_) (fun K hK => ?_)
        · skip
          go_simp
          have he : Ext W1 (W1.alloc (.cells #[Value.slice none 0 0] 52)) := Ext.ofAlloc _ _
          have hx := heap_alloc_new W1 (.cells #[Value.slice none 0 0] 52)
          have hs := E.out.size
          generalize W1.alloc (.cells #[Value.slice none 0 0] 52) = W2 at he hx ⊢
          generalize W1.heap.size = b8 at hx hs ⊢
          have B8 : Hid (TBox W2 b8 (.slice none 0 0)) := hx
          have S8 := hid hs
          replace E := hid (E.out.trans he)
          replace M8 := hid (M8.out.ext he)
          replace M9 := hid (M9.out.ext he)
          clear he hx hs
          refine hK.out _ _ ?hSa4x5 (fun hHeld => ?_)
          case hSa4x5 => exact HKEEP.out _ E.out
          clear hK K
          (try simp only [Act.put, List.setIfInBounds_toArray, List.set_cons_zero, List.set_cons_succ])
          refine wpAnyH_one 5 rfl (by kernel_rfl) (by rfl) (fun K hK => ?_)
          go_simp
          have he : Ext W2 (W2.alloc (.cells #[Value.slice none 0 0] 52)) := Ext.ofAlloc _ _
          have hx := heap_alloc_new W2 (.cells #[Value.slice none 0 0] 52)
          have hs := E.out.size
          have hlt := B8.out.lt
          generalize W2.alloc (.cells #[Value.slice none 0 0] 52) = W3 at he hx ⊢
          generalize W2.heap.size = b9 at hx hs hlt ⊢
          have B9 : Hid (TBox W3 b9 (.slice none 0 0)) := hx
          have S9 := hid hs
          have HNE : Hid (b8 ≠ b9) := Nat.ne_of_lt hlt
          replace E := hid (E.out.trans he)
          replace M8 := hid (M8.out.ext he)
          replace M9 := hid (M9.out.ext he)
          replace B8 := hid (B8.out.ext he)
          clear he hx hs hlt
          refine hK.out _ _ ?hSa5x6 (fun hHeld => ?_)
          case hSa5x6 => exact HKEEP.out _ E.out
          clear hK K
          (try simp only [Act.put, List.setIfInBounds_toArray, List.set_cons_zero, List.set_cons_succ])
          have d8 := B8.out.cell
          have fr8 := B8.out.free
          refine wpAnyH_one 6 rfl (by kernel_rfl) (by rfl) (fun K hK => ?_)
          go_simp
          replace E := hid (Ext.setCell E.out S8.out 0 (.slice a8 N k8))
          replace M8 := hid (M8.out.setBox B8.out (.slice a8 N k8))
          replace M9 := hid (M9.out.setBox B8.out (.slice a8 N k8))
          replace B9 := hid (B9.out.other HNE.out (.slice a8 N k8))
          replace B8 := hid (B8.out.set (.slice a8 N k8))
          clear d8 fr8
          generalize W3.setCell ⟨b8, 0, none⟩ (.slice a8 N k8) = W4 at E M8 M9 B8 B9 ⊢
          refine hK.out _ _ ?hSa6x7 (fun hHeld => ?_)
          case hSa6x7 => exact HKEEP.out _ E.out
          clear hK K
          (try simp only [Act.put, List.setIfInBounds_toArray, List.set_cons_zero, List.set_cons_succ])
          have d8 := B9.out.cell
          have fr8 := B9.out.free
          refine wpAnyH_one 7 rfl (by kernel_rfl) (by rfl) (fun K hK => ?_)
          go_simp
          replace E := hid (Ext.setCell E.out S9.out 0 (.slice a9 N k9))
          replace M8 := hid (M8.out.setBox B9.out (.slice a9 N k9))
          replace M9 := hid (M9.out.setBox B9.out (.slice a9 N k9))
          replace B8 := hid (B8.out.other HNE.out.symm (.slice a9 N k9))
          replace B9 := hid (B9.out.set (.slice a9 N k9))
          clear d8 fr8
          generalize W4.setCell ⟨b9, 0, none⟩ (.slice a9 N k9) = W5 at E M8 M9 B8 B9 ⊢
          refine hK.out _ _ ?hSa7x8 (fun hHeld => ?_)
          case hSa7x8 => exact HKEEP.out _ E.out
          clear hK K
          (try simp only [Act.put, List.setIfInBounds_toArray, List.set_cons_zero, List.set_cons_succ])
          refine wpAnyH_done (by kernel_rfl) ?_ _
          exact ⟨b8, b9, a8, k8, a9, k9, rfl, ⟨E.out, M8.out, M9.out, B8.out, B9.out, S8.out, S9.out⟩⟩
        · skip
          go_simp
          have he : Ext W1 (W1.alloc (.cells #[Value.slice none 0 0] 52)) := Ext.ofAlloc _ _
          have hx := heap_alloc_new W1 (.cells #[Value.slice none 0 0] 52)
          have hs := E.out.size
          generalize W1.alloc (.cells #[Value.slice none 0 0] 52) = W2 at he hx ⊢
          generalize W1.heap.size = b9 at hx hs ⊢
          have B9 : Hid (TBox W2 b9 (.slice none 0 0)) := hx
          have S9 := hid hs
          replace E := hid (E.out.trans he)
          replace M8 := hid (M8.out.ext he)
          replace M9 := hid (M9.out.ext he)
          clear he hx hs
          refine hK.out _ _ ?hSa5x9 (fun hHeld => ?_)
          case hSa5x9 => exact HKEEP.out _ E.out
          clear hK K
          (try simp only [Act.put, List.setIfInBounds_toArray, List.set_cons_zero, List.set_cons_succ])
          refine wpAnyH_one 4 rfl (by kernel_rfl) (by rfl) (fun K hK => ?_)
          go_simp
          have he : Ext W2 (W2.alloc (.cells #[Value.slice none 0 0] 52)) := Ext.ofAlloc _ _
          have hx := heap_alloc_new W2 (.cells #[Value.slice none 0 0] 52)
          have hs := E.out.size
          have hlt := B9.out.lt
          generalize W2.alloc (.cells #[Value.slice none 0 0] 52) = W3 at he hx ⊢
          generalize W2.heap.size = b8 at hx hs hlt ⊢
          have B8 : Hid (TBox W3 b8 (.slice none 0 0)) := hx
          have S8 := hid hs
          have HNE : Hid (b8 ≠ b9) := Nat.ne_of_gt hlt
          replace E := hid (E.out.trans he)
          replace M8 := hid (M8.out.ext he)
          replace M9 := hid (M9.out.ext he)
          replace B9 := hid (B9.out.ext he)
          clear he hx hs hlt
          refine hK.out _ _ ?hSa4x10 (fun hHeld => ?_)
          case hSa4x10 => exact HKEEP.out _ E.out
          clear hK K
          (try simp only [Act.put, List.setIfInBounds_toArray, List.set_cons_zero, List.set_cons_succ])
          have d8 := B8.out.cell
          have fr8 := B8.out.free
          refine wpAnyH_one 6 rfl (by kernel_rfl) (by rfl) (fun K hK => ?_)
          go_simp
          replace E := hid (Ext.setCell E.out S8.out 0 (.slice a8 N k8))
          replace M8 := hid (M8.out.setBox B8.out (.slice a8 N k8))
          replace M9 := hid (M9.out.setBox B8.out (.slice a8 N k8))
          replace B9 := hid (B9.out.other HNE.out (.slice a8 N k8))
          replace B8 := hid (B8.out.set (.slice a8 N k8))
          clear d8 fr8
          generalize W3.setCell ⟨b8, 0, none⟩ (.slice a8 N k8) = W4 at E M8 M9 B8 B9 ⊢
          refine hK.out _ _ ?hSa6x11 (fun hHeld => ?_)
          case hSa6x11 => exact HKEEP.out _ E.out
          clear hK K
          (try simp only [Act.put, List.setIfInBounds_toArray, List.set_cons_zero, List.set_cons_succ])
          have d8 := B9.out.cell
          have fr8 := B9.out.free
          refine wpAnyH_one 7 rfl (by kernel_rfl) (by rfl) (fun K hK => ?_)
          go_simp
          replace E := hid (Ext.setCell E.out S9.out 0 (.slice a9 N k9))
          replace M8 := hid (M8.out.setBox B9.out (.slice a9 N k9))
          replace M9 := hid (M9.out.setBox B9.out (.slice a9 N k9))
          replace B8 := hid (B8.out.other HNE.out.symm (.slice a9 N k9))
          replace B9 := hid (B9.out.set (.slice a9 N k9))
          clear d8 fr8
          generalize W4.setCell ⟨b9, 0, none⟩ (.slice a9 N k9) = W5 at E M8 M9 B8 B9 ⊢
          refine hK.out _ _ ?hSa7x12 (fun hHeld => ?_)
          case hSa7x12 => exact HKEEP.out _ E.out
          clear hK K
          (try simp only [Act.put, List.setIfInBounds_toArray, List.set_cons_zero, List.set_cons_succ])
          refine wpAnyH_done (by kernel_rfl) ?_ _
          exact ⟨b8, b9, a8, k8, a9, k9, rfl, ⟨E.out, M8.out, M9.out, B8.out, B9.out, S8.out, S9.out⟩⟩
      · skip
        go_simp
        have he : Ext W0 (W0.alloc (.cells #[Value.slice none 0 0] 52)) := Ext.ofAlloc _ _
        have hx := heap_alloc_new W0 (.cells #[Value.slice none 0 0] 52)
        have hs := E.out.size
        generalize W0.alloc (.cells #[Value.slice none 0 0] 52) = W1 at he hx ⊢
        generalize W0.heap.size = b8 at hx hs ⊢
        have B8 : Hid (TBox W1 b8 (.slice none 0 0)) := hx
        have S8 := hid hs
        replace E := hid (E.out.trans he)
        replace M8 := hid (M8.out.ext he)
        clear he hx hs
        refine hK.out _ _ ?hSa4x13 (fun hHeld => ?_)
        case hSa4x13 => exact HKEEP.out _ E.out
        clear hK K
        (try simp only [Act.put, List.setIfInBounds_toArray, List.set_cons_zero, List.set_cons_succ])
        refine wpAnyH_two 3 5 rfl rfl (by kernel_rfl) (by rfl) (by rfl) (fun K hK => ?_) (fun K hK => ?_)
        · skip
          go_simp
          refine (costs_any _ N rs _ (Roads.ext HV.out (HE.out.trans E.out)) hN1 hN8 h16 HAll.out).mono ?_
          rintro e W2 ⟨v9, rfl, hm, he⟩
          obtain ⟨a9, k9, rfl⟩ := hm.shape
          have M9 := hid (hm.base E.out.size)
          replace E := hid (E.out.trans he)
          replace M8 := hid (M8.out.ext he)
          replace B8 := hid (B8.out.ext he)
          clear hm he
          refine hK.out _ _ ?hSa3x14 (fun hHeld => ?_)
          case hSa3x14 => exact HKEEP.out _ E.out
          clear hK K
          (try simp only [Act.put, List.setIfInBounds_toArray, List.set_cons_zero, List.set_cons_succ])
          refine wpAnyH_one 5 rfl (by kernel_rfl) (by rfl) (fun K hK => ?_)
          go_simp
          have he : Ext W2 (W2.alloc (.cells #[Value.slice none 0 0] 52)) := Ext.ofAlloc _ _
          have hx := heap_alloc_new W2 (.cells #[Value.slice none 0 0] 52)
          have hs := E.out.size
          have hlt := B8.out.lt
          generalize W2.alloc (.cells #[Value.slice none 0 0] 52) = W3 at he hx ⊢
          generalize W2.heap.size = b9 at hx hs hlt ⊢
          have B9 : Hid (TBox W3 b9 (.slice none 0 0)) := hx
          have S9 := hid hs
          have HNE : Hid (b8 ≠ b9) := Nat.ne_of_lt hlt
          replace E := hid (E.out.trans he)
          replace M8 := hid (M8.out.ext he)
          replace M9 := hid (M9.out.ext he)
          replace B8 := hid (B8.out.ext he)
          clear he hx hs hlt
          refine hK.out _ _ ?hSa5x15 (fun hHeld => ?_)
          case hSa5x15 => exact HKEEP.out _ E.out
          clear hK K
          (try simp only [Act.put, List.setIfInBounds_toArray, List.set_cons_zero, List.set_cons_succ])
          have d8 := B8.out.cell
          have fr8 := B8.out.free
          refine wpAnyH_one 6 rfl (by kernel_rfl) (by rfl) (fun K hK => ?_)
          go_simp
          replace E := hid (Ext.setCell E.out S8.out 0 (.slice a8 N k8))
          replace M8 := hid (M8.out.setBox B8.out (.slice a8 N k8))
          replace M9 := hid (M9.out.setBox B8.out (.slice a8 N k8))
          replace B9 := hid (B9.out.other HNE.out (.slice a8 N k8))
          replace B8 := hid (B8.out.set (.slice a8 N k8))
          clear d8 fr8
          generalize W3.setCell ⟨b8, 0, none⟩ (.slice a8 N k8) = W4 at E M8 M9 B8 B9 ⊢
          refine hK.out _ _ ?hSa6x16 (fun hHeld => ?_)
          case hSa6x16 => exact HKEEP.out _ E.out
          clear hK K
          (try simp only [Act.put, List.setIfInBounds_toArray, List.set_cons_zero, List.set_cons_succ])
          have d8 := B9.out.cell
          have fr8 := B9.out.free
          refine wpAnyH_one 7 rfl (by kernel_rfl) (by rfl) (fun K hK => ?_)
          go_simp
          replace E := hid (Ext.setCell E.out S9.out 0 (.slice a9 N k9))
          replace M8 := hid (M8.out.setBox B9.out (.slice a9 N k9))
          replace M9 := hid (M9.out.setBox B9.out (.slice a9 N k9))
          replace B8 := hid (B8.out.other HNE.out.symm (.slice a9 N k9))
          replace B9 := hid (B9.out.set (.slice a9 N k9))
          clear d8 fr8
          generalize W4.setCell ⟨b9, 0, none⟩ (.slice a9 N k9) = W5 at E M8 M9 B8 B9 ⊢
          refine hK.out _ _ ?hSa7x17 (fun hHeld => ?_)
          case hSa7x17 => exact HKEEP.out _ E.out
          clear hK K
          (try simp only [Act.put, List.setIfInBounds_toArray, List.set_cons_zero, List.set_cons_succ])
          refine wpAnyH_done (by kernel_rfl) ?_ _
          exact ⟨b8, b9, a8, k8, a9, k9, rfl, ⟨E.out, M8.out, M9.out, B8.out, B9.out, S8.out, S9.out⟩⟩
        · skip
          go_simp
          have he : Ext W1 (W1.alloc (.cells #[Value.slice none 0 0] 52)) := Ext.ofAlloc _ _
          have hx := heap_alloc_new W1 (.cells #[Value.slice none 0 0] 52)
          have hs := E.out.size
          have hlt := B8.out.lt
          generalize W1.alloc (.cells #[Value.slice none 0 0] 52) = W2 at he hx ⊢
          generalize W1.heap.size = b9 at hx hs hlt ⊢
          have B9 : Hid (TBox W2 b9 (.slice none 0 0)) := hx
          have S9 := hid hs
          have HNE : Hid (b8 ≠ b9) := Nat.ne_of_lt hlt
          replace E := hid (E.out.trans he)
          replace M8 := hid (M8.out.ext he)
          replace B8 := hid (B8.out.ext he)
          clear he hx hs hlt
          refine hK.out _ _ ?hSa5x18 (fun hHeld => ?_)
          case hSa5x18 => exact HKEEP.out _ E.out
          clear hK K
          (try simp only [Act.put, List.setIfInBounds_toArray, List.set_cons_zero, List.set_cons_succ])
          refine wpAnyH_one 3 rfl (by kernel_rfl) (by rfl) (fun K hK => ?_)
          go_simp
          refine (costs_any _ N rs _ (Roads.ext HV.out (HE.out.trans E.out)) hN1 hN8 h16 HAll.out).mono ?_
          rintro e W3 ⟨v9, rfl, hm, he⟩
          obtain ⟨a9, k9, rfl⟩ := hm.shape
          have M9 := hid (hm.base E.out.size)
          replace E := hid (E.out.trans he)
          replace M8 := hid (M8.out.ext he)
          replace B8 := hid (B8.out.ext he)
          replace B9 := hid (B9.out.ext he)
          clear hm he
          refine hK.out _ _ ?hSa3x19 (fun hHeld => ?_)
          case hSa3x19 => exact HKEEP.out _ E.out
          clear hK K
          (try simp only [Act.put, List.setIfInBounds_toArray, List.set_cons_zero, List.set_cons_succ])
          have d8 := B8.out.cell
          have fr8 := B8.out.free
          refine wpAnyH_one 6 rfl (by kernel_rfl) (by rfl) (fun K hK => ?_)
          go_simp
          replace E := hid (Ext.setCell E.out S8.out 0 (.slice a8 N k8))
          replace M8 := hid (M8.out.setBox B8.out (.slice a8 N k8))
          replace M9 := hid (M9.out.setBox B8.out (.slice a8 N k8))
          replace B9 := hid (B9.out.other HNE.out (.slice a8 N k8))
          replace B8 := hid (B8.out.set (.slice a8 N k8))
          clear d8 fr8
          generalize W3.setCell ⟨b8, 0, none⟩ (.slice a8 N k8) = W4 at E M8 M9 B8 B9 ⊢
          refine hK.out _ _ ?hSa6x20 (fun hHeld => ?_)
          case hSa6x20 => exact HKEEP.out _ E.out
          clear hK K
          (try simp only [Act.put, List.setIfInBounds_toArray, List.set_cons_zero, List.set_cons_succ])
          have d8 := B9.out.cell
          have fr8 := B9.out.free
          refine wpAnyH_one 7 rfl (by kernel_rfl) (by rfl) (fun K hK => ?_)
          go_simp
          replace E := hid (Ext.setCell E.out S9.out 0 (.slice a9 N k9))
          replace M8 := hid (M8.out.setBox B9.out (.slice a9 N k9))
          replace M9 := hid (M9.out.setBox B9.out (.slice a9 N k9))
          replace B8 := hid (B8.out.other HNE.out.symm (.slice a9 N k9))
          replace B9 := hid (B9.out.set (.slice a9 N k9))
          clear d8 fr8
          generalize W4.setCell ⟨b9, 0, none⟩ (.slice a9 N k9) = W5 at E M8 M9 B8 B9 ⊢
          refine hK.out _ _ ?hSa7x21 (fun hHeld => ?_)
          case hSa7x21 => exact HKEEP.out _ E.out
          clear hK K
          (try simp only [Act.put, List.setIfInBounds_toArray, List.set_cons_zero, List.set_cons_succ])
          refine wpAnyH_done (by kernel_rfl) ?_ _
          exact ⟨b8, b9, a8, k8, a9, k9, rfl, ⟨E.out, M8.out, M9.out, B8.out, B9.out, S8.out, S9.out⟩⟩
      · skip
        go_simp
        have he : Ext W0 (W0.alloc (.cells #[Value.slice none 0 0] 52)) := Ext.ofAlloc _ _
        have hx := heap_alloc_new W0 (.cells #[Value.slice none 0 0] 52)
        have hs := E.out.size
        generalize W0.alloc (.cells #[Value.slice none 0 0] 52) = W1 at he hx ⊢
        generalize W0.heap.size = b9 at hx hs ⊢
        have B9 : Hid (TBox W1 b9 (.slice none 0 0)) := hx
        have S9 := hid hs
        replace E := hid (E.out.trans he)
        replace M8 := hid (M8.out.ext he)
        clear he hx hs
        refine hK.out _ _ ?hSa5x22 (fun hHeld => ?_)
        case hSa5x22 => exact HKEEP.out _ E.out
        clear hK K
        (try simp only [Act.put, List.setIfInBounds_toArray, List.set_cons_zero, List.set_cons_succ])
        refine wpAnyH_two 3 4 rfl rfl (by kernel_rfl) (by rfl) (by rfl) (fun K hK => ?_) (fun K hK => ?_)
        · skip
          go_simp
          refine (costs_any _ N rs _ (Roads.ext HV.out (HE.out.trans E.out)) hN1 hN8 h16 HAll.out).mono ?_
          rintro e W2 ⟨v9, rfl, hm, he⟩
          obtain ⟨a9, k9, rfl⟩ := hm.shape
          have M9 := hid (hm.base E.out.size)
          replace E := hid (E.out.trans he)
          replace M8 := hid (M8.out.ext he)
          replace B9 := hid (B9.out.ext he)
          clear hm he
          refine hK.out _ _ ?hSa3x23 (fun hHeld => ?_)
          case hSa3x23 => exact HKEEP.out _ E.out
          clear hK K
          (try simp only [Act.put, List.setIfInBounds_toArray, List.set_cons_zero, List.set_cons_succ])
          refine wpAnyH_one 4 rfl (by kernel_rfl) (by rfl) (fun K hK => ?_)
          go_simp
          have he : Ext W2 (W2.alloc (.cells #[Value.slice none 0 0] 52)) := Ext.ofAlloc _ _
          have hx := heap_alloc_new W2 (.cells #[Value.slice none 0 0] 52)
          have hs := E.out.size
          have hlt := B9.out.lt
          generalize W2.alloc (.cells #[Value.slice none 0 0] 52) = W3 at he hx ⊢
          generalize W2.heap.size = b8 at hx hs hlt ⊢
          have B8 : Hid (TBox W3 b8 (.slice none 0 0)) := hx
          have S8 := hid hs
          have HNE : Hid (b8 ≠ b9) := Nat.ne_of_gt hlt
          replace E := hid (E.out.trans he)
          replace M8 := hid (M8.out.ext he)
          replace M9 := hid (M9.out.ext he)
          replace B9 := hid (B9.out.ext he)
          clear he hx hs hlt
          refine hK.out _ _ ?hSa4x24 (fun hHeld => ?_)
          case hSa4x24 => exact HKEEP.out _ E.out
          clear hK K
          (try simp only [Act.put, List.setIfInBounds_toArray, List.set_cons_zero, List.set_cons_succ])
          have d8 := B8.out.cell
          have fr8 := B8.out.free
          refine wpAnyH_one 6 rfl (by kernel_rfl) (by rfl) (fun K hK => ?_)
          go_simp
          replace E := hid (Ext.setCell E.out S8.out 0 (.slice a8 N k8))
          replace M8 := hid (M8.out.setBox B8.out (.slice a8 N k8))
          replace M9 := hid (M9.out.setBox B8.out (.slice a8 N k8))
          replace B9 := hid (B9.out.other HNE.out (.slice a8 N k8))
          replace B8 := hid (B8.out.set (.slice a8 N k8))
          clear d8 fr8
          generalize W3.setCell ⟨b8, 0, none⟩ (.slice a8 N k8) = W4 at E M8 M9 B8 B9 ⊢
          refine hK.out _ _ ?hSa6x25 (fun hHeld => ?_)
          case hSa6x25 => exact HKEEP.out _ E.out
          clear hK K
          (try simp only [Act.put, List.setIfInBounds_toArray, List.set_cons_zero, List.set_cons_succ])
          have d8 := B9.out.cell
          have fr8 := B9.out.free
          refine wpAnyH_one 7 rfl (by kernel_rfl) (by rfl) (fun K hK => ?_)
          go_simp
          replace E := hid (Ext.setCell E.out S9.out 0 (.slice a9 N k9))
          replace M8 := hid (M8.out.setBox B9.out (.slice a9 N k9))
          replace M9 := hid (M9.out.setBox B9.out (.slice a9 N k9))
          replace B8 := hid (B8.out.other HNE.out.symm (.slice a9 N k9))
          replace B9 := hid (B9.out.set (.slice a9 N k9))
          clear d8 fr8
          generalize W4.setCell ⟨b9, 0, none⟩ (.slice a9 N k9) = W5 at E M8 M9 B8 B9 ⊢
          refine hK.out _ _ ?hSa7x26 (fun hHeld => ?_)
          case hSa7x26 => exact HKEEP.out _ E.out
          clear hK K
          (try simp only [Act.put, List.setIfInBounds_toArray, List.set_cons_zero, List.set_cons_succ])
          refine wpAnyH_done (by kernel_rfl) ?_ _
          exact ⟨b8, b9, a8, k8, a9, k9, rfl, ⟨E.out, M8.out, M9.out, B8.out, B9.out, S8.out, S9.out⟩⟩
        · skip
          go_simp
          have he : Ext W1 (W1.alloc (.cells #[Value.slice none 0 0] 52)) := Ext.ofAlloc _ _
          have hx := heap_alloc_new W1 (.cells #[Value.slice none 0 0] 52)
          have hs := E.out.size
          have hlt := B9.out.lt
          generalize W1.alloc (.cells #[Value.slice none 0 0] 52) = W2 at he hx ⊢
          generalize W1.heap.size = b8 at hx hs hlt ⊢
          have B8 : Hid (TBox W2 b8 (.slice none 0 0)) := hx
          have S8 := hid hs
          have HNE : Hid (b8 ≠ b9) := Nat.ne_of_gt hlt
          replace E := hid (E.out.trans he)
          replace M8 := hid (M8.out.ext he)
          replace B9 := hid (B9.out.ext he)
          clear he hx hs hlt
          refine hK.out _ _ ?hSa4x27 (fun hHeld => ?_)
          case hSa4x27 => exact HKEEP.out _ E.out
          clear hK K
          (try simp only [Act.put, List.setIfInBounds_toArray, List.set_cons_zero, List.set_cons_succ])
          refine wpAnyH_one 3 rfl (by kernel_rfl) (by rfl) (fun K hK => ?_)
          go_simp
          refine (costs_any _ N rs _ (Roads.ext HV.out (HE.out.trans E.out)) hN1 hN8 h16 HAll.out).mono ?_
          rintro e W3 ⟨v9, rfl, hm, he⟩
          obtain ⟨a9, k9, rfl⟩ := hm.shape
          have M9 := hid (hm.base E.out.size)
          replace E := hid (E.out.trans he)
          replace M8 := hid (M8.out.ext he)
          replace B8 := hid (B8.out.ext he)
          replace B9 := hid (B9.out.ext he)
          clear hm he
          refine hK.out _ _ ?hSa3x28 (fun hHeld => ?_)
          case hSa3x28 => exact HKEEP.out _ E.out
          clear hK K
          (try simp only [Act.put, List.setIfInBounds_toArray, List.set_cons_zero, List.set_cons_succ])
          have d8 := B8.out.cell
          have fr8 := B8.out.free
          refine wpAnyH_one 6 rfl (by kernel_rfl) (by rfl) (fun K hK => ?_)
          go_simp
          replace E := hid (Ext.setCell E.out S8.out 0 (.slice a8 N k8))
          replace M8 := hid (M8.out.setBox B8.out (.slice a8 N k8))
          replace M9 := hid (M9.out.setBox B8.out (.slice a8 N k8))
          replace B9 := hid (B9.out.other HNE.out (.slice a8 N k8))
          replace B8 := hid (B8.out.set (.slice a8 N k8))
          clear d8 fr8
          generalize W3.setCell ⟨b8, 0, none⟩ (.slice a8 N k8) = W4 at E M8 M9 B8 B9 ⊢
          refine hK.out _ _ ?hSa6x29 (fun hHeld => ?_)
          case hSa6x29 => exact HKEEP.out _ E.out
          clear hK K
          (try simp only [Act.put, List.setIfInBounds_toArray, List.set_cons_zero, List.set_cons_succ])
          have d8 := B9.out.cell
          have fr8 := B9.out.free
          refine wpAnyH_one 7 rfl (by kernel_rfl) (by rfl) (fun K hK => ?_)
          go_simp
          replace E := hid (Ext.setCell E.out S9.out 0 (.slice a9 N k9))
          replace M8 := hid (M8.out.setBox B9.out (.slice a9 N k9))
          replace M9 := hid (M9.out.setBox B9.out (.slice a9 N k9))
          replace B8 := hid (B8.out.other HNE.out.symm (.slice a9 N k9))
          replace B9 := hid (B9.out.set (.slice a9 N k9))
          clear d8 fr8
          generalize W4.setCell ⟨b9, 0, none⟩ (.slice a9 N k9) = W5 at E M8 M9 B8 B9 ⊢
          refine hK.out _ _ ?hSa7x30 (fun hHeld => ?_)
          case hSa7x30 => exact HKEEP.out _ E.out
          clear hK K
          (try simp only [Act.put, List.setIfInBounds_toArray, List.set_cons_zero, List.set_cons_succ])
          refine wpAnyH_done (by kernel_rfl) ?_ _
          exact ⟨b8, b9, a8, k8, a9, k9, rfl, ⟨E.out, M8.out, M9.out, B8.out, B9.out, S8.out, S9.out⟩⟩
    · skip
      go_simp
      have he : Ext w4 (w4.alloc (.cells #[Value.slice none 0 0] 52)).drew := (Ext.ofAlloc _ _).drew
      have hx : (w4.alloc (.cells #[Value.slice none 0 0] 52)).drew.heap[w4.heap.size]? = _ := heap_alloc_new w4 (.cells #[Value.slice none 0 0] 52)
      replace E := hid (Ext.refl w4)
      have hs := E.out.size
      generalize (w4.alloc (.cells #[Value.slice none 0 0] 52)).drew = W0 at he hx ⊢
      clear hs
      generalize hbb : w4.heap.size = b8 at hx ⊢
      have hs : w4.heap.size ≤ b8 := Nat.le_of_eq hbb
      clear hbb
      have B8 : Hid (TBox W0 b8 (.slice none 0 0)) := hx
      have S8 := hid hs
      replace E := hid (E.out.trans he)
      clear he hx hs
      refine hK.out _ _ ?hSa4x31 (fun hHeld => ?_)
      case hSa4x31 => exact HKEEP.out _ E.out
      clear hK K
      (try simp only [Act.put, List.setIfInBounds_toArray, List.set_cons_zero, List.set_cons_succ])
      refine wpAnyH_two 1 5 rfl rfl (by kernel_rfl) (by rfl) (by rfl) (fun K hK => ?_) (fun K hK => ?_)
      · skip
        go_simp
        refine (distances_any _ N rs _ (Roads.ext HV.out (HE.out.trans E.out)) hN1 hN8 h16 HAll.out (TAB.out.good (by decide))).mono ?_
        rintro e W1 ⟨v8, rfl, hm, he⟩
        obtain ⟨a8, k8, rfl⟩ := hm.shape
        have M8 := hid (hm.base E.out.size)
        replace E := hid (E.out.trans he)
        replace B8 := hid (B8.out.ext he)
        clear hm he
        refine hK.out _ _ ?hSa1x32 (fun hHeld => ?_)
        case hSa1x32 => exact HKEEP.out _ E.out
        clear hK K
        (try simp only [Act.put, List.setIfInBounds_toArray, List.set_cons_zero, List.set_cons_succ])
        refine wpAnyH_two 3 5 rfl rfl (by kernel_rfl) (by rfl) (by rfl) (fun K hK => ?_) (fun K hK => ?_)
        · skip
          go_simp
          refine (costs_any _ N rs _ (Roads.ext HV.out (HE.out.trans E.out)) hN1 hN8 h16 HAll.out).mono ?_
          rintro e W2 ⟨v9, rfl, hm, he⟩
          obtain ⟨a9, k9, rfl⟩ := hm.shape
          have M9 := hid (hm.base E.out.size)
          replace E := hid (E.out.trans he)
          replace M8 := hid (M8.out.ext he)
          replace B8 := hid (B8.out.ext he)
          clear hm he
          refine hK.out _ _ ?hSa3x33 (fun hHeld => ?_)
          case hSa3x33 => exact HKEEP.out _ E.out
          clear hK K
          (try simp only [Act.put, List.setIfInBounds_toArray, List.set_cons_zero, List.set_cons_succ])
          refine wpAnyH_one 5 rfl (by kernel_rfl) (by rfl) (fun K hK => ?_)
          go_simp
          have he : Ext W2 (W2.alloc (.cells #[Value.slice none 0 0] 52)) := Ext.ofAlloc _ _
          have hx := heap_alloc_new W2 (.cells #[Value.slice none 0 0] 52)
          have hs := E.out.size
          have hlt := B8.out.lt
          generalize W2.alloc (.cells #[Value.slice none 0 0] 52) = W3 at he hx ⊢
          generalize W2.heap.size = b9 at hx hs hlt ⊢
          have B9 : Hid (TBox W3 b9 (.slice none 0 0)) := hx
          have S9 := hid hs
          have HNE : Hid (b8 ≠ b9) := Nat.ne_of_lt hlt
          replace E := hid (E.out.trans he)
          replace M8 := hid (M8.out.ext he)
          replace M9 := hid (M9.out.ext he)
          replace B8 := hid (B8.out.ext he)
          clear he hx hs hlt
          refine hK.out _ _ ?hSa5x34 (fun hHeld => ?_)
          case hSa5x34 => exact HKEEP.out _ E.out
          clear hK K
          (try simp only [Act.put, List.setIfInBounds_toArray, List.set_cons_zero, List.set_cons_succ])
          have d8 := B8.out.cell
          have fr8 := B8.out.free
          refine wpAnyH_one 6 rfl (by kernel_rfl) (by rfl) (fun K hK => ?_)
          go_simp
          replace E := hid (Ext.setCell E.out S8.out 0 (.slice a8 N k8))
          replace M8 := hid (M8.out.setBox B8.out (.slice a8 N k8))
          replace M9 := hid (M9.out.setBox B8.out (.slice a8 N k8))
          replace B9 := hid (B9.out.other HNE.out (.slice a8 N k8))
          replace B8 := hid (B8.out.set (.slice a8 N k8))
          clear d8 fr8
          generalize W3.setCell ⟨b8, 0, none⟩ (.slice a8 N k8) = W4 at E M8 M9 B8 B9 ⊢
          refine hK.out _ _ ?hSa6x35 (fun hHeld => ?_)
          case hSa6x35 => exact HKEEP.out _ E.out
          clear hK K
          (try simp only [Act.put, List.setIfInBounds_toArray, List.set_cons_zero, List.set_cons_succ])
          have d8 := B9.out.cell
          have fr8 := B9.out.free
          refine wpAnyH_one 7 rfl (by kernel_rfl) (by rfl) (fun K hK => ?_)
          go_simp
          replace E := hid (Ext.setCell E.out S9.out 0 (.slice a9 N k9))
          replace M8 := hid (M8.out.setBox B9.out (.slice a9 N k9))
          replace M9 := hid (M9.out.setBox B9.out (.slice a9 N k9))
          replace B8 := hid (B8.out.other HNE.out.symm (.slice a9 N k9))
          replace B9 := hid (B9.out.set (.slice a9 N k9))
          clear d8 fr8
          generalize W4.setCell ⟨b9, 0, none⟩ (.slice a9 N k9) = W5 at E M8 M9 B8 B9 ⊢
          refine hK.out _ _ ?hSa7x36 (fun hHeld => ?_)
          case hSa7x36 => exact HKEEP.out _ E.out
          clear hK K
          (try simp only [Act.put, List.setIfInBounds_toArray, List.set_cons_zero, List.set_cons_succ])
          refine wpAnyH_done (by kernel_rfl) ?_ _
          exact ⟨b8, b9, a8, k8, a9, k9, rfl, ⟨E.out, M8.out, M9.out, B8.out, B9.out, S8.out, S9.out⟩⟩
        · skip
          go_simp
          have he : Ext W1 (W1.alloc (.cells #[Value.slice none 0 0] 52)) := Ext.ofAlloc _ _
          have hx := heap_alloc_new W1 (.cells #[Value.slice none 0 0] 52)
          have hs := E.out.size
          have hlt := B8.out.lt
          generalize W1.alloc (.cells #[Value.slice none 0 0] 52) = W2 at he hx ⊢
          generalize W1.heap.size = b9 at hx hs hlt ⊢
          have B9 : Hid (TBox W2 b9 (.slice none 0 0)) := hx
          have S9 := hid hs
          have HNE : Hid (b8 ≠ b9) := Nat.ne_of_lt hlt
          replace E := hid (E.out.trans he)
          replace M8 := hid (M8.out.ext he)
          replace B8 := hid (B8.out.ext he)
          clear he hx hs hlt
          refine hK.out _ _ ?hSa5x37 (fun hHeld => ?_)
          case hSa5x37 => exact HKEEP.out _ E.out
          clear hK K
          (try simp only [Act.put, List.setIfInBounds_toArray, List.set_cons_zero, List.set_cons_succ])
          refine wpAnyH_one 3 rfl (by kernel_rfl) (by rfl) (fun K hK => ?_)
          go_simp
          refine (costs_any _ N rs _ (Roads.ext HV.out (HE.out.trans E.out)) hN1 hN8 h16 HAll.out).mono ?_
          rintro e W3 ⟨v9, rfl, hm, he⟩
          obtain ⟨a9, k9, rfl⟩ := hm.shape
          have M9 := hid (hm.base E.out.size)
          replace E := hid (E.out.trans he)
          replace M8 := hid (M8.out.ext he)
          replace B8 := hid (B8.out.ext he)
          replace B9 := hid (B9.out.ext he)
          clear hm he
          refine hK.out _ _ ?hSa3x38 (fun hHeld => ?_)
          case hSa3x38 => exact HKEEP.out _ E.out
          clear hK K
          (try simp only [Act.put, List.setIfInBounds_toArray, List.set_cons_zero, List.set_cons_succ])
          have d8 := B8.out.cell
          have fr8 := B8.out.free
          refine wpAnyH_one 6 rfl (by kernel_rfl) (by rfl) (fun K hK => ?_)
          go_simp
          replace E := hid (Ext.setCell E.out S8.out 0 (.slice a8 N k8))
          replace M8 := hid (M8.out.setBox B8.out (.slice a8 N k8))
          replace M9 := hid (M9.out.setBox B8.out (.slice a8 N k8))
          replace B9 := hid (B9.out.other HNE.out (.slice a8 N k8))
          replace B8 := hid (B8.out.set (.slice a8 N k8))
          clear d8 fr8
          generalize W3.setCell ⟨b8, 0, none⟩ (.slice a8 N k8) = W4 at E M8 M9 B8 B9 ⊢
          refine hK.out _ _ ?hSa6x39 (fun hHeld => ?_)
          case hSa6x39 => exact HKEEP.out _ E.out
          clear hK K
          (try simp only [Act.put, List.setIfInBounds_toArray, List.set_cons_zero, List.set_cons_succ])
          have d8 := B9.out.cell
          have fr8 := B9.out.free
          refine wpAnyH_one 7 rfl (by kernel_rfl) (by rfl) (fun K hK => ?_)
          go_simp
          replace E := hid (Ext.setCell E.out S9.out 0 (.slice a9 N k9))
          replace M8 := hid (M8.out.setBox B9.out (.slice a9 N k9))
          replace M9 := hid (M9.out.setBox B9.out (.slice a9 N k9))
          replace B8 := hid (B8.out.other HNE.out.symm (.slice a9 N k9))
          replace B9 := hid (B9.out.set (.slice a9 N k9))
          clear d8 fr8
          generalize W4.setCell ⟨b9, 0, none⟩ (.slice a9 N k9) = W5 at E M8 M9 B8 B9 ⊢
          refine hK.out _ _ ?hSa7x40 (fun hHeld => ?_)
          case hSa7x40 => exact HKEEP.out _ E.out
          clear hK K
          (try simp only [Act.put, List.setIfInBounds_toArray, List.set_cons_zero, List.set_cons_succ])
          refine wpAnyH_done (by kernel_rfl) ?_ _
          exact ⟨b8, b9, a8, k8, a9, k9, rfl, ⟨E.out, M8.out, M9.out, B8.out, B9.out, S8.out, S9.out⟩⟩
      · skip
        go_simp
        have he : Ext W0 (W0.alloc (.cells #[Value.slice none 0 0] 52)) := Ext.ofAlloc _ _
        have hx := heap_alloc_new W0 (.cells #[Value.slice none 0 0] 52)
        have hs := E.out.size
        have hlt := B8.out.lt
        generalize W0.alloc (.cells #[Value.slice none 0 0] 52) = W1 at he hx ⊢
        generalize W0.heap.size = b9 at hx hs hlt ⊢
        have B9 : Hid (TBox W1 b9 (.slice none 0 0)) := hx
        have S9 := hid hs
        have HNE : Hid (b8 ≠ b9) := Nat.ne_of_lt hlt
        replace E := hid (E.out.trans he)
        replace B8 := hid (B8.out.ext he)
        clear he hx hs hlt
        refine hK.out _ _ ?hSa5x41 (fun hHeld => ?_)
        case hSa5x41 => exact HKEEP.out _ E.out
        clear hK K
        (try simp only [Act.put, List.setIfInBounds_toArray, List.set_cons_zero, List.set_cons_succ])
        refine wpAnyH_one 1 rfl (by kernel_rfl) (by rfl) (fun K hK => ?_)
        go_simp
        refine (distances_any _ N rs _ (Roads.ext HV.out (HE.out.trans E.out)) hN1 hN8 h16 HAll.out (TAB.out.good (by decide))).mono ?_
        rintro e W2 ⟨v8, rfl, hm, he⟩
        obtain ⟨a8, k8, rfl⟩ := hm.shape
        have M8 := hid (hm.base E.out.size)
        replace E := hid (E.out.trans he)
        replace B8 := hid (B8.out.ext he)
        replace B9 := hid (B9.out.ext he)
        clear hm he
        refine hK.out _ _ ?hSa1x42 (fun hHeld => ?_)
        case hSa1x42 => exact HKEEP.out _ E.out
        clear hK K
        (try simp only [Act.put, List.setIfInBounds_toArray, List.set_cons_zero, List.set_cons_succ])
        refine wpAnyH_one 3 rfl (by kernel_rfl) (by rfl) (fun K hK => ?_)
        go_simp
        refine (costs_any _ N rs _ (Roads.ext HV.out (HE.out.trans E.out)) hN1 hN8 h16 HAll.out).mono ?_
        rintro e W3 ⟨v9, rfl, hm, he⟩
        obtain ⟨a9, k9, rfl⟩ := hm.shape
        have M9 := hid (hm.base E.out.size)
        replace E := hid (E.out.trans he)
        replace M8 := hid (M8.out.ext he)
        replace B8 := hid (B8.out.ext he)
        replace B9 := hid (B9.out.ext he)
        clear hm he
        refine hK.out _ _ ?hSa3x43 (fun hHeld => ?_)
        case hSa3x43 => exact HKEEP.out _ E.out
        clear hK K
        (try simp only [Act.put, List.setIfInBounds_toArray, List.set_cons_zero, List.set_cons_succ])
        have d8 := B8.out.cell
        have fr8 := B8.out.free
        refine wpAnyH_one 6 rfl (by kernel_rfl) (by rfl) (fun K hK => ?_)
        go_simp
        replace E := hid (Ext.setCell E.out S8.out 0 (.slice a8 N k8))
        replace M8 := hid (M8.out.setBox B8.out (.slice a8 N k8))
        replace M9 := hid (M9.out.setBox B8.out (.slice a8 N k8))
        replace B9 := hid (B9.out.other HNE.out (.slice a8 N k8))
        replace B8 := hid (B8.out.set (.slice a8 N k8))
        clear d8 fr8
        generalize W3.setCell ⟨b8, 0, none⟩ (.slice a8 N k8) = W4 at E M8 M9 B8 B9 ⊢
        refine hK.out _ _ ?hSa6x44 (fun hHeld => ?_)
        case hSa6x44 => exact HKEEP.out _ E.out
        clear hK K
        (try simp only [Act.put, List.setIfInBounds_toArray, List.set_cons_zero, List.set_cons_succ])
        have d8 := B9.out.cell
        have fr8 := B9.out.free
        refine wpAnyH_one 7 rfl (by kernel_rfl) (by rfl) (fun K hK => ?_)
        go_simp
        replace E := hid (Ext.setCell E.out S9.out 0 (.slice a9 N k9))
        replace M8 := hid (M8.out.setBox B9.out (.slice a9 N k9))
        replace M9 := hid (M9.out.setBox B9.out (.slice a9 N k9))
        replace B8 := hid (B8.out.other HNE.out.symm (.slice a9 N k9))
        replace B9 := hid (B9.out.set (.slice a9 N k9))
        clear d8 fr8
        generalize W4.setCell ⟨b9, 0, none⟩ (.slice a9 N k9) = W5 at E M8 M9 B8 B9 ⊢
        refine hK.out _ _ ?hSa7x45 (fun hHeld => ?_)
        case hSa7x45 => exact HKEEP.out _ E.out
        clear hK K
        (try simp only [Act.put, List.setIfInBounds_toArray, List.set_cons_zero, List.set_cons_succ])
        refine wpAnyH_done (by kernel_rfl) ?_ _
        exact ⟨b8, b9, a8, k8, a9, k9, rfl, ⟨E.out, M8.out, M9.out, B8.out, B9.out, S8.out, S9.out⟩⟩
    · skip
      go_simp
      have he : Ext w4 (w4.alloc (.cells #[Value.slice none 0 0] 52)).drew := (Ext.ofAlloc _ _).drew
      have hx : (w4.alloc (.cells #[Value.slice none 0 0] 52)).drew.heap[w4.heap.size]? = _ := heap_alloc_new w4 (.cells #[Value.slice none 0 0] 52)
      replace E := hid (Ext.refl w4)
      have hs := E.out.size
      generalize (w4.alloc (.cells #[Value.slice none 0 0] 52)).drew = W0 at he hx ⊢
      clear hs
      generalize hbb : w4.heap.size = b9 at hx ⊢
      have hs : w4.heap.size ≤ b9 := Nat.le_of_eq hbb
      clear hbb
      have B9 : Hid (TBox W0 b9 (.slice none 0 0)) := hx
      have S9 := hid hs
      replace E := hid (E.out.trans he)
      clear he hx hs
      refine hK.out _ _ ?hSa5x46 (fun hHeld => ?_)
      case hSa5x46 => exact HKEEP.out _ E.out
      clear hK K
      (try simp only [Act.put, List.setIfInBounds_toArray, List.set_cons_zero, List.set_cons_succ])
      refine wpAnyH_two 1 4 rfl rfl (by kernel_rfl) (by rfl) (by rfl) (fun K hK => ?_) (fun K hK => ?_)
      · skip
        go_simp
        refine (distances_any _ N rs _ (Roads.ext HV.out (HE.out.trans E.out)) hN1 hN8 h16 HAll.out (TAB.out.good (by decide))).mono ?_
        rintro e W1 ⟨v8, rfl, hm, he⟩
        obtain ⟨a8, k8, rfl⟩ := hm.shape
        have M8 := hid (hm.base E.out.size)
        replace E := hid (E.out.trans he)
        replace B9 := hid (B9.out.ext he)
        clear hm he
        refine hK.out _ _ ?hSa1x47 (fun hHeld => ?_)
        case hSa1x47 => exact HKEEP.out _ E.out
        clear hK K
        (try simp only [Act.put, List.setIfInBounds_toArray, List.set_cons_zero, List.set_cons_succ])
        refine wpAnyH_two 3 4 rfl rfl (by kernel_rfl) (by rfl) (by rfl) (fun K hK => ?_) (fun K hK => ?_)
        · skip
          go_simp
          refine (costs_any _ N rs _ (Roads.ext HV.out (HE.out.trans E.out)) hN1 hN8 h16 HAll.out).mono ?_
          rintro e W2 ⟨v9, rfl, hm, he⟩
          obtain ⟨a9, k9, rfl⟩ := hm.shape
          have M9 := hid (hm.base E.out.size)
          replace E := hid (E.out.trans he)
          replace M8 := hid (M8.out.ext he)
          replace B9 := hid (B9.out.ext he)
          clear hm he
          refine hK.out _ _ ?hSa3x48 (fun hHeld => ?_)
          case hSa3x48 => exact HKEEP.out _ E.out
          clear hK K
          (try simp only [Act.put, List.setIfInBounds_toArray, List.set_cons_zero, List.set_cons_succ])
          refine wpAnyH_one 4 rfl (by kernel_rfl) (by rfl) (fun K hK => ?_)
          go_simp
          have he : Ext W2 (W2.alloc (.cells #[Value.slice none 0 0] 52)) := Ext.ofAlloc _ _
          have hx := heap_alloc_new W2 (.cells #[Value.slice none 0 0] 52)
          have hs := E.out.size
          have hlt := B9.out.lt
          generalize W2.alloc (.cells #[Value.slice none 0 0] 52) = W3 at he hx ⊢
          generalize W2.heap.size = b8 at hx hs hlt ⊢
          have B8 : Hid (TBox W3 b8 (.slice none 0 0)) := hx
          have S8 := hid hs
          have HNE : Hid (b8 ≠ b9) := Nat.ne_of_gt hlt
          replace E := hid (E.out.trans he)
          replace M8 := hid (M8.out.ext he)
          replace M9 := hid (M9.out.ext he)
          replace B9 := hid (B9.out.ext he)
          clear he hx hs hlt
          refine hK.out _ _ ?hSa4x49 (fun hHeld => ?_)
          case hSa4x49 => exact HKEEP.out _ E.out
          clear hK K
          (try simp only [Act.put, List.setIfInBounds_toArray, List.set_cons_zero, List.set_cons_succ])
          have d8 := B8.out.cell
          have fr8 := B8.out.free
          refine wpAnyH_one 6 rfl (by kernel_rfl) (by rfl) (fun K hK => ?_)
          go_simp
          replace E := hid (Ext.setCell E.out S8.out 0 (.slice a8 N k8))
          replace M8 := hid (M8.out.setBox B8.out (.slice a8 N k8))
          replace M9 := hid (M9.out.setBox B8.out (.slice a8 N k8))
          replace B9 := hid (B9.out.other HNE.out (.slice a8 N k8))
          replace B8 := hid (B8.out.set (.slice a8 N k8))
          clear d8 fr8
          generalize W3.setCell ⟨b8, 0, none⟩ (.slice a8 N k8) = W4 at E M8 M9 B8 B9 ⊢
          refine hK.out _ _ ?hSa6x50 (fun hHeld => ?_)
          case hSa6x50 => exact HKEEP.out _ E.out
          clear hK K
          (try simp only [Act.put, List.setIfInBounds_toArray, List.set_cons_zero, List.set_cons_succ])
          have d8 := B9.out.cell
          have fr8 := B9.out.free
          refine wpAnyH_one 7 rfl (by kernel_rfl) (by rfl) (fun K hK => ?_)
          go_simp
          replace E := hid (Ext.setCell E.out S9.out 0 (.slice a9 N k9))
          replace M8 := hid (M8.out.setBox B9.out (.slice a9 N k9))
          replace M9 := hid (M9.out.setBox B9.out (.slice a9 N k9))
          replace B8 := hid (B8.out.other HNE.out.symm (.slice a9 N k9))
          replace B9 := hid (B9.out.set (.slice a9 N k9))
          clear d8 fr8
          generalize W4.setCell ⟨b9, 0, none⟩ (.slice a9 N k9) = W5 at E M8 M9 B8 B9 ⊢
          refine hK.out _ _ ?hSa7x51 (fun hHeld => ?_)
          case hSa7x51 => exact HKEEP.out _ E.out
          clear hK K
          (try simp only [Act.put, List.setIfInBounds_toArray, List.set_cons_zero, List.set_cons_succ])
          refine wpAnyH_done (by kernel_rfl) ?_ _
          exact ⟨b8, b9, a8, k8, a9, k9, rfl, ⟨E.out, M8.out, M9.out, B8.out, B9.out, S8.out, S9.out⟩⟩
        · skip
          go_simp
          have he : Ext W1 (W1.alloc (.cells #[Value.slice none 0 0] 52)) := Ext.ofAlloc _ _
          have hx := heap_alloc_new W1 (.cells #[Value.slice none 0 0] 52)
          have hs := E.out.size
          have hlt := B9.out.lt
          generalize W1.alloc (.cells #[Value.slice none 0 0] 52) = W2 at he hx ⊢
          generalize W1.heap.size = b8 at hx hs hlt ⊢
          have B8 : Hid (TBox W2 b8 (.slice none 0 0)) := hx
          have S8 := hid hs
          have HNE : Hid (b8 ≠ b9) := Nat.ne_of_gt hlt
          replace E := hid (E.out.trans he)
          replace M8 := hid (M8.out.ext he)
          replace B9 := hid (B9.out.ext he)
          clear he hx hs hlt
          refine hK.out _ _ ?hSa4x52 (fun hHeld => ?_)
          case hSa4x52 => exact HKEEP.out _ E.out
          clear hK K
          (try simp only [Act.put, List.setIfInBounds_toArray, List.set_cons_zero, List.set_cons_succ])
          refine wpAnyH_one 3 rfl (by kernel_rfl) (by rfl) (fun K hK => ?_)
          go_simp
          refine (costs_any _ N rs _ (Roads.ext HV.out (HE.out.trans E.out)) hN1 hN8 h16 HAll.out).mono ?_
          rintro e W3 ⟨v9, rfl, hm, he⟩
          obtain ⟨a9, k9, rfl⟩ := hm.shape
          have M9 := hid (hm.base E.out.size)
          replace E := hid (E.out.trans he)
          replace M8 := hid (M8.out.ext he)
          replace B8 := hid (B8.out.ext he)
          replace B9 := hid (B9.out.ext he)
          clear hm he
          refine hK.out _ _ ?hSa3x53 (fun hHeld => ?_)
          case hSa3x53 => exact HKEEP.out _ E.out
          clear hK K
          (try simp only [Act.put, List.setIfInBounds_toArray, List.set_cons_zero, List.set_cons_succ])
          have d8 := B8.out.cell
          have fr8 := B8.out.free
          refine wpAnyH_one 6 rfl (by kernel_rfl) (by rfl) (fun K hK => ?_)
          go_simp
          replace E := hid (Ext.setCell E.out S8.out 0 (.slice a8 N k8))
          replace M8 := hid (M8.out.setBox B8.out (.slice a8 N k8))
          replace M9 := hid (M9.out.setBox B8.out (.slice a8 N k8))
          replace B9 := hid (B9.out.other HNE.out (.slice a8 N k8))
          replace B8 := hid (B8.out.set (.slice a8 N k8))
          clear d8 fr8
          generalize W3.setCell ⟨b8, 0, none⟩ (.slice a8 N k8) = W4 at E M8 M9 B8 B9 ⊢
          refine hK.out _ _ ?hSa6x54 (fun hHeld => ?_)
          case hSa6x54 => exact HKEEP.out _ E.out
          clear hK K
          (try simp only [Act.put, List.setIfInBounds_toArray, List.set_cons_zero, List.set_cons_succ])
          have d8 := B9.out.cell
          have fr8 := B9.out.free
          refine wpAnyH_one 7 rfl (by kernel_rfl) (by rfl) (fun K hK => ?_)
          go_simp
          replace E := hid (Ext.setCell E.out S9.out 0 (.slice a9 N k9))
          replace M8 := hid (M8.out.setBox B9.out (.slice a9 N k9))
          replace M9 := hid (M9.out.setBox B9.out (.slice a9 N k9))
          replace B8 := hid (B8.out.other HNE.out.symm (.slice a9 N k9))
          replace B9 := hid (B9.out.set (.slice a9 N k9))
          clear d8 fr8
          generalize W4.setCell ⟨b9, 0, none⟩ (.slice a9 N k9) = W5 at E M8 M9 B8 B9 ⊢
          refine hK.out _ _ ?hSa7x55 (fun hHeld => ?_)
          case hSa7x55 => exact HKEEP.out _ E.out
          clear hK K
          (try simp only [Act.put, List.setIfInBounds_toArray, List.set_cons_zero, List.set_cons_succ])
          refine wpAnyH_done (by kernel_rfl) ?_ _
          exact ⟨b8, b9, a8, k8, a9, k9, rfl, ⟨E.out, M8.out, M9.out, B8.out, B9.out, S8.out, S9.out⟩⟩
      · skip
        go_simp
        have he : Ext W0 (W0.alloc (.cells #[Value.slice none 0 0] 52)) := Ext.ofAlloc _ _
        have hx := heap_alloc_new W0 (.cells #[Value.slice none 0 0] 52)
        have hs := E.out.size
        have hlt := B9.out.lt
        generalize W0.alloc (.cells #[Value.slice none 0 0] 52) = W1 at he hx ⊢
        generalize W0.heap.size = b8 at hx hs hlt ⊢
        have B8 : Hid (TBox W1 b8 (.slice none 0 0)) := hx
        have S8 := hid hs
        have HNE : Hid (b8 ≠ b9) := Nat.ne_of_gt hlt
        replace E := hid (E.out.trans he)
        replace B9 := hid (B9.out.ext he)
        clear he hx hs hlt
        refine hK.out _ _ ?hSa4x56 (fun hHeld => ?_)
        case hSa4x56 => exact HKEEP.out _ E.out
        clear hK K
        (try simp only [Act.put, List.setIfInBounds_toArray, List.set_cons_zero, List.set_cons_succ])
        refine wpAnyH_one 1 rfl (by kernel_rfl) (by rfl) (fun K hK => ?_)
        go_simp
        refine (distances_any _ N rs _ (Roads.ext HV.out (HE.out.trans E.out)) hN1 hN8 h16 HAll.out (TAB.out.good (by decide))).mono ?_
        rintro e W2 ⟨v8, rfl, hm, he⟩
        obtain ⟨a8, k8, rfl⟩ := hm.shape
        have M8 := hid (hm.base E.out.size)
        replace E := hid (E.out.trans he)
        replace B8 := hid (B8.out.ext he)
        replace B9 := hid (B9.out.ext he)
        clear hm he
        refine hK.out _ _ ?hSa1x57 (fun hHeld => ?_)
        case hSa1x57 => exact HKEEP.out _ E.out
        clear hK K
        (try simp only [Act.put, List.setIfInBounds_toArray, List.set_cons_zero, List.set_cons_succ])
        refine wpAnyH_one 3 rfl (by kernel_rfl) (by rfl) (fun K hK => ?_)
        go_simp
        refine (costs_any _ N rs _ (Roads.ext HV.out (HE.out.trans E.out)) hN1 hN8 h16 HAll.out).mono ?_
        rintro e W3 ⟨v9, rfl, hm, he⟩
        obtain ⟨a9, k9, rfl⟩ := hm.shape
        have M9 := hid (hm.base E.out.size)
        replace E := hid (E.out.trans he)
        replace M8 := hid (M8.out.ext he)
        replace B8 := hid (B8.out.ext he)
        replace B9 := hid (B9.out.ext he)
        clear hm he
        refine hK.out _ _ ?hSa3x58 (fun hHeld => ?_)
        case hSa3x58 => exact HKEEP.out _ E.out
        clear hK K
        (try simp only [Act.put, List.setIfInBounds_toArray, List.set_cons_zero, List.set_cons_succ])
        have d8 := B8.out.cell
        have fr8 := B8.out.free
        refine wpAnyH_one 6 rfl (by kernel_rfl) (by rfl) (fun K hK => ?_)
        go_simp
        replace E := hid (Ext.setCell E.out S8.out 0 (.slice a8 N k8))
        replace M8 := hid (M8.out.setBox B8.out (.slice a8 N k8))
        replace M9 := hid (M9.out.setBox B8.out (.slice a8 N k8))
        replace B9 := hid (B9.out.other HNE.out (.slice a8 N k8))
        replace B8 := hid (B8.out.set (.slice a8 N k8))
        clear d8 fr8
        generalize W3.setCell ⟨b8, 0, none⟩ (.slice a8 N k8) = W4 at E M8 M9 B8 B9 ⊢
        refine hK.out _ _ ?hSa6x59 (fun hHeld => ?_)
        case hSa6x59 => exact HKEEP.out _ E.out
        clear hK K
        (try simp only [Act.put, List.setIfInBounds_toArray, List.set_cons_zero, List.set_cons_succ])
        have d8 := B9.out.cell
        have fr8 := B9.out.free
        refine wpAnyH_one 7 rfl (by kernel_rfl) (by rfl) (fun K hK => ?_)
        go_simp
        replace E := hid (Ext.setCell E.out S9.out 0 (.slice a9 N k9))
        replace M8 := hid (M8.out.setBox B9.out (.slice a9 N k9))
        replace M9 := hid (M9.out.setBox B9.out (.slice a9 N k9))
        replace B8 := hid (B8.out.other HNE.out.symm (.slice a9 N k9))
        replace B9 := hid (B9.out.set (.slice a9 N k9))
        clear d8 fr8
        generalize W4.setCell ⟨b9, 0, none⟩ (.slice a9 N k9) = W5 at E M8 M9 B8 B9 ⊢
        refine hK.out _ _ ?hSa7x60 (fun hHeld => ?_)
        case hSa7x60 => exact HKEEP.out _ E.out
        clear hK K
        (try simp only [Act.put, List.setIfInBounds_toArray, List.set_cons_zero, List.set_cons_succ])
        refine wpAnyH_done (by kernel_rfl) ?_ _
        exact ⟨b8, b9, a8, k8, a9, k9, rfl, ⟨E.out, M8.out, M9.out, B8.out, B9.out, S8.out, S9.out⟩⟩
  case h2 =>
    intro b8 b9 a8 k8 a9 k9 w5 T
    obtain ⟨g8, kk, he8, -⟩ := T.m8.head (by omega)
    simp only [Value.slice.injEq, true_and] at he8
    obtain ⟨rfl, rfl⟩ := he8
    obtain ⟨gr, cr, ir, -⟩ := T.m8.row ha
    have cr' : w5.cell? ⟨g8, a, none⟩ = some (.slice (some ⟨gr, 0, none⟩) N N) := cr
    have ce := ir.cell (i := b) (by rw [rowL_len]; exact hb)
    rw [rowL_fn hb] at ce
    have c8 := T.t8.cell
    have ca := T.e.cell CA.out
    have cb := T.e.cell CB.out
    have hfb : decide (1048576 ≤ fw (costTo rs) N a b) = false := decide_eq_false (by have h := HF.out; unfold far at h; omega)
    have E6 := hid (T.e.drew)
    have M8 := hid (T.m8.ext (Ext.refl w5).drew)
    have M9 := hid (T.m9.ext (Ext.refl w5).drew)
    have B8 := hid (T.t8.ext (Ext.refl w5).drew)
    have B9 := hid (T.t9.ext (Ext.refl w5).drew)
    have S8 := hid T.s8
    have S9 := hid T.s9
    clear T cr ir
    go_wp2
    refine wp_region_held_drew (S := (fun w' => w'.cell? ⟨b8, 0, none⟩ = some (.slice (some ⟨g8, 0, none⟩) N k8) ∧ w'.cell? ⟨g8, a, none⟩ = some (.slice (some ⟨gr, 0, none⟩) N N) ∧ w'.cell? ⟨gr, b, none⟩ = some (.int .i64 (fw (costTo rs) N a b)) ∧ w'.cell? ⟨w.heap.size + 1, 0, none⟩ = some (.int .i64 a) ∧ w'.cell? ⟨w.heap.size + 1 + 1, 0, none⟩ = some (.int .i64 b))) (by kernel_rfl) ?hSb0 (fun hHeld => ?_)
    case hSb0 => (first | (exact ⟨c8, cr', ce, ca, cb⟩) | ((try dsimp only); exact ⟨c8, cr', ce, ca, cb⟩))
    refine wpAnyH_tk 0 (v := ?vb0) rfl (by kernel_rfl) (by kernel_rfl) (by kernel_rfl) (fun _ _ _ h => h) (by rfl) ?hyb0 (by assumption) ?_
    case hyb0 => (intro w hSw; (try dsimp only at hSw); go_simp <;> with_reducible rfl)
    (try simp only [Act.put, List.setIfInBounds_toArray, List.set_cons_zero, List.set_cons_succ])
    refine wpAnyH_tk 1 (v := ?vb1) rfl (by kernel_rfl) (by kernel_rfl) (by kernel_rfl) (fun _ _ _ h => h) (by rfl) ?hyb1 (by assumption) ?_
    case hyb1 => (intro w hSw; (try dsimp only at hSw); go_simp <;> with_reducible rfl)
    (try simp only [Act.put, List.setIfInBounds_toArray, List.set_cons_zero, List.set_cons_succ])
    refine wpAnyH_tk 2 (v := ?vb2) rfl (by kernel_rfl) (by kernel_rfl) (by kernel_rfl) (fun _ _ _ h => h) (by rfl) ?hyb2 (by assumption) ?_
    case hyb2 => (intro w hSw; (try dsimp only at hSw); go_simp <;> with_reducible rfl)
    (try simp only [Act.put, List.setIfInBounds_toArray, List.set_cons_zero, List.set_cons_succ])
    refine wpAnyH_tk 3 (v := ?vb3) rfl (by kernel_rfl) (by kernel_rfl) (by kernel_rfl) (fun _ _ _ h => h) (by rfl) ?hyb3 (by assumption) ?_
    case hyb3 => (intro w hSw; (try dsimp only at hSw); go_simp <;> with_reducible rfl)
    (try simp only [Act.put, List.setIfInBounds_toArray, List.set_cons_zero, List.set_cons_succ])
    refine wpAnyH_tk 4 (v := ?vb4) rfl (by kernel_rfl) (by kernel_rfl) (by kernel_rfl) (fun _ _ _ h => h) (by rfl) ?hyb4 (by assumption) ?_
    case hyb4 => (intro w hSw; (try dsimp only at hSw); go_simp <;> with_reducible rfl)
    (try simp only [Act.put, List.setIfInBounds_toArray, List.set_cons_zero, List.set_cons_succ])
    refine wpAnyH_tk 5 (v := ?vb5) rfl (by kernel_rfl) (by kernel_rfl) (by kernel_rfl) (fun _ _ _ h => h) (by rfl) ?hyb5 (by assumption) ?_
    case hyb5 => (intro w hSw; (try dsimp only at hSw); go_simp <;> with_reducible rfl)
    (try simp only [Act.put, List.setIfInBounds_toArray, List.set_cons_zero, List.set_cons_succ])
    refine wpAnyH_tk 6 (v := ?vb6) rfl (by kernel_rfl) (by kernel_rfl) (by kernel_rfl) (fun _ _ _ h => h) (by rfl) ?hyb6 (by assumption) ?_
    case hyb6 => (intro w hSw; (try dsimp only at hSw); go_simp <;> with_reducible rfl)
    (try simp only [Act.put, List.setIfInBounds_toArray, List.set_cons_zero, List.set_cons_succ])
    refine wpAnyH_tk 7 (v := ?vb7) rfl (by kernel_rfl) (by kernel_rfl) (by kernel_rfl) (fun _ _ _ h => h) (by rfl) ?hyb7 (by assumption) ?_
    case hyb7 => (intro w hSw; (try dsimp only at hSw); go_simp <;> with_reducible rfl)
    (try simp only [Act.put, List.setIfInBounds_toArray, List.set_cons_zero, List.set_cons_succ])
    refine wpAnyH_done (by kernel_rfl) ?_ _
    clear c8 ca cb cr' ce hHeld
    generalize w5.drew = w6 at *
    go_wp2
    obtain ⟨f0, r, hway, hf0⟩ := way_ex TAB.out hN8 ha hb HF.out
    have HW := hid hway
    clear hway hfb
    have GA : Hid (∀ (f : Nat) (w' : World), f < N → Live w6 w6.heap.size (ptrs w6.heap.size (w.heap.size + 1 + 1) w.heap.size b9 b8 (w.heap.size + 1)) w' →
        Calls Tryd.prog 54 #[.slice (some ⟨w'.heap.size, 0, none⟩) 1 1, .int .i64 0, .int .i64 (1 + (f : Int)), .pointer (some ⟨w6.heap.size, 0, none⟩), .pointer (some ⟨w.heap.size + 1 + 1, 0, none⟩), .pointer (some ⟨w.heap.size, 0, none⟩), .pointer (some ⟨b9, 0, none⟩), .pointer (some ⟨b8, 0, none⟩), .pointer (some ⟨w.heap.size + 1, 0, none⟩), .pointer (some ⟨w6.heap.size + 1, 0, none⟩)] (w'.alloc (.cells #[.int .i64 a] 3))
          (growPost (costTo rs) (fw (costTo rs) N) N b w6.heap.size (fw (costTo rs) N a b) f [(a : Int)] a 0 (.slice (some ⟨w'.heap.size, 0, none⟩) 1 1) (w'.alloc (.cells #[.int .i64 a] 3)))) := by
      intro f w' hfN hL
      have G1 := TAB.out.good (by decide)
      have G2 := G1.fw N (Nat.le_refl _)
      have hblk : IntBlock (w'.alloc (.cells #[.int .i64 a] 3)) w'.heap.size [(a : Int)] := heap_alloc_new w' _
      have := grow_any w6 N b a (w.heap.size + 1 + 1) w.heap.size b9 b8 (w.heap.size + 1) (.slice a9 N k9) (.slice (some ⟨g8, 0, none⟩) N k8) (costTo rs) (fw (costTo rs) N) w6.heap.size _
        ⟨E6.out.cell CB.out, E6.out.cell C0.out, B9.out.cell, B8.out.cell, E6.out.cell CA.out, M9.out.rows2 (by omega) (by omega), M8.out.rows2 (by omega) (by omega)⟩ hN8 hb ha rfl
        (fun i j hi hj => ⟨G1.lo i j hi hj, G1.hi i j hi hj⟩) (fun i j hi hj => ⟨G2.lo i j hi hj, G2.hi i j hi hj⟩) f [(a : Int)] a 0 _ _ (hL.ext (Ext.ofAlloc _ _)) (hblk.own (n := 1) hL.sz rfl (by simp)) (by simp) (by simp; omega) (by rfl) ha (by omega) (by unfold far; omega)
      exact this
    go_loopg [12] f0 (fun g i wr => ∃ f : Nat, f + g = f0 ∧ i = .int .i64 ((1 + f : Nat) : Int) ∧ Hid (Live w6 w6.heap.size (ptrs w6.heap.size (w.heap.size + 1 + 1) w.heap.size b9 b8 (w.heap.size + 1)) wr))
    case atStart => exact ⟨0, by omega, rfl, Live.start w6 _ _⟩
    case round =>
      obtain ⟨f, hff, rfl, HL⟩ := hrel
      have Hff := hid hff
      clear hff
      have cg := HL.out.cg
      unfold ptrs at cg
      have ca := HL.out.e0.cell (E6.out.cell CA.out)
      go_wp2_with (fail)
      have HL1 := hid (HL.out.ext (Ext.ofAlloc wr (.cells #[.int .i64 a] 3)))
      refine (GA.out f wr (by have := Hff.out; omega) HL.out).mono ?_
      rintro e w7 ⟨rfl, hF, hO, u, hu, hr⟩
      have HL7 := hid (Live.fr HL1.out hF (fun k hk => by simp only [Value.ownBlock, Option.some.injEq] at hk; subst hk; exact HL.out.sz) ⟨u, hu⟩)
      have HU := hid hu
      have HR := hid hr
      clear hF hO hu hr ca cg HL HL1
      by_cases ef : f = f0
      · subst ef
        have hs : (growP (costTo rs) (fw (costTo rs) N) N b (fw (costTo rs) N a b) f [(a : Int)] a 0).isSome = true := by rw [HW.out.1]; rfl
        rw [hs]
        have HI := hid (HR.out r HW.out.1)
        have cu := cell_of_row w7 w6.heap.size 0 _ _ _ HU.out
        clear hs HR HU
        go_wp2
        go_ret2
        exact ⟨u, f, r, rfl, HI.out, HW.out, hf0, HE.out.trans (E6.out.trans HL7.out.e0)⟩
      · have hs : (growP (costTo rs) (fw (costTo rs) N) N b (fw (costTo rs) N a b) f [(a : Int)] a 0).isSome = false := by rw [HW.out.2 f (by have := Hff.out; omega)]; rfl
        rw [hs]
        have Hef := hid ef
        have hb8 : f ≤ 8 := by have := Hff.out; omega
        clear hs HR HU ef
        go_wp2
        go_roundg (gk - 1)
        case rel =>
          exact ⟨f + 1, by have := Hff.out; have := Hef.out; omega, by go_num, HL7.out⟩
        case measure => have := Hff.out; have := Hef.out; omega

end Go.Proofs.YtkbkgkmogbkabaaDoor
