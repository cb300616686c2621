/-
  Contracts of apart and join.
-/
import Derived.Test.YtkbkgkmogbkabaaDoorTrPlain
namespace Go.Proofs.YtkbkgkmogbkabaaDoor
open Go.RowKit

/-- All blocks that were there are as they were, other than one. -/
structure Only (b : Nat) (w w' : World) : Prop where
  os : w'.os = w.os
  tape : w'.tape = w.tape
  output : w'.output = w.output
  size : w.heap.size ≤ w'.heap.size
  block : ∀ k, k < w.heap.size → k ≠ b → w'.heap[k]? = w.heap[k]?
theorem Only.ofExt {b : Nat} {w w' : World} (h : Ext w w') : Only b w w' := ⟨h.os, h.tape, h.output, h.size, fun k hk _ => h.block k hk⟩
theorem Only.trans {b : Nat} {x y z : World} (h : Only b x y) (k : Only b y z) : Only b x z := by
  refine ⟨by rw [k.os, h.os], by rw [k.tape, h.tape], by rw [k.output, h.output], Nat.le_trans h.size k.size, fun i hi hb => ?_⟩
  have := h.size
  rw [k.block i (by omega) hb, h.block i hi hb]
theorem Only.set {b : Nat} {w w' : World} (h : Only b w w') (i : Nat) (v : Value) : Only b w (w'.setCell ⟨b, i, none⟩ v) :=
  ⟨h.os, h.tape, h.output, by have := h.size; simpa using this, fun k hk hb => by rw [Below.heap_setCell _ _ _ _ hb]; exact h.block k hk hb⟩
/-- A world that was ahead of the block. -/
theorem Only.ext {a w w' : World} {b : Nat} (h : Only b w w') (e : Ext a w) (hb : a.heap.size ≤ b) : Ext a w' := by
  refine ⟨by rw [h.os, e.os], by rw [h.tape, e.tape], by rw [h.output, e.output], Nat.le_trans e.size h.size, fun k hk => ?_⟩
  have := e.size
  rw [h.block k (by omega) (by omega), e.block k hk]

/-- A block of eight labels. -/
def PBox (w : World) (b : Nat) (p : Nat → Int) : Prop := w.heap[b]? = some (.cells #[.int .i64 (p 0), .int .i64 (p 1), .int .i64 (p 2), .int .i64 (p 3), .int .i64 (p 4), .int .i64 (p 5), .int .i64 (p 6), .int .i64 (p 7)] 69 (0, 0))
theorem PBox.cell {w : World} {b : Nat} {p : Nat → Int} (h : PBox w b p) {i : Nat} (hi : i < 8) : w.cell? ⟨b, i, none⟩ = some (.int .i64 (p i)) := by
  have h' : w.heap[b]? = some _ := h
  rw [cell_of_row w b i _ _ _ h']
  match i, hi with
  | 0, _ => rfl
  | 1, _ => rfl
  | 2, _ => rfl
  | 3, _ => rfl
  | 4, _ => rfl
  | 5, _ => rfl
  | 6, _ => rfl
  | 7, _ => rfl
theorem PBox.free {w : World} {b : Nat} {p : Nat → Int} (h : PBox w b p) (i : Nat) : w.frozen? ⟨b, i, none⟩ = false := by
  have h' : w.heap[b]? = some _ := h
  simp [World.frozen?, h']
theorem PBox.set {w : World} {b : Nat} {p : Nat → Int} (h : PBox w b p) {i : Nat} (hi : i < 8) (v : Int) : PBox (w.setCell ⟨b, i, none⟩ (.int .i64 v)) b (fun k => if k = i then v else p k) := by
  have h' : w.heap[b]? = some _ := h
  show (w.setCell _ _).heap[b]? = _
  simp only [World.setCell, Array.getElem?_modify, if_true, h', Option.map_some]
  match i, hi with
  | 0, _ => simp
  | 1, _ => simp
  | 2, _ => simp
  | 3, _ => simp
  | 4, _ => simp
  | 5, _ => simp
  | 6, _ => simp
  | 7, _ => simp
theorem PBox.ext {w w' : World} {b : Nat} {p : Nat → Int} (h : PBox w b p) (e : Ext w w') : PBox w' b p := heap_ext h e
theorem PBox.congr {w : World} {b : Nat} {p q : Nat → Int} (h : PBox w b p) (e : ∀ i, i < 8 → p i = q i) : PBox w b q := by
  unfold PBox at h ⊢
  rw [← e 0 (by omega), ← e 1 (by omega), ← e 2 (by omega), ← e 3 (by omega), ← e 4 (by omega), ← e 5 (by omega), ← e 6 (by omega), ← e 7 (by omega)]
  exact h

/-- In the middle of a join. -/
def joinTo (p : Nat → Int) (a b k : Nat) : Nat → Int := fun i => if i < k then joinL p a b i else p i
theorem joinTo_succ (p : Nat → Int) (a b k i : Nat) : joinTo p a b (k + 1) i = if i = k then joinL p a b k else joinTo p a b k i := by
  unfold joinTo
  by_cases e : i = k
  · subst e; simp
  · rw [if_neg e]
    have : (i < k + 1) ↔ i < k := by omega
    simp only [this]

set_option maxRecDepth 20000 in
set_option maxHeartbeats 4000000 in
theorem join_any (b : Nat) (p : Nat → Int) (r : RoadD) (w : World) (hp : PBox w b p) (ha0 : 0 ≤ r.a) (ha8 : r.a < 8) (hb0 : 0 ≤ r.b) (hb8 : r.b < 8) :
    Calls Tryd.prog 41 #[.pointer (some ⟨b, 0, none⟩), .agg #[.int .i64 r.a, .int .i64 r.b, .int .i64 r.cost]] w fun e w' => e = .returned (.bool (p r.a.toNat != p r.b.toNat)) ∧ PBox w' b (joinL p r.a.toNat r.b.toNat) ∧ Only b w w' := by
  have HP := hid hp
  have hbw : b < w.heap.size := lt_of_block hp
  obtain ⟨b0, b1, b2⟩ := (Box3.alloc w 55 (.int .i64 r.a) (.int .i64 r.b) (.int .i64 r.cost)).cells
  have d1 := (hp.ext (Ext.ofAlloc w (.cells #[.int .i64 r.a, .int .i64 r.b, .int .i64 r.cost] 55))).cell (i := r.a.toNat) (by omega)
  have d2 := (hp.ext (Ext.ofAlloc w (.cells #[.int .i64 r.a, .int .i64 r.b, .int .i64 r.cost] 55))).cell (i := r.b.toNat) (by omega)
  have P0 := hid ((hp.ext (Ext.ofAlloc w (.cells #[.int .i64 r.a, .int .i64 r.b, .int .i64 r.cost] 55))).ext (Ext.refl _).drew)
  have O0 := hid (Only.ofExt (b := b) (Ext.ofAlloc w (.cells #[.int .i64 r.a, .int .i64 r.b, .int .i64 r.cost] 55)).drew)
  clear hp
  go_enter Tryd.func41, Tryd.ntmps41
  go_wp2
  refine wp_region_held_drew (S := (fun w' => w'.cell? ⟨w.heap.size, 0, none⟩ = some (.int .i64 r.a) ∧ w'.cell? ⟨w.heap.size, 1, none⟩ = some (.int .i64 r.b) ∧ w'.cell? ⟨b, r.a.toNat, none⟩ = some (.int .i64 (p r.a.toNat)) ∧ w'.cell? ⟨b, r.b.toNat, none⟩ = some (.int .i64 (p r.b.toNat)))) (by kernel_rfl) ?hSa0 (fun hHeld => ?_)
  case hSa0 => (first | (exact ⟨b0, b1, d1, d2⟩) | ((try dsimp only); exact ⟨b0, b1, d1, d2⟩))
  refine wpAnyH_tk 0 (v := ?va0) rfl (by kernel_rfl) (by kernel_rfl) (by kernel_rfl) (fun _ _ _ h => h) (by rfl) ?hya0 (by assumption) ?_
  case hya0 => (intro w hSw; (try dsimp only at hSw); go_simp <;> with_reducible rfl)
  (try simp only [Act.put, List.setIfInBounds_toArray, List.set_cons_zero, List.set_cons_succ])
  refine wpAnyH_tk 1 (v := ?va1) rfl (by kernel_rfl) (by kernel_rfl) (by kernel_rfl) (fun _ _ _ h => h) (by rfl) ?hya1 (by assumption) ?_
  case hya1 => (intro w hSw; (try dsimp only at hSw); go_simp <;> with_reducible rfl)
  (try simp only [Act.put, List.setIfInBounds_toArray, List.set_cons_zero, List.set_cons_succ])
  refine wpAnyH_tk 2 (v := ?va2) rfl (by kernel_rfl) (by kernel_rfl) (by kernel_rfl) (fun _ _ _ h => h) (by rfl) ?hya2 (by assumption) ?_
  case hya2 => (intro w hSw; (try dsimp only at hSw); go_simp <;> with_reducible rfl)
  (try simp only [Act.put, List.setIfInBounds_toArray, List.set_cons_zero, List.set_cons_succ])
  refine wpAnyH_tk 3 (v := ?va3) rfl (by kernel_rfl) (by kernel_rfl) (by kernel_rfl) (fun _ _ _ h => h) (by rfl) ?hya3 (by assumption) ?_
  case hya3 => (intro w hSw; (try dsimp only at hSw); go_simp <;> with_reducible rfl)
  (try simp only [Act.put, List.setIfInBounds_toArray, List.set_cons_zero, List.set_cons_succ])
  refine wpAnyH_tk 4 (v := ?va4) rfl (by kernel_rfl) (by kernel_rfl) (by kernel_rfl) (fun _ _ _ h => h) (by rfl) ?hya4 (by assumption) ?_
  case hya4 => (intro w hSw; (try dsimp only at hSw); go_simp <;> with_reducible rfl)
  (try simp only [Act.put, List.setIfInBounds_toArray, List.set_cons_zero, List.set_cons_succ])
  refine wpAnyH_tk 5 (v := ?va5) rfl (by kernel_rfl) (by kernel_rfl) (by kernel_rfl) (fun _ _ _ h => h) (by rfl) ?hya5 (by assumption) ?_
  case hya5 => (intro w hSw; (try dsimp only at hSw); go_simp <;> with_reducible rfl)
  (try simp only [Act.put, List.setIfInBounds_toArray, List.set_cons_zero, List.set_cons_succ])
  refine wpAnyH_tk 6 (v := ?va6) rfl (by kernel_rfl) (by kernel_rfl) (by kernel_rfl) (fun _ _ _ h => h) (by rfl) ?hya6 (by assumption) ?_
  case hya6 => (intro w hSw; (try dsimp only at hSw); go_simp <;> with_reducible rfl)
  (try simp only [Act.put, List.setIfInBounds_toArray, List.set_cons_zero, List.set_cons_succ])
  refine wpAnyH_tk 7 (v := ?va7) rfl (by kernel_rfl) (by kernel_rfl) (by kernel_rfl) (fun _ _ _ h => h) (by rfl) ?hya7 (by assumption) ?_
  case hya7 => (intro w hSw; (try dsimp only at hSw); go_simp <;> with_reducible rfl)
  (try simp only [Act.put, List.setIfInBounds_toArray, List.set_cons_zero, List.set_cons_succ])
  refine wpAnyH_tk 8 (v := ?va8) rfl (by kernel_rfl) (by kernel_rfl) (by kernel_rfl) (fun _ _ _ h => h) (by rfl) ?hya8 (by assumption) ?_
  case hya8 => (intro w hSw; (try dsimp only at hSw); go_simp <;> with_reducible rfl)
  (try simp only [Act.put, List.setIfInBounds_toArray, List.set_cons_zero, List.set_cons_succ])
  refine wpAnyH_tk 9 (v := ?va9) rfl (by kernel_rfl) (by kernel_rfl) (by kernel_rfl) (fun _ _ _ h => h) (by rfl) ?hya9 (by assumption) ?_
  case hya9 => (intro w hSw; (try dsimp only at hSw); go_simp <;> with_reducible rfl)
  (try simp only [Act.put, List.setIfInBounds_toArray, List.set_cons_zero, List.set_cons_succ])
  refine wpAnyH_tk 10 (v := ?va10) rfl (by kernel_rfl) (by kernel_rfl) (by kernel_rfl) (fun _ _ _ h => h) (by rfl) ?hya10 (by assumption) ?_
  case hya10 => (intro w hSw; (try dsimp only at hSw); go_simp <;> with_reducible rfl)
  (try simp only [Act.put, List.setIfInBounds_toArray, List.set_cons_zero, List.set_cons_succ])
  refine wpAnyH_tk 11 (v := ?va11) rfl (by kernel_rfl) (by kernel_rfl) (by kernel_rfl) (fun _ _ _ h => h) (by rfl) ?hya11 (by assumption) ?_
  case hya11 => (intro w hSw; (try dsimp only at hSw); go_simp <;> with_reducible rfl)
  (try simp only [Act.put, List.setIfInBounds_toArray, List.set_cons_zero, List.set_cons_succ])
  refine wpAnyH_tk 12 (v := ?va12) rfl (by kernel_rfl) (by kernel_rfl) (by kernel_rfl) (fun _ _ _ h => h) (by rfl) ?hya12 (by assumption) ?_
  case hya12 => (intro w hSw; (try dsimp only at hSw); go_simp <;> with_reducible rfl)
  (try simp only [Act.put, List.setIfInBounds_toArray, List.set_cons_zero, List.set_cons_succ])
  refine wpAnyH_tk 13 (v := ?va13) rfl (by kernel_rfl) (by kernel_rfl) (by kernel_rfl) (fun _ _ _ h => h) (by rfl) ?hya13 (by assumption) ?_
  case hya13 => (intro w hSw; (try dsimp only at hSw); go_simp <;> with_reducible rfl)
  (try simp only [Act.put, List.setIfInBounds_toArray, List.set_cons_zero, List.set_cons_succ])
  refine wpAnyH_done (by kernel_rfl) ?_ _
  clear b0 b1 b2 d1 d2 hHeld
  generalize (w.alloc (.cells #[.int .i64 r.a, .int .i64 r.b, .int .i64 r.cost] 55)).drew = W at P0 O0 ⊢
  obtain ⟨x, hx⟩ : ∃ x, x = p r.a.toNat := ⟨_, rfl⟩
  obtain ⟨y, hy⟩ : ∃ y, y = p r.b.toNat := ⟨_, rfl⟩
  rw [← hx, ← hy]
  have HX := hid hx
  have HY := hid hy
  clear hx hy
  go_wp2
  go_loopg [20] 8 (fun g i wr => ∃ k : Nat, k + g = 8 ∧ i = .int .i64 k ∧ Hid (PBox wr b (joinTo p r.a.toNat r.b.toNat k)) ∧ Hid (Only b w wr))
  case atStart => exact ⟨0, by omega, rfl, P0.out.congr (fun i _ => by unfold joinTo; simp), O0⟩
  case round =>
    clear P0 O0
    obtain ⟨k, hk, rfl, PB, O⟩ := hrel
    have hk8 : k ≤ 8 := by omega
    have Hk := hid hk
    clear hk
    by_cases hlt : k < 8
    · have dk := PB.out.cell hlt
      have fr := PB.out.free k
      have e0 : joinTo p r.a.toNat r.b.toNat k k = p k := by unfold joinTo; simp
      rw [e0] at dk
      obtain ⟨z, hz⟩ : ∃ z, z = p k := ⟨_, rfl⟩
      rw [← hz] at dk
      have HZ := hid hz
      clear hz e0
      by_cases l1 : x < y
      · have l2 : ¬ y < x := by omega
        by_cases ez : z = y
        · have ezb : (z == y) = true := beq_iff_eq.2 ez
          have HJ : Hid (joinL p r.a.toNat r.b.toNat k = x) := by
            show _ = _
            unfold joinL
            rw [← HX.out, ← HY.out, ← HZ.out, if_pos (by omega)]; omega
          have H1 := hid ((PB.out.set hlt (x)).congr (q := joinTo p r.a.toNat r.b.toNat (k + 1)) (fun i _ => by rw [joinTo_succ, HJ.out]))
          have O1 := hid (O.out.set k (.int .i64 (x)))
          clear ez
          go_wp2
          go_roundg (gk - 1)
          case rel => exact ⟨k + 1, by have := Hk.out; omega, by go_num, H1.out, O1.out⟩
          case measure => have := Hk.out; omega
        · have ezb : (z == y) = false := beq_eq_false_iff_ne.2 ez
          have HJ : Hid (joinL p r.a.toNat r.b.toNat k = z) := by
            show _ = _
            unfold joinL
            rw [← HX.out, ← HY.out, ← HZ.out, if_neg (by omega)]
          have H1 := hid (PB.out.congr (q := joinTo p r.a.toNat r.b.toNat (k + 1)) (fun i _ => by
            rw [joinTo_succ]
            by_cases e : i = k
            · subst e
              rw [if_pos rfl, HJ.out, HZ.out]; unfold joinTo; simp
            · rw [if_neg e]))
          clear ez
          go_wp2
          go_roundg (gk - 1)
          case rel => exact ⟨k + 1, by have := Hk.out; omega, by go_num, H1.out, O.out⟩
          case measure => have := Hk.out; omega
      · by_cases l2 : y < x
        · skip
          by_cases ez : z = x
          · have ezb : (z == x) = true := beq_iff_eq.2 ez
            have HJ : Hid (joinL p r.a.toNat r.b.toNat k = y) := by
              show _ = _
              unfold joinL
              rw [← HX.out, ← HY.out, ← HZ.out, if_pos (by omega)]; omega
            have H1 := hid ((PB.out.set hlt (y)).congr (q := joinTo p r.a.toNat r.b.toNat (k + 1)) (fun i _ => by rw [joinTo_succ, HJ.out]))
            have O1 := hid (O.out.set k (.int .i64 (y)))
            clear ez
            go_wp2
            go_roundg (gk - 1)
            case rel => exact ⟨k + 1, by have := Hk.out; omega, by go_num, H1.out, O1.out⟩
            case measure => have := Hk.out; omega
          · have ezb : (z == x) = false := beq_eq_false_iff_ne.2 ez
            have HJ : Hid (joinL p r.a.toNat r.b.toNat k = z) := by
              show _ = _
              unfold joinL
              rw [← HX.out, ← HY.out, ← HZ.out, if_neg (by omega)]
            have H1 := hid (PB.out.congr (q := joinTo p r.a.toNat r.b.toNat (k + 1)) (fun i _ => by
              rw [joinTo_succ]
              by_cases e : i = k
              · subst e
                rw [if_pos rfl, HJ.out, HZ.out]; unfold joinTo; simp
              · rw [if_neg e]))
            clear ez
            go_wp2
            go_roundg (gk - 1)
            case rel => exact ⟨k + 1, by have := Hk.out; omega, by go_num, H1.out, O.out⟩
            case measure => have := Hk.out; omega
        · skip
          by_cases ez : z = x
          · have ezb : (z == x) = true := beq_iff_eq.2 ez
            have HJ : Hid (joinL p r.a.toNat r.b.toNat k = x) := by
              show _ = _
              unfold joinL
              rw [← HX.out, ← HY.out, ← HZ.out, if_pos (by omega)]; omega
            have H1 := hid ((PB.out.set hlt (x)).congr (q := joinTo p r.a.toNat r.b.toNat (k + 1)) (fun i _ => by rw [joinTo_succ, HJ.out]))
            have O1 := hid (O.out.set k (.int .i64 (x)))
            clear ez
            go_wp2
            go_roundg (gk - 1)
            case rel => exact ⟨k + 1, by have := Hk.out; omega, by go_num, H1.out, O1.out⟩
            case measure => have := Hk.out; omega
          · have ezb : (z == x) = false := beq_eq_false_iff_ne.2 ez
            have HJ : Hid (joinL p r.a.toNat r.b.toNat k = z) := by
              show _ = _
              unfold joinL
              rw [← HX.out, ← HY.out, ← HZ.out, if_neg (by omega)]
            have H1 := hid (PB.out.congr (q := joinTo p r.a.toNat r.b.toNat (k + 1)) (fun i _ => by
              rw [joinTo_succ]
              by_cases e : i = k
              · subst e
                rw [if_pos rfl, HJ.out, HZ.out]; unfold joinTo; simp
              · rw [if_neg e]))
            clear ez
            go_wp2
            go_roundg (gk - 1)
            case rel => exact ⟨k + 1, by have := Hk.out; omega, by go_num, H1.out, O.out⟩
            case measure => have := Hk.out; omega
    · have h1 : PBox wr b (joinL p r.a.toNat r.b.toNat) := PB.out.congr (fun i hi => by unfold joinTo; rw [if_pos (by omega)])
      have H1 := hid h1
      clear h1
      go_wp2
      go_ret
      exact ⟨ret_bool (by rw [← HX.out, ← HY.out]), H1.out, O.out⟩

end Go.Proofs.YtkbkgkmogbkabaaDoor
