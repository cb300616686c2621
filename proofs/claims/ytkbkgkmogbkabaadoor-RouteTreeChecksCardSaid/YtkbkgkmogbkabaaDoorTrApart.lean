/-
  Contract of apart.
-/
import Derived.Test.YtkbkgkmogbkabaaDoorTrParts
namespace Go.Proofs.YtkbkgkmogbkabaaDoor
open Go.RowKit

def upTo (k : Nat) : Nat → Int := fun i => if i < k then (i : Int) else 0
theorem PBox.other {w : World} {b b' : Nat} {p : Nat → Int} (h : PBox w b p) (hb : b' ≠ b) (i : Nat) (v : Value) : PBox (w.setCell ⟨b', i, none⟩ v) b p := by
  show (w.setCell _ _).heap[b]? = _
  simp only [World.setCell, Array.getElem?_modify]
  rw [if_neg hb]; exact h

set_option maxRecDepth 20000 in
set_option maxHeartbeats 4000000 in
theorem apart_any (w : World) : Calls Tryd.prog 36 #[] w fun e w' => e = .returned (.agg #[.int .i64 0, .int .i64 1, .int .i64 2, .int .i64 3, .int .i64 4, .int .i64 5, .int .i64 6, .int .i64 7]) ∧ Ext w w' := by
  go_enter Tryd.func36, Tryd.ntmps36
  go_wp2
  have h0 : PBox ((w.alloc (.cells #[.int .i64 0, .int .i64 0, .int .i64 0, .int .i64 0, .int .i64 0, .int .i64 0, .int .i64 0, .int .i64 0] 69)).alloc (.cells #[.int .i64 0, .int .i64 0, .int .i64 0, .int .i64 0, .int .i64 0, .int .i64 0, .int .i64 0, .int .i64 0] 69)) w.heap.size (fun _ => 0) := heap_ext (heap_alloc_new w _) (Ext.ofAlloc _ _)
  have h1 : PBox ((w.alloc (.cells #[.int .i64 0, .int .i64 0, .int .i64 0, .int .i64 0, .int .i64 0, .int .i64 0, .int .i64 0, .int .i64 0] 69)).alloc (.cells #[.int .i64 0, .int .i64 0, .int .i64 0, .int .i64 0, .int .i64 0, .int .i64 0, .int .i64 0, .int .i64 0] 69)) (w.heap.size + 1) (upTo 0) := by
    have h := heap_alloc_new (w.alloc (.cells #[.int .i64 0, .int .i64 0, .int .i64 0, .int .i64 0, .int .i64 0, .int .i64 0, .int .i64 0, .int .i64 0] 69)) (.cells #[.int .i64 0, .int .i64 0, .int .i64 0, .int .i64 0, .int .i64 0, .int .i64 0, .int .i64 0, .int .i64 0] 69)
    rw [World.size_alloc] at h
    exact h
  have H0 := hid h0
  have H1 := hid h1
  have HE := hid ((Ext.ofAlloc w (.cells #[.int .i64 0, .int .i64 0, .int .i64 0, .int .i64 0, .int .i64 0, .int .i64 0, .int .i64 0, .int .i64 0] 69)).alloc (.cells #[.int .i64 0, .int .i64 0, .int .i64 0, .int .i64 0, .int .i64 0, .int .i64 0, .int .i64 0, .int .i64 0] 69))
  clear h0 h1
  go_loopg [3] 8 (fun g i wr => ∃ k : Nat, k + g = 8 ∧ i = .int .i64 k ∧ Hid (PBox wr (w.heap.size + 1) (upTo k)) ∧ Hid (PBox wr w.heap.size (fun _ => 0)) ∧ Hid (Ext w wr))
  case atStart => exact ⟨0, by omega, rfl, H1, H0, HE⟩
  case round =>
    clear H0 H1 HE
    obtain ⟨k, hk, rfl, H1, H0, E⟩ := hrel
    have hk8 : k ≤ 8 := by omega
    have Hk := hid hk
    clear hk
    by_cases hlt : k < 8
    · have dk := H1.out.cell hlt
      have fr := H1.out.free k
      have h2 : PBox (wr.setCell ⟨w.heap.size + 1, k, none⟩ (.int .i64 k)) (w.heap.size + 1) (upTo (k + 1)) := (H1.out.set hlt (k : Int)).congr (fun i _ => by
        unfold upTo
        by_cases e : i = k
        · subst e; simp
        · have : (i < k + 1) ↔ i < k := by omega
          simp only [e, this, if_false])
      have H2 := hid h2
      have H3 := hid (H0.out.other (by omega : w.heap.size + 1 ≠ w.heap.size) k (.int .i64 k))
      have E2 := hid (E.out.setCell (Nat.le_succ _ : w.heap.size ≤ w.heap.size + 1) k (.int .i64 k))
      clear h2
      go_wp2
      go_roundg (gk - 1)
      case rel => exact ⟨k + 1, by have := Hk.out; omega, by go_num, H2.out, H3.out, E2.out⟩
      case measure => have := Hk.out; omega
    · have ek : k = 8 := by omega
      subst ek
      have d0 := H1.out.cell (i := 0) (by omega)
      have d1 := H1.out.cell (i := 1) (by omega)
      have d2 := H1.out.cell (i := 2) (by omega)
      have d3 := H1.out.cell (i := 3) (by omega)
      have d4 := H1.out.cell (i := 4) (by omega)
      have d5 := H1.out.cell (i := 5) (by omega)
      have d6 := H1.out.cell (i := 6) (by omega)
      have d7 := H1.out.cell (i := 7) (by omega)
      have z0 := H0.out.cell (i := 0) (by omega)
      have z1 := H0.out.cell (i := 1) (by omega)
      have z2 := H0.out.cell (i := 2) (by omega)
      have z3 := H0.out.cell (i := 3) (by omega)
      have z4 := H0.out.cell (i := 4) (by omega)
      have z5 := H0.out.cell (i := 5) (by omega)
      have z6 := H0.out.cell (i := 6) (by omega)
      have z7 := H0.out.cell (i := 7) (by omega)
      have f0 := H0.out.free 0
      have f1 := H0.out.free 1
      have f2 := H0.out.free 2
      have f3 := H0.out.free 3
      have f4 := H0.out.free 4
      have f5 := H0.out.free 5
      have f6 := H0.out.free 6
      have f7 := H0.out.free 7
      go_wp2
      clear d0 d1 d2 d3 d4 d5 d6 d7 z0 z1 z2 z3 z4 z5 z6 z7 f0 f1 f2 f3 f4 f5 f6 f7
      have PF : PBox ((((((((wr.setCell ⟨w.heap.size, 0, none⟩ (.int .i64 (upTo 8 0))).setCell ⟨w.heap.size, 1, none⟩ (.int .i64 (upTo 8 1))).setCell ⟨w.heap.size, 2, none⟩ (.int .i64 (upTo 8 2))).setCell ⟨w.heap.size, 3, none⟩ (.int .i64 (upTo 8 3))).setCell ⟨w.heap.size, 4, none⟩ (.int .i64 (upTo 8 4))).setCell ⟨w.heap.size, 5, none⟩ (.int .i64 (upTo 8 5))).setCell ⟨w.heap.size, 6, none⟩ (.int .i64 (upTo 8 6))).setCell ⟨w.heap.size, 7, none⟩ (.int .i64 (upTo 8 7))) w.heap.size (fun i => (i : Int)) := ((((((((H0.out.set (i := 0) (by omega) (upTo 8 0)).set (i := 1) (by omega) (upTo 8 1)).set (i := 2) (by omega) (upTo 8 2)).set (i := 3) (by omega) (upTo 8 3)).set (i := 4) (by omega) (upTo 8 4)).set (i := 5) (by omega) (upTo 8 5)).set (i := 6) (by omega) (upTo 8 6)).set (i := 7) (by omega) (upTo 8 7)).congr (fun i hi => by
        match i, hi with
        | 0, _ => rfl
        | 1, _ => rfl
        | 2, _ => rfl
        | 3, _ => rfl
        | 4, _ => rfl
        | 5, _ => rfl
        | 6, _ => rfl
        | 7, _ => rfl)
      have EF := hid ((((((((E.out.setCell (Nat.le_refl w.heap.size) 0 (.int .i64 (upTo 8 0))).setCell (Nat.le_refl w.heap.size) 1 (.int .i64 (upTo 8 1))).setCell (Nat.le_refl w.heap.size) 2 (.int .i64 (upTo 8 2))).setCell (Nat.le_refl w.heap.size) 3 (.int .i64 (upTo 8 3))).setCell (Nat.le_refl w.heap.size) 4 (.int .i64 (upTo 8 4))).setCell (Nat.le_refl w.heap.size) 5 (.int .i64 (upTo 8 5))).setCell (Nat.le_refl w.heap.size) 6 (.int .i64 (upTo 8 6))).setCell (Nat.le_refl w.heap.size) 7 (.int .i64 (upTo 8 7)))
      generalize ((((((((wr.setCell ⟨w.heap.size, 0, none⟩ (.int .i64 (upTo 8 0))).setCell ⟨w.heap.size, 1, none⟩ (.int .i64 (upTo 8 1))).setCell ⟨w.heap.size, 2, none⟩ (.int .i64 (upTo 8 2))).setCell ⟨w.heap.size, 3, none⟩ (.int .i64 (upTo 8 3))).setCell ⟨w.heap.size, 4, none⟩ (.int .i64 (upTo 8 4))).setCell ⟨w.heap.size, 5, none⟩ (.int .i64 (upTo 8 5))).setCell ⟨w.heap.size, 6, none⟩ (.int .i64 (upTo 8 6))).setCell ⟨w.heap.size, 7, none⟩ (.int .i64 (upTo 8 7))) = WF at PF EF ⊢
      have q0 := PF.cell (i := 0) (by omega)
      have q1 := PF.cell (i := 1) (by omega)
      have q2 := PF.cell (i := 2) (by omega)
      have q3 := PF.cell (i := 3) (by omega)
      have q4 := PF.cell (i := 4) (by omega)
      have q5 := PF.cell (i := 5) (by omega)
      have q6 := PF.cell (i := 6) (by omega)
      have q7 := PF.cell (i := 7) (by omega)
      refine bodyPost_ret (v := .agg #[.int .i64 0, .int .i64 1, .int .i64 2, .int .i64 3, .int .i64 4, .int .i64 5, .int .i64 6, .int .i64 7]) (by simp [results, Tryd.results36, go_sem, q0, q1, q2, q3, q4, q5, q6, q7]) rfl ?_
      exact ⟨rfl, EF.out⟩

end Go.Proofs.YtkbkgkmogbkabaaDoor
