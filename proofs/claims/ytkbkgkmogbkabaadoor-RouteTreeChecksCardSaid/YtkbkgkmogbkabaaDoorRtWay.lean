/-
  The search of route.Way: its walk.
-/
import Derived.Test.YtkbkgkmogbkabaaDoorRtGrow
import Derived.Laws.EntriesVeiled
namespace Go.Proofs.YtkbkgkmogbkabaaDoor
open Go.RowKit

/-- What the search reads, in the world ahead of its two boxes: the boxes that its function value holds, and the two tables. -/
structure Seen (w0 : World) (N : Nat) (b a : Nat) (pb pm pc pd pa : Nat) (vc vd : Value) (c d : Nat → Nat → Int) : Prop where
  cb : w0.cell? ⟨pb, 0, none⟩ = some (.int .i64 b)
  cm : w0.cell? ⟨pm, 0, none⟩ = some (.int .i64 N)
  cc : w0.cell? ⟨pc, 0, none⟩ = some vc
  cd : w0.cell? ⟨pd, 0, none⟩ = some vd
  ca : w0.cell? ⟨pa, 0, none⟩ = some (.int .i64 a)
  tc : Rows2 w0 vc ((List.range N).map (fun i => rowL N (c i)))
  td : Rows2 w0 vd ((List.range N).map (fun i => rowL N (d i)))
/-- The seven pointers that the function value holds; the found box is bf, its own box bf + 1. -/
def ptrs (bf pb pm pc pd pa : Nat) : Array Value := #[.pointer (some ⟨bf, 0, none⟩), .pointer (some ⟨pb, 0, none⟩), .pointer (some ⟨pm, 0, none⟩), .pointer (some ⟨pc, 0, none⟩), .pointer (some ⟨pd, 0, none⟩), .pointer (some ⟨pa, 0, none⟩), .pointer (some ⟨bf + 1, 0, none⟩)]
/-- A world of the search: all that was ahead of it is as it was, its own box holds it, the found box is one cell that may be written. -/
structure Live (w0 : World) (bf : Nat) (ps : Array Value) (w : World) : Prop where
  e0 : Ext w0 w
  lt : w0.heap.size ≤ bf
  sz : bf + 2 ≤ w.heap.size
  cg : w.cell? ⟨bf + 1, 0, none⟩ = some (.func (.func 54) #[] ps)
  cf : ∃ u, w.heap[bf]? = some (.cells #[u] 25 (0, 0))
theorem Live.fr {w0 : World} {bf : Nat} {ps : Array Value} {w w' : World} {row : Option Nat} (h : Live w0 bf ps w) (f : Fr bf row w w') (hr : ∀ k, row = some k → bf + 2 ≤ k) (hf : ∃ u, w'.heap[bf]? = some (.cells #[u] 25 (0, 0))) : Live w0 bf ps w' := by
  have hs := h.sz
  have hl := h.lt
  have hb := f.below (B := w0.heap.size) hl (by omega) (fun k hk => by have := hr k hk; omega)
  refine ⟨Ext.trans' h.e0 hb (Nat.le_refl _), hl, Nat.le_trans hs f.size, ?_, hf⟩
  rw [World.cell?_of_block (w := w) (f.block (bf + 1) (by omega) (by omega) (fun e => by have := hr _ e.symm; omega))]
  exact h.cg
theorem Live.ext {w0 : World} {bf : Nat} {ps : Array Value} {w w' : World} (h : Live w0 bf ps w) (e : Ext w w') : Live w0 bf ps w' := by
  obtain ⟨u, hu⟩ := h.cf
  exact h.fr (row := none) (Fr.ofExt e) (fun k hk => by simp at hk) ⟨u, heap_ext hu e⟩

theorem rowAt_tab {N i : Nat} {c : Nat → Nat → Int} (hi : i < N) : rowAt ((List.range N).map (fun i => rowL N (c i))) i = rowL N (c i) := by
  unfold rowAt
  rw [Int.toNat_natCast, List.getD_eq_getElem?_getD, List.getElem?_eq_getElem (by simp; exact hi)]
  simp

end Go.Proofs.YtkbkgkmogbkabaaDoor
