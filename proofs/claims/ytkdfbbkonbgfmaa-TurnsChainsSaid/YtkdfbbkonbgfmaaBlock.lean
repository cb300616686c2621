/-
  A block of ints of the call's own: read, written, kept.
-/
import Derived.Test.YtkdfbbkonbgfmaaRepeat
import Derived.Test.YtkdfbbkonbgfmaaFirstPlain
namespace Go.Proofs.Ytkdfbbkonbgfmaa
open Go.RowKit

theorem IntBlock.lt {w : World} {g : Nat} {xs : List Int} (h : IntBlock w g xs) : g < w.heap.size := lt_of_block h
theorem IntBlock.cell {w : World} {g : Nat} {xs : List Int} (h : IntBlock w g xs) {i : Nat} (hi : i < xs.length) : w.cell? ⟨g, i, none⟩ = some (.int .i64 (fn xs i)) := by
  rw [cell_of_row w g i _ _ _ h, fn_get hi]; simp [hi]
theorem IntBlock.free {w : World} {g : Nat} {xs : List Int} (h : IntBlock w g xs) (i : Nat) : w.frozen? ⟨g, i, none⟩ = false := by
  have h' : w.heap[g]? = some (.cells (xs.map (Value.int .i64)).toArray 3 (0, 0)) := h
  simp [World.frozen?, h']
theorem IntBlock.set {w : World} {g : Nat} {xs : List Int} (h : IntBlock w g xs) (i : Nat) (v : Int) : IntBlock (w.setCell ⟨g, i, none⟩ (.int .i64 v)) g (xs.set i v) := by
  have h' : w.heap[g]? = some (.cells (xs.map (Value.int .i64)).toArray 3 (0, 0)) := h
  show (w.setCell ⟨g, i, none⟩ (.int .i64 v)).heap[g]? = _
  simp only [World.setCell, Array.getElem?_modify, if_true, h', Option.map_some]
  simp [List.map_set]
theorem IntBlock.other {w : World} {g : Nat} {xs : List Int} (h : IntBlock w g xs) {g' : Nat} (hg : g' ≠ g) (i : Nat) (v : Value) : IntBlock (w.setCell ⟨g', i, none⟩ v) g xs := by
  show (w.setCell ⟨g', i, none⟩ v).heap[g]? = _
  rw [Below.heap_setCell _ _ _ _ (fun e => hg e.symm)]; exact h
theorem heap_ext {w w' : World} {g : Nat} {o : Obj} (h : w.heap[g]? = some o) (e : Ext w w') : w'.heap[g]? = some o := by rw [e.block g (lt_of_block h)]; exact h
theorem IntBlock.ext {w w' : World} {g : Nat} {xs : List Int} (h : IntBlock w g xs) (e : Ext w w') : IntBlock w' g xs := heap_ext h e
theorem IntBlock.own {w : World} {g : Nat} {xs : List Int} (h : IntBlock w g xs) {base n : Nat} (hb : base ≤ g) (hn : n = xs.length) (hm : xs.length ≤ 17592186044416) : OwnI base w (.slice (some ⟨g, 0, none⟩) n n) xs := by
  subst hn
  exact ⟨by simp, .inr ⟨g, xs.length, _, rfl, hb, h, Nat.le_refl _, by unfold maxLen; omega, by simp, by simp [List.take_of_length_le]⟩⟩
theorem IntBlock.ints {w : World} {g : Nat} {xs : List Int} (h : IntBlock w g xs) {n : Nat} (hn : n = xs.length) (hm : xs.length ≤ 17592186044416) : Ints w (.slice (some ⟨g, 0, none⟩) n n) xs := (h.own (base := 0) (Nat.zero_le _) hn hm).ints hm

/-- A block of three cells: a plan in memory of the call's own. -/
def Box3 (w : World) (b : Nat) (t : TypeId) (v0 v1 v2 : Value) : Prop := w.heap[b]? = some (.cells #[v0, v1, v2] t (0, 0))
theorem Box3.cells {w : World} {b : Nat} {t : TypeId} {v0 v1 v2 : Value} (h : Box3 w b t v0 v1 v2) : w.cell? ⟨b, 0, none⟩ = some v0 ∧ w.cell? ⟨b, 1, none⟩ = some v1 ∧ w.cell? ⟨b, 2, none⟩ = some v2 :=
  ⟨cell_of_row w b 0 _ _ _ h, cell_of_row w b 1 _ _ _ h, cell_of_row w b 2 _ _ _ h⟩
theorem Box3.ext {w w' : World} {b : Nat} {t : TypeId} {v0 v1 v2 : Value} (h : Box3 w b t v0 v1 v2) (e : Ext w w') : Box3 w' b t v0 v1 v2 := heap_ext h e
theorem Box3.other {w : World} {b : Nat} {t : TypeId} {v0 v1 v2 : Value} (h : Box3 w b t v0 v1 v2) {g' : Nat} (hg : g' ≠ b) (i : Nat) (v : Value) : Box3 (w.setCell ⟨g', i, none⟩ v) b t v0 v1 v2 := by
  show (w.setCell ⟨g', i, none⟩ v).heap[b]? = _
  rw [Below.heap_setCell _ _ _ _ (fun e => hg e.symm)]; exact h
theorem Box3.alloc (w : World) (t : TypeId) (v0 v1 v2 : Value) : Box3 (w.alloc (.cells #[v0, v1, v2] t)) w.heap.size t v0 v1 v2 := heap_alloc_new w _

theorem Ext.setCell {a w : World} (h : Ext a w) {g : Nat} (hg : a.heap.size ≤ g) (i : Nat) (v : Value) : Ext a (w.setCell ⟨g, i, none⟩ v) := Below.setCell h (p := ⟨g, i, none⟩) hg v

/-- A row of a slice of slices whose address is known. -/
theorem Rows2.row {w : World} {b off n cap : Nat} {xss : List (List Int)} (h : Rows2 w (.slice (some ⟨b, off, none⟩) n cap) xss) (k : Nat) (hk : k < xss.length) :
    b < w.heap.size ∧ ∃ ar cr, (∀ w', Ext w w' → w'.cell? ⟨b, off + k, none⟩ = some (.slice ar (rowAt xss k).length cr)) ∧ Ints w (.slice ar (rowAt xss k).length cr) (rowAt xss k) := by
  obtain ⟨b', off', ar, cr, he, hc, hi⟩ := h.at k (by omega) (by omega)
  simp only [Option.some.injEq, Addr.mk.injEq, and_true] at he
  obtain ⟨rfl, rfl⟩ := he
  rw [Int.toNat_natCast] at hc
  exact ⟨World.block_lt_of_cell? _ _ (hc w (Ext.refl w)), ar, cr, hc, hi⟩
theorem Ints.get {w : World} {ao : Option Addr} {n cap : Nat} {xs : List Int} (h : Ints w (.slice ao n cap) xs) (i : Nat) (hi : i < xs.length) :
    ∃ b off, ao = some ⟨b, off, none⟩ ∧ b < w.heap.size ∧ (∀ w', Ext w w' → w'.cell? ⟨b, off + i, none⟩ = some (.int .i64 (fn xs i))) := by
  obtain ⟨b, off, ha, hc⟩ := h.at i (by omega) (by omega)
  rw [Int.toNat_natCast] at hc
  exact ⟨b, off, ha, World.block_lt_of_cell? _ _ (hc w (Ext.refl w)), hc⟩
theorem Ints.get' {w : World} {b off n cap : Nat} {xs : List Int} (h : Ints w (.slice (some ⟨b, off, none⟩) n cap) xs) (i : Nat) (hi : i < xs.length) :
    b < w.heap.size ∧ (∀ w', Ext w w' → w'.cell? ⟨b, off + i, none⟩ = some (.int .i64 (fn xs i))) := by
  obtain ⟨b', off', he, r⟩ := h.get i hi
  simp only [Option.some.injEq, Addr.mk.injEq, and_true] at he
  obtain ⟨rfl, rfl⟩ := he
  exact r

end Go.Proofs.Ytkdfbbkonbgfmaa
