/-
  What is kept when some blocks may change; a disk in memory.
-/
import Derived.Test.YteiamhapplnlaabGreatDoorBkPlain
import Derived.Deep.QuietTactic
import Derived.BigQuiet
namespace Go.Proofs.YteiamhapplnlaabGreatDoor
open Go.RowKit

/-- All old blocks but those of F are as they were. -/
structure Moved (F : Nat → Prop) (w w' : World) : Prop where
  os : w'.os = w.os
  tape : w'.tape = w.tape
  output : w'.output = w.output
  size : w.heap.size ≤ w'.heap.size
  block : ∀ k, k < w.heap.size → ¬ F k → w'.heap[k]? = w.heap[k]?
theorem Moved.refl (F : Nat → Prop) (w : World) : Moved F w w := ⟨rfl, rfl, rfl, Nat.le_refl _, fun _ _ _ => rfl⟩
theorem Moved.trans {F G : Nat → Prop} {a b c : World} (h : Moved F a b) (g : Moved G b c) (hG : ∀ k, k < a.heap.size → G k → F k) : Moved F a c :=
  ⟨g.os.trans h.os, g.tape.trans h.tape, g.output.trans h.output, Nat.le_trans h.size g.size, fun k hk hf => (g.block k (Nat.lt_of_lt_of_le hk h.size) (fun x => hf (hG k hk x))).trans (h.block k hk hf)⟩
theorem Ext.moved {w w' : World} (e : Ext w w') (F : Nat → Prop) : Moved F w w' := ⟨e.os, e.tape, e.output, e.size, fun k hk _ => e.block k hk⟩
theorem Moved.ext {F : Nat → Prop} {w w' : World} (h : Moved F w w') (hF : ∀ k, k < w.heap.size → ¬ F k) : Ext w w' := ⟨h.os, h.tape, h.output, h.size, fun k hk => h.block k hk (hF k hk)⟩
theorem Moved.thenExt {F : Nat → Prop} {a b c : World} (h : Moved F a b) (e : Ext b c) : Moved F a c := h.trans (e.moved (fun _ => False)) (fun _ _ h => h.elim)
theorem Ext.thenMoved {F : Nat → Prop} {a b c : World} (e : Ext a b) (h : Moved F b c) : Moved F a c := (e.moved F).trans h (fun _ _ h => h)
theorem Moved.set {F : Nat → Prop} {a b : World} (h : Moved F a b) {g : Nat} (hg : F g ∨ a.heap.size ≤ g) (i : Nat) (v : Value) : Moved F a (b.setCell ⟨g, i, none⟩ v) := by
  refine ⟨h.os, h.tape, h.output, by simpa using h.size, fun k hk hf => ?_⟩
  have hne : k ≠ g := by
    rintro rfl
    rcases hg with x | x
    · exact hf x
    · omega
  rw [Below.heap_setCell _ _ _ _ hne]
  exact h.block k hk hf
theorem Moved.heap {F : Nat → Prop} {w w' : World} (h : Moved F w w') {k : Nat} (hf : ¬ F k) {o : Obj} (ho : w.heap[k]? = some o) : w'.heap[k]? = some o := by
  rw [h.block k (lt_of_block ho) hf]; exact ho
theorem Moved.cell {F : Nat → Prop} {w w' : World} (h : Moved F w w') {p : Addr} {u : Value} (hf : ¬ F p.block) (hc : w.cell? p = some u) : w'.cell? p = some u := by
  have e := h.block p.block (World.block_lt_of_cell? _ _ hc) hf
  unfold World.cell? at *
  rw [e]; exact hc
/-- A row of the call's own, its block untouched. -/
theorem ownsRow_moved {F : Nat → Prop} {B e size n : Nat} {w w' : World} {v : Value} {xs : List Value} (h : w.ownsRow B e size v n xs) (m : Moved F w w') (hf : ∀ k, v.ownBlock = some k → ¬ F k) : w'.ownsRow B e size v n xs := by
  obtain ⟨hl, h | ⟨g, cap, cur, rfl, hg, hh, r⟩⟩ := h
  · exact ⟨hl, .inl h⟩
  · exact ⟨hl, .inr ⟨g, cap, cur, rfl, hg, m.heap (hf g rfl) hh, r⟩⟩
/-- A slice of bytes of the call's own. -/
abbrev OwnB (B : Nat) (w : World) (v : Value) (xs : List Int) : Prop := w.ownsRow B 5 1 v xs.length (xs.map (Value.int .u8))
/-- Five cells in a block. -/
def Box5 (w : World) (b : Nat) (t : TypeId) (v0 v1 v2 v3 v4 : Value) : Prop := w.heap[b]? = some (.cells #[v0, v1, v2, v3, v4] t (0, 0))
theorem Box5.cells {w : World} {b : Nat} {t : TypeId} {v0 v1 v2 v3 v4 : Value} (h : Box5 w b t v0 v1 v2 v3 v4) : w.cell? ⟨b, 0, none⟩ = some v0 ∧ w.cell? ⟨b, 1, none⟩ = some v1 ∧ w.cell? ⟨b, 2, none⟩ = some v2 ∧ w.cell? ⟨b, 3, none⟩ = some v3 ∧ w.cell? ⟨b, 4, none⟩ = some v4 :=
  ⟨cell_of_row w b 0 _ _ _ h, cell_of_row w b 1 _ _ _ h, cell_of_row w b 2 _ _ _ h, cell_of_row w b 3 _ _ _ h, cell_of_row w b 4 _ _ _ h⟩
theorem Box5.free {w : World} {b : Nat} {t : TypeId} {v0 v1 v2 v3 v4 : Value} (h : Box5 w b t v0 v1 v2 v3 v4) (i : Nat) : w.frozen? ⟨b, i, none⟩ = false := by
  have h' : w.heap[b]? = some (.cells #[v0, v1, v2, v3, v4] t (0, 0)) := h
  simp [World.frozen?, h']
theorem Box5.moved {F : Nat → Prop} {w w' : World} {b : Nat} {t : TypeId} {v0 v1 v2 v3 v4 : Value} (h : Box5 w b t v0 v1 v2 v3 v4) (m : Moved F w w') (hf : ¬ F b) : Box5 w' b t v0 v1 v2 v3 v4 := m.heap hf h
theorem Box5.ext {w w' : World} {b : Nat} {t : TypeId} {v0 v1 v2 v3 v4 : Value} (h : Box5 w b t v0 v1 v2 v3 v4) (e : Ext w w') : Box5 w' b t v0 v1 v2 v3 v4 := h.moved (e.moved (fun _ => False)) (fun h => h)
theorem Box5.lt {w : World} {b : Nat} {t : TypeId} {v0 v1 v2 v3 v4 : Value} (h : Box5 w b t v0 v1 v2 v3 v4) : b < w.heap.size := lt_of_block h
theorem Box5.alloc (w : World) (t : TypeId) (v0 v1 v2 v3 v4 : Value) : Box5 (w.alloc (.cells #[v0, v1, v2, v3, v4] t)) w.heap.size t v0 v1 v2 v3 v4 := heap_alloc_new w _
theorem Box5.set0 {w : World} {b : Nat} {t : TypeId} {v0 v1 v2 v3 v4 : Value} (h : Box5 w b t v0 v1 v2 v3 v4) (v : Value) : Box5 (w.setCell ⟨b, 0, none⟩ v) b t v v1 v2 v3 v4 := by
  have h' : w.heap[b]? = some (.cells #[v0, v1, v2, v3, v4] t (0, 0)) := h
  show (w.setCell _ _).heap[b]? = _
  simp only [World.setCell, Array.getElem?_modify, if_true, h', Option.map_some]; simp
theorem Box5.set2 {w : World} {b : Nat} {t : TypeId} {v0 v1 v2 v3 v4 : Value} (h : Box5 w b t v0 v1 v2 v3 v4) (v : Value) : Box5 (w.setCell ⟨b, 2, none⟩ v) b t v0 v1 v v3 v4 := by
  have h' : w.heap[b]? = some (.cells #[v0, v1, v2, v3, v4] t (0, 0)) := h
  show (w.setCell _ _).heap[b]? = _
  simp only [World.setCell, Array.getElem?_modify, if_true, h', Option.map_some]; simp
theorem Box5.set1 {w : World} {b : Nat} {t : TypeId} {v0 v1 v2 v3 v4 : Value} (h : Box5 w b t v0 v1 v2 v3 v4) (v : Value) : Box5 (w.setCell ⟨b, 1, none⟩ v) b t v0 v v2 v3 v4 := by
  have h' : w.heap[b]? = some (.cells #[v0, v1, v2, v3, v4] t (0, 0)) := h
  show (w.setCell _ _).heap[b]? = _
  simp only [World.setCell, Array.getElem?_modify, if_true, h', Option.map_some]; simp
theorem Box5.set3 {w : World} {b : Nat} {t : TypeId} {v0 v1 v2 v3 v4 : Value} (h : Box5 w b t v0 v1 v2 v3 v4) (v : Value) : Box5 (w.setCell ⟨b, 3, none⟩ v) b t v0 v1 v2 v v4 := by
  have h' : w.heap[b]? = some (.cells #[v0, v1, v2, v3, v4] t (0, 0)) := h
  show (w.setCell _ _).heap[b]? = _
  simp only [World.setCell, Array.getElem?_modify, if_true, h', Option.map_some]; simp
theorem Box5.set4 {w : World} {b : Nat} {t : TypeId} {v0 v1 v2 v3 v4 : Value} (h : Box5 w b t v0 v1 v2 v3 v4) (v : Value) : Box5 (w.setCell ⟨b, 4, none⟩ v) b t v0 v1 v2 v3 v := by
  have h' : w.heap[b]? = some (.cells #[v0, v1, v2, v3, v4] t (0, 0)) := h
  show (w.setCell _ _).heap[b]? = _
  simp only [World.setCell, Array.getElem?_modify, if_true, h', Option.map_some]; simp

/-- The program's disk; v: its slice of bytes. -/
structure DiskP (B : Nat) (w : World) (b : Nat) (v : Value) (d : DD) : Prop where
  lo : B ≤ b
  box : Box5 w b 28 v (.int .i64 d.size) (.int .i64 d.safe) (.bool d.dark) (.int .i64 d.left)
  own : OwnB B w v d.bytes
  ok : DOk d
/-- The reference's disk. -/
structure DiskR (B : Nat) (w : World) (b : Nat) (v : Value) (d : DD) : Prop where
  lo : B ≤ b
  box : Box5 w b 165 (.int .i64 d.size) v (.int .i64 d.safe) (.bool d.dark) (.int .i64 d.left)
  own : OwnB B w v d.bytes
  ok : DOk d
/-- The blocks that a disk takes. -/
def fp (b : Nat) (v : Value) (k : Nat) : Prop := k = b ∨ v.ownBlock = some k
theorem DiskP.moved {F : Nat → Prop} {B : Nat} {w w' : World} {b : Nat} {v : Value} {d : DD} (h : DiskP B w b v d) (m : Moved F w w') (hf : ∀ k, fp b v k → ¬ F k) : DiskP B w' b v d :=
  ⟨h.lo, h.box.moved m (hf b (.inl rfl)), ownsRow_moved h.own m (fun k hk => hf k (.inr hk)), h.ok⟩
theorem DiskR.moved {F : Nat → Prop} {B : Nat} {w w' : World} {b : Nat} {v : Value} {d : DD} (h : DiskR B w b v d) (m : Moved F w w') (hf : ∀ k, fp b v k → ¬ F k) : DiskR B w' b v d :=
  ⟨h.lo, h.box.moved m (hf b (.inl rfl)), ownsRow_moved h.own m (fun k hk => hf k (.inr hk)), h.ok⟩
theorem DiskP.ext {B : Nat} {w w' : World} {b : Nat} {v : Value} {d : DD} (h : DiskP B w b v d) (e : Ext w w') : DiskP B w' b v d := h.moved (e.moved (fun _ => False)) (fun _ _ h => h)
theorem DiskR.ext {B : Nat} {w w' : World} {b : Nat} {v : Value} {d : DD} (h : DiskR B w b v d) (e : Ext w w') : DiskR B w' b v d := h.moved (e.moved (fun _ => False)) (fun _ _ h => h)
theorem ownB_len {B : Nat} {w : World} {v : Value} {xs : List Int} (h : OwnB B w v xs) : ∃ a c, v = .slice a xs.length c ∧ xs.length ≤ c := by
  obtain ⟨-, ⟨h, hn⟩ | ⟨g, cap, cur, h, -, -, hc, -⟩⟩ := h
  · exact ⟨_, _, by rw [hn]; exact h, by omega⟩
  · exact ⟨_, _, h, hc⟩

end Go.Proofs.YteiamhapplnlaabGreatDoor
