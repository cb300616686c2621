/-
  What Open makes of a disk, as data; reading an empty text; contract of Open over what read answers.
-/
import Derived.Test.YteiamhapplnlaabGreatDoorBsDo
import Derived.Test.YteiamhapplnlaabGreatDoorBsPlan
import Derived.Test.YteiamhapplnlaabGreatDoorRtDistances
import Derived.Laws.BytesArg
namespace Go.Proofs.YteiamhapplnlaabGreatDoor
open Go.RowKit

structure BooksD where
  lines : List Bs
  st : SD
  bytes : Int
/-- Whole groups of a text, as long as their changes have no error. -/
def readGo : Nat → Bs → BooksD → BooksD → BooksD
  | 0, _, out, _ => out
  | f + 1, t, out, group =>
    if (cutC 10 t).2.2 = false then out else
    if (cutC 10 t).1 = [] then (if group.lines.length = out.lines.length then out else readGo f (cutC 10 t).2.1 { group with bytes := group.bytes + 1 } { group with bytes := group.bytes + 1 }) else
    if (group.st.chg (cutC 10 t).1).1 ≠ 0 then out else
    readGo f (cutC 10 t).2.1 out ⟨group.lines ++ [(cutC 10 t).1], (group.st.chg (cutC 10 t).1).2.2, group.bytes + ((cutC 10 t).1.length + 1)⟩
def readF (t : Bs) : BooksD := readGo (t.length + 1) t ⟨[], SD.zero, 0⟩ ⟨[], SD.zero, 0⟩
def ReadAns (t : Bs) (w : World) (e : Ending) (w' : World) : Prop := ∃ vl sp, e = .returned (.agg #[vl, .pointer (some ⟨sp, 0, none⟩), .int .i64 (readF t).bytes]) ∧ OwnN w.heap.size 9 1 w' vl (readF t).lines.length ((readF t).lines.map strV) ∧ StR w' sp (readF t).st ∧ Ext w w'
theorem SOk.zero : SOk SD.zero := by
  refine ⟨⟨by decide, by decide⟩, by decide, List.Pairwise.nil, ?_, ?_, List.Pairwise.nil, ?_, ?_, by decide, ?_, ?_, ?_, ?_, by decide, ?_, List.Pairwise.nil, ?_, by decide, .inl rfl⟩ <;> intro x hx <;> exact absurd hx (List.not_mem_nil)

/-- Three fields in a block: the books. -/
def BookB (w : World) (b : Nat) (v0 v1 v2 : Value) : Prop := w.heap[b]? = some (.cells #[v0, v1, v2] 60 (0, 0))
theorem BookB.cells {w : World} {b : Nat} {v0 v1 v2 : Value} (h : BookB w b v0 v1 v2) : w.cell? ⟨b, 0, none⟩ = some v0 ∧ w.cell? ⟨b, 1, none⟩ = some v1 ∧ w.cell? ⟨b, 2, none⟩ = some v2 :=
  ⟨cell_of_row w b 0 _ _ _ h, cell_of_row w b 1 _ _ _ h, cell_of_row w b 2 _ _ _ h⟩
theorem BookB.free {w : World} {b : Nat} {v0 v1 v2 : Value} (h : BookB w b v0 v1 v2) (i : Nat) : w.frozen? ⟨b, i, none⟩ = false := by
  have h' : w.heap[b]? = some (.cells #[v0, v1, v2] 60 (0, 0)) := h
  simp [World.frozen?, h']
theorem BookB.moved {F : Nat → Prop} {w w' : World} {b : Nat} {v0 v1 v2 : Value} (h : BookB w b v0 v1 v2) (m : Moved F w w') (hf : ¬ F b) : BookB w' b v0 v1 v2 := m.heap hf h
theorem BookB.ext {w w' : World} {b : Nat} {v0 v1 v2 : Value} (h : BookB w b v0 v1 v2) (e : Ext w w') : BookB w' b v0 v1 v2 := h.moved (e.moved (fun _ => False)) (fun h => h)
theorem BookB.set0 {w : World} {b : Nat} {v0 v1 v2 : Value} (h : BookB w b v0 v1 v2) (v : Value) : BookB (w.setCell ⟨b, 0, none⟩ v) b v v1 v2 := by
  have h' : w.heap[b]? = some (.cells #[v0, v1, v2] 60 (0, 0)) := h
  show (w.setCell _ _).heap[b]? = _
  simp only [World.setCell, Array.getElem?_modify, if_true, h', Option.map_some]; simp
theorem BookB.set1 {w : World} {b : Nat} {v0 v1 v2 : Value} (h : BookB w b v0 v1 v2) (v : Value) : BookB (w.setCell ⟨b, 1, none⟩ v) b v0 v v2 := by
  have h' : w.heap[b]? = some (.cells #[v0, v1, v2] 60 (0, 0)) := h
  show (w.setCell _ _).heap[b]? = _
  simp only [World.setCell, Array.getElem?_modify, if_true, h', Option.map_some]; simp
theorem BookB.set2 {w : World} {b : Nat} {v0 v1 v2 : Value} (h : BookB w b v0 v1 v2) (v : Value) : BookB (w.setCell ⟨b, 2, none⟩ v) b v0 v1 v := by
  have h' : w.heap[b]? = some (.cells #[v0, v1, v2] 60 (0, 0)) := h
  show (w.setCell _ _).heap[b]? = _
  simp only [World.setCell, Array.getElem?_modify, if_true, h', Option.map_some]; simp
theorem BookB.lt {w : World} {b : Nat} {v0 v1 v2 : Value} (h : BookB w b v0 v1 v2) : b < w.heap.size := lt_of_block h
theorem results_books {fn : Func} {p : Tmp} (h : fn.results = #[.cell p 60]) (tmps : Array Value) (w : World) (b : Nat) (v0 v1 v2 : Value) (hp : tmps.getD p undef = .pointer (some ⟨b, 0, none⟩)) (hb : BookB w b v0 v1 v2) :
    (results fn tmps).run Tryz.prog w = .ok (.agg #[v0, v1, v2]) w :=
  results_cell_row h tmps w b _ _ _ _ hp hb Tryz.underlying60 (by kernel_rfl) (by kernel_rfl)

/-- An empty state in memory. -/
theorem StR.zero {w : World} {b bm : Nat} (hb : Box5 w b 84 (.int .i64 0) (.map (some bm)) (.slice none 0 0) (.slice none 0 0) (.slice none 0 0)) (hm : w.ownsMap Tryz.prog 9 rawV bm 0 (mapD .held [])) : StR w b SD.zero :=
  ⟨SOk.zero, bm, _, _, _, [], [], [], ⟨hb, ⟨0, by omega, hm⟩, trivial, .inl ⟨rfl, rfl, rfl⟩, .inl ⟨rfl, rfl, rfl⟩, ⟨rfl, fun i h u h1 => by simp [SD.zero] at h1⟩, .inl ⟨rfl, rfl, rfl⟩, ⟨rfl, fun i h u h1 => by simp [SD.zero] at h1⟩⟩⟩

/-- What lies there when the reading begins. -/
theorem read_start (w : World) : Hid (Ext w (((((w.alloc (.cells #[.slice none 0 0, .pointer none, .int .i64 0] 60)).alloc (.map #[] 0)).alloc (.cells #[.int .i64 0, .map (some (w.heap.size + 1)), .slice none 0 0, .slice none 0 0, .slice none 0 0] 84)).alloc (.cells #[.slice none 0 0, .pointer (some ⟨w.heap.size + 1 + 1, 0, none⟩), .int .i64 0] 60)).alloc (.cells #[.slice none 0 0, .pointer (some ⟨w.heap.size + 1 + 1, 0, none⟩), .int .i64 0] 60))) ∧ Hid (BookB (((((w.alloc (.cells #[.slice none 0 0, .pointer none, .int .i64 0] 60)).alloc (.map #[] 0)).alloc (.cells #[.int .i64 0, .map (some (w.heap.size + 1)), .slice none 0 0, .slice none 0 0, .slice none 0 0] 84)).alloc (.cells #[.slice none 0 0, .pointer (some ⟨w.heap.size + 1 + 1, 0, none⟩), .int .i64 0] 60)).alloc (.cells #[.slice none 0 0, .pointer (some ⟨w.heap.size + 1 + 1, 0, none⟩), .int .i64 0] 60)) w.heap.size (.slice none 0 0) (.pointer none) (.int .i64 0)) ∧ Hid (BookB (((((w.alloc (.cells #[.slice none 0 0, .pointer none, .int .i64 0] 60)).alloc (.map #[] 0)).alloc (.cells #[.int .i64 0, .map (some (w.heap.size + 1)), .slice none 0 0, .slice none 0 0, .slice none 0 0] 84)).alloc (.cells #[.slice none 0 0, .pointer (some ⟨w.heap.size + 1 + 1, 0, none⟩), .int .i64 0] 60)).alloc (.cells #[.slice none 0 0, .pointer (some ⟨w.heap.size + 1 + 1, 0, none⟩), .int .i64 0] 60)) (w.heap.size + 1 + 1 + 1) (.slice none 0 0) (.pointer (some ⟨w.heap.size + 1 + 1, 0, none⟩)) (.int .i64 0)) ∧
    Hid (BookB (((((w.alloc (.cells #[.slice none 0 0, .pointer none, .int .i64 0] 60)).alloc (.map #[] 0)).alloc (.cells #[.int .i64 0, .map (some (w.heap.size + 1)), .slice none 0 0, .slice none 0 0, .slice none 0 0] 84)).alloc (.cells #[.slice none 0 0, .pointer (some ⟨w.heap.size + 1 + 1, 0, none⟩), .int .i64 0] 60)).alloc (.cells #[.slice none 0 0, .pointer (some ⟨w.heap.size + 1 + 1, 0, none⟩), .int .i64 0] 60)) (w.heap.size + 1 + 1 + 1 + 1) (.slice none 0 0) (.pointer (some ⟨w.heap.size + 1 + 1, 0, none⟩)) (.int .i64 0)) ∧ Hid (StR (((((w.alloc (.cells #[.slice none 0 0, .pointer none, .int .i64 0] 60)).alloc (.map #[] 0)).alloc (.cells #[.int .i64 0, .map (some (w.heap.size + 1)), .slice none 0 0, .slice none 0 0, .slice none 0 0] 84)).alloc (.cells #[.slice none 0 0, .pointer (some ⟨w.heap.size + 1 + 1, 0, none⟩), .int .i64 0] 60)).alloc (.cells #[.slice none 0 0, .pointer (some ⟨w.heap.size + 1 + 1, 0, none⟩), .int .i64 0] 60)) (w.heap.size + 1 + 1) SD.zero) ∧ Hid ((((((w.alloc (.cells #[.slice none 0 0, .pointer none, .int .i64 0] 60)).alloc (.map #[] 0)).alloc (.cells #[.int .i64 0, .map (some (w.heap.size + 1)), .slice none 0 0, .slice none 0 0, .slice none 0 0] 84)).alloc (.cells #[.slice none 0 0, .pointer (some ⟨w.heap.size + 1 + 1, 0, none⟩), .int .i64 0] 60)).alloc (.cells #[.slice none 0 0, .pointer (some ⟨w.heap.size + 1 + 1, 0, none⟩), .int .i64 0] 60)).heap.size = w.heap.size + 5) := by
  obtain ⟨w1, h1⟩ : ∃ w1, w1 = w.alloc (.cells #[.slice none 0 0, .pointer none, .int .i64 0] 60) := ⟨_, rfl⟩
  have e1 : Ext w w1 := by rw [h1]; exact Ext.ofAlloc _ _
  have b0 : BookB w1 w.heap.size (.slice none 0 0) (.pointer none) (.int .i64 0) := by rw [h1]; exact heap_alloc_new w _
  have s1 : w1.heap.size = w.heap.size + 1 := by rw [h1]; simp
  rw [← h1]
  clear h1
  obtain ⟨w2, h2⟩ : ∃ w2, w2 = w1.alloc (.map #[] 0) := ⟨_, rfl⟩
  have e2 : Ext w1 w2 := by rw [h2]; exact Ext.ofAlloc _ _
  have m2 : w2.ownsMap Tryz.prog 9 rawV (w.heap.size + 1) 0 (mapD .held []) := by
    have := World.ownsMap_made w1 Tryz.prog 9 rawV
    rw [s1] at this
    rw [h2]; exact this
  have s2 : w2.heap.size = w.heap.size + 1 + 1 := by rw [h2]; simp [s1]
  rw [← h2]
  clear h2
  obtain ⟨w3, h3⟩ : ∃ w3, w3 = w2.alloc (.cells #[.int .i64 0, .map (some (w.heap.size + 1)), .slice none 0 0, .slice none 0 0, .slice none 0 0] 84) := ⟨_, rfl⟩
  have e3 : Ext w2 w3 := by rw [h3]; exact Ext.ofAlloc _ _
  have z3 : StR w3 (w.heap.size + 1 + 1) SD.zero := by
    refine StR.zero (bm := w.heap.size + 1) ?_ (ownsMap_ext m2 e3)
    have := Box5.alloc w2 84 (.int .i64 0) (.map (some (w.heap.size + 1))) (.slice none 0 0) (.slice none 0 0) (.slice none 0 0)
    rw [s2] at this
    rw [h3]; exact this
  have s3 : w3.heap.size = w.heap.size + 1 + 1 + 1 := by rw [h3]; simp [s2]
  rw [← h3]
  clear h3
  obtain ⟨w4, h4⟩ : ∃ w4, w4 = w3.alloc (.cells #[.slice none 0 0, .pointer (some ⟨w.heap.size + 1 + 1, 0, none⟩), .int .i64 0] 60) := ⟨_, rfl⟩
  have e4 : Ext w3 w4 := by rw [h4]; exact Ext.ofAlloc _ _
  have b4 : BookB w4 (w.heap.size + 1 + 1 + 1) (.slice none 0 0) (.pointer (some ⟨w.heap.size + 1 + 1, 0, none⟩)) (.int .i64 0) := by
    have := heap_alloc_new w3 (.cells #[.slice none 0 0, .pointer (some ⟨w.heap.size + 1 + 1, 0, none⟩), .int .i64 0] 60)
    rw [s3] at this
    rw [h4]; exact this
  have s4 : w4.heap.size = w.heap.size + 1 + 1 + 1 + 1 := by rw [h4]; simp [s3]
  rw [← h4]
  clear h4
  have b5 : BookB (w4.alloc (.cells #[.slice none 0 0, .pointer (some ⟨w.heap.size + 1 + 1, 0, none⟩), .int .i64 0] 60)) (w.heap.size + 1 + 1 + 1 + 1) (.slice none 0 0) (.pointer (some ⟨w.heap.size + 1 + 1, 0, none⟩)) (.int .i64 0) := by
    have := heap_alloc_new w4 (.cells #[.slice none 0 0, .pointer (some ⟨w.heap.size + 1 + 1, 0, none⟩), .int .i64 0] 60)
    rw [s4] at this
    exact this
  have e5 : Ext w4 (w4.alloc (.cells #[.slice none 0 0, .pointer (some ⟨w.heap.size + 1 + 1, 0, none⟩), .int .i64 0] 60)) := Ext.ofAlloc _ _
  exact ⟨(((e1.trans e2).trans e3).trans e4).trans e5, (((b0.ext e2).ext e3).ext e4).ext e5, b4.ext e5, b5, (z3.ext e4).ext e5, by show _ = _; simp [s4]⟩

set_option maxHeartbeats 4000000 in
set_option maxRecDepth 100000 in
theorem read_nil (w : World) (hE : Env w) : Calls Tryz.prog 21 #[.string ⟨#[]⟩] w (ReadAns [] w) := by
  have HE := hid hE
  have hmm := @run_makeMap Tryz.prog
  clear hE
  go_enter Tryz.func21, Tryz.ntmps21
  obtain ⟨E0, B0, B3, B4, HZ, HS⟩ := read_start w
  go_wp2
  generalize (((((w.alloc (.cells #[.slice none 0 0, .pointer none, .int .i64 0] 60)).alloc (.map #[] 0)).alloc (.cells #[.int .i64 0, .map (some (w.heap.size + 1)), .slice none 0 0, .slice none 0 0, .slice none 0 0] 84)).alloc (.cells #[.slice none 0 0, .pointer (some ⟨w.heap.size + 1 + 1, 0, none⟩), .int .i64 0] 60)).alloc (.cells #[.slice none 0 0, .pointer (some ⟨w.heap.size + 1 + 1, 0, none⟩), .int .i64 0] 60)) = W at *
  go_loopg [0] 0 (fun g x wr => x = .string ⟨#[]⟩ ∧ Hid (W = wr))
  case atStart => exact ⟨rfl, rfl⟩
  case round =>
    obtain ⟨rfl, HW⟩ := hrel
    have hc : cutC 10 [] = ([], [], false) := rfl
    have HC := hid hc
    clear hc
    go_wp2_with (fail)
    refine (StrCut_any 10 ⟨#[]⟩ wr (by decide) (by rw [← HW.out]; exact HE.out.ext E0.out)).mono ?_
    rw [show (⟨#[]⟩ : ByteArray).data.toList = [] from rfl, HC.out]
    rintro e w2 ⟨rfl, he⟩
    have E2 : Hid (Ext W w2) := by rw [HW.out]; exact he
    have B02 := hid (B0.out.ext E2.out)
    have B32 := hid (B3.out.ext E2.out)
    clear he
    obtain ⟨c0, c1, c2⟩ := B32.out.cells
    obtain ⟨d0, d1, d2⟩ := B02.out.cells
    have f0 := B02.out.free 0
    have f1 := B02.out.free 1
    have f2 := B02.out.free 2
    go_wp2
    have M : Moved (fun j => j = w.heap.size) w2 (((w2.setCell ⟨w.heap.size, 0, none⟩ (.slice none 0 0)).setCell ⟨w.heap.size, 1, none⟩ (.pointer (some ⟨w.heap.size + 1 + 1, 0, none⟩))).setCell ⟨w.heap.size, 2, none⟩ (.int .i64 0)) := (((Moved.refl (fun j => j = w.heap.size) w2).set (.inl rfl) 0 _).set (.inl rfl) 1 _).set (.inl rfl) 2 _
    refine bodyPost_ret (results_books rfl _ _ w.heap.size _ _ _ rfl (((B02.out.set0 (.slice none 0 0)).set1 (.pointer (some ⟨w.heap.size + 1 + 1, 0, none⟩))).set2 (.int .i64 0))) rfl ?_
    refine ⟨_, w.heap.size + 1 + 1, rfl, OwnN.empty _ _ _ _, (HZ.out.ext E2.out).moved M (fun j hj o ho => ?_), ext_moved (E0.out.trans E2.out) M (fun j e => by omega)⟩
    subst hj
    have hb : w2.heap[w.heap.size]? = some _ := B02.out
    rw [ho] at hb
    cases hb
    exact ⟨_, _, _, rfl, by unfold stTy; decide⟩

end Go.Proofs.YteiamhapplnlaabGreatDoor
