/-
  Contract of the disk's Read.
-/
import Derived.Test.YteiamhapplnlaabGreatDoorBkRefA
import Derived.Laws.CopyOwn
import Derived.Deep.OwnRows
namespace Go.Proofs.YteiamhapplnlaabGreatDoor
open Go.RowKit

set_option maxHeartbeats 2000000 in
theorem Read_off {B : Nat} (b : Nat) (v : Value) (d : DD) (w : World) (hd : DiskP B w b v d) (hk : d.dark = true) :
    Calls Tryz.prog 6 #[.pointer (some ⟨b, 0, none⟩)] w fun e w' => e = .returned (.tuple #[.slice none 0 0, .int .i64 8]) ∧ w = w' := by
  obtain ⟨c0, c1, c2, c3, c4⟩ := hd.box.cells
  rw [hk] at c3
  have HD := hid hd
  clear hd hk
  go_enter Tryz.func6, Tryz.ntmps6
  go_wp2_with (fail)
  refine (none_any b v d w HD.out).mono ?_
  rintro e w' ⟨rfl, rfl⟩
  go_wp2
  go_ret2
  exact ⟨rfl, rfl⟩

theorem splice_all {α : Type} {cur cs : List α} (h : cur.length = cs.length) : splice cur 0 cs = cs := by
  unfold splice
  rw [List.take_zero, List.nil_append, Nat.zero_add, List.drop_of_length_le (by omega), List.append_nil]

/-- A whole row of bytes copied into a new row. -/
theorem run_copy_whole (w : World) (g : Nat) (cur : List Value) (hg : w.heap[g]? = some (.cells cur.toArray 5 (0, 0))) (v : Value) (xs : List Int) (hx : BytesI w v xs) (hl : cur.length = xs.length) :
    ∃ w2, (Builtin.copy_ #[26, 26] 3 #[.slice (some ⟨g, 0, none⟩) xs.length xs.length, v]).run Tryz.prog w = .ok (goInt xs.length) w2 ∧ w2.heap[g]? = some (.cells (xs.map (Value.int .u8)).toArray 5 (0, 0)) ∧ Below g w w2 := by
  have hsz1 : (Tryz.prog.info? 5).map (·.size) = some 1 := by kernel_rfl
  obtain ⟨ao, cap, rfl, h0, h1, h2⟩ := hx
  by_cases hz : xs = []
  · subst hz
    obtain rfl : cur = [] := List.eq_nil_of_length_eq_zero hl
    exact ⟨w, run_copy_none w _ _ _ 5 _ _ _ _ _ _ Tryz.underlying26 hsz1 (by simp), hg, Below.refl _ _⟩
  · have hp : 0 < xs.length := List.length_pos_iff.2 hz
    obtain ⟨b, off, rfl, -⟩ := h2 0 hp
    have hr := run_copy_row (P := Tryz.prog) w 26 26 3 5 g 0 xs.length xs.length ⟨b, off, none⟩ xs.length cap cur.toArray 5 (xs.map (Value.int .u8)) Tryz.underlying26 hsz1 hg (by rw [List.length_map]; exact (Nat.min_self _).symm) (by
      intro j u hj
      rw [List.getElem?_map] at hj
      obtain ⟨x, hx, rfl⟩ := Option.map_eq_some_iff.1 hj
      obtain ⟨hj', rfl⟩ := List.getElem?_eq_some_iff.1 hx
      obtain ⟨b', off', e, hc⟩ := h2 j hj'
      cases e
      rw [Addr.add_lit]; exact hc) (by simp [hl]) (u8_oneCell xs)
    have he : (cur.toArray.toList.take 0 ++ xs.map (Value.int .u8) ++ cur.toArray.toList.drop (0 + (xs.map (Value.int .u8)).length)) = xs.map (Value.int .u8) := by
      rw [List.take_zero, List.nil_append, List.drop_of_length_le (by simp [hl]), List.append_nil]
    rw [he, List.length_map] at hr
    exact ⟨_, hr, setRow_heap w g _ _ 5 _ hg, below_setRow (Below.refl _ _) (Nat.le_refl _) _⟩

set_option maxHeartbeats 2000000 in
theorem Read_on {B : Nat} (b : Nat) (v : Value) (d : DD) (w : World) (hd : DiskP B w b v d) (hk : d.dark = false) :
    Calls Tryz.prog 6 #[.pointer (some ⟨b, 0, none⟩)] w fun e w' => ∃ u, e = .returned (.tuple #[u, .int .i64 0]) ∧ OwnB w.heap.size w' u d.bytes ∧ Ext w w' := by
  obtain ⟨c0, c1, c2, c3, c4⟩ := hd.box.cells
  rw [hk] at c3
  have HD := hid hd
  have hls := hd.ok.ls
  have hsm := hd.ok.sm
  have hby := OwnB.bytes hd.own
  have hmk := run_make_row' (P := Tryz.prog) 26 5 (.int .u8 0) 1 Tryz.underlying26 info_u8 rfl .i64 .i64 d.bytes.length (by omega) (by omega)
  have hmade : madeCells #[Value.int .u8 0] d.bytes.length = (List.replicate d.bytes.length (Value.int .u8 0)).toArray := by
    apply Array.ext'
    rw [toList_madeCells_one]
  have c0a := (Ext.ofAlloc w (.cells (madeCells #[Value.int .u8 0] d.bytes.length) 5)).cell c0
  have hblk : (w.alloc (.cells (madeCells #[Value.int .u8 0] d.bytes.length) 5)).heap[w.heap.size]? = some (.cells (List.replicate d.bytes.length (Value.int .u8 0)).toArray 5 (0, 0)) := by rw [← hmade]; exact heap_alloc_new w _
  have hext := Ext.ofAlloc w (.cells (madeCells #[Value.int .u8 0] d.bytes.length) 5)
  obtain ⟨w2, hcp, hr2, hb2⟩ := run_copy_whole _ _ _ hblk v d.bytes (hby.ext hext) (by simp)
  obtain ⟨av, cv, hv, hcv⟩ := ownB_len hd.own
  subst hv
  have HR2 := hid hr2
  have HE := hid (show Ext w w2 from Below.trans (show Below w.heap.size w _ from hext) hb2)
  clear hd hk c1 c2 c4 hblk hext hr2 hb2 hby hmade
  go_enter Tryz.func6, Tryz.ntmps6
  go_wp2_with (fail)
  refine (none_any b _ d w HD.out).mono ?_
  rintro e w' ⟨rfl, rfl⟩
  go_wp2_with (fail)
  go_ret2
  refine ⟨_, rfl, ⟨by simp, .inr ⟨w.heap.size, d.bytes.length, _, rfl, Nat.le_refl _, HR2.out, Nat.le_refl _, by unfold maxLen; omega, by simp, by simpa using List.take_of_length_le (by simp)⟩⟩, HE.out⟩

end Go.Proofs.YteiamhapplnlaabGreatDoor
