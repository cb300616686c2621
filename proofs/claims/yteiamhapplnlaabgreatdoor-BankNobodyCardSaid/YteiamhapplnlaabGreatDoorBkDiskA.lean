/-
  Contracts of the disk's small calls: NewDisk, none, room, Fuse; of the reference's NewDisk, done, Fuse.
-/
import Derived.Test.YteiamhapplnlaabGreatDoorBkMem
import Derived.Deep.LoopGhost
namespace Go.Proofs.YteiamhapplnlaabGreatDoor
open Go.RowKit

set_option maxHeartbeats 1000000 in
theorem NewDisk_ok (size : Int) (w : World) (h1 : 1 ≤ size) (h2 : size ≤ 1000000) :
    Calls Tryz.prog 62 #[.int .i64 size] w fun e w' => e = .returned (.tuple #[.pointer (some ⟨w.heap.size, 0, none⟩), .int .i64 0]) ∧ DiskP w.heap.size w' w.heap.size (.slice none 0 0) ⟨[], size, 0, false, -1⟩ ∧ Ext w w' := by
  have b1 : ¬ size < 1 := by omega
  have b2 : ¬ (1000000 : Int) < size := by omega
  go_enter Tryz.func62, Tryz.ntmps62
  go_wp2
  go_ret2
  exact ⟨rfl, ⟨Nat.le_refl _, Box5.alloc w _ _ _ _ _ _, World.ownsRow_nil _ _ _ _, DOk.new h1 h2⟩, Ext.ofAlloc _ _⟩

set_option maxHeartbeats 1000000 in
theorem NewDisk_bad (size : Int) (w : World) (h : size < 1 ∨ 1000000 < size) :
    Calls Tryz.prog 62 #[.int .i64 size] w fun e w' => e = .returned (.tuple #[.pointer none, .int .i64 2]) ∧ w = w' := by
  by_cases b1 : size < 1
  · clear h
    go_enter Tryz.func62, Tryz.ntmps62
    go_wp2
    go_ret2
    exact ⟨rfl, rfl⟩
  · have b2 : (1000000 : Int) < size := by omega
    clear h
    go_enter Tryz.func62, Tryz.ntmps62
    go_wp2
    go_ret2
    exact ⟨rfl, rfl⟩

set_option maxHeartbeats 1000000 in
theorem RNewDisk_ok (size : Int) (w : World) (h1 : 1 ≤ size) (h2 : size ≤ 1000000) :
    Calls Tryz.prog 63 #[.int .i64 size] w fun e w' => e = .returned (.tuple #[.pointer (some ⟨w.heap.size, 0, none⟩), .int .i64 0]) ∧ DiskR w.heap.size w' w.heap.size (.slice none 0 0) ⟨[], size, 0, false, -1⟩ ∧ Ext w w' := by
  have b1 : ¬ size < 1 := by omega
  have b2 : ¬ (1000000 : Int) < size := by omega
  go_enter Tryz.func63, Tryz.ntmps63
  go_wp2
  go_ret2
  exact ⟨rfl, ⟨Nat.le_refl _, Box5.alloc w _ _ _ _ _ _, World.ownsRow_nil _ _ _ _, DOk.new h1 h2⟩, Ext.ofAlloc _ _⟩

set_option maxHeartbeats 1000000 in
theorem RNewDisk_bad (size : Int) (w : World) (h : size < 1 ∨ 1000000 < size) :
    Calls Tryz.prog 63 #[.int .i64 size] w fun e w' => e = .returned (.tuple #[.pointer none, .int .i64 2]) ∧ w = w' := by
  by_cases b1 : size < 1
  · clear h
    go_enter Tryz.func63, Tryz.ntmps63
    go_wp2
    go_ret2
    exact ⟨rfl, rfl⟩
  · have b2 : (1000000 : Int) < size := by omega
    clear h
    go_enter Tryz.func63, Tryz.ntmps63
    go_wp2
    go_ret2
    exact ⟨rfl, rfl⟩

set_option maxHeartbeats 1000000 in
theorem none_any {B : Nat} (b : Nat) (v : Value) (d : DD) (w : World) (hd : DiskP B w b v d) :
    Calls Tryz.prog 19 #[.pointer (some ⟨b, 0, none⟩)] w fun e w' => e = .returned (.bool false) ∧ w = w' := by
  obtain ⟨c0, c1, c2, c3, c4⟩ := hd.box.cells
  have hs : (d.size == 0) = false := by have := hd.ok.s1; simp; omega
  clear hd
  go_enter Tryz.func19, Tryz.ntmps19
  go_wp2
  go_ret
  exact ⟨rfl, rfl⟩

/-- Is there room for so many bytes? -/
def roomB (d : DD) (n : Int) : Bool := decide (n ≤ d.size - d.bytes.length)
set_option maxHeartbeats 1000000 in
theorem room_any {B : Nat} (b : Nat) (v : Value) (d : DD) (n : Int) (w : World) (hd : DiskP B w b v d) :
    Calls Tryz.prog 23 #[.pointer (some ⟨b, 0, none⟩), .int .i64 n] w fun e w' => e = .returned (.bool (roomB d n)) ∧ Ext w w' := by
  obtain ⟨c0, c1, c2, c3, c4⟩ := hd.box.cells
  obtain ⟨a, c, rfl, -⟩ := ownB_len hd.own
  have h1 := hd.ok.s1
  have h2 := hd.ok.sm
  have h3 := hd.ok.ls
  have hw1 : IntKind.i64.wrap (d.size - (d.bytes.length : Int)) = d.size - (d.bytes.length : Int) := by rw [IntKind.wrap_i64]; omega
  have HF : Hid (roomB d n = decide (n ≤ d.size - (d.bytes.length : Int))) := rfl
  clear hd
  go_enter Tryz.func23, Tryz.ntmps23
  go_wp2
  go_quiet (fail)
  go_wp2
  go_ret
  exact ⟨ret_bool (by rw [HF.out]), (Ext.refl w).drewN _⟩

/-- A disk whose row stays and one of whose small cells turns. -/
theorem ownB_set {B : Nat} {w : World} {b i : Nat} {u v : Value} {xs : List Int} {t : TypeId} {v0 v1 v2 v3 v4 : Value} (h : OwnB B w v xs) (hb : Box5 w b t v0 v1 v2 v3 v4) (ht : t ≠ 5) : OwnB B (w.setCell ⟨b, i, none⟩ u) v xs := by
  refine ownsRow_setCell_other h (a := ⟨b, i, none⟩) ?_ u
  obtain ⟨-, g | ⟨g, cap, cur, rfl, -, hg, -⟩⟩ := h
  · rw [g.1]; simp [Value.ownBlock]
  · intro e
    simp only [Value.ownBlock, Option.some.injEq] at e
    subst e
    have hb' : w.heap[g]? = some (.cells #[v0, v1, v2, v3, v4] t (0, 0)) := hb
    rw [hb'] at hg
    simp only [Option.some.injEq, Obj.cells.injEq] at hg
    exact ht hg.2.1
theorem DiskP.setLeft {B : Nat} {w : World} {b : Nat} {v : Value} {d d' : DD} {k : Int} (h : DiskP B w b v d) (hb : Box5 (w.setCell ⟨b, 4, none⟩ (.int .i64 k)) b 28 v (.int .i64 d.size) (.int .i64 d.safe) (.bool d.dark) (.int .i64 k)) (hd : d' = { d with left := k }) (ok : DOk d') : DiskP B (w.setCell ⟨b, 4, none⟩ (.int .i64 k)) b v d' := by
  subst hd
  exact ⟨h.lo, hb, ownB_set h.own h.box (by decide), ok⟩
theorem DiskR.setLeft {B : Nat} {w : World} {b : Nat} {v : Value} {d d' : DD} {k : Int} (h : DiskR B w b v d) (hb : Box5 (w.setCell ⟨b, 4, none⟩ (.int .i64 k)) b 165 (.int .i64 d.size) v (.int .i64 d.safe) (.bool d.dark) (.int .i64 k)) (hd : d' = { d with left := k }) (ok : DOk d') : DiskR B (w.setCell ⟨b, 4, none⟩ (.int .i64 k)) b v d' := by
  subst hd
  exact ⟨h.lo, hb, ownB_set h.own h.box (by decide), ok⟩
theorem DiskR.setDark {B : Nat} {w : World} {b : Nat} {v : Value} {d d' : DD} {k : Bool} (h : DiskR B w b v d) (hb : Box5 (w.setCell ⟨b, 3, none⟩ (.bool k)) b 165 (.int .i64 d.size) v (.int .i64 d.safe) (.bool k) (.int .i64 d.left)) (hd : d' = { d with dark := k }) (ok : DOk d') : DiskR B (w.setCell ⟨b, 3, none⟩ (.bool k)) b v d' := by
  subst hd
  exact ⟨h.lo, hb, ownB_set h.own h.box (by decide), ok⟩
set_option maxHeartbeats 1000000 in
theorem Fuse_any {B : Nat} (b : Nat) (v : Value) (d : DD) (k : Int) (w : World) (hd : DiskP B w b v d) (hk : k ≤ 9223372036854775807) :
    Calls Tryz.prog 4 #[.pointer (some ⟨b, 0, none⟩), .int .i64 k] w fun e w' => e = .returned (.tuple #[]) ∧ DiskP B w' b v (d.fuse k) ∧ Moved (fp b v) w w' := by
  obtain ⟨c0, c1, c2, c3, c4⟩ := hd.box.cells
  have f4 := hd.box.free 4
  have HD := hid hd
  cases hdk : d.dark with
  | true =>
    rw [hdk] at c3
    have HF : Hid (d.fuse k = d) := by unfold DD.fuse; show _ = _; rw [if_pos hdk]
    clear hd hdk
    go_enter Tryz.func4, Tryz.ntmps4
    go_wp2_with (fail)
    refine (none_any b v d _ HD.out).mono ?_
    rintro e w' ⟨rfl, rfl⟩
    go_wp2
    go_end0
    exact ⟨rfl, by rw [HF.out]; exact HD.out, Moved.refl _ _⟩
  | false =>
    rw [hdk] at c3
    by_cases hk1 : k < -1
    · have HB := hid (hd.box.set4 (.int .i64 (-1)))
      have HF : Hid (d.fuse k = { d with left := -1 }) := by unfold DD.fuse; show _ = _; rw [if_neg (by rw [hdk]; simp), if_pos hk1]
      have HOK : Hid (DOk (d.fuse k)) := hd.ok.fuse hk
      clear hd hdk
      go_enter Tryz.func4, Tryz.ntmps4
      go_wp2_with (fail)
      refine (none_any b v d _ HD.out).mono ?_
      rintro e w' ⟨rfl, rfl⟩
      go_wp2
      go_end0
      exact ⟨rfl, HD.out.setLeft HB.out HF.out HOK.out, (Moved.refl _ _).set (.inl (.inl rfl)) 4 _⟩
    · have HB := hid (hd.box.set4 (.int .i64 k))
      have HF : Hid (d.fuse k = { d with left := k }) := by unfold DD.fuse; show _ = _; rw [if_neg (by rw [hdk]; simp), if_neg hk1]
      have HOK : Hid (DOk (d.fuse k)) := hd.ok.fuse hk
      clear hd hdk
      go_enter Tryz.func4, Tryz.ntmps4
      go_wp2_with (fail)
      refine (none_any b v d _ HD.out).mono ?_
      rintro e w' ⟨rfl, rfl⟩
      go_wp2
      go_end0
      exact ⟨rfl, HD.out.setLeft HB.out HF.out HOK.out, (Moved.refl _ _).set (.inl (.inl rfl)) 4 _⟩

/-- What the reference's 'done' makes of a disk: one operation less, or the power is off. -/
def DD.did (d : DD) : DD := if d.dim.dark = true then d.dim else d.burn
theorem DOk.did {d : DD} (h : DOk d) : DOk d.did := by unfold DD.did; split; exact h.dim; exact h.burn

end Go.Proofs.YteiamhapplnlaabGreatDoor
