/-
  Texts of this claim, part 1: BsAwake, BkTouch, BkActs.
-/
import Derived.Test.YteiamhapplnlaaaGreatDoorBsOpenW
import Derived.Test.YteiamhapplnlaaaGreatDoorBsChgGive
import Derived.Test.YteiamhapplnlaaaGreatDoorBkSame
/-
  The statements' awake: a new bank takes a lot.
-/
namespace Go.Proofs.YteiamhapplnlaaaGreatDoor
open Go.RowKit

def tGive : Bs := [103, 105, 118, 101, 32, 114, 105, 99, 101, 32, 53, 32, 49, 48]
theorem give_line : lineB tGive = true := by decide +kernel
theorem give_word : (cutC 32 tGive).1 = wGive := by decide +kernel
theorem itoa5 : Lib.itoa 5 = [53] := by rw [show (5 : Int) = ((5 : Nat) : Int) from rfl, Lib.itoa_nonneg, Lib.decDigits_one (by decide)]; rfl
theorem itoa1 : Lib.itoa 1 = [49] := by rw [show (1 : Int) = ((1 : Nat) : Int) from rfl, Lib.itoa_nonneg, Lib.decDigits_one (by decide)]; rfl
theorem itoa10 : Lib.itoa 10 = [49, 48] := by rw [show (10 : Int) = ((10 : Nat) : Int) from rfl, Lib.itoa_nonneg, Lib.decDigits_two (by decide) (by decide)]; rfl
theorem num5 : numB [53] = some 5 := by
  unfold numB
  rw [show Lib.atoiAll [53] = .ok 5 by decide +kernel]
  simp only []
  rw [itoa5]; rfl
theorem num10 : numB [49, 48] = some 10 := by
  unfold numB
  rw [show Lib.atoiAll [49, 48] = .ok 10 by decide +kernel]
  simp only []
  rw [itoa10]; rfl
theorem give_form : formB tGive [110, 100, 100] [] false 0 0 = some ([[114, 105, 99, 101]], [5, 10]) := by
  have hw : (splitSp tGive).drop 1 = [[114, 105, 99, 101], [53], [49, 48]] := by decide +kernel
  unfold formB
  simp only [hw, Bool.false_eq_true, if_false]
  rw [formW_name rfl (by decide +kernel), formW_num (by decide) num5, formW_num (by decide) num10]
  rfl
theorem give_chg : SD.zero.chg tGive = (0, [103, 105, 118, 101, 32, 49], { SD.zero with lots := [⟨[114, 105, 99, 101], [], 5, 10, false⟩] }) := by
  unfold SD.chg
  rw [give_line, give_word, give_form]
  show SD.zero.give [114, 105, 99, 101] 5 10 = _
  unfold SD.give
  rw [if_neg (by decide), if_neg (by decide)]
  show (0, [103, 105, 118, 101, 32] ++ Lib.itoa 1, _) = _
  rw [itoa1]; rfl

/-- The blocks of a disk, of a bank, lie from their base on. -/
theorem DiskP.low {B : Nat} {w : World} {b : Nat} {v : Value} {d : DD} (h : DiskP B w b v d) {k : Nat} (hk : fp b v k) : B ≤ k := by
  rcases hk with rfl | hk
  · exact h.lo
  · exact (h.own.lt k hk).1
theorem BankP.low {B : Nat} {w : World} {bb db : Nat} {n : Int} {vr : Value} {sp : Nat} {vd : Value} {x : BankS} (h : BankP B w bb db n vr sp vd x) {k : Nat} (hk : fpB bb vd k) : B ≤ k := by
  rcases hk with rfl | hk
  · exact h.lo
  · exact (h.done.1.lt k hk).1
theorem BankP.base {B B2 : Nat} {w : World} {bb db : Nat} {n : Int} {vr : Value} {sp : Nat} {vd : Value} {x : BankS} (h : BankP B w bb db n vr sp vd x) (hb : B2 ≤ B) : BankP B2 w bb db n vr sp vd x :=
  ⟨Nat.le_trans hb h.lo, h.box, h.done.base hb, h.st, ownsRow_base h.rd hb, h.le, h.few⟩
theorem DiskP.base {B B2 : Nat} {w : World} {b : Nat} {v : Value} {d : DD} (h : DiskP B w b v d) (hb : B2 ≤ B) : DiskP B2 w b v d := ⟨Nat.le_trans hb h.lo, h.box, ownsRow_base h.own hb, h.ok⟩

set_option maxHeartbeats 4000000 in
set_option maxRecDepth 100000 in
/-- Two new disks. -/
theorem disks_ok (size : Int) (w : World) (h1 : 1 ≤ size) (h2 : size ≤ 1000000) :
    Calls Tryz.prog 6 #[.int .i64 size] w fun e w' => ∃ db rb, e = .returned (.tuple #[.pointer (some ⟨db, 0, none⟩), .pointer (some ⟨rb, 0, none⟩), .bool true]) ∧ DiskP w.heap.size w' db (.slice none 0 0) ⟨[], size, 0, false, -1⟩ ∧ DiskR w.heap.size w' rb (.slice none 0 0) ⟨[], size, 0, false, -1⟩ ∧ db ≠ rb ∧ Ext w w' := by
  go_enter Tryz.func6, Tryz.ntmps6
  go_wp2_with (fail)
  refine (NewDisk_ok size w h1 h2).mono ?_
  rintro e w1 ⟨rfl, hd, he⟩
  have HD := hid hd
  have E1 := hid he
  clear hd he
  go_wp2_with (fail)
  refine (RNewDisk_ok size w1 h1 h2).mono ?_
  rintro e w2 ⟨rfl, hr, he⟩
  have HR := hid hr
  have E2 := hid he
  have hlt : w.heap.size < w1.heap.size := HD.out.box.lt
  clear hr he
  go_wp2
  go_ret3
  refine ⟨_, _, rfl, HD.out.ext E2.out, ⟨Nat.le_trans E1.out.size HR.out.lo, HR.out.box, ownsRow_base HR.out.own E1.out.size, HR.out.ok⟩, by omega, E1.out.trans E2.out⟩
theorem disks_bad (size : Int) (w : World) (h : size < 1 ∨ 1000000 < size) :
    Calls Tryz.prog 6 #[.int .i64 size] w fun e w' => e = .returned (.tuple #[.pointer none, .pointer none, .bool true]) ∧ w = w' := by
  have H := hid h
  clear h
  go_enter Tryz.func6, Tryz.ntmps6
  go_wp2_with (fail)
  refine (NewDisk_bad size w H.out).mono ?_
  rintro e w1 ⟨rfl, rfl⟩
  go_wp2_with (fail)
  refine (RNewDisk_bad size w H.out).mono ?_
  rintro e w2 ⟨rfl, rfl⟩
  go_wp2
  go_ret3
  exact ⟨rfl, rfl⟩

theorem open_zero : openF ⟨[], 100, 0, false, -1⟩ ⟨8, rowRoads 7⟩ = (0, ⟨[], 100, 0, false, -1⟩, some ⟨SD.zero, [], 0, false, rowRoads 7⟩) := by
  unfold openF
  rw [if_neg (by rw [rowRoads_ok]; simp), if_neg (by simp)]
  rfl

set_option maxHeartbeats 4000000 in
set_option maxRecDepth 100000 in
theorem awake_any (w : World) (hE : Env w) : Calls Tryz.prog 7 #[] w fun e w' => e = .returned (.bool true) ∧ Ext w w' := by
  have HE := hid hE
  clear hE
  go_enter Tryz.func7, Tryz.ntmps7
  go_wp2_with (fail)
  refine (disks_ok 100 w (by decide) (by decide)).mono ?_
  rintro e w1 ⟨db, rb, rfl, hd, -, -, he⟩
  have HD := hid hd
  have E1 := hid he
  clear hd he
  go_wp2_with (fail)
  refine (row_any w1).mono ?_
  rintro e w2 ⟨u, rfl, hu, he⟩
  have HU := hid hu
  have E2 := hid he
  clear hu he
  go_wp2_with (fail)
  refine (Plan9_any u ⟨8, rowRoads 7⟩ w2 HU.out).mono ?_
  rintro e w3 ⟨u3, rfl, hu, he⟩
  have HU3 := hid hu
  have E3 := hid ((E1.out.trans E2.out).trans he)
  have HD3 := hid (HD.out.ext (E2.out.trans he))
  clear hu he
  go_wp2_with (fail)
  refine (Open_any (B := w.heap.size) db _ u3 ⟨[], 100, 0, false, -1⟩ ⟨8, rowRoads 7⟩ w3 HD3.out HU3.out (by decide) (fun _ w4 he => read_nil w4 (HE.out.ext (E3.out.trans he)))).mono ?_
  rw [open_zero]
  rintro e w4 ⟨v4, hd4, hn4, hm4, bb, vr, sp, vd, rfl, hb4⟩
  have HD4 := hid hd4
  have HB4 := hid (hb4.base E3.out.size)
  have E4 : Hid (Ext w w4) := ext_moved E3.out hm4 (fun k hk => HD3.out.low hk)
  clear hd4 hn4 hm4 hb4
  go_wp2_with (fail)
  refine (Do_any (B := w.heap.size) (strB tGive) w4 HB4.out HD4.out E4.out.size (by decide) (by decide) (change_give sp SD.zero (strB tGive) w4 HB4.out.st (HE.out.ext E4.out) give_line give_word)).mono ?_
  have HDO : Hid (doF ⟨[], 100, 0, false, -1⟩ ⟨SD.zero, [], 0, false, rowRoads 7⟩ tGive = (([103, 105, 118, 101, 32, 49], 0), ⟨byts (tGive ++ [10]), 100, 0, false, -1⟩, ⟨{ SD.zero with lots := [⟨[114, 105, 99, 101], [], 5, 10, false⟩] }, [tGive], 0, false, rowRoads 7⟩)) := by
    show _ = _
    unfold doF
    rw [if_neg (by simp)]
    simp only [give_chg]
    rfl
  rintro e w5 ⟨rfl, v5, vd5, sp5, -, -, -, -, hm5⟩
  have E5 : Hid (Ext w w5) := ext_moved E4.out hm5 (fun k hk => hk.elim (fun h => HB4.out.low h) (fun h => HD4.out.low h))
  rw [show (strB tGive).data.toList = tGive from rfl, HDO.out]
  clear hm5
  go_wp2
  go_ret
  refine ⟨ret_bool ?_, E5.out⟩
  rw [ByteArray.toList_eq]; rfl

end Go.Proofs.YteiamhapplnlaaaGreatDoor

/-
  Contract of 'touched': an act on both disks.
-/
namespace Go.Proofs.YteiamhapplnlaaaGreatDoor
open Go.RowKit

theorem DiskR.low {B : Nat} {w : World} {b : Nat} {v : Value} {d : DD} (h : DiskR B w b v d) {k : Nat} (hk : fp b v k) : B ≤ k := by
  rcases hk with rfl | hk
  · exact h.lo
  · exact (h.own.lt k hk).1
theorem Two.ltP {B : Nat} {w : World} {pb rb : Nat} {pv rv : Value} {dp dr : DD} (h : Two B w pb rb pv rv dp dr) {k : Nat} (hk : fp pb pv k) : k < w.heap.size := by
  rcases hk with rfl | hk
  · exact h.p.box.lt
  · exact (ownB_block h.p.own hk).1
theorem Two.ltR {B : Nat} {w : World} {pb rb : Nat} {pv rv : Value} {dp dr : DD} (h : Two B w pb rb pv rv dp dr) {k : Nat} (hk : fp rb rv k) : k < w.heap.size := by
  rcases hk with rfl | hk
  · exact h.r.box.lt
  · exact (ownB_block h.r.own hk).1
theorem Two.base {B B2 : Nat} {w : World} {pb rb : Nat} {pv rv : Value} {dp dr : DD} (h : Two B w pb rb pv rv dp dr) (hb : B2 ≤ B) : Two B2 w pb rb pv rv dp dr :=
  ⟨h.p.base hb, ⟨Nat.le_trans hb h.r.lo, h.r.box, ownsRow_base h.r.own hb, h.r.ok⟩, h.ap⟩
/-- An act in a box of its own. -/
def ActB (w : World) (g : Nat) (kd n : Int) (s : ByteArray) : Prop := w.heap[g]? = some (.cells #[.int .i64 kd, .int .i64 n, .string s] 29 (0, 0))
theorem ActB.cells {w : World} {g : Nat} {kd n : Int} {s : ByteArray} (h : ActB w g kd n s) : w.cell? ⟨g, 0, none⟩ = some (.int .i64 kd) ∧ w.cell? ⟨g, 1, none⟩ = some (.int .i64 n) ∧ w.cell? ⟨g, 2, none⟩ = some (.string s) :=
  ⟨cell_of_row w g 0 _ _ _ h, cell_of_row w g 1 _ _ _ h, cell_of_row w g 2 _ _ _ h⟩
theorem ActB.moved {F : Nat → Prop} {w w' : World} {g : Nat} {kd n : Int} {s : ByteArray} (h : ActB w g kd n s) (m : Moved F w w') (hf : ¬ F g) : ActB w' g kd n s := m.heap hf h
theorem ActB.ext {w w' : World} {g : Nat} {kd n : Int} {s : ByteArray} (h : ActB w g kd n s) (e : Ext w w') : ActB w' g kd n s := h.moved (e.moved (fun _ => False)) (fun h => h)
theorem ActB.alloc (w : World) (kd n : Int) (s : ByteArray) : ActB (w.alloc (.cells #[.int .i64 kd, .int .i64 n, .string s] 29)) w.heap.size kd n s := heap_alloc_new w _
/-- Bytes that may be written. -/
def MyB (w : World) (g L : Nat) : Prop := g < w.heap.size ∧ (∀ i, i < L → ∃ x, w.cell? ⟨g, i, none⟩ = some (.int .u8 x)) ∧ ∀ i, i < L → w.frozen? ⟨g, i, none⟩ = false
theorem MyB.of_world (w : World) (s : ByteArray) : MyB (Lib.bytesWorld w 5 s) w.heap.size s.size := by
  refine ⟨by rw [Lib.bytesWorld_size]; omega, fun i hi => ⟨_, Lib.bytesWorld_cell w _ s i hi⟩, fun i hi => ?_⟩
  have h := Lib.bytesWorld_at_new w 5 s
  have hs : s.size ≤ (Lib.bytesCells w 5 s).size := by
    unfold Lib.bytesCells
    rw [Array.size_append, Array.size_map]
    exact Nat.le_add_right _ _
  simp only [World.frozen?, h]
  simp
  omega
theorem MyB.moved {F : Nat → Prop} {w w' : World} {g L : Nat} (h : MyB w g L) (m : Moved F w w') (hf : ¬ F g) : MyB w' g L := by
  have e := m.block g h.1 hf
  refine ⟨Nat.lt_of_lt_of_le h.1 m.size, fun i hi => ?_, fun i hi => ?_⟩
  · obtain ⟨x, hx⟩ := h.2.1 i hi
    exact ⟨x, m.cell hf hx⟩
  · have := h.2.2 i hi
    unfold World.frozen? at *
    rw [e]; exact this
theorem MyB.set {w : World} {g L : Nat} (h : MyB w g L) (k : Nat) (y : Int) : MyB (w.setCell ⟨g, k, none⟩ (.int .u8 y)) g L := by
  refine ⟨by simpa using h.1, fun i hi => ?_, fun i hi => (World.frozen?_setCell _ _ _ _).trans (h.2.2 i hi)⟩
  obtain ⟨x, hx⟩ := h.2.1 i hi
  by_cases hk : k = i
  · subst hk
    exact ⟨y, World.cell?_setCell_same _ _ _ hx⟩
  · refine ⟨x, (World.cell?_setCell_other _ _ _ _ (fun e => hk ?_)).trans hx⟩
    cases e
    rfl
def TouchAns (B : Nat) (w : World) (pb rb : Nat) (e : Ending) (w' : World) : Prop := e = .returned (.bool true) ∧ ∃ pv' rv' d', Two B w' pb rb pv' rv' d' d' ∧ Moved (fun k => B ≤ k) w w'
theorem TouchAns.mk {B : Nat} {w w' : World} {pb rb : Nat} {pv rv : Value} {d : DD} (h : Two B w' pb rb pv rv d d) (m : Moved (fun k => B ≤ k) w w') : TouchAns B w pb rb (.returned (.bool true)) w' := ⟨rfl, _, _, _, h, m⟩

set_option maxHeartbeats 4000000 in
set_option maxRecDepth 100000 in
theorem touched3_any {B : Nat} {pb rb : Nat} {pv rv : Value} {d : DD} (n : Int) (s : ByteArray) (w : World) (h : Two B w pb rb pv rv d d) (hB : B ≤ w.heap.size) (hn0 : -9223372036854775808 ≤ n) (hn1 : n ≤ 9223372036854775807) :
    Calls Tryz.prog 8 #[.pointer (some ⟨pb, 0, none⟩), .pointer (some ⟨rb, 0, none⟩), .agg #[.int .i64 3, .int .i64 n, .string s]] w (TouchAns B w pb rb) := by
  have H1 := hid (h.ext (Ext.ofAlloc w (.cells #[.int .i64 3, .int .i64 n, .string s] 29)))
  have X1 := hid (ActB.alloc w 3 n s)
  have E1 := hid (Ext.ofAlloc w (.cells #[.int .i64 3, .int .i64 n, .string s] 29))
  have HZ : Hid (∀ k, fp pb pv k ∨ fp rb rv k → k ≠ w.heap.size) := fun k hk => by
    rcases hk with hk | hk
    · exact Nat.ne_of_lt (h.ltP hk)
    · exact Nat.ne_of_lt (h.ltR hk)
  have HB := hid hB
  clear h hB
  have HN0 := hid hn0
  have HN1 := hid hn1
  clear hn0 hn1
  obtain ⟨c0, c1, c2⟩ := X1.out.cells
  go_enter Tryz.func8, Tryz.ntmps8
  go_wp2_with (fail)
  generalize w.alloc (.cells #[.int .i64 3, .int .i64 n, .string s] 29) = W at *
  refine (Fuse_any pb pv d n _ H1.out.p HN1.out).mono ?_
  rintro e w2 ⟨rfl, hd, hm⟩
  have H2 := hid (H1.out.stepP hd (Near.refl _ _) hm)
  have X2 := hid (X1.out.moved hm (fun e => HZ.out _ (.inl e) rfl))
  have M2 : Hid (Moved (fun k => B ≤ k) w w2) := E1.out.thenMoved (hm.weaken (fun k hk => H1.out.p.low hk))
  clear hd hm c0 c1 c2
  obtain ⟨c0, c1, c2⟩ := X2.out.cells
  go_wp2_with (fail)
  refine (RFuse_any rb rv d n _ H2.out.r HN1.out).mono ?_
  rintro e w3 ⟨rfl, hd, hm⟩
  have H3 := hid (H2.out.stepR hd (Near.refl _ _) hm)
  have M3 : Hid (Moved (fun k => B ≤ k) w w3) := M2.out.trans (hm.weaken (fun k hk => H2.out.r.low hk)) (fun _ _ h => h)
  clear hd hm c0 c1 c2
  go_wp2
  go_ret
  exact TouchAns.mk H3.out M3.out

set_option maxHeartbeats 4000000 in
set_option maxRecDepth 100000 in
theorem touched4_any {B : Nat} {pb rb : Nat} {pv rv : Value} {d : DD} (n : Int) (s : ByteArray) (w : World) (h : Two B w pb rb pv rv d d) (hB : B ≤ w.heap.size) (hn0 : -9223372036854775808 ≤ n) (hn1 : n ≤ 9223372036854775807) :
    Calls Tryz.prog 8 #[.pointer (some ⟨pb, 0, none⟩), .pointer (some ⟨rb, 0, none⟩), .agg #[.int .i64 4, .int .i64 n, .string s]] w (TouchAns B w pb rb) := by
  have H1 := hid (h.ext (Ext.ofAlloc w (.cells #[.int .i64 4, .int .i64 n, .string s] 29)))
  have X1 := hid (ActB.alloc w 4 n s)
  have E1 := hid (Ext.ofAlloc w (.cells #[.int .i64 4, .int .i64 n, .string s] 29))
  have HZ : Hid (∀ k, fp pb pv k ∨ fp rb rv k → k ≠ w.heap.size) := fun k hk => by
    rcases hk with hk | hk
    · exact Nat.ne_of_lt (h.ltP hk)
    · exact Nat.ne_of_lt (h.ltR hk)
  have HB := hid hB
  clear h hB
  have HN0 := hid hn0
  have HN1 := hid hn1
  clear hn0 hn1
  obtain ⟨c0, c1, c2⟩ := X1.out.cells
  go_enter Tryz.func8, Tryz.ntmps8
  go_wp2_with (fail)
  generalize w.alloc (.cells #[.int .i64 4, .int .i64 n, .string s] 29) = W at *
  refine (Crash_any pb pv n d _ H1.out.p HN0.out HN1.out).mono ?_
  rintro e w2 ⟨rfl, v2, hd, hn, hm⟩
  have H2 := hid (H1.out.stepP hd (hn) hm)
  have X2 := hid (X1.out.moved hm (fun e => HZ.out _ (.inl e) rfl))
  have M2 : Hid (Moved (fun k => B ≤ k) w w2) := E1.out.thenMoved (hm.weaken (fun k hk => H1.out.p.low hk))
  clear hd hm c0 c1 c2 hn
  obtain ⟨c0, c1, c2⟩ := X2.out.cells
  go_wp2_with (fail)
  refine (RCrash_any rb rv n d _ H2.out.r HN0.out HN1.out).mono ?_
  rintro e w3 ⟨rfl, v2, hd, hn, hm⟩
  have H3 := hid (H2.out.stepR hd (hn) hm)
  have M3 : Hid (Moved (fun k => B ≤ k) w w3) := M2.out.trans (hm.weaken (fun k hk => H2.out.r.low hk)) (fun _ _ h => h)
  clear hd hm c0 c1 c2 hn
  go_wp2
  go_ret
  exact TouchAns.mk H3.out M3.out

set_option maxHeartbeats 4000000 in
set_option maxRecDepth 100000 in
theorem touched6_any {B : Nat} {pb rb : Nat} {pv rv : Value} {d : DD} (n : Int) (s : ByteArray) (w : World) (h : Two B w pb rb pv rv d d) (hB : B ≤ w.heap.size) (hs : s.size ≤ 140737488355328) :
    Calls Tryz.prog 8 #[.pointer (some ⟨pb, 0, none⟩), .pointer (some ⟨rb, 0, none⟩), .agg #[.int .i64 6, .int .i64 n, .string s]] w (TouchAns B w pb rb) := by
  have H1 := hid (h.ext (Ext.ofAlloc w (.cells #[.int .i64 6, .int .i64 n, .string s] 29)))
  have X1 := hid (ActB.alloc w 6 n s)
  have E1 := hid (Ext.ofAlloc w (.cells #[.int .i64 6, .int .i64 n, .string s] 29))
  have HZ : Hid (∀ k, fp pb pv k ∨ fp rb rv k → k ≠ w.heap.size) := fun k hk => by
    rcases hk with hk | hk
    · exact Nat.ne_of_lt (h.ltP hk)
    · exact Nat.ne_of_lt (h.ltR hk)
  have HB := hid hB
  clear h hB
  have HS := hid hs
  have hsz : s.data.toList.length = s.size := Array.length_toList
  have HSZ := hid hsz
  have hs2 : s.size ≤ 140737488355328 := hs
  clear hs hsz
  obtain ⟨c0, c1, c2⟩ := X1.out.cells
  have HWS : Hid ((w.alloc (.cells #[.int .i64 6, .int .i64 n, .string s] 29)).heap.size = w.heap.size + 1) := World.size_alloc ..
  have hcv := fun w => Lib.run_convert_string_bytes (P := Tryz.prog) w 9 59 5 s Tryz.underlying9 Tryz.underlying59 Tryz.underlying5
  go_enter Tryz.func8, Tryz.ntmps8
  go_wp2_with (fail)
  generalize w.alloc (.cells #[.int .i64 6, .int .i64 n, .string s] 29) = W at *
  rw [← HWS.out]
  have EB : Hid (Ext W (Lib.bytesWorld W 5 s)) := bytesWorld_ext W _ s
  have HBY : Hid (BytesI (Lib.bytesWorld W 5 s) (.slice (some ⟨W.heap.size, 0, none⟩) s.size (grownCap W s.size 0 5)) (byts s.data.toList)) := bytes_of_world W s
  have HMY : Hid (MyB (Lib.bytesWorld W 5 s) W.heap.size s.size) := MyB.of_world W s
  have hcg := grownCap_ge W s.size 0 5
  generalize Lib.bytesWorld W 5 s = w1 at *
  have H1' := hid (H1.out.ext EB.out)
  have hg1 : W.heap.size < w1.heap.size := HMY.out.1
  have HG1 := hid hg1
  have E1' := hid (E1.out.trans EB.out)
  have X1' := hid (X1.out.ext EB.out)
  have HW := hid E1.out.size
  have HGN : Hid (∀ k, fp pb pv k ∨ fp rb rv k → k ≠ W.heap.size) := fun k hk => by
    rcases hk with hk | hk
    · exact Nat.ne_of_lt (H1.out.ltP hk)
    · exact Nat.ne_of_lt (H1.out.ltR hk)
  generalize grownCap W s.size 0 5 = cap at *
  refine (Append_any pb pv _ (byts s.data.toList) d w1 H1'.out.p HBY.out (fun k hk e => by simp [Value.ownBlock] at hk; exact HGN.out k (.inl (.inl e)) hk.symm) (byts_range _) (Nat.le_trans HB.out E1'.out.size)).mono ?_
  obtain ⟨ap, hap⟩ : ∃ ap, ap = d.app (byts s.data.toList) := ⟨_, rfl⟩
  rw [← hap]
  have HAP := hid hap
  clear hap
  rintro e w2 ⟨rfl, v2, hd, hn, hm⟩
  have H2 := hid (H1'.out.stepP hd hn hm)
  have X2 := hid (X1'.out.moved hm (fun e => HZ.out _ (.inl e) rfl))
  have HMY2 := hid (HMY.out.moved hm (fun e => HGN.out _ (.inl e) rfl))
  have M2 : Hid (Moved (fun k => B ≤ k) w w2) := E1'.out.thenMoved (hm.weaken (fun k hk => H1'.out.p.low hk))
  have HG2 := hid (Nat.lt_of_lt_of_le HG1.out hm.size)
  have HV2 : Hid (∀ k, fp pb v2 k → k ≠ W.heap.size) := fun k hk => by
    rcases hk with rfl | hk
    · exact HGN.out _ (.inl (.inl rfl))
    · rcases hn k hk with e | e
      · exact HGN.out _ (.inl (.inr e))
      · have := HG1.out; omega
  clear hd hn hm c0 c1 c2 hcg hg1
  go_wp2
  go_loopg [42] s.size (fun g i wr => ∃ k : Nat, k + g = s.size ∧ i = .int .i64 k ∧ Hid (Moved (fun j => j = W.heap.size) w2 wr) ∧ Hid (MyB wr W.heap.size s.size))
  case atStart => exact ⟨0, by omega, rfl, Moved.refl _ _, HMY2⟩
  case round =>
    obtain ⟨k, hk, rfl, MV, MY⟩ := hrel
    have Hk := hid hk
    clear hk
    by_cases hlt : k < s.size
    · obtain ⟨x, hx⟩ := MY.out.2.1 k hlt
      have hfz := MY.out.2.2 k hlt
      have hkn : (k : Int) < s.size := by omega
      have hkb : k ≤ 140737488355328 := by omega
      go_wp2
      go_roundg (gk - 1)
      case rel => exact ⟨k + 1, by have := Hk.out; omega, by go_num, MV.out.set (.inl rfl) _ _, MY.out.set _ _⟩
      case measure => have := Hk.out; omega
    · have hks : ¬ (k : Int) < s.size := by omega
      have H3 := hid (H2.out.moved MV.out (fun k hk e => HV2.out k hk e) (fun k hk e => HGN.out k (.inr hk) e))
      have X3 : Hid (ActB wr w.heap.size 6 n s) := X2.out.moved MV.out (fun (e : w.heap.size = W.heap.size) => by have := HWS.out; omega)
      have M3 : Hid (Moved (fun k => B ≤ k) w wr) := M2.out.trans (MV.out.weaken (fun j (e : j = W.heap.size) => e ▸ Nat.le_trans HB.out HW.out)) (fun _ _ h => h)
      have HGR := hid MV.out.size
      obtain ⟨c0, c1, c2⟩ := X3.out.cells
      go_wp2_with (fail)
      have EC : Hid (Ext wr (Lib.bytesWorld wr 5 s)) := bytesWorld_ext wr _ s
      have HBZ : Hid (BytesI (Lib.bytesWorld wr 5 s) (.slice (some ⟨wr.heap.size, 0, none⟩) s.size (grownCap wr s.size 0 5)) (byts s.data.toList)) := bytes_of_world wr s
      generalize Lib.bytesWorld wr 5 s = w4 at *
      generalize grownCap wr s.size 0 5 = cap2 at *
      refine (RAppend_any rb rv _ (byts s.data.toList) d w4 (H3.out.ext EC.out).r HBZ.out (fun k hk e => by simp [Value.ownBlock] at hk; have := H3.out.ltR e; omega) (byts_range _) (by have := HB.out; have := HW.out; have := HG2.out; have := HGR.out; have := EC.out.size; omega) (by rw [byts_len, HSZ.out]; exact HS.out)).mono ?_
      rw [← HAP.out]
      rintro e w5 ⟨rfl, v5, hd, hn, hm⟩
      have H5 := hid ((H3.out.ext EC.out).stepR hd hn hm)
      have M5 : Hid (Moved (fun k => B ≤ k) w w5) := (M3.out.thenExt EC.out).trans (hm.weaken (fun k hk => (H3.out.ext EC.out).r.low hk)) (fun _ _ h => h)
      clear hd hn hm c0 c1 c2
      have hbb : (ap.2 == ap.2) = true := beq_self_eq_true _
      go_wp2
      go_ret
      exact TouchAns.mk H5.out M5.out

set_option maxHeartbeats 4000000 in
set_option maxRecDepth 100000 in
theorem touched7_any {B : Nat} {pb rb : Nat} {pv rv : Value} {d : DD} (n : Int) (s : ByteArray) (w : World) (h : Two B w pb rb pv rv d d) (hB : B ≤ w.heap.size) :
    Calls Tryz.prog 8 #[.pointer (some ⟨pb, 0, none⟩), .pointer (some ⟨rb, 0, none⟩), .agg #[.int .i64 7, .int .i64 n, .string s]] w (TouchAns B w pb rb) := by
  have H1 := hid (h.ext (Ext.ofAlloc w (.cells #[.int .i64 7, .int .i64 n, .string s] 29)))
  have X1 := hid (ActB.alloc w 7 n s)
  have E1 := hid (Ext.ofAlloc w (.cells #[.int .i64 7, .int .i64 n, .string s] 29))
  have HZ : Hid (∀ k, fp pb pv k ∨ fp rb rv k → k ≠ w.heap.size) := fun k hk => by
    rcases hk with hk | hk
    · exact Nat.ne_of_lt (h.ltP hk)
    · exact Nat.ne_of_lt (h.ltR hk)
  have HB := hid hB
  clear h hB
  have HSOK := hid (show True from trivial)
  obtain ⟨c0, c1, c2⟩ := X1.out.cells
  go_enter Tryz.func8, Tryz.ntmps8
  go_wp2_with (fail)
  generalize w.alloc (.cells #[.int .i64 7, .int .i64 n, .string s] 29) = W at *
  have E2 : Hid (Ext W W.drew) := (Ext.refl W).drew
  obtain ⟨ap, hap⟩ : ∃ ap, ap = d.cut n := ⟨_, rfl⟩
  refine wp_region_held_drew (S := (fun w' => w'.cell? ⟨w.heap.size, 1, none⟩ = some (.int .i64 n))) (by kernel_rfl) ?hSa0 (fun hHeld => ?_)
  case hSa0 => (first | (exact c1) | ((try dsimp only); exact c1))
  refine wpAnyH_tk 0 (v := ?va0) rfl (by kernel_rfl) (by kernel_rfl) (by kernel_rfl) (fun _ _ _ h => h) (by rfl) ?hya0 (by assumption) ?_
  case hya0 => (intro w hSw; (try dsimp only at hSw); go_simp <;> with_reducible rfl)
  (try simp only [Act.put, List.setIfInBounds_toArray, List.set_cons_zero, List.set_cons_succ])
  refine wpAnyH_tk 1 (v := ?va1) rfl (by kernel_rfl) (by kernel_rfl) (by kernel_rfl) (fun _ _ _ h => h) (by rfl) ?hya1 (by assumption) ?_
  case hya1 => (intro w hSw; (try dsimp only at hSw); go_simp <;> with_reducible rfl)
  (try simp only [Act.put, List.setIfInBounds_toArray, List.set_cons_zero, List.set_cons_succ])
  refine wpAnyH_tk 2 (v := ?va2) rfl (by kernel_rfl) (by kernel_rfl) (by kernel_rfl) (fun _ _ _ h => h) (by rfl) ?hya2 (by assumption) ?_
  case hya2 => (intro w hSw; (try dsimp only at hSw); go_simp <;> with_reducible rfl)
  (try simp only [Act.put, List.setIfInBounds_toArray, List.set_cons_zero, List.set_cons_succ])
  refine wpAnyH_tk 4 (v := ?va4) rfl (by kernel_rfl) (by kernel_rfl) (by kernel_rfl) (fun _ _ _ h => h) (by rfl) ?hya4 (by assumption) ?_
  case hya4 => (intro w hSw; (try dsimp only at hSw); go_simp <;> with_reducible rfl)
  (try simp only [Act.put, List.setIfInBounds_toArray, List.set_cons_zero, List.set_cons_succ])
  refine wpAnyH_tk 5 (v := ?va5) rfl (by kernel_rfl) (by kernel_rfl) (by kernel_rfl) (fun _ _ _ h => h) (by rfl) ?hya5 (by assumption) ?_
  case hya5 => (intro w hSw; (try dsimp only at hSw); go_simp <;> with_reducible rfl)
  (try simp only [Act.put, List.setIfInBounds_toArray, List.set_cons_zero, List.set_cons_succ])
  refine wpAnyH_tk 6 (v := ?va6) rfl (by kernel_rfl) (by kernel_rfl) (by kernel_rfl) (fun _ _ _ h => h) (by rfl) ?hya6 (by assumption) ?_
  case hya6 => (intro w hSw; (try dsimp only at hSw); go_simp <;> with_reducible rfl)
  (try simp only [Act.put, List.setIfInBounds_toArray, List.set_cons_zero, List.set_cons_succ])
  refine wpAnyH_one 3 rfl (by kernel_rfl) (by rfl) (fun K hK => ?_)
  go_simp
  (refine (Cut_any pb pv n d _ (H1.out.ext E2.out).p).mono ?_; rw [← hap]; rintro e w2 ⟨rfl, v2, hd, hn, hm⟩; have H2 := hid ((H1.out.ext E2.out).stepP hd hn hm); have X2 := hid ((X1.out.ext E2.out).moved hm (fun e => HZ.out _ (.inl e) rfl)); have M2 : Hid (Moved (fun k => B ≤ k) w w2) := (E1.out.trans E2.out).thenMoved (hm.weaken (fun k hk => (H1.out.ext E2.out).p.low hk)); clear hd hn hm)
  refine hK.out _ _ ?hSa4 (fun hHeld => ?_)
  case hSa4 => (first | (exact X2.out.cells.2.1) | ((try dsimp only); exact X2.out.cells.2.1))
  clear hK K
  (try simp only [Act.put, List.setIfInBounds_toArray, List.set_cons_zero, List.set_cons_succ])
  refine wpAnyH_one 7 rfl (by kernel_rfl) (by rfl) (fun K hK => ?_)
  go_simp
  (refine (RCut_any rb rv n d _ H2.out.r).mono ?_; rw [← hap]; rintro e w3 ⟨rfl, v3, hd, hn, hm⟩; have H3 := hid (H2.out.stepR hd hn hm); have X3 := hid (X2.out.moved hm (fun e => HZ.out _ (.inr e) rfl)); have M3 : Hid (Moved (fun k => B ≤ k) w w3) := M2.out.trans (hm.weaken (fun k hk => H2.out.r.low hk)) (fun _ _ h => h); clear hd hn hm)
  refine hK.out _ _ ?hSa8 (fun hHeld => ?_)
  case hSa8 => (first | (exact X3.out.cells.2.1) | ((try dsimp only); exact X3.out.cells.2.1))
  clear hK K
  (try simp only [Act.put, List.setIfInBounds_toArray, List.set_cons_zero, List.set_cons_succ])
  refine wpAnyH_tk 8 (v := ?va8) rfl (by kernel_rfl) (by kernel_rfl) (by kernel_rfl) (fun _ _ _ h => h) (by rfl) ?hya8 (by assumption) ?_
  case hya8 => (intro w hSw; (try dsimp only at hSw); go_simp <;> with_reducible rfl)
  (try simp only [Act.put, List.setIfInBounds_toArray, List.set_cons_zero, List.set_cons_succ])
  refine wpAnyH_tk 9 (v := ?va9) rfl (by kernel_rfl) (by kernel_rfl) (by kernel_rfl) (fun _ _ _ h => h) (by rfl) ?hya9 (by assumption) ?_
  case hya9 => (intro w hSw; (try dsimp only at hSw); go_simp <;> with_reducible rfl)
  (try simp only [Act.put, List.setIfInBounds_toArray, List.set_cons_zero, List.set_cons_succ])
  refine wpAnyH_done (by kernel_rfl) ?_ _
  have hbb : (ap.2 == ap.2) = true := beq_self_eq_true _
  clear hHeld
  go_wp2
  go_ret
  exact TouchAns.mk H3.out M3.out

set_option maxHeartbeats 4000000 in
set_option maxRecDepth 100000 in
theorem touched8_any {B : Nat} {pb rb : Nat} {pv rv : Value} {d : DD} (n : Int) (s : ByteArray) (w : World) (h : Two B w pb rb pv rv d d) (hB : B ≤ w.heap.size) :
    Calls Tryz.prog 8 #[.pointer (some ⟨pb, 0, none⟩), .pointer (some ⟨rb, 0, none⟩), .agg #[.int .i64 8, .int .i64 n, .string s]] w (TouchAns B w pb rb) := by
  have H1 := hid (h.ext (Ext.ofAlloc w (.cells #[.int .i64 8, .int .i64 n, .string s] 29)))
  have X1 := hid (ActB.alloc w 8 n s)
  have E1 := hid (Ext.ofAlloc w (.cells #[.int .i64 8, .int .i64 n, .string s] 29))
  have HZ : Hid (∀ k, fp pb pv k ∨ fp rb rv k → k ≠ w.heap.size) := fun k hk => by
    rcases hk with hk | hk
    · exact Nat.ne_of_lt (h.ltP hk)
    · exact Nat.ne_of_lt (h.ltR hk)
  have HB := hid hB
  clear h hB
  obtain ⟨c0, c1, c2⟩ := X1.out.cells
  go_enter Tryz.func8, Tryz.ntmps8
  go_wp2_with (fail)
  generalize w.alloc (.cells #[.int .i64 8, .int .i64 n, .string s] 29) = W at *
  refine (Sync_any pb pv d _ H1.out.p).mono ?_
  obtain ⟨ap, hap⟩ : ∃ ap, ap = d.sync := ⟨_, rfl⟩
  rw [← hap]
  rintro e w2 ⟨rfl, v2, hd, hn, hm⟩
  have H2 := hid (H1.out.stepP hd hn hm)
  have X2 := hid (X1.out.moved hm (fun e => HZ.out _ (.inl e) rfl))
  have M2 : Hid (Moved (fun k => B ≤ k) w w2) := E1.out.thenMoved (hm.weaken (fun k hk => H1.out.p.low hk))
  clear hd hn hm c0 c1 c2
  go_wp2_with (fail)
  refine (RSync_any rb rv d _ H2.out.r).mono ?_
  rw [← hap]
  rintro e w3 ⟨rfl, v3, hd, hn, hm⟩
  have H3 := hid (H2.out.stepR hd hn hm)
  have M3 : Hid (Moved (fun k => B ≤ k) w w3) := M2.out.trans (hm.weaken (fun k hk => H2.out.r.low hk)) (fun _ _ h => h)
  clear hd hn hm
  have hbb : (ap.2 == ap.2) = true := beq_self_eq_true _
  go_wp2
  go_ret
  exact TouchAns.mk H3.out M3.out

set_option maxHeartbeats 4000000 in
set_option maxRecDepth 100000 in
theorem touchedN_any {B : Nat} {pb rb : Nat} {pv rv : Value} {d : DD} (kd n : Int) (s : ByteArray) (w : World) (h : Two B w pb rb pv rv d d) (hB : B ≤ w.heap.size) (e3 : (kd == 3) = false) (e4 : (kd == 4) = false) (e6 : (kd == 6) = false) (e7 : (kd == 7) = false) (e8 : (kd == 8) = false) :
    Calls Tryz.prog 8 #[.pointer (some ⟨pb, 0, none⟩), .pointer (some ⟨rb, 0, none⟩), .agg #[.int .i64 kd, .int .i64 n, .string s]] w (TouchAns B w pb rb) := by
  have H1 := hid (h.ext (Ext.ofAlloc w (.cells #[.int .i64 kd, .int .i64 n, .string s] 29)))
  have X1 := hid (ActB.alloc w kd n s)
  have E1 := hid (Ext.ofAlloc w (.cells #[.int .i64 kd, .int .i64 n, .string s] 29))
  have HZ : Hid (∀ k, fp pb pv k ∨ fp rb rv k → k ≠ w.heap.size) := fun k hk => by
    rcases hk with hk | hk
    · exact Nat.ne_of_lt (h.ltP hk)
    · exact Nat.ne_of_lt (h.ltR hk)
  have HB := hid hB
  clear h hB
  obtain ⟨c0, c1, c2⟩ := X1.out.cells
  go_enter Tryz.func8, Tryz.ntmps8
  go_wp2
  go_ret
  exact TouchAns.mk H1.out (E1.out.moved _)

theorem touched_any {B : Nat} {pb rb : Nat} {pv rv : Value} {d : DD} (kd n : Int) (s : ByteArray) (w : World) (h : Two B w pb rb pv rv d d) (hB : B ≤ w.heap.size) (hn0 : -9223372036854775808 ≤ n) (hn1 : n ≤ 9223372036854775807) (hs : s.size ≤ 140737488355328) :
    Calls Tryz.prog 8 #[.pointer (some ⟨pb, 0, none⟩), .pointer (some ⟨rb, 0, none⟩), .agg #[.int .i64 kd, .int .i64 n, .string s]] w (TouchAns B w pb rb) := by
  by_cases h3 : kd = 3
  · subst h3; exact touched3_any n s w h hB hn0 hn1
  by_cases h4 : kd = 4
  · subst h4; exact touched4_any n s w h hB hn0 hn1
  by_cases h6 : kd = 6
  · subst h6; exact touched6_any n s w h hB hs
  by_cases h7 : kd = 7
  · subst h7; exact touched7_any n s w h hB
  by_cases h8 : kd = 8
  · subst h8; exact touched8_any n s w h hB
  exact touchedN_any kd n s w h hB (beq_eq_false_iff_ne.2 h3) (beq_eq_false_iff_ne.2 h4) (beq_eq_false_iff_ne.2 h6) (beq_eq_false_iff_ne.2 h7) (beq_eq_false_iff_ne.2 h8)

end Go.Proofs.YteiamhapplnlaaaGreatDoor

/-
  BankDisks: its walk.
-/
namespace Go.Proofs.YteiamhapplnlaaaGreatDoor
open Go.RowKit

structure ActD where
  kd : Int
  n : Int
  line : ByteArray
def ActD.cells (a : ActD) : List Value := [.int .i64 a.kd, .int .i64 a.n, .string a.line]
structure ActD.Ok (a : ActD) : Prop where
  k0 : -9223372036854775808 ≤ a.kd
  k1 : a.kd ≤ 9223372036854775807
  n0 : -9223372036854775808 ≤ a.n
  n1 : a.n ≤ 9223372036854775807
  ls : a.line.size ≤ 140737488351232
instance : Inhabited ActD := ⟨⟨0, 0, .empty⟩⟩
/-- A slice of acts. -/
def Acts (w : World) (v : Value) (xs : List ActD) : Prop :=
  xs.length ≤ 4398046511104 ∧ ∃ (ao : Option Addr) (cap : Nat), v = .slice ao xs.length cap ∧ xs.length ≤ cap ∧ ∀ i (h : i < xs.length), ActD.Ok xs[i] ∧ ∃ b off, ao = some ⟨b, off, none⟩ ∧
    w.cell? ⟨b, off + i * 3, none⟩ = some (.int .i64 xs[i].kd) ∧ w.cell? ⟨b, off + i * 3 + 1, none⟩ = some (.int .i64 xs[i].n) ∧ w.cell? ⟨b, off + i * 3 + 2, none⟩ = some (.string xs[i].line)
theorem Acts.kept {w w' : World} {v : Value} {xs : List ActD} (h : Acts w v xs) {B : Nat} (m : Moved (fun k => B ≤ k) w w') (hB : w.heap.size ≤ B) : Acts w' v xs := by
  obtain ⟨hl, ao, cap, hv, hc, hall⟩ := h
  refine ⟨hl, ao, cap, hv, hc, fun i hi => ?_⟩
  obtain ⟨hok, b, off, he, c0, c1, c2⟩ := hall i hi
  have hb : ¬ B ≤ b := by
    have : b < w.heap.size := World.block_lt_of_cell? _ _ c0
    omega
  exact ⟨hok, b, off, he, m.cell hb c0, m.cell hb c1, m.cell hb c2⟩
theorem min_nat (n : Nat) (k : Nat) : ∃ m : Nat, m ≤ n ∧ min (n : Int) (k : Int) = m ∧ max (m : Int) 0 = m :=
  ⟨min n k, Nat.min_le_left _ _, by omega, by omega⟩

set_option maxHeartbeats 4000000 in
set_option maxRecDepth 100000 in
theorem BankDisks_bad (size : Int) (v : Value) (w : World) (hE : Env w) (h : size < 1 ∨ 1000000 < size) :
    Calls Tryz.prog 3 #[.int .i64 size, v] w fun e w' => e = .returned (.bool true) ∧ Ext w w' := by
  go_enter Tryz.func3, Tryz.ntmps3
  go_wp2_with (fail)
  refine (disks_bad size w h).mono ?_
  rintro e w2 ⟨rfl, rfl⟩
  go_wp2_with (fail)
  refine (awake_any w hE).mono ?_
  rintro e w2 ⟨rfl, he⟩
  go_wp2
  go_ret
  exact ⟨rfl, he⟩

set_option maxHeartbeats 4000000 in
set_option maxRecDepth 100000 in
theorem BankDisks_ok (size : Int) (v : Value) (xs : List ActD) (w : World) (hE : Env w) (ha : Acts w v xs) (h1 : 1 ≤ size) (h2 : size ≤ 1000000) :
    Calls Tryz.prog 3 #[.int .i64 size, v] w fun e w' => e = .returned (.bool true) ∧ Ext w w' := by
  have HE := hid hE
  have HA := hid ha
  obtain ⟨hl, ao, cap, rfl, hcap, -⟩ := ha
  obtain ⟨n, hn⟩ : ∃ n, n = xs.length := ⟨_, rfl⟩
  rw [← hn] at hl hcap HA ⊢
  obtain ⟨m, hmn, hmin, hmax⟩ := min_nat n 60
  have hmin : min (n : Int) 60 = m := hmin
  have HN := hid hn
  have hmc : m ≤ cap := by omega
  have hmi : (m : Int) ≤ cap := by omega
  have hm0 : (0 : Int) ≤ m := by omega
  have HMN := hid hmn
  clear hE hn
  go_enter Tryz.func3, Tryz.ntmps3
  go_wp2_with (fail)
  refine (disks_ok size w h1 h2).mono ?_
  rintro e w1 ⟨pb, rb, rfl, hp, hr, hne, he⟩
  have H1 : Hid (Two w.heap.size w1 pb rb (.slice none 0 0) (.slice none 0 0) ⟨[], size, 0, false, -1⟩ ⟨[], size, 0, false, -1⟩) := ⟨hp, hr, fun k hk => by cases hk⟩
  have E1 := hid he
  clear hp hr he hne h1 h2
  go_wp2
  go_loopg [32] m (fun g i wr => ∃ (k : Nat) (pv rv : Value) (d : DD), k + g = m ∧ i = .int .i64 k ∧ Hid (Two w.heap.size wr pb rb pv rv d d) ∧ Hid (Moved (fun j => w.heap.size ≤ j) w wr))
  case atStart => exact ⟨0, _, _, _, by omega, rfl, H1, E1.out.moved _⟩
  case round =>
    obtain ⟨k, pv, rv, d, hk, rfl, H2, M2⟩ := hrel
    have Hk := hid hk
    have hkm : k ≤ m := by omega
    clear hk
    by_cases hlt : k < m
    · have hki : (k : Int) < m := by omega
      have hkl : k < n := by have := HMN.out; omega
      have hkx : k < xs.length := by have := HN.out; omega
      have HA2 := HA.out.kept M2.out (Nat.le_refl _)
      obtain ⟨-, ao', cap', hv', -, hall⟩ := HA2
      simp only [Value.slice.injEq] at hv'
      obtain ⟨rfl, -, rfl⟩ := hv'
      obtain ⟨hok, b, off, rfl, a0, a1, a2⟩ := hall k hkx
      obtain ⟨act, hact⟩ : ∃ act, act = xs[k] := ⟨_, rfl⟩
      rw [← hact] at hok a0 a1 a2
      have HOK := hid hok
      have hkb : k ≤ 4398046511104 := by omega
      clear hall hok hact
      have E3 : Hid (Ext wr (wr.alloc (.cells #[.int .i64 act.kd, .int .i64 act.n, .string act.line] 29))) := Ext.ofAlloc wr _
      have X3 := ActB.alloc wr act.kd act.n act.line
      obtain ⟨x0, x1, x2⟩ := X3.cells
      clear x0 x1 x2
      go_wp2_with (fail)
      refine (touched_any (B := w.heap.size) act.kd act.n act.line _ (H2.out.ext E3.out) (Nat.le_trans M2.out.size E3.out.size) HOK.out.n0 HOK.out.n1 (by have := HOK.out.ls; omega)).mono ?_
      rintro e w4 ⟨rfl, pv4, rv4, d4, h4, m4⟩
      have H4 := hid h4
      have M4 : Hid (Moved (fun j => w.heap.size ≤ j) w w4) := (M2.out.thenExt E3.out).trans m4 (fun _ _ h => h)
      clear h4 m4 a0 a1 a2
      go_wp2_with (fail)
      refine (same_any w4 H4.out).mono ?_
      rintro e w5 ⟨rfl, h5⟩
      have H5 := hid (H4.out.ext h5)
      have M5 : Hid (Moved (fun j => w.heap.size ≤ j) w w5) := M4.out.thenExt h5
      clear h5
      go_wp2
      go_roundg (gk - 1)
      case rel => exact ⟨k + 1, _, _, _, by have := Hk.out; omega, by go_num, H5, M5⟩
      case measure => have := Hk.out; omega
    · have hki : ¬ (k : Int) < m := by omega
      have EW : Ext w wr := M2.out.ext (fun j hj (h : w.heap.size ≤ j) => by omega)
      go_wp2_with (fail)
      refine (awake_any wr (HE.out.ext EW)).mono ?_
      rintro e w5 ⟨rfl, h5⟩
      go_wp2
      go_ret
      exact ⟨rfl, EW.trans h5⟩

theorem BankDisks_any (size : Int) (v : Value) (xs : List ActD) (w : World) (hE : Env w) (ha : Acts w v xs) :
    Calls Tryz.prog 3 #[.int .i64 size, v] w fun e w' => e = .returned (.bool true) ∧ Ext w w' := by
  by_cases h1 : 1 ≤ size
  · by_cases h2 : size ≤ 1000000
    · exact BankDisks_ok size v xs w hE ha h1 h2
    · exact BankDisks_bad size v w hE (.inr (by omega))
  · exact BankDisks_bad size v w hE (.inl (by omega))

end Go.Proofs.YteiamhapplnlaaaGreatDoor
