/-
  Contract of give.
-/
import Derived.Test.YteiamhapplnlaabGreatDoorBsCloneW
import Derived.Test.YteiamhapplnlaabGreatDoorBsFormW
import Derived.Test.YteiamhapplnlaabGreatDoorBkCrash
import Derived.Lib.ItoaLen
namespace Go.Proofs.YteiamhapplnlaabGreatDoor
open Go.RowKit

theorem strB_append (a b : Bs) : strB a ++ strB b = strB (a ++ b) := by
  apply ByteArray.ext
  rw [ByteArray.data_append]
  simp [strB]
/-- What holds of the maps where only cells turned. -/
theorem StOwn.maps {F : Nat → Prop} {w0 w w' : World} {b : Nat} {s : SD} {bm : Nat} {vl vh vb : Value} {es : List (Bs × Value)} {us bs : List Value} (h : StOwn w0 w b s bm vl vh vb es us bs) (m : Moved F w w') (hF : ∀ j, F j → ∃ c t fr, w.heap[j]? = some (.cells c t fr)) : PansM w' bm es ∧ Pan2 w' es s.pans := by
  have hmap : ∀ {H : Type} {k n b : Nat} {R : Value → Option (DataW H × List MemPlace)} {D : DataW H}, w.ownsMap Tryz.prog k R b n D → ¬ F b := by
    intro H k n b R D ho hf
    obtain ⟨es, clock, hb, -⟩ := ho
    obtain ⟨c, t, fr, hc⟩ := hF b hf
    rw [hb] at hc; cases hc
  constructor
  · obtain ⟨n, hn, hp⟩ := h.pans
    exact ⟨n, hn, ownsMap_moved hp m (hmap hp)⟩
  · have h2 := h.pan2
    generalize s.pans = ps at h2
    clear h
    induction ps generalizing es with
    | nil => cases es with
      | nil => trivial
      | cons e es => exact h2.elim
    | cons p ps ih => cases es with
      | nil => exact h2.elim
      | cons e es =>
        obtain ⟨⟨h1, b', h2', n, hn, h3⟩, h4⟩ := h2
        exact ⟨⟨h1, b', h2', n, hn, ownsMap_moved h3 m (hmap h3)⟩, ih h4⟩
theorem row_pos {B e n : Nat} {w : World} {v : Value} {xs : List Value} (h : OwnN B e 1 w v n xs) (hn : 0 < n) : ∃ g c cur, v = .slice (some ⟨g, 0, none⟩) n c ∧ w.heap[g]? = some (.cells cur e (0, 0)) ∧ ∀ i u, xs[i]? = some u → w.cell? ⟨g, i, none⟩ = some u := by
  obtain ⟨hl, ⟨-, h0⟩ | ⟨g, cap, cur, rfl, -, hh, h1, -⟩⟩ := id h.1
  · omega
  · refine ⟨g, cap, cur, rfl, hh, fun i u hi => ?_⟩
    have hlt := (List.getElem?_eq_some_iff.1 hi).1
    rw [World.ownsRow.cellAt h.1 i (by omega)]; exact hi
theorem lnums_one {w : World} {v : Value} {n : Int} (h : LNums w v [n]) : ∃ g c cur, v = .slice (some ⟨g, 0, none⟩) 1 c ∧ w.cell? ⟨g, 0, none⟩ = some (.int .i64 n) ∧ w.heap[g]? = some (.cells cur 3 (0, 0)) := by
  obtain ⟨g, c, cur, rfl, hh, hc⟩ := row_pos h (by simp)
  exact ⟨g, c, cur, rfl, hc 0 _ rfl, hh⟩
theorem lnums_two {w : World} {v : Value} {n d : Int} (h : LNums w v [n, d]) : ∃ g c cur, v = .slice (some ⟨g, 0, none⟩) 2 c ∧ w.cell? ⟨g, 0, none⟩ = some (.int .i64 n) ∧ w.cell? ⟨g, 1, none⟩ = some (.int .i64 d) ∧ w.heap[g]? = some (.cells cur 3 (0, 0)) := by
  obtain ⟨g, c, cur, rfl, hh, hc⟩ := row_pos h (by simp)
  exact ⟨g, c, cur, rfl, hc 0 _ rfl, hc 1 _ rfl, hh⟩
theorem lwords_one {w : World} {v : Value} {n : Bs} (h : LWords w v [n]) : ∃ g c cur, v = .slice (some ⟨g, 0, none⟩) 1 c ∧ w.cell? ⟨g, 0, none⟩ = some (.string (strB n)) ∧ w.heap[g]? = some (.cells cur 9 (0, 0)) := by
  obtain ⟨g, c, cur, rfl, hh, hc⟩ := row_pos h (by simp)
  exact ⟨g, c, cur, rfl, hc 0 _ rfl, hh⟩
theorem lwords_two {w : World} {v : Value} {n d : Bs} (h : LWords w v [n, d]) : ∃ g c cur, v = .slice (some ⟨g, 0, none⟩) 2 c ∧ w.cell? ⟨g, 0, none⟩ = some (.string (strB n)) ∧ w.cell? ⟨g, 1, none⟩ = some (.string (strB d)) ∧ w.heap[g]? = some (.cells cur 9 (0, 0)) := by
  obtain ⟨g, c, cur, rfl, hh, hc⟩ := row_pos h (by simp)
  exact ⟨g, c, cur, rfl, hc 0 _ rfl, hc 1 _ rfl, hh⟩
theorem Ext.heap {w w' : World} (e : Ext w w') {k : Nat} {o : Obj} (h : w.heap[k]? = some o) : w'.heap[k]? = some o := by rw [e.block k (lt_of_block h)]; exact h
theorem lcells_push (ls : List LotD) (l : LotD) : lcells (ls ++ [l]) = lcells ls ++ l.cells := by unfold lcells; rw [List.flatMap_append]; simp
theorem SOk.give {s : SD} (h : SOk s) {food : Bs} {n d : Int} (hf : nameB food = true) (h1 : 1 ≤ n) (h5 : n ≤ 5) (hd0 : 0 ≤ d) (hd : d ≤ 9999) (hl : s.lots.length ≠ 20) : SOk { s with lots := s.lots ++ [⟨food, [], n, d, false⟩] } := by
  have mem : ∀ {P : LotD → Prop}, (∀ l ∈ s.lots, P l) → P ⟨food, [], n, d, false⟩ → ∀ l ∈ s.lots ++ [⟨food, [], n, d, false⟩], P l := by
    intro P a b l hl
    rcases List.mem_append.1 hl with g | g
    · exact a l g
    · rw [List.mem_singleton.1 g]; exact b
  refine ⟨h.day0, h.pans4, h.sorted, h.pname, h.pstop, h.stops, h.psort, h.pworth, ?_, mem h.lfood hf, mem h.lunits ⟨h1, h5⟩, mem h.ldate ⟨hd0, hd⟩, mem h.lowner (.inl rfl), h.hands6, h.hname, h.hnames, h.hturns, h.ball9, h.ball⟩
  have := h.lots20
  show (s.lots ++ [_]).length ≤ 20
  rw [List.length_append]; simp; omega

set_option maxHeartbeats 4000000 in
set_option maxRecDepth 100000 in
theorem give_any (w0 : World) (b : Nat) (S : SD) (vw vn : Value) (food : Bs) (n d : Int) (w : World) (hs : StO w0 w b S) (hw : LWords w vw [food]) (hn : LNums w vn [n, d]) (hf : nameB food = true) (hn0 : 0 ≤ n) (hn1 : n ≤ 9999) (hd0 : 0 ≤ d) (hd1 : d ≤ 9999) (hE : Env w0) :
    Calls Tryz.prog 46 #[.pointer (some ⟨b, 0, none⟩), .agg #[vw, vn]] w fun e w' => e = .returned (.tuple #[strV (S.give food n d).2.1, .int .i64 (S.give food n d).1]) ∧ StR w' b (S.give food n d).2.2 ∧ Ext w0 w' := by
  obtain ⟨ok, bm, vl, vh, vb, es, us, bs, P⟩ := hs
  have HS : Hid (StO w0 w b S) := ⟨ok, bm, vl, vh, vb, es, us, bs, P⟩
  have HOK := hid ok
  have HEV := hid hE
  have HF := hid hf
  obtain ⟨gn, cn, curn, rfl, k0, k1, hgn⟩ := lnums_two hn
  obtain ⟨gw, cw, curw, rfl, k2, hgw⟩ := lwords_one hw
  obtain ⟨al, cl, rfl⟩ := P.lots.row.shape
  have HP := hid P
  have hlw := HOK.out.lots20
  have hday := HOK.out.day0
  obtain ⟨W, hW⟩ : ∃ W, W = w.alloc (.cells #[.slice (some ⟨gw, 0, none⟩) 1 cw, .slice (some ⟨gn, 0, none⟩) 2 cn] 90) := ⟨_, rfl⟩
  have E1 : Hid (Ext w W) := by rw [hW]; exact Ext.ofAlloc _ _
  have BX : Hid (Box2 W w.heap.size 90 (.slice (some ⟨gw, 0, none⟩) 1 cw) (.slice (some ⟨gn, 0, none⟩) 2 cn)) := by show Box2 _ _ _ _ _; rw [hW]; exact heap_alloc_new w _
  have m0 := E1.out.cell k0
  have m1 := E1.out.cell k1
  have m2 := E1.out.cell k2
  obtain ⟨x0, x1⟩ := BX.out.cells
  obtain ⟨b0, b1, b2, b3, b4⟩ := (P.box.ext E1.out).cells
  have HGN := hid hgn
  have HGW := hid hgw
  have HWW := hid hW
  have HKEEP : Hid (∀ W', Ext W W' → (fun w' => w'.cell? ⟨w.heap.size, 1, none⟩ = some (.slice (some ⟨gn, 0, none⟩) 2 cn) ∧ w'.cell? ⟨gn, 0, none⟩ = some (.int .i64 n) ∧ w'.cell? ⟨gn, 1, none⟩ = some (.int .i64 d) ∧ w'.cell? ⟨b, 0, none⟩ = some (.int .i64 S.day)) W') := by
    intro W' e'
    exact ⟨e'.cell x1, e'.cell m0, e'.cell m1, e'.cell b0⟩
  clear P ok hE hf hn hw k0 k1 k2 hW hgn hgw
  by_cases hbad : n < 1 ∨ 5 < n ∨ d < S.day
  · have HG : Hid (S.give food n d = (2, [], S)) := by show _ = _; unfold SD.give; rw [if_pos hbad]
    have HB := hid hbad
    by_cases q1 : n < 1
    · clear hbad
      have q1b : decide (n < 1) = true := decide_eq_true q1
      go_enter Tryz.func46, Tryz.ntmps46
      go_wp2
      rw [← HWW.out]
      refine wp_region_held_drew (S := (fun w' => w'.cell? ⟨w.heap.size, 1, none⟩ = some (.slice (some ⟨gn, 0, none⟩) 2 cn) ∧ w'.cell? ⟨gn, 0, none⟩ = some (.int .i64 n) ∧ w'.cell? ⟨gn, 1, none⟩ = some (.int .i64 d) ∧ w'.cell? ⟨b, 0, none⟩ = some (.int .i64 S.day))) (by kernel_rfl) ?hSa0 (fun hHeld => ?_)
      case hSa0 => (first | (exact HKEEP.out _ (Ext.refl W).drew) | ((try dsimp only); exact HKEEP.out _ (Ext.refl W).drew))
      refine wpAnyH_tk 0 (v := ?va0) rfl (by kernel_rfl) (by kernel_rfl) (by kernel_rfl) (fun _ _ _ h => h) (by rfl) ?hya0 (by assumption) ?_
      case hya0 => (intro w hSw; (try dsimp only at hSw); go_simp <;> with_reducible rfl)
      (try simp only [Act.put, List.setIfInBounds_toArray, List.set_cons_zero, List.set_cons_succ])
      refine wpAnyH_tk 1 (v := ?va1) rfl (by kernel_rfl) (by kernel_rfl) (by kernel_rfl) (fun _ _ _ h => h) (by rfl) ?hya1 (by assumption) ?_
      case hya1 => (intro w hSw; (try dsimp only at hSw); go_simp <;> with_reducible rfl)
      (try simp only [Act.put, List.setIfInBounds_toArray, List.set_cons_zero, List.set_cons_succ])
      refine wpAnyH_tk 2 (v := ?va2) rfl (by kernel_rfl) (by kernel_rfl) (by kernel_rfl) (fun _ _ _ h => h) (by rfl) ?hya2 (by assumption) ?_
      case hya2 => (intro w hSw; (try dsimp only at hSw); go_simp <;> with_reducible rfl)
      (try simp only [Act.put, List.setIfInBounds_toArray, List.set_cons_zero, List.set_cons_succ])
      refine wpAnyH_tk 3 (v := ?va3) rfl (by kernel_rfl) (by kernel_rfl) (by kernel_rfl) (fun _ _ _ h => h) (by rfl) ?hya3 (by assumption) ?_
      case hya3 => (intro w hSw; (try dsimp only at hSw); go_simp <;> with_reducible rfl)
      (try simp only [Act.put, List.setIfInBounds_toArray, List.set_cons_zero, List.set_cons_succ])
      refine wpAnyH_tk 4 (v := ?va4) rfl (by kernel_rfl) (by kernel_rfl) (by kernel_rfl) (fun _ _ _ h => h) (by rfl) ?hya4 (by assumption) ?_
      case hya4 => (intro w hSw; (try dsimp only at hSw); go_simp <;> with_reducible rfl)
      (try simp only [Act.put, List.setIfInBounds_toArray, List.set_cons_zero, List.set_cons_succ])
      refine wpAnyH_tk 5 (v := ?va5) rfl (by kernel_rfl) (by kernel_rfl) (by kernel_rfl) (fun _ _ _ h => h) (by rfl) ?hya5 (by assumption) ?_
      case hya5 => (intro w hSw; (try dsimp only at hSw); go_simp <;> with_reducible rfl)
      (try simp only [Act.put, List.setIfInBounds_toArray, List.set_cons_zero, List.set_cons_succ])
      refine wpAnyH_skips 5 false 12 13 (by kernel_rfl) rfl (fun _ _ _ _ _ h => h) [6, 7, 8, 9, 10] [13, 14, 15, 16, 17] _ _ _ rfl (by kernel_rfl) (by rfl) (by assumption) ?_
      (try simp only [putsAll, List.foldl, Act.put, List.setIfInBounds_toArray, List.set_cons_zero, List.set_cons_succ])
      refine wpAnyH_tk 11 (v := ?va11) rfl (by kernel_rfl) (by kernel_rfl) (by kernel_rfl) (fun _ _ _ h => h) (by rfl) ?hya11 (by assumption) ?_
      case hya11 => (intro w hSw; (try dsimp only at hSw); go_simp <;> with_reducible rfl)
      (try simp only [Act.put, List.setIfInBounds_toArray, List.set_cons_zero, List.set_cons_succ])
      refine wpAnyH_tk 12 (v := ?va12) rfl (by kernel_rfl) (by kernel_rfl) (by kernel_rfl) (fun _ _ _ h => h) (by rfl) ?hya12 (by assumption) ?_
      case hya12 => (intro w hSw; (try dsimp only at hSw); go_simp <;> with_reducible rfl)
      (try simp only [Act.put, List.setIfInBounds_toArray, List.set_cons_zero, List.set_cons_succ])
      refine wpAnyH_skips 12 false 19 2 (by kernel_rfl) rfl (fun _ _ _ _ _ h => h) [13, 14, 15, 16, 17, 18, 19, 20, 21] [20, 21, 22, 23, 24, 25, 26, 27, 28] _ _ _ rfl (by kernel_rfl) (by rfl) (by assumption) ?_
      (try simp only [putsAll, List.foldl, Act.put, List.setIfInBounds_toArray, List.set_cons_zero, List.set_cons_succ])
      refine wpAnyH_tk 22 (v := ?va22) rfl (by kernel_rfl) (by kernel_rfl) (by kernel_rfl) (fun _ _ _ h => h) (by rfl) ?hya22 (by assumption) ?_
      case hya22 => (intro w hSw; (try dsimp only at hSw); go_simp <;> with_reducible rfl)
      (try simp only [Act.put, List.setIfInBounds_toArray, List.set_cons_zero, List.set_cons_succ])
      refine wpAnyH_tk 23 (v := ?va23) rfl (by kernel_rfl) (by kernel_rfl) (by kernel_rfl) (fun _ _ _ h => h) (by rfl) ?hya23 (by assumption) ?_
      case hya23 => (intro w hSw; (try dsimp only at hSw); go_simp <;> with_reducible rfl)
      (try simp only [Act.put, List.setIfInBounds_toArray, List.set_cons_zero, List.set_cons_succ])
      refine wpAnyH_done (by kernel_rfl) ?_ _
      go_wp2
      go_ret2
      rw [HG.out]
      exact ⟨rfl, (HS.out.read.ext E1.out).ext ((Ext.refl W).drew), HP.out.ext.trans (E1.out.drew)⟩
    · have q1b : decide (n < 1) = false := decide_eq_false q1
      by_cases q2 : 5 < n
      · clear hbad
        have q2b : decide (5 < n) = true := decide_eq_true q2
        go_enter Tryz.func46, Tryz.ntmps46
        go_wp2
        rw [← HWW.out]
        refine wp_region_held_drew (S := (fun w' => w'.cell? ⟨w.heap.size, 1, none⟩ = some (.slice (some ⟨gn, 0, none⟩) 2 cn) ∧ w'.cell? ⟨gn, 0, none⟩ = some (.int .i64 n) ∧ w'.cell? ⟨gn, 1, none⟩ = some (.int .i64 d) ∧ w'.cell? ⟨b, 0, none⟩ = some (.int .i64 S.day))) (by kernel_rfl) ?hSb0 (fun hHeld => ?_)
        case hSb0 => (first | (exact HKEEP.out _ (Ext.refl W).drew) | ((try dsimp only); exact HKEEP.out _ (Ext.refl W).drew))
        refine wpAnyH_tk 0 (v := ?vb0) rfl (by kernel_rfl) (by kernel_rfl) (by kernel_rfl) (fun _ _ _ h => h) (by rfl) ?hyb0 (by assumption) ?_
        case hyb0 => (intro w hSw; (try dsimp only at hSw); go_simp <;> with_reducible rfl)
        (try simp only [Act.put, List.setIfInBounds_toArray, List.set_cons_zero, List.set_cons_succ])
        refine wpAnyH_tk 1 (v := ?vb1) rfl (by kernel_rfl) (by kernel_rfl) (by kernel_rfl) (fun _ _ _ h => h) (by rfl) ?hyb1 (by assumption) ?_
        case hyb1 => (intro w hSw; (try dsimp only at hSw); go_simp <;> with_reducible rfl)
        (try simp only [Act.put, List.setIfInBounds_toArray, List.set_cons_zero, List.set_cons_succ])
        refine wpAnyH_tk 2 (v := ?vb2) rfl (by kernel_rfl) (by kernel_rfl) (by kernel_rfl) (fun _ _ _ h => h) (by rfl) ?hyb2 (by assumption) ?_
        case hyb2 => (intro w hSw; (try dsimp only at hSw); go_simp <;> with_reducible rfl)
        (try simp only [Act.put, List.setIfInBounds_toArray, List.set_cons_zero, List.set_cons_succ])
        refine wpAnyH_tk 3 (v := ?vb3) rfl (by kernel_rfl) (by kernel_rfl) (by kernel_rfl) (fun _ _ _ h => h) (by rfl) ?hyb3 (by assumption) ?_
        case hyb3 => (intro w hSw; (try dsimp only at hSw); go_simp <;> with_reducible rfl)
        (try simp only [Act.put, List.setIfInBounds_toArray, List.set_cons_zero, List.set_cons_succ])
        refine wpAnyH_tk 4 (v := ?vb4) rfl (by kernel_rfl) (by kernel_rfl) (by kernel_rfl) (fun _ _ _ h => h) (by rfl) ?hyb4 (by assumption) ?_
        case hyb4 => (intro w hSw; (try dsimp only at hSw); go_simp <;> with_reducible rfl)
        (try simp only [Act.put, List.setIfInBounds_toArray, List.set_cons_zero, List.set_cons_succ])
        refine wpAnyH_tk 5 (v := ?vb5) rfl (by kernel_rfl) (by kernel_rfl) (by kernel_rfl) (fun _ _ _ h => h) (by rfl) ?hyb5 (by assumption) ?_
        case hyb5 => (intro w hSw; (try dsimp only at hSw); go_simp <;> with_reducible rfl)
        (try simp only [Act.put, List.setIfInBounds_toArray, List.set_cons_zero, List.set_cons_succ])
        refine wpAnyH_tk 6 (v := ?vb6) rfl (by kernel_rfl) (by kernel_rfl) (by kernel_rfl) (fun _ _ _ h => h) (by rfl) ?hyb6 (by assumption) ?_
        case hyb6 => (intro w hSw; (try dsimp only at hSw); go_simp <;> with_reducible rfl)
        (try simp only [Act.put, List.setIfInBounds_toArray, List.set_cons_zero, List.set_cons_succ])
        refine wpAnyH_tk 7 (v := ?vb7) rfl (by kernel_rfl) (by kernel_rfl) (by kernel_rfl) (fun _ _ _ h => h) (by rfl) ?hyb7 (by assumption) ?_
        case hyb7 => (intro w hSw; (try dsimp only at hSw); go_simp <;> with_reducible rfl)
        (try simp only [Act.put, List.setIfInBounds_toArray, List.set_cons_zero, List.set_cons_succ])
        refine wpAnyH_tk 8 (v := ?vb8) rfl (by kernel_rfl) (by kernel_rfl) (by kernel_rfl) (fun _ _ _ h => h) (by rfl) ?hyb8 (by assumption) ?_
        case hyb8 => (intro w hSw; (try dsimp only at hSw); go_simp <;> with_reducible rfl)
        (try simp only [Act.put, List.setIfInBounds_toArray, List.set_cons_zero, List.set_cons_succ])
        refine wpAnyH_tk 9 (v := ?vb9) rfl (by kernel_rfl) (by kernel_rfl) (by kernel_rfl) (fun _ _ _ h => h) (by rfl) ?hyb9 (by assumption) ?_
        case hyb9 => (intro w hSw; (try dsimp only at hSw); go_simp <;> with_reducible rfl)
        (try simp only [Act.put, List.setIfInBounds_toArray, List.set_cons_zero, List.set_cons_succ])
        refine wpAnyH_tk 10 (v := ?vb10) rfl (by kernel_rfl) (by kernel_rfl) (by kernel_rfl) (fun _ _ _ h => h) (by rfl) ?hyb10 (by assumption) ?_
        case hyb10 => (intro w hSw; (try dsimp only at hSw); go_simp <;> with_reducible rfl)
        (try simp only [Act.put, List.setIfInBounds_toArray, List.set_cons_zero, List.set_cons_succ])
        refine wpAnyH_tk 11 (v := ?vb11) rfl (by kernel_rfl) (by kernel_rfl) (by kernel_rfl) (fun _ _ _ h => h) (by rfl) ?hyb11 (by assumption) ?_
        case hyb11 => (intro w hSw; (try dsimp only at hSw); go_simp <;> with_reducible rfl)
        (try simp only [Act.put, List.setIfInBounds_toArray, List.set_cons_zero, List.set_cons_succ])
        refine wpAnyH_tk 12 (v := ?vb12) rfl (by kernel_rfl) (by kernel_rfl) (by kernel_rfl) (fun _ _ _ h => h) (by rfl) ?hyb12 (by assumption) ?_
        case hyb12 => (intro w hSw; (try dsimp only at hSw); go_simp <;> with_reducible rfl)
        (try simp only [Act.put, List.setIfInBounds_toArray, List.set_cons_zero, List.set_cons_succ])
        refine wpAnyH_skips 12 false 19 2 (by kernel_rfl) rfl (fun _ _ _ _ _ h => h) [13, 14, 15, 16, 17, 18, 19, 20, 21] [20, 21, 22, 23, 24, 25, 26, 27, 28] _ _ _ rfl (by kernel_rfl) (by rfl) (by assumption) ?_
        (try simp only [putsAll, List.foldl, Act.put, List.setIfInBounds_toArray, List.set_cons_zero, List.set_cons_succ])
        refine wpAnyH_tk 22 (v := ?vb22) rfl (by kernel_rfl) (by kernel_rfl) (by kernel_rfl) (fun _ _ _ h => h) (by rfl) ?hyb22 (by assumption) ?_
        case hyb22 => (intro w hSw; (try dsimp only at hSw); go_simp <;> with_reducible rfl)
        (try simp only [Act.put, List.setIfInBounds_toArray, List.set_cons_zero, List.set_cons_succ])
        refine wpAnyH_tk 23 (v := ?vb23) rfl (by kernel_rfl) (by kernel_rfl) (by kernel_rfl) (fun _ _ _ h => h) (by rfl) ?hyb23 (by assumption) ?_
        case hyb23 => (intro w hSw; (try dsimp only at hSw); go_simp <;> with_reducible rfl)
        (try simp only [Act.put, List.setIfInBounds_toArray, List.set_cons_zero, List.set_cons_succ])
        refine wpAnyH_done (by kernel_rfl) ?_ _
        go_wp2
        go_ret2
        rw [HG.out]
        exact ⟨rfl, (HS.out.read.ext E1.out).ext ((Ext.refl W).drew), HP.out.ext.trans (E1.out.drew)⟩
      · have q3 : d < S.day := by omega
        clear hbad
        have q2b : decide (5 < n) = false := decide_eq_false q2
        have q3b : decide (d < S.day) = true := decide_eq_true q3
        go_enter Tryz.func46, Tryz.ntmps46
        go_wp2
        rw [← HWW.out]
        refine wp_region_held_drew (S := (fun w' => w'.cell? ⟨w.heap.size, 1, none⟩ = some (.slice (some ⟨gn, 0, none⟩) 2 cn) ∧ w'.cell? ⟨gn, 0, none⟩ = some (.int .i64 n) ∧ w'.cell? ⟨gn, 1, none⟩ = some (.int .i64 d) ∧ w'.cell? ⟨b, 0, none⟩ = some (.int .i64 S.day))) (by kernel_rfl) ?hSc0 (fun hHeld => ?_)
        case hSc0 => (first | (exact HKEEP.out _ (Ext.refl W).drew) | ((try dsimp only); exact HKEEP.out _ (Ext.refl W).drew))
        refine wpAnyH_tk 0 (v := ?vc0) rfl (by kernel_rfl) (by kernel_rfl) (by kernel_rfl) (fun _ _ _ h => h) (by rfl) ?hyc0 (by assumption) ?_
        case hyc0 => (intro w hSw; (try dsimp only at hSw); go_simp <;> with_reducible rfl)
        (try simp only [Act.put, List.setIfInBounds_toArray, List.set_cons_zero, List.set_cons_succ])
        refine wpAnyH_tk 1 (v := ?vc1) rfl (by kernel_rfl) (by kernel_rfl) (by kernel_rfl) (fun _ _ _ h => h) (by rfl) ?hyc1 (by assumption) ?_
        case hyc1 => (intro w hSw; (try dsimp only at hSw); go_simp <;> with_reducible rfl)
        (try simp only [Act.put, List.setIfInBounds_toArray, List.set_cons_zero, List.set_cons_succ])
        refine wpAnyH_tk 2 (v := ?vc2) rfl (by kernel_rfl) (by kernel_rfl) (by kernel_rfl) (fun _ _ _ h => h) (by rfl) ?hyc2 (by assumption) ?_
        case hyc2 => (intro w hSw; (try dsimp only at hSw); go_simp <;> with_reducible rfl)
        (try simp only [Act.put, List.setIfInBounds_toArray, List.set_cons_zero, List.set_cons_succ])
        refine wpAnyH_tk 3 (v := ?vc3) rfl (by kernel_rfl) (by kernel_rfl) (by kernel_rfl) (fun _ _ _ h => h) (by rfl) ?hyc3 (by assumption) ?_
        case hyc3 => (intro w hSw; (try dsimp only at hSw); go_simp <;> with_reducible rfl)
        (try simp only [Act.put, List.setIfInBounds_toArray, List.set_cons_zero, List.set_cons_succ])
        refine wpAnyH_tk 4 (v := ?vc4) rfl (by kernel_rfl) (by kernel_rfl) (by kernel_rfl) (fun _ _ _ h => h) (by rfl) ?hyc4 (by assumption) ?_
        case hyc4 => (intro w hSw; (try dsimp only at hSw); go_simp <;> with_reducible rfl)
        (try simp only [Act.put, List.setIfInBounds_toArray, List.set_cons_zero, List.set_cons_succ])
        refine wpAnyH_tk 5 (v := ?vc5) rfl (by kernel_rfl) (by kernel_rfl) (by kernel_rfl) (fun _ _ _ h => h) (by rfl) ?hyc5 (by assumption) ?_
        case hyc5 => (intro w hSw; (try dsimp only at hSw); go_simp <;> with_reducible rfl)
        (try simp only [Act.put, List.setIfInBounds_toArray, List.set_cons_zero, List.set_cons_succ])
        refine wpAnyH_tk 6 (v := ?vc6) rfl (by kernel_rfl) (by kernel_rfl) (by kernel_rfl) (fun _ _ _ h => h) (by rfl) ?hyc6 (by assumption) ?_
        case hyc6 => (intro w hSw; (try dsimp only at hSw); go_simp <;> with_reducible rfl)
        (try simp only [Act.put, List.setIfInBounds_toArray, List.set_cons_zero, List.set_cons_succ])
        refine wpAnyH_tk 7 (v := ?vc7) rfl (by kernel_rfl) (by kernel_rfl) (by kernel_rfl) (fun _ _ _ h => h) (by rfl) ?hyc7 (by assumption) ?_
        case hyc7 => (intro w hSw; (try dsimp only at hSw); go_simp <;> with_reducible rfl)
        (try simp only [Act.put, List.setIfInBounds_toArray, List.set_cons_zero, List.set_cons_succ])
        refine wpAnyH_tk 8 (v := ?vc8) rfl (by kernel_rfl) (by kernel_rfl) (by kernel_rfl) (fun _ _ _ h => h) (by rfl) ?hyc8 (by assumption) ?_
        case hyc8 => (intro w hSw; (try dsimp only at hSw); go_simp <;> with_reducible rfl)
        (try simp only [Act.put, List.setIfInBounds_toArray, List.set_cons_zero, List.set_cons_succ])
        refine wpAnyH_tk 9 (v := ?vc9) rfl (by kernel_rfl) (by kernel_rfl) (by kernel_rfl) (fun _ _ _ h => h) (by rfl) ?hyc9 (by assumption) ?_
        case hyc9 => (intro w hSw; (try dsimp only at hSw); go_simp <;> with_reducible rfl)
        (try simp only [Act.put, List.setIfInBounds_toArray, List.set_cons_zero, List.set_cons_succ])
        refine wpAnyH_tk 10 (v := ?vc10) rfl (by kernel_rfl) (by kernel_rfl) (by kernel_rfl) (fun _ _ _ h => h) (by rfl) ?hyc10 (by assumption) ?_
        case hyc10 => (intro w hSw; (try dsimp only at hSw); go_simp <;> with_reducible rfl)
        (try simp only [Act.put, List.setIfInBounds_toArray, List.set_cons_zero, List.set_cons_succ])
        refine wpAnyH_tk 11 (v := ?vc11) rfl (by kernel_rfl) (by kernel_rfl) (by kernel_rfl) (fun _ _ _ h => h) (by rfl) ?hyc11 (by assumption) ?_
        case hyc11 => (intro w hSw; (try dsimp only at hSw); go_simp <;> with_reducible rfl)
        (try simp only [Act.put, List.setIfInBounds_toArray, List.set_cons_zero, List.set_cons_succ])
        refine wpAnyH_tk 12 (v := ?vc12) rfl (by kernel_rfl) (by kernel_rfl) (by kernel_rfl) (fun _ _ _ h => h) (by rfl) ?hyc12 (by assumption) ?_
        case hyc12 => (intro w hSw; (try dsimp only at hSw); go_simp <;> with_reducible rfl)
        (try simp only [Act.put, List.setIfInBounds_toArray, List.set_cons_zero, List.set_cons_succ])
        refine wpAnyH_tk 13 (v := ?vc13) rfl (by kernel_rfl) (by kernel_rfl) (by kernel_rfl) (fun _ _ _ h => h) (by rfl) ?hyc13 (by assumption) ?_
        case hyc13 => (intro w hSw; (try dsimp only at hSw); go_simp <;> with_reducible rfl)
        (try simp only [Act.put, List.setIfInBounds_toArray, List.set_cons_zero, List.set_cons_succ])
        refine wpAnyH_tk 14 (v := ?vc14) rfl (by kernel_rfl) (by kernel_rfl) (by kernel_rfl) (fun _ _ _ h => h) (by rfl) ?hyc14 (by assumption) ?_
        case hyc14 => (intro w hSw; (try dsimp only at hSw); go_simp <;> with_reducible rfl)
        (try simp only [Act.put, List.setIfInBounds_toArray, List.set_cons_zero, List.set_cons_succ])
        refine wpAnyH_tk 15 (v := ?vc15) rfl (by kernel_rfl) (by kernel_rfl) (by kernel_rfl) (fun _ _ _ h => h) (by rfl) ?hyc15 (by assumption) ?_
        case hyc15 => (intro w hSw; (try dsimp only at hSw); go_simp <;> with_reducible rfl)
        (try simp only [Act.put, List.setIfInBounds_toArray, List.set_cons_zero, List.set_cons_succ])
        refine wpAnyH_tk 16 (v := ?vc16) rfl (by kernel_rfl) (by kernel_rfl) (by kernel_rfl) (fun _ _ _ h => h) (by rfl) ?hyc16 (by assumption) ?_
        case hyc16 => (intro w hSw; (try dsimp only at hSw); go_simp <;> with_reducible rfl)
        (try simp only [Act.put, List.setIfInBounds_toArray, List.set_cons_zero, List.set_cons_succ])
        refine wpAnyH_tk 17 (v := ?vc17) rfl (by kernel_rfl) (by kernel_rfl) (by kernel_rfl) (fun _ _ _ h => h) (by rfl) ?hyc17 (by assumption) ?_
        case hyc17 => (intro w hSw; (try dsimp only at hSw); go_simp <;> with_reducible rfl)
        (try simp only [Act.put, List.setIfInBounds_toArray, List.set_cons_zero, List.set_cons_succ])
        refine wpAnyH_tk 18 (v := ?vc18) rfl (by kernel_rfl) (by kernel_rfl) (by kernel_rfl) (fun _ _ _ h => h) (by rfl) ?hyc18 (by assumption) ?_
        case hyc18 => (intro w hSw; (try dsimp only at hSw); go_simp <;> with_reducible rfl)
        (try simp only [Act.put, List.setIfInBounds_toArray, List.set_cons_zero, List.set_cons_succ])
        refine wpAnyH_tk 19 (v := ?vc19) rfl (by kernel_rfl) (by kernel_rfl) (by kernel_rfl) (fun _ _ _ h => h) (by rfl) ?hyc19 (by assumption) ?_
        case hyc19 => (intro w hSw; (try dsimp only at hSw); go_simp <;> with_reducible rfl)
        (try simp only [Act.put, List.setIfInBounds_toArray, List.set_cons_zero, List.set_cons_succ])
        refine wpAnyH_tk 20 (v := ?vc20) rfl (by kernel_rfl) (by kernel_rfl) (by kernel_rfl) (fun _ _ _ h => h) (by rfl) ?hyc20 (by assumption) ?_
        case hyc20 => (intro w hSw; (try dsimp only at hSw); go_simp <;> with_reducible rfl)
        (try simp only [Act.put, List.setIfInBounds_toArray, List.set_cons_zero, List.set_cons_succ])
        refine wpAnyH_tk 21 (v := ?vc21) rfl (by kernel_rfl) (by kernel_rfl) (by kernel_rfl) (fun _ _ _ h => h) (by rfl) ?hyc21 (by assumption) ?_
        case hyc21 => (intro w hSw; (try dsimp only at hSw); go_simp <;> with_reducible rfl)
        (try simp only [Act.put, List.setIfInBounds_toArray, List.set_cons_zero, List.set_cons_succ])
        refine wpAnyH_tk 22 (v := ?vc22) rfl (by kernel_rfl) (by kernel_rfl) (by kernel_rfl) (fun _ _ _ h => h) (by rfl) ?hyc22 (by assumption) ?_
        case hyc22 => (intro w hSw; (try dsimp only at hSw); go_simp <;> with_reducible rfl)
        (try simp only [Act.put, List.setIfInBounds_toArray, List.set_cons_zero, List.set_cons_succ])
        refine wpAnyH_tk 23 (v := ?vc23) rfl (by kernel_rfl) (by kernel_rfl) (by kernel_rfl) (fun _ _ _ h => h) (by rfl) ?hyc23 (by assumption) ?_
        case hyc23 => (intro w hSw; (try dsimp only at hSw); go_simp <;> with_reducible rfl)
        (try simp only [Act.put, List.setIfInBounds_toArray, List.set_cons_zero, List.set_cons_succ])
        refine wpAnyH_done (by kernel_rfl) ?_ _
        go_wp2
        go_ret2
        rw [HG.out]
        exact ⟨rfl, (HS.out.read.ext E1.out).ext ((Ext.refl W).drew), HP.out.ext.trans (E1.out.drew)⟩
  · have HB := hid hbad
    have q1 : ¬ n < 1 := by omega
    have q2 : ¬ 5 < n := by omega
    have q3 : ¬ d < S.day := by omega
    clear hbad
    have q1b : decide (n < 1) = false := decide_eq_false q1
    have q2b : decide (5 < n) = false := decide_eq_false q2
    have q3b : decide (d < S.day) = false := decide_eq_false q3
    go_enter Tryz.func46, Tryz.ntmps46
    go_wp2
    rw [← HWW.out]
    refine wp_region_held_drew (S := (fun w' => w'.cell? ⟨w.heap.size, 1, none⟩ = some (.slice (some ⟨gn, 0, none⟩) 2 cn) ∧ w'.cell? ⟨gn, 0, none⟩ = some (.int .i64 n) ∧ w'.cell? ⟨gn, 1, none⟩ = some (.int .i64 d) ∧ w'.cell? ⟨b, 0, none⟩ = some (.int .i64 S.day))) (by kernel_rfl) ?hSd0 (fun hHeld => ?_)
    case hSd0 => (first | (exact HKEEP.out _ (Ext.refl W).drew) | ((try dsimp only); exact HKEEP.out _ (Ext.refl W).drew))
    refine wpAnyH_tk 0 (v := ?vd0) rfl (by kernel_rfl) (by kernel_rfl) (by kernel_rfl) (fun _ _ _ h => h) (by rfl) ?hyd0 (by assumption) ?_
    case hyd0 => (intro w hSw; (try dsimp only at hSw); go_simp <;> with_reducible rfl)
    (try simp only [Act.put, List.setIfInBounds_toArray, List.set_cons_zero, List.set_cons_succ])
    refine wpAnyH_tk 1 (v := ?vd1) rfl (by kernel_rfl) (by kernel_rfl) (by kernel_rfl) (fun _ _ _ h => h) (by rfl) ?hyd1 (by assumption) ?_
    case hyd1 => (intro w hSw; (try dsimp only at hSw); go_simp <;> with_reducible rfl)
    (try simp only [Act.put, List.setIfInBounds_toArray, List.set_cons_zero, List.set_cons_succ])
    refine wpAnyH_tk 2 (v := ?vd2) rfl (by kernel_rfl) (by kernel_rfl) (by kernel_rfl) (fun _ _ _ h => h) (by rfl) ?hyd2 (by assumption) ?_
    case hyd2 => (intro w hSw; (try dsimp only at hSw); go_simp <;> with_reducible rfl)
    (try simp only [Act.put, List.setIfInBounds_toArray, List.set_cons_zero, List.set_cons_succ])
    refine wpAnyH_tk 3 (v := ?vd3) rfl (by kernel_rfl) (by kernel_rfl) (by kernel_rfl) (fun _ _ _ h => h) (by rfl) ?hyd3 (by assumption) ?_
    case hyd3 => (intro w hSw; (try dsimp only at hSw); go_simp <;> with_reducible rfl)
    (try simp only [Act.put, List.setIfInBounds_toArray, List.set_cons_zero, List.set_cons_succ])
    refine wpAnyH_tk 4 (v := ?vd4) rfl (by kernel_rfl) (by kernel_rfl) (by kernel_rfl) (fun _ _ _ h => h) (by rfl) ?hyd4 (by assumption) ?_
    case hyd4 => (intro w hSw; (try dsimp only at hSw); go_simp <;> with_reducible rfl)
    (try simp only [Act.put, List.setIfInBounds_toArray, List.set_cons_zero, List.set_cons_succ])
    refine wpAnyH_tk 5 (v := ?vd5) rfl (by kernel_rfl) (by kernel_rfl) (by kernel_rfl) (fun _ _ _ h => h) (by rfl) ?hyd5 (by assumption) ?_
    case hyd5 => (intro w hSw; (try dsimp only at hSw); go_simp <;> with_reducible rfl)
    (try simp only [Act.put, List.setIfInBounds_toArray, List.set_cons_zero, List.set_cons_succ])
    refine wpAnyH_tk 6 (v := ?vd6) rfl (by kernel_rfl) (by kernel_rfl) (by kernel_rfl) (fun _ _ _ h => h) (by rfl) ?hyd6 (by assumption) ?_
    case hyd6 => (intro w hSw; (try dsimp only at hSw); go_simp <;> with_reducible rfl)
    (try simp only [Act.put, List.setIfInBounds_toArray, List.set_cons_zero, List.set_cons_succ])
    refine wpAnyH_tk 7 (v := ?vd7) rfl (by kernel_rfl) (by kernel_rfl) (by kernel_rfl) (fun _ _ _ h => h) (by rfl) ?hyd7 (by assumption) ?_
    case hyd7 => (intro w hSw; (try dsimp only at hSw); go_simp <;> with_reducible rfl)
    (try simp only [Act.put, List.setIfInBounds_toArray, List.set_cons_zero, List.set_cons_succ])
    refine wpAnyH_tk 8 (v := ?vd8) rfl (by kernel_rfl) (by kernel_rfl) (by kernel_rfl) (fun _ _ _ h => h) (by rfl) ?hyd8 (by assumption) ?_
    case hyd8 => (intro w hSw; (try dsimp only at hSw); go_simp <;> with_reducible rfl)
    (try simp only [Act.put, List.setIfInBounds_toArray, List.set_cons_zero, List.set_cons_succ])
    refine wpAnyH_tk 9 (v := ?vd9) rfl (by kernel_rfl) (by kernel_rfl) (by kernel_rfl) (fun _ _ _ h => h) (by rfl) ?hyd9 (by assumption) ?_
    case hyd9 => (intro w hSw; (try dsimp only at hSw); go_simp <;> with_reducible rfl)
    (try simp only [Act.put, List.setIfInBounds_toArray, List.set_cons_zero, List.set_cons_succ])
    refine wpAnyH_tk 10 (v := ?vd10) rfl (by kernel_rfl) (by kernel_rfl) (by kernel_rfl) (fun _ _ _ h => h) (by rfl) ?hyd10 (by assumption) ?_
    case hyd10 => (intro w hSw; (try dsimp only at hSw); go_simp <;> with_reducible rfl)
    (try simp only [Act.put, List.setIfInBounds_toArray, List.set_cons_zero, List.set_cons_succ])
    refine wpAnyH_tk 11 (v := ?vd11) rfl (by kernel_rfl) (by kernel_rfl) (by kernel_rfl) (fun _ _ _ h => h) (by rfl) ?hyd11 (by assumption) ?_
    case hyd11 => (intro w hSw; (try dsimp only at hSw); go_simp <;> with_reducible rfl)
    (try simp only [Act.put, List.setIfInBounds_toArray, List.set_cons_zero, List.set_cons_succ])
    refine wpAnyH_tk 12 (v := ?vd12) rfl (by kernel_rfl) (by kernel_rfl) (by kernel_rfl) (fun _ _ _ h => h) (by rfl) ?hyd12 (by assumption) ?_
    case hyd12 => (intro w hSw; (try dsimp only at hSw); go_simp <;> with_reducible rfl)
    (try simp only [Act.put, List.setIfInBounds_toArray, List.set_cons_zero, List.set_cons_succ])
    refine wpAnyH_tk 13 (v := ?vd13) rfl (by kernel_rfl) (by kernel_rfl) (by kernel_rfl) (fun _ _ _ h => h) (by rfl) ?hyd13 (by assumption) ?_
    case hyd13 => (intro w hSw; (try dsimp only at hSw); go_simp <;> with_reducible rfl)
    (try simp only [Act.put, List.setIfInBounds_toArray, List.set_cons_zero, List.set_cons_succ])
    refine wpAnyH_tk 14 (v := ?vd14) rfl (by kernel_rfl) (by kernel_rfl) (by kernel_rfl) (fun _ _ _ h => h) (by rfl) ?hyd14 (by assumption) ?_
    case hyd14 => (intro w hSw; (try dsimp only at hSw); go_simp <;> with_reducible rfl)
    (try simp only [Act.put, List.setIfInBounds_toArray, List.set_cons_zero, List.set_cons_succ])
    refine wpAnyH_tk 15 (v := ?vd15) rfl (by kernel_rfl) (by kernel_rfl) (by kernel_rfl) (fun _ _ _ h => h) (by rfl) ?hyd15 (by assumption) ?_
    case hyd15 => (intro w hSw; (try dsimp only at hSw); go_simp <;> with_reducible rfl)
    (try simp only [Act.put, List.setIfInBounds_toArray, List.set_cons_zero, List.set_cons_succ])
    refine wpAnyH_tk 16 (v := ?vd16) rfl (by kernel_rfl) (by kernel_rfl) (by kernel_rfl) (fun _ _ _ h => h) (by rfl) ?hyd16 (by assumption) ?_
    case hyd16 => (intro w hSw; (try dsimp only at hSw); go_simp <;> with_reducible rfl)
    (try simp only [Act.put, List.setIfInBounds_toArray, List.set_cons_zero, List.set_cons_succ])
    refine wpAnyH_tk 17 (v := ?vd17) rfl (by kernel_rfl) (by kernel_rfl) (by kernel_rfl) (fun _ _ _ h => h) (by rfl) ?hyd17 (by assumption) ?_
    case hyd17 => (intro w hSw; (try dsimp only at hSw); go_simp <;> with_reducible rfl)
    (try simp only [Act.put, List.setIfInBounds_toArray, List.set_cons_zero, List.set_cons_succ])
    refine wpAnyH_tk 18 (v := ?vd18) rfl (by kernel_rfl) (by kernel_rfl) (by kernel_rfl) (fun _ _ _ h => h) (by rfl) ?hyd18 (by assumption) ?_
    case hyd18 => (intro w hSw; (try dsimp only at hSw); go_simp <;> with_reducible rfl)
    (try simp only [Act.put, List.setIfInBounds_toArray, List.set_cons_zero, List.set_cons_succ])
    refine wpAnyH_tk 19 (v := ?vd19) rfl (by kernel_rfl) (by kernel_rfl) (by kernel_rfl) (fun _ _ _ h => h) (by rfl) ?hyd19 (by assumption) ?_
    case hyd19 => (intro w hSw; (try dsimp only at hSw); go_simp <;> with_reducible rfl)
    (try simp only [Act.put, List.setIfInBounds_toArray, List.set_cons_zero, List.set_cons_succ])
    refine wpAnyH_tk 20 (v := ?vd20) rfl (by kernel_rfl) (by kernel_rfl) (by kernel_rfl) (fun _ _ _ h => h) (by rfl) ?hyd20 (by assumption) ?_
    case hyd20 => (intro w hSw; (try dsimp only at hSw); go_simp <;> with_reducible rfl)
    (try simp only [Act.put, List.setIfInBounds_toArray, List.set_cons_zero, List.set_cons_succ])
    refine wpAnyH_tk 21 (v := ?vd21) rfl (by kernel_rfl) (by kernel_rfl) (by kernel_rfl) (fun _ _ _ h => h) (by rfl) ?hyd21 (by assumption) ?_
    case hyd21 => (intro w hSw; (try dsimp only at hSw); go_simp <;> with_reducible rfl)
    (try simp only [Act.put, List.setIfInBounds_toArray, List.set_cons_zero, List.set_cons_succ])
    refine wpAnyH_tk 22 (v := ?vd22) rfl (by kernel_rfl) (by kernel_rfl) (by kernel_rfl) (fun _ _ _ h => h) (by rfl) ?hyd22 (by assumption) ?_
    case hyd22 => (intro w hSw; (try dsimp only at hSw); go_simp <;> with_reducible rfl)
    (try simp only [Act.put, List.setIfInBounds_toArray, List.set_cons_zero, List.set_cons_succ])
    refine wpAnyH_tk 23 (v := ?vd23) rfl (by kernel_rfl) (by kernel_rfl) (by kernel_rfl) (fun _ _ _ h => h) (by rfl) ?hyd23 (by assumption) ?_
    case hyd23 => (intro w hSw; (try dsimp only at hSw); go_simp <;> with_reducible rfl)
    (try simp only [Act.put, List.setIfInBounds_toArray, List.set_cons_zero, List.set_cons_succ])
    refine wpAnyH_done (by kernel_rfl) ?_ _
    have E2 : Hid (Ext w W.drew) := E1.out.drew
    have E2w : Hid (Ext W W.drew) := (Ext.refl W).drew
    generalize W.drew = W2 at E2 E2w ⊢
    have HS2 := hid (HP.out.grow E2.out)
    obtain ⟨y0, y1, y2, y3, y4⟩ := HS2.out.box.cells
    by_cases h20 : S.lots.length = 20
    · have HG : Hid (S.give food n d = (7, [], S)) := by show _ = _; unfold SD.give; rw [if_neg HB.out, if_pos h20]
      have h20b : ((S.lots.length : Int) == 20) = true := by simp [h20]
      clear b0 b1 b2 b3 b4 m0 m1 m2 x0 x1 h20
      go_wp2
      go_ret2
      rw [HG.out]
      exact ⟨rfl, ⟨HOK.out, _, _, _, _, _, _, _, HS2.out.parts⟩, HS2.out.ext⟩
    · have HG : Hid (S.give food n d = (0, [103, 105, 118, 101, 32] ++ Lib.itoa (S.lots.length + 1), { S with lots := S.lots ++ [⟨food, [], n, d, false⟩] })) := by show _ = _; unfold SD.give; rw [if_neg HB.out, if_neg h20]
      have h20b : ((S.lots.length : Int) == 20) = false := by simp; omega
      have H20 := hid h20
      clear h20
      have HKEEP2 : Hid (∀ W', Ext W2 W' → (fun w' => w'.cell? ⟨w.heap.size, 0, none⟩ = some (.slice (some ⟨gw, 0, none⟩) 1 cw) ∧ w'.cell? ⟨w.heap.size, 1, none⟩ = some (.slice (some ⟨gn, 0, none⟩) 2 cn) ∧ w'.cell? ⟨gw, 0, none⟩ = some (.string (strB food)) ∧ w'.cell? ⟨gn, 0, none⟩ = some (.int .i64 n) ∧ w'.cell? ⟨gn, 1, none⟩ = some (.int .i64 d)) W') := by
        intro W' e'
        obtain ⟨z0, z1⟩ := (BX.out.ext (E2w.out.trans e')).cells
        exact ⟨z0, z1, (E2w.out.trans e').cell m2, (E2w.out.trans e').cell m0, (E2w.out.trans e').cell m1⟩
      have hlt : S.lots.length ≤ 1000000 := by omega
      have HLT := hid hlt
      clear hlt
      clear b0 b1 b2 b3 b4 m0 m1 m2 x0 x1
      go_wp2
      refine wp_region_held_drew (S := (fun w' => w'.cell? ⟨w.heap.size, 0, none⟩ = some (.slice (some ⟨gw, 0, none⟩) 1 cw) ∧ w'.cell? ⟨w.heap.size, 1, none⟩ = some (.slice (some ⟨gn, 0, none⟩) 2 cn) ∧ w'.cell? ⟨gw, 0, none⟩ = some (.string (strB food)) ∧ w'.cell? ⟨gn, 0, none⟩ = some (.int .i64 n) ∧ w'.cell? ⟨gn, 1, none⟩ = some (.int .i64 d))) (by kernel_rfl) ?hSe0 (fun hHeld => ?_)
      case hSe0 => exact HKEEP2.out _ (Ext.refl W2).drew
      refine wpAnyH_tk 0 (v := ?ve0x1) rfl (by kernel_rfl) (by kernel_rfl) (by kernel_rfl) (fun _ _ _ h => h) (by rfl) ?hye0x1 (by assumption) ?_
      case hye0x1 => (intro w hSw; (try dsimp only at hSw); go_simp <;> with_reducible rfl)
      (try simp only [Act.put, List.setIfInBounds_toArray, List.set_cons_zero, List.set_cons_succ])
      refine wpAnyH_tk 1 (v := ?ve1x2) rfl (by kernel_rfl) (by kernel_rfl) (by kernel_rfl) (fun _ _ _ h => h) (by rfl) ?hye1x2 (by assumption) ?_
      case hye1x2 => (intro w hSw; (try dsimp only at hSw); go_simp <;> with_reducible rfl)
      (try simp only [Act.put, List.setIfInBounds_toArray, List.set_cons_zero, List.set_cons_succ])
      refine wpAnyH_tk 2 (v := ?ve2x3) rfl (by kernel_rfl) (by kernel_rfl) (by kernel_rfl) (fun _ _ _ h => h) (by rfl) ?hye2x3 (by assumption) ?_
      case hye2x3 => (intro w hSw; (try dsimp only at hSw); go_simp <;> with_reducible rfl)
      (try simp only [Act.put, List.setIfInBounds_toArray, List.set_cons_zero, List.set_cons_succ])
      refine wpAnyH_tk 3 (v := ?ve3x4) rfl (by kernel_rfl) (by kernel_rfl) (by kernel_rfl) (fun _ _ _ h => h) (by rfl) ?hye3x4 (by assumption) ?_
      case hye3x4 => (intro w hSw; (try dsimp only at hSw); go_simp <;> with_reducible rfl)
      (try simp only [Act.put, List.setIfInBounds_toArray, List.set_cons_zero, List.set_cons_succ])
      refine wpAnyH_tk 5 (v := ?ve5x5) rfl (by kernel_rfl) (by kernel_rfl) (by kernel_rfl) (fun _ _ _ h => h) (by rfl) ?hye5x5 (by assumption) ?_
      case hye5x5 => (intro w hSw; (try dsimp only at hSw); go_simp <;> with_reducible rfl)
      (try simp only [Act.put, List.setIfInBounds_toArray, List.set_cons_zero, List.set_cons_succ])
      refine wpAnyH_tk 6 (v := ?ve6x6) rfl (by kernel_rfl) (by kernel_rfl) (by kernel_rfl) (fun _ _ _ h => h) (by rfl) ?hye6x6 (by assumption) ?_
      case hye6x6 => (intro w hSw; (try dsimp only at hSw); go_simp <;> with_reducible rfl)
      (try simp only [Act.put, List.setIfInBounds_toArray, List.set_cons_zero, List.set_cons_succ])
      refine wpAnyH_tk 7 (v := ?ve7x7) rfl (by kernel_rfl) (by kernel_rfl) (by kernel_rfl) (fun _ _ _ h => h) (by rfl) ?hye7x7 (by assumption) ?_
      case hye7x7 => (intro w hSw; (try dsimp only at hSw); go_simp <;> with_reducible rfl)
      (try simp only [Act.put, List.setIfInBounds_toArray, List.set_cons_zero, List.set_cons_succ])
      refine wpAnyH_tk 8 (v := ?ve8x8) rfl (by kernel_rfl) (by kernel_rfl) (by kernel_rfl) (fun _ _ _ h => h) (by rfl) ?hye8x8 (by assumption) ?_
      case hye8x8 => (intro w hSw; (try dsimp only at hSw); go_simp <;> with_reducible rfl)
      (try simp only [Act.put, List.setIfInBounds_toArray, List.set_cons_zero, List.set_cons_succ])
      refine wpAnyH_tk 9 (v := ?ve9x9) rfl (by kernel_rfl) (by kernel_rfl) (by kernel_rfl) (fun _ _ _ h => h) (by rfl) ?hye9x9 (by assumption) ?_
      case hye9x9 => (intro w hSw; (try dsimp only at hSw); go_simp <;> with_reducible rfl)
      (try simp only [Act.put, List.setIfInBounds_toArray, List.set_cons_zero, List.set_cons_succ])
      refine wpAnyH_tk 10 (v := ?ve10x10) rfl (by kernel_rfl) (by kernel_rfl) (by kernel_rfl) (fun _ _ _ h => h) (by rfl) ?hye10x10 (by assumption) ?_
      case hye10x10 => (intro w hSw; (try dsimp only at hSw); go_simp <;> with_reducible rfl)
      (try simp only [Act.put, List.setIfInBounds_toArray, List.set_cons_zero, List.set_cons_succ])
      refine wpAnyH_tk 11 (v := ?ve11x11) rfl (by kernel_rfl) (by kernel_rfl) (by kernel_rfl) (fun _ _ _ h => h) (by rfl) ?hye11x11 (by assumption) ?_
      case hye11x11 => (intro w hSw; (try dsimp only at hSw); go_simp <;> with_reducible rfl)
      (try simp only [Act.put, List.setIfInBounds_toArray, List.set_cons_zero, List.set_cons_succ])
      refine wpAnyH_tk 12 (v := ?ve12x12) rfl (by kernel_rfl) (by kernel_rfl) (by kernel_rfl) (fun _ _ _ h => h) (by rfl) ?hye12x12 (by assumption) ?_
      case hye12x12 => (intro w hSw; (try dsimp only at hSw); go_simp <;> with_reducible rfl)
      (try simp only [Act.put, List.setIfInBounds_toArray, List.set_cons_zero, List.set_cons_succ])
      refine wpAnyH_tk 13 (v := ?ve13x13) rfl (by kernel_rfl) (by kernel_rfl) (by kernel_rfl) (fun _ _ _ h => h) (by rfl) ?hye13x13 (by assumption) ?_
      case hye13x13 => (intro w hSw; (try dsimp only at hSw); go_simp <;> with_reducible rfl)
      (try simp only [Act.put, List.setIfInBounds_toArray, List.set_cons_zero, List.set_cons_succ])
      refine wpAnyH_tk 14 (v := ?ve14x14) rfl (by kernel_rfl) (by kernel_rfl) (by kernel_rfl) (fun _ _ _ h => h) (by rfl) ?hye14x14 (by assumption) ?_
      case hye14x14 => (intro w hSw; (try dsimp only at hSw); go_simp <;> with_reducible rfl)
      (try simp only [Act.put, List.setIfInBounds_toArray, List.set_cons_zero, List.set_cons_succ])
      refine wpAnyH_tk 15 (v := ?ve15x15) rfl (by kernel_rfl) (by kernel_rfl) (by kernel_rfl) (fun _ _ _ h => h) (by rfl) ?hye15x15 (by assumption) ?_
      case hye15x15 => (intro w hSw; (try dsimp only at hSw); go_simp <;> with_reducible rfl)
      (try simp only [Act.put, List.setIfInBounds_toArray, List.set_cons_zero, List.set_cons_succ])
      refine wpAnyH_tk 16 (v := ?ve16x16) rfl (by kernel_rfl) (by kernel_rfl) (by kernel_rfl) (fun _ _ _ h => h) (by rfl) ?hye16x16 (by assumption) ?_
      case hye16x16 => (intro w hSw; (try dsimp only at hSw); go_simp <;> with_reducible rfl)
      (try simp only [Act.put, List.setIfInBounds_toArray, List.set_cons_zero, List.set_cons_succ])
      refine wpAnyH_tk 17 (v := ?ve17x17) rfl (by kernel_rfl) (by kernel_rfl) (by kernel_rfl) (fun _ _ _ h => h) (by rfl) ?hye17x17 (by assumption) ?_
      case hye17x17 => (intro w hSw; (try dsimp only at hSw); go_simp <;> with_reducible rfl)
      (try simp only [Act.put, List.setIfInBounds_toArray, List.set_cons_zero, List.set_cons_succ])
      refine wpAnyH_two 4 18 rfl rfl (by kernel_rfl) (by rfl) (by rfl) (fun K hK => ?_) (fun K hK => ?_)
      · skip
        go_simp
        refine hK.out _ _ ?hSe4x18 (fun hHeld => ?_)
        case hSe4x18 => exact HKEEP2.out _ (Ext.refl W2).drew
        clear hK K
        (try simp only [Act.put, List.setIfInBounds_toArray, List.set_cons_zero, List.set_cons_succ])
        refine wpAnyH_one 18 rfl (by kernel_rfl) (by rfl) (fun K hK => ?_)
        go_simp
        refine hK.out _ _ ?hSe18x19 (fun hHeld => ?_)
        case hSe18x19 => exact HKEEP2.out _ (((Ext.refl W2).alloc _).drew)
        clear hK K
        (try simp only [Act.put, List.setIfInBounds_toArray, List.set_cons_zero, List.set_cons_succ])
        refine wpAnyH_one 19 rfl (by kernel_rfl) (by rfl) (fun K hK => ?_)
        refine wp_push _ _ 81 115 5 56 _ et_lot rfl w0.heap.size S.lots.length (.slice al S.lots.length cl) (lcells S.lots) (LotD.cells ⟨food, [], n, d, false⟩) W2.drew (by rfl) (HS2.out.lots.ext (Ext.refl W2).drew).1 (by rfl) (by rfl) rfl (by intro u hu; simp only [LotD.cells, List.mem_cons, List.not_mem_nil, or_false] at hu; rcases hu with rfl | rfl | rfl | rfl | rfl <;> rfl) HLT.out HS2.out.ext.size ?_
        intro v6 w6 hO6 hM6 hL6 hS6
        obtain ⟨a6, c6, rfl⟩ := hO6.shape
        have O6 := hid hO6
        have M6 := hid hM6
        have HD2 := hid (HS2.out.grow (Ext.refl W2).drew)
        have B6 := hid (HD2.out.box.moved M6.out (fun e => HD2.out.lots.notBox HD2.out.box (by decide) e))
        have q2 := B6.out.cells.2.2.1
        have f2 := B6.out.free 2
        have HK6 : Hid ((fun w' => w'.cell? ⟨w.heap.size, 0, none⟩ = some (.slice (some ⟨gw, 0, none⟩) 1 cw) ∧ w'.cell? ⟨w.heap.size, 1, none⟩ = some (.slice (some ⟨gn, 0, none⟩) 2 cn) ∧ w'.cell? ⟨gw, 0, none⟩ = some (.string (strB food)) ∧ w'.cell? ⟨gn, 0, none⟩ = some (.int .i64 n) ∧ w'.cell? ⟨gn, 1, none⟩ = some (.int .i64 d)) w6) := by
          have h7 := HKEEP2.out _ (Ext.refl W2).drew
          exact ⟨M6.out.cell (fun e => HD2.out.lots.notBox (BX.out.ext (E2w.out.drew)) (by decide) e) h7.1, M6.out.cell (fun e => HD2.out.lots.notBox (BX.out.ext (E2w.out.drew)) (by decide) e) h7.2.1, M6.out.cell (fun e => HD2.out.lots.notBox ((E1.out.trans E2w.out.drew).heap HGW.out) (by decide) e) h7.2.2.1, M6.out.cell (fun e => HD2.out.lots.notBox ((E1.out.trans E2w.out.drew).heap HGN.out) (by decide) e) h7.2.2.2.1, M6.out.cell (fun e => HD2.out.lots.notBox ((E1.out.trans E2w.out.drew).heap HGN.out) (by decide) e) h7.2.2.2.2⟩
        have M7 : Hid (Moved (fun j => j = b) w6 (w6.setCell ⟨b, 2, none⟩ (.slice a6 (S.lots.length + 1) c6))) := (Moved.refl (fun j => j = b) w6).set (.inl rfl) 2 _
        have HK7 : Hid ((fun w' => w'.cell? ⟨w.heap.size, 0, none⟩ = some (.slice (some ⟨gw, 0, none⟩) 1 cw) ∧ w'.cell? ⟨w.heap.size, 1, none⟩ = some (.slice (some ⟨gn, 0, none⟩) 2 cn) ∧ w'.cell? ⟨gw, 0, none⟩ = some (.string (strB food)) ∧ w'.cell? ⟨gn, 0, none⟩ = some (.int .i64 n) ∧ w'.cell? ⟨gn, 1, none⟩ = some (.int .i64 d)) (w6.setCell ⟨b, 2, none⟩ (.slice a6 (S.lots.length + 1) c6))) := by
          obtain ⟨h1, h2, h3, h4, h5⟩ := HK6.out
          have hb1 : ¬ w.heap.size = b := by have := HP.out.box.lt; omega
          have hb2 : ∀ {g : Nat} {cur : Array Value} {t : Nat}, w.heap[g]? = some (.cells cur t (0, 0)) → t ≠ 84 → ¬ g = b := by
            intro g cur t h hne e
            subst e
            have hbx := HP.out.box
            unfold Box5 at hbx
            rw [h] at hbx
            simp only [Option.some.injEq, Obj.cells.injEq] at hbx
            exact hne hbx.2.1
          exact ⟨M7.out.cell hb1 h1, M7.out.cell hb1 h2, M7.out.cell (hb2 HGW.out (by decide)) h3, M7.out.cell (hb2 HGN.out (by decide)) h4, M7.out.cell (hb2 HGN.out (by decide)) h5⟩
        clear hO6 hM6 hL6
        refine hK.out _ _ ?hSe19x20 (fun hHeld => ?_)
        case hSe19x20 => exact HK6.out
        clear hK K
        (try simp only [Act.put, List.setIfInBounds_toArray, List.set_cons_zero, List.set_cons_succ])
        refine wpAnyH_tk 20 (v := ?ve20x21) rfl (by kernel_rfl) (by kernel_rfl) (by kernel_rfl) (fun _ _ _ h => h) (by rfl) ?hye20x21 (by assumption) ?_
        case hye20x21 => (intro w hSw; (try dsimp only at hSw); go_simp <;> with_reducible rfl)
        (try simp only [Act.put, List.setIfInBounds_toArray, List.set_cons_zero, List.set_cons_succ])
        refine wpAnyH_tk 21 (v := ?ve21x22) rfl (by kernel_rfl) (by kernel_rfl) (by kernel_rfl) (fun _ _ _ h => h) (by rfl) ?hye21x22 (by assumption) ?_
        case hye21x22 => (intro w hSw; (try dsimp only at hSw); go_simp <;> with_reducible rfl)
        (try simp only [Act.put, List.setIfInBounds_toArray, List.set_cons_zero, List.set_cons_succ])
        refine wpAnyH_one 22 rfl (by kernel_rfl) (by rfl) (fun K hK => ?_)
        go_simp
        refine hK.out _ _ ?hSe22x23 (fun hHeld => ?_)
        case hSe22x23 => exact HK7.out
        clear hK K
        (try simp only [Act.put, List.setIfInBounds_toArray, List.set_cons_zero, List.set_cons_succ])
        refine wpAnyH_done (by kernel_rfl) ?_ _
        have MM : Hid (Moved (fun j => j = b ∨ (Value.slice al S.lots.length cl).ownBlock = some j) W2.drew (w6.setCell ⟨b, 2, none⟩ (.slice a6 (S.lots.length + 1) c6))) := (M6.out.weaken (fun _ h => .inr h)).trans M7.out (fun _ _ h => .inl h)
        have B7 : Hid (Box5 (w6.setCell ⟨b, 2, none⟩ (.slice a6 (S.lots.length + 1) c6)) b 84 _ _ _ _ _) := B6.out.set2 (.slice a6 (S.lots.length + 1) c6)
        have O7 : Hid (OwnN w0.heap.size 115 5 (w6.setCell ⟨b, 2, none⟩ (.slice a6 (S.lots.length + 1) c6)) (.slice a6 (S.lots.length + 1) c6) (S.lots.length + 1) (lcells S.lots ++ LotD.cells ⟨food, [], n, d, false⟩)) := O6.out.moved M7.out (fun j hj e => by subst e; exact O6.out.notBox B6.out (by decide) hj)
        generalize w6.setCell ⟨b, 2, none⟩ (.slice a6 (S.lots.length + 1) c6) = w7 at MM B7 O7 ⊢
        have HR : Hid (StR w7 b { S with lots := S.lots ++ [⟨food, [], n, d, false⟩] }) := by
          have hcells : ∀ j, (j = b ∨ (Value.slice al S.lots.length cl).ownBlock = some j) → ∃ c t fr, W2.drew.heap[j]? = some (.cells c t fr) := by
            rintro j (rfl | hj)
            · exact ⟨_, _, _, HD2.out.box⟩
            · obtain ⟨cur, h⟩ := HD2.out.lots.block hj
              exact ⟨_, _, _, h⟩
          obtain ⟨g1, g2⟩ := HD2.out.maps MM.out hcells
          have hrow : ∀ {e size n : Nat} {v : Value} {xs : List Value}, OwnN w0.heap.size e size W2.drew v n xs → e ≠ 84 → e ≠ 115 → OwnN w0.heap.size e size w7 v n xs := fun h h1 h2 => h.moved MM.out (fun j hj e => by
            rcases e with rfl | e
            · exact h.notBox HD2.out.box h1 hj
            · exact h.apart HD2.out.lots h2 hj e)
          have he : Ext w0 w7 := ext_moved HD2.out.ext MM.out (fun j e => by
            rcases e with rfl | e
            · exact HP.out.lob
            · exact (HD2.out.lots.1.lt j e).1)
          refine ⟨HOK.out.give HF.out (by omega) (by omega) hd0 hd1 H20.out, bm, _, _, _, es, us, bs, ⟨B7.out, g1, g2, ?_, (hrow HD2.out.hands (by decide) (by decide)).row, HD2.out.handsI.ext he, (hrow HD2.out.balls (by decide) (by decide)).row, HD2.out.ballsI.ext he⟩⟩
          show RowR w7 _ _ (S.lots ++ [_]).length (lcells (S.lots ++ [_]))
          rw [lcells_push, List.length_append]
          exact O7.out.row
        have HX7 : Hid (Ext w0 w7) := ext_moved HD2.out.ext MM.out (fun j e => by
          rcases e with rfl | e
          · exact HP.out.lob
          · exact (HD2.out.lots.1.lt j e).1)
        have HE7 : Hid (Env w7) := by
          have hx : Ext w0 w7 := HX7.out
          exact HEV.out.ext hx
        obtain ⟨-, -, z2, -, -⟩ := B7.out.cells
        clear q2 f2 y0 y1 y2 y3 y4
        go_wp2_with (fail)
        refine (Itoa_any _ w7 (by omega) (by omega) HE7.out).mono ?_
        rintro e w8 ⟨rfl, he⟩
        have hil : (strB (Lib.itoa ((S.lots.length : Int) + 1))).size ≤ 21 := by rw [strB_size]; exact Lib.itoa_length_le _ (by omega) (by omega)
        have HX8 := hid he
        clear he z2
        unfold strV
        generalize hst : Lib.itoa ((S.lots.length : Int) + 1) = st at *
        have HST := hid hst
        clear hst
        go_wp2
        go_ret2
        rw [HG.out]
        refine ⟨?_, HR.out.ext HX8.out, HX7.out.trans HX8.out⟩
        show Ending.returned (.tuple #[.string (strB [103, 105, 118, 101, 32] ++ strB st), .int .i64 0]) = _
        rw [strB_append]
      · skip
        go_simp
        refine hK.out _ _ ?hSe18x24 (fun hHeld => ?_)
        case hSe18x24 => exact HKEEP2.out _ (((Ext.refl W2).alloc _).drew)
        clear hK K
        (try simp only [Act.put, List.setIfInBounds_toArray, List.set_cons_zero, List.set_cons_succ])
        have y2a : ∀ o, (W2.alloc o).cell? ⟨b, 2, none⟩ = some (.slice al S.lots.length cl) := fun o => ((Ext.refl W2).alloc o).cell y2
        refine wpAnyH_one 4 rfl (by kernel_rfl) (by rfl) (fun K hK => ?_)
        go_simp
        refine hK.out _ _ ?hSe4x25 (fun hHeld => ?_)
        case hSe4x25 => exact HKEEP2.out _ (((Ext.refl W2).alloc _).drew)
        clear hK K
        (try simp only [Act.put, List.setIfInBounds_toArray, List.set_cons_zero, List.set_cons_succ])
        refine wpAnyH_one 19 rfl (by kernel_rfl) (by rfl) (fun K hK => ?_)
        refine wp_push _ _ 81 115 5 56 _ et_lot rfl w0.heap.size S.lots.length (.slice al S.lots.length cl) (lcells S.lots) (LotD.cells ⟨food, [], n, d, false⟩) W2.drew (by rfl) (HS2.out.lots.ext (Ext.refl W2).drew).1 (by rfl) (by rfl) rfl (by intro u hu; simp only [LotD.cells, List.mem_cons, List.not_mem_nil, or_false] at hu; rcases hu with rfl | rfl | rfl | rfl | rfl <;> rfl) HLT.out HS2.out.ext.size ?_
        intro v6 w6 hO6 hM6 hL6 hS6
        obtain ⟨a6, c6, rfl⟩ := hO6.shape
        have O6 := hid hO6
        have M6 := hid hM6
        have HD2 := hid (HS2.out.grow (Ext.refl W2).drew)
        have B6 := hid (HD2.out.box.moved M6.out (fun e => HD2.out.lots.notBox HD2.out.box (by decide) e))
        have q2 := B6.out.cells.2.2.1
        have f2 := B6.out.free 2
        have HK6 : Hid ((fun w' => w'.cell? ⟨w.heap.size, 0, none⟩ = some (.slice (some ⟨gw, 0, none⟩) 1 cw) ∧ w'.cell? ⟨w.heap.size, 1, none⟩ = some (.slice (some ⟨gn, 0, none⟩) 2 cn) ∧ w'.cell? ⟨gw, 0, none⟩ = some (.string (strB food)) ∧ w'.cell? ⟨gn, 0, none⟩ = some (.int .i64 n) ∧ w'.cell? ⟨gn, 1, none⟩ = some (.int .i64 d)) w6) := by
          have h7 := HKEEP2.out _ (Ext.refl W2).drew
          exact ⟨M6.out.cell (fun e => HD2.out.lots.notBox (BX.out.ext (E2w.out.drew)) (by decide) e) h7.1, M6.out.cell (fun e => HD2.out.lots.notBox (BX.out.ext (E2w.out.drew)) (by decide) e) h7.2.1, M6.out.cell (fun e => HD2.out.lots.notBox ((E1.out.trans E2w.out.drew).heap HGW.out) (by decide) e) h7.2.2.1, M6.out.cell (fun e => HD2.out.lots.notBox ((E1.out.trans E2w.out.drew).heap HGN.out) (by decide) e) h7.2.2.2.1, M6.out.cell (fun e => HD2.out.lots.notBox ((E1.out.trans E2w.out.drew).heap HGN.out) (by decide) e) h7.2.2.2.2⟩
        have M7 : Hid (Moved (fun j => j = b) w6 (w6.setCell ⟨b, 2, none⟩ (.slice a6 (S.lots.length + 1) c6))) := (Moved.refl (fun j => j = b) w6).set (.inl rfl) 2 _
        have HK7 : Hid ((fun w' => w'.cell? ⟨w.heap.size, 0, none⟩ = some (.slice (some ⟨gw, 0, none⟩) 1 cw) ∧ w'.cell? ⟨w.heap.size, 1, none⟩ = some (.slice (some ⟨gn, 0, none⟩) 2 cn) ∧ w'.cell? ⟨gw, 0, none⟩ = some (.string (strB food)) ∧ w'.cell? ⟨gn, 0, none⟩ = some (.int .i64 n) ∧ w'.cell? ⟨gn, 1, none⟩ = some (.int .i64 d)) (w6.setCell ⟨b, 2, none⟩ (.slice a6 (S.lots.length + 1) c6))) := by
          obtain ⟨h1, h2, h3, h4, h5⟩ := HK6.out
          have hb1 : ¬ w.heap.size = b := by have := HP.out.box.lt; omega
          have hb2 : ∀ {g : Nat} {cur : Array Value} {t : Nat}, w.heap[g]? = some (.cells cur t (0, 0)) → t ≠ 84 → ¬ g = b := by
            intro g cur t h hne e
            subst e
            have hbx := HP.out.box
            unfold Box5 at hbx
            rw [h] at hbx
            simp only [Option.some.injEq, Obj.cells.injEq] at hbx
            exact hne hbx.2.1
          exact ⟨M7.out.cell hb1 h1, M7.out.cell hb1 h2, M7.out.cell (hb2 HGW.out (by decide)) h3, M7.out.cell (hb2 HGN.out (by decide)) h4, M7.out.cell (hb2 HGN.out (by decide)) h5⟩
        clear hO6 hM6 hL6
        refine hK.out _ _ ?hSe19x26 (fun hHeld => ?_)
        case hSe19x26 => exact HK6.out
        clear hK K
        (try simp only [Act.put, List.setIfInBounds_toArray, List.set_cons_zero, List.set_cons_succ])
        refine wpAnyH_tk 20 (v := ?ve20x27) rfl (by kernel_rfl) (by kernel_rfl) (by kernel_rfl) (fun _ _ _ h => h) (by rfl) ?hye20x27 (by assumption) ?_
        case hye20x27 => (intro w hSw; (try dsimp only at hSw); go_simp <;> with_reducible rfl)
        (try simp only [Act.put, List.setIfInBounds_toArray, List.set_cons_zero, List.set_cons_succ])
        refine wpAnyH_tk 21 (v := ?ve21x28) rfl (by kernel_rfl) (by kernel_rfl) (by kernel_rfl) (fun _ _ _ h => h) (by rfl) ?hye21x28 (by assumption) ?_
        case hye21x28 => (intro w hSw; (try dsimp only at hSw); go_simp <;> with_reducible rfl)
        (try simp only [Act.put, List.setIfInBounds_toArray, List.set_cons_zero, List.set_cons_succ])
        refine wpAnyH_one 22 rfl (by kernel_rfl) (by rfl) (fun K hK => ?_)
        go_simp
        refine hK.out _ _ ?hSe22x29 (fun hHeld => ?_)
        case hSe22x29 => exact HK7.out
        clear hK K
        (try simp only [Act.put, List.setIfInBounds_toArray, List.set_cons_zero, List.set_cons_succ])
        refine wpAnyH_done (by kernel_rfl) ?_ _
        have MM : Hid (Moved (fun j => j = b ∨ (Value.slice al S.lots.length cl).ownBlock = some j) W2.drew (w6.setCell ⟨b, 2, none⟩ (.slice a6 (S.lots.length + 1) c6))) := (M6.out.weaken (fun _ h => .inr h)).trans M7.out (fun _ _ h => .inl h)
        have B7 : Hid (Box5 (w6.setCell ⟨b, 2, none⟩ (.slice a6 (S.lots.length + 1) c6)) b 84 _ _ _ _ _) := B6.out.set2 (.slice a6 (S.lots.length + 1) c6)
        have O7 : Hid (OwnN w0.heap.size 115 5 (w6.setCell ⟨b, 2, none⟩ (.slice a6 (S.lots.length + 1) c6)) (.slice a6 (S.lots.length + 1) c6) (S.lots.length + 1) (lcells S.lots ++ LotD.cells ⟨food, [], n, d, false⟩)) := O6.out.moved M7.out (fun j hj e => by subst e; exact O6.out.notBox B6.out (by decide) hj)
        generalize w6.setCell ⟨b, 2, none⟩ (.slice a6 (S.lots.length + 1) c6) = w7 at MM B7 O7 ⊢
        have HR : Hid (StR w7 b { S with lots := S.lots ++ [⟨food, [], n, d, false⟩] }) := by
          have hcells : ∀ j, (j = b ∨ (Value.slice al S.lots.length cl).ownBlock = some j) → ∃ c t fr, W2.drew.heap[j]? = some (.cells c t fr) := by
            rintro j (rfl | hj)
            · exact ⟨_, _, _, HD2.out.box⟩
            · obtain ⟨cur, h⟩ := HD2.out.lots.block hj
              exact ⟨_, _, _, h⟩
          obtain ⟨g1, g2⟩ := HD2.out.maps MM.out hcells
          have hrow : ∀ {e size n : Nat} {v : Value} {xs : List Value}, OwnN w0.heap.size e size W2.drew v n xs → e ≠ 84 → e ≠ 115 → OwnN w0.heap.size e size w7 v n xs := fun h h1 h2 => h.moved MM.out (fun j hj e => by
            rcases e with rfl | e
            · exact h.notBox HD2.out.box h1 hj
            · exact h.apart HD2.out.lots h2 hj e)
          have he : Ext w0 w7 := ext_moved HD2.out.ext MM.out (fun j e => by
            rcases e with rfl | e
            · exact HP.out.lob
            · exact (HD2.out.lots.1.lt j e).1)
          refine ⟨HOK.out.give HF.out (by omega) (by omega) hd0 hd1 H20.out, bm, _, _, _, es, us, bs, ⟨B7.out, g1, g2, ?_, (hrow HD2.out.hands (by decide) (by decide)).row, HD2.out.handsI.ext he, (hrow HD2.out.balls (by decide) (by decide)).row, HD2.out.ballsI.ext he⟩⟩
          show RowR w7 _ _ (S.lots ++ [_]).length (lcells (S.lots ++ [_]))
          rw [lcells_push, List.length_append]
          exact O7.out.row
        have HX7 : Hid (Ext w0 w7) := ext_moved HD2.out.ext MM.out (fun j e => by
          rcases e with rfl | e
          · exact HP.out.lob
          · exact (HD2.out.lots.1.lt j e).1)
        have HE7 : Hid (Env w7) := by
          have hx : Ext w0 w7 := HX7.out
          exact HEV.out.ext hx
        obtain ⟨-, -, z2, -, -⟩ := B7.out.cells
        clear q2 f2 y0 y1 y2 y3 y4
        go_wp2_with (fail)
        refine (Itoa_any _ w7 (by omega) (by omega) HE7.out).mono ?_
        rintro e w8 ⟨rfl, he⟩
        have hil : (strB (Lib.itoa ((S.lots.length : Int) + 1))).size ≤ 21 := by rw [strB_size]; exact Lib.itoa_length_le _ (by omega) (by omega)
        have HX8 := hid he
        clear he z2
        unfold strV
        generalize hst : Lib.itoa ((S.lots.length : Int) + 1) = st at *
        have HST := hid hst
        clear hst
        go_wp2
        go_ret2
        rw [HG.out]
        refine ⟨?_, HR.out.ext HX8.out, HX7.out.trans HX8.out⟩
        show Ending.returned (.tuple #[.string (strB [103, 105, 118, 101, 32] ++ strB st), .int .i64 0]) = _
        rw [strB_append]

end Go.Proofs.YteiamhapplnlaabGreatDoor
