/-
  Contracts of the disk's Append, Sync and Cut.
-/
import Derived.Test.YteiamhapplnlaabGreatDoorBkOp
namespace Go.Proofs.YteiamhapplnlaabGreatDoor
open Go.RowKit

theorem app_full {d : DD} {ys : List Int} (h : roomB d ys.length = false) : d.app ys = (d, 7) := by
  unfold roomB at h
  have := of_decide_eq_false h
  unfold DD.app
  rw [if_pos (by omega)]
theorem app_room {d : DD} {ys : List Int} (h : roomB d ys.length = true) : d.app ys = (opDD d { d.burn with bytes := d.bytes ++ ys }, opErr d) := by
  unfold roomB at h
  have := of_decide_eq_true h
  unfold DD.app opDD opErr
  rw [if_neg (by omega)]
  split <;> rfl
theorem sync_op (d : DD) : d.sync = (opDD d { d.burn with safe := d.bytes.length }, opErr d) := by
  unfold DD.sync opDD opErr
  split <;> rfl
theorem cut_bad {d : DD} {n : Int} (h : n < 0 ∨ (d.bytes.length : Int) < n) : d.cut n = (d, 2) := by unfold DD.cut; rw [if_pos h]
theorem cut_op {d : DD} {n : Int} (h : ¬ (n < 0 ∨ (d.bytes.length : Int) < n)) : d.cut n = (opDD d { d.burn with bytes := d.bytes.take n.toNat, safe := n }, opErr d) := by
  unfold DD.cut opDD opErr
  rw [if_neg h]
  split <;> rfl
theorem box_cell (w : World) (u : Value) (t : TypeId) : (w.alloc (.cells #[u] t)).cell? ⟨w.heap.size, 0, none⟩ = some u := cell_of_one (heap_alloc_new w _)
theorem far_own {B : Nat} {w : World} {b : Nat} {v : Value} {d : DD} (h : DiskP B w b v d) {p : Nat} (hp : w.heap.size ≤ p) : v.ownBlock ≠ some p := by
  intro e
  have := h.own.lt p e
  omega
/-- Ahead of the call blocks were laid. -/
theorem Near.ofExt {w w2 : World} {v v2 : Value} (e : Ext w w2) (h : Near w2 v v2) : Near w v v2 := fun k hk => by
  rcases h k hk with g | g
  · exact .inl g
  · exact .inr (Nat.le_trans e.size g)

set_option maxHeartbeats 2000000 in
theorem Append_any {B : Nat} (b : Nat) (v y : Value) (ys : List Int) (d : DD) (w : World) (hd : DiskP B w b v d) (hy : BytesI w y ys) (hyb : ∀ k, y.ownBlock = some k → k ≠ b) (h8 : ∀ x ∈ ys, 0 ≤ x ∧ x < 256) (hB : B ≤ w.heap.size) :
    Calls Tryz.prog 9 #[.pointer (some ⟨b, 0, none⟩), y] w fun e w' => e = .returned (.int .i64 (d.app ys).2) ∧ ∃ v', DiskP B w' b v' (d.app ys).1 ∧ Near w v v' ∧ Moved (fp b v) w w' := by
  have HD := hid hd
  have HY := hid hy
  have HYB := hid hyb
  have H8 := hid h8
  obtain ⟨ay, cy, rfl, hcy, -⟩ := id hy
  have k1 := box_cell w (.pointer (some ⟨b, 0, none⟩)) 25
  have k2 := box_cell (w.alloc (.cells #[.pointer (some ⟨b, 0, none⟩)] 25)) (.slice ay ys.length cy) 26
  rw [World.size_alloc] at k2
  have E1 := hid ((Ext.ofAlloc w (.cells #[.pointer (some ⟨b, 0, none⟩)] 25)).alloc (.cells #[.slice ay ys.length cy] 26))
  have k1' := (Ext.ofAlloc (w.alloc (.cells #[.pointer (some ⟨b, 0, none⟩)] 25)) (.cells #[.slice ay ys.length cy] 26)).cell k1
  have K1 := hid k1'
  have K2 := hid k2
  have hbw : b < w.heap.size := hd.box.lt
  have hmf : ∀ (fn : Fn) (first cap : Array Value) (w : World), (Instr.makeFunc fn first cap).run Tryz.prog w = .ok (.func fn first cap) w := fun _ _ _ _ => rfl
  obtain ⟨n, hn⟩ : ∃ n, n = ys.length := ⟨_, rfl⟩
  clear hd hy hyb h8 k1 k1' k2
  go_enter Tryz.func9, Tryz.ntmps9
  go_wp2_with (fail)
  generalize (w.alloc (.cells #[.pointer (some ⟨b, 0, none⟩)] 25)).alloc (.cells #[.slice ay ys.length cy] 26) = W at *
  refine (none_any b v d _ (HD.out.ext E1.out)).mono ?_
  rintro e w2 ⟨rfl, rfl⟩
  have c1 := K1.out
  have c2 := K2.out
  go_wp2_with (fail)
  refine (room_any b v d ys.length _ (HD.out.ext E1.out)).mono ?_
  cases hr : roomB d ys.length with
  | false =>
    have HR := hid (app_full hr)
    rintro e w3 ⟨rfl, he⟩
    have HE := hid (E1.out.trans he)
    clear he c1 c2 hr
    go_wp2
    go_ret
    exact ⟨ret_int (by rw [HR.out]), v, by rw [HR.out]; exact HD.out.ext HE.out, Near.refl _ _, HE.out.moved _⟩
  | true =>
    have HR := hid (app_room hr)
    have hrl : (d.bytes.length : Int) + ys.length ≤ d.size := by unfold roomB at hr; have := of_decide_eq_true hr; omega
    have HRL := hid hrl
    rintro e w3 ⟨rfl, he⟩
    have HE := hid (E1.out.trans he)
    have d1 := he.cell K1.out
    have d2 := he.cell K2.out
    have HD1 := hid d1
    have HD2 := hid d2
    have hsz := HE.out.size
    clear he c1 c2 hr hrl
    go_wp2_with (fail)
    refine (opApp b w.heap.size (w.heap.size + 1) _ ys v d _ (HD.out.ext HE.out) HD1.out HD2.out (HY.out.ext HE.out) (by omega) (by omega) (far_own HD.out (Nat.le_refl _)) (far_own HD.out (Nat.le_succ _)) HRL.out H8.out (by omega) HYB.out).mono ?_
    rintro e w4 ⟨rfl, v4, hd4, hn4, hm4⟩
    have HD4 := hid hd4
    have HN4 := hid hn4
    have HM4 := hid hm4
    clear hd4 hn4 hm4 d1 d2
    go_wp2
    go_ret
    exact ⟨ret_int (by rw [HR.out]), v4, by rw [HR.out]; exact HD4.out, HN4.out.ofExt HE.out, HE.out.thenMoved HM4.out⟩

set_option maxHeartbeats 2000000 in
theorem Sync_any {B : Nat} (b : Nat) (v : Value) (d : DD) (w : World) (hd : DiskP B w b v d) :
    Calls Tryz.prog 10 #[.pointer (some ⟨b, 0, none⟩)] w fun e w' => e = .returned (.int .i64 d.sync.2) ∧ ∃ v', DiskP B w' b v' d.sync.1 ∧ Near w v v' ∧ Moved (fp b v) w w' := by
  have HD := hid hd
  have k1 := box_cell w (.pointer (some ⟨b, 0, none⟩)) 25
  have E1 := hid (Ext.ofAlloc w (.cells #[.pointer (some ⟨b, 0, none⟩)] 25))
  have K1 := hid k1
  have HR := hid (sync_op d)
  have hbw : b < w.heap.size := hd.box.lt
  have hmf : ∀ (fn : Fn) (first cap : Array Value) (w : World), (Instr.makeFunc fn first cap).run Tryz.prog w = .ok (.func fn first cap) w := fun _ _ _ _ => rfl
  clear hd k1
  go_enter Tryz.func10, Tryz.ntmps10
  go_wp2_with (fail)
  generalize w.alloc (.cells #[.pointer (some ⟨b, 0, none⟩)] 25) = W at *
  refine (none_any b v d _ (HD.out.ext E1.out)).mono ?_
  rintro e w2 ⟨rfl, rfl⟩
  have c1 := K1.out
  go_wp2_with (fail)
  refine (opSync b w.heap.size v d _ (HD.out.ext E1.out) K1.out (by omega)).mono ?_
  rintro e w4 ⟨rfl, v4, hd4, hn4, hm4⟩
  have HD4 := hid hd4
  have HN4 := hid hn4
  have HM4 := hid hm4
  clear hd4 hn4 hm4 c1
  go_wp2
  go_ret
  exact ⟨ret_int (by rw [HR.out]), v4, by rw [HR.out]; exact HD4.out, HN4.out.ofExt E1.out, E1.out.thenMoved HM4.out⟩

set_option maxHeartbeats 2000000 in
theorem Cut_any {B : Nat} (b : Nat) (v : Value) (n : Int) (d : DD) (w : World) (hd : DiskP B w b v d) :
    Calls Tryz.prog 11 #[.pointer (some ⟨b, 0, none⟩), .int .i64 n] w fun e w' => e = .returned (.int .i64 (d.cut n).2) ∧ ∃ v', DiskP B w' b v' (d.cut n).1 ∧ Near w v v' ∧ Moved (fp b v) w w' := by
  have HD := hid hd
  have k1 := box_cell w (.pointer (some ⟨b, 0, none⟩)) 25
  have k2 := box_cell (w.alloc (.cells #[.pointer (some ⟨b, 0, none⟩)] 25)) (.int .i64 n) 3
  rw [World.size_alloc] at k2
  have E1 := hid ((Ext.ofAlloc w (.cells #[.pointer (some ⟨b, 0, none⟩)] 25)).alloc (.cells #[.int .i64 n] 3))
  have k1' := (Ext.ofAlloc (w.alloc (.cells #[.pointer (some ⟨b, 0, none⟩)] 25)) (.cells #[.int .i64 n] 3)).cell k1
  have K1 := hid k1'
  have K2 := hid k2
  have hbw : b < w.heap.size := hd.box.lt
  have hmf : ∀ (fn : Fn) (first cap : Array Value) (w : World), (Instr.makeFunc fn first cap).run Tryz.prog w = .ok (.func fn first cap) w := fun _ _ _ _ => rfl
  obtain ⟨av, cv, hv, -⟩ := ownB_len hd.own
  subst hv
  clear hd k1 k1' k2
  go_enter Tryz.func11, Tryz.ntmps11
  go_wp2_with (fail)
  generalize (w.alloc (.cells #[.pointer (some ⟨b, 0, none⟩)] 25)).alloc (.cells #[.int .i64 n] 3) = W at *
  refine (none_any b _ d _ (HD.out.ext E1.out)).mono ?_
  rintro e w2 ⟨rfl, rfl⟩
  have c1 := K1.out
  have c2 := K2.out
  obtain ⟨e0, -, -, -, -⟩ := (HD.out.ext E1.out).box.cells
  by_cases h0 : n < 0
  · have HR := hid (cut_bad (d := d) (n := n) (.inl h0))
    go_wp2
    go_quiet (fail)
    go_wp2
    go_ret
    exact ⟨ret_int (by rw [HR.out]), _, by rw [HR.out]; exact HD.out.ext (E1.out.drewN _), Near.refl _ _, (E1.out.drewN _).moved _⟩
  · by_cases h1 : (d.bytes.length : Int) < n
    · have HR := hid (cut_bad (d := d) (n := n) (.inr h1))
      go_wp2
      go_quiet (fail)
      go_wp2
      go_ret
      exact ⟨ret_int (by rw [HR.out]), _, by rw [HR.out]; exact HD.out.ext (E1.out.drewN _), Near.refl _ _, (E1.out.drewN _).moved _⟩
    · have HR := hid (cut_op (d := d) (n := n) (by omega))
      go_wp2
      go_quiet (fail)
      have HE := hid (E1.out.drewN nq)
      have hk : (W.drewN nq).cell? ⟨w.heap.size, 0, none⟩ = some (.pointer (some ⟨b, 0, none⟩)) := ((Ext.refl W).drewN nq).cell K1.out
      have hk2 : (W.drewN nq).cell? ⟨w.heap.size + 1, 0, none⟩ = some (.int .i64 n) := ((Ext.refl W).drewN nq).cell K2.out
      have HK1 := hid hk
      have HK2 := hid hk2
      clear c1 c2 e0
      generalize W.drewN nq = W3 at *
      go_wp2_with (fail)
      refine (opCut b w.heap.size (w.heap.size + 1) n _ d _ (HD.out.ext HE.out) HK1.out HK2.out (by omega) (by omega) (by omega) (by omega)).mono ?_
      rintro e w4 ⟨rfl, v4, hd4, hn4, hm4⟩
      have HD4 := hid hd4
      have HN4 := hid hn4
      have HM4 := hid hm4
      clear hd4 hn4 hm4 hk hk2
      go_wp2
      go_ret
      exact ⟨ret_int (by rw [HR.out]), v4, by rw [HR.out]; exact HD4.out, HN4.out.ofExt HE.out, HE.out.thenMoved HM4.out⟩

end Go.Proofs.YteiamhapplnlaabGreatDoor
