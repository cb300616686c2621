/-
  Contracts of the statements' plan, row and disks.
-/
import Derived.Test.YteiamhapplnlaabGreatDoorRtOf
import Derived.Test.YteiamhapplnlaabGreatDoorBkCrash
import Derived.Test.YteiamhapplnlaabGreatDoorBsIter
import Derived.Test.YteiamhapplnlaabGreatDoorRtValid
import Derived.Deep.LoopGhost
namespace Go.Proofs.YteiamhapplnlaabGreatDoor
open Go.RowKit

set_option maxRecDepth 20000 in
set_option maxHeartbeats 4000000 in
theorem Plan9_any (vr : Value) (m : MapD) (w : World) (hm : MapR w vr m) :
    Calls Tryz.prog 8 #[.agg #[.int .i64 m.n, vr]] w fun e w' => ∃ u, e = .returned (.agg #[.int .i64 m.n, u]) ∧ OwnRd w.heap.size w' u (m.roads.take 18) ∧ Ext w w' := by
  obtain ⟨ao, cap, rfl⟩ := hm.shape
  have HM := hid hm
  have hlen : m.roads.length ≤ 5864062014805 := hm.1
  obtain ⟨i0, hi, hz0, hz1, hz2⟩ := info_parts info_road
  go_enter Tryz.func8, Tryz.ntmps8
  go_wp2
  have hE0 := ((Ext.ofAlloc w (.cells #[.int .i64 m.n, .slice ao m.roads.length cap] 24)).alloc (.cells #[.int .i64 0, .slice none 0 0] 39)).alloc (.cells #[.int .i64 m.n, .slice none 0 0] 39)
  have hb2 := (Box2.alloc (w.alloc (.cells #[.int .i64 m.n, .slice ao m.roads.length cap] 24)) 39 (.int .i64 0) (.slice none 0 0)).ext (Ext.ofAlloc _ (.cells #[.int .i64 m.n, .slice none 0 0] 39))
  have hb3 := Box2.alloc ((w.alloc (.cells #[.int .i64 m.n, .slice ao m.roads.length cap] 24)).alloc (.cells #[.int .i64 0, .slice none 0 0] 39)) 39 (.int .i64 m.n) (.slice none 0 0)
  have hsz0 : (((w.alloc (.cells #[.int .i64 m.n, .slice ao m.roads.length cap] 24)).alloc (.cells #[.int .i64 0, .slice none 0 0] 39)).alloc (.cells #[.int .i64 m.n, .slice none 0 0] 39)).heap.size = w.heap.size + 3 := by simp
  rw [World.size_alloc] at hb2
  rw [World.size_alloc, World.size_alloc] at hb3
  have hown0 : (((w.alloc (.cells #[.int .i64 m.n, .slice ao m.roads.length cap] 24)).alloc (.cells #[.int .i64 0, .slice none 0 0] 39)).alloc (.cells #[.int .i64 m.n, .slice none 0 0] 39)).ownsRow (w.heap.size + 3) 64 3 (.slice none 0 0) 0 [] := World.ownsRow_nil _ _ _ _
  generalize (((w.alloc (.cells #[.int .i64 m.n, .slice ao m.roads.length cap] 24)).alloc (.cells #[.int .i64 0, .slice none 0 0] 39)).alloc (.cells #[.int .i64 m.n, .slice none 0 0] 39)) = W0 at *
  obtain ⟨b2, e2⟩ : ∃ b2, b2 = w.heap.size + 1 := ⟨_, rfl⟩
  obtain ⟨b3, e3⟩ : ∃ b3, b3 = w.heap.size + 1 + 1 := ⟨_, rfl⟩
  have E2 := hid e2
  have E3 := hid e3
  rw [← e3] at hb3
  rw [← e2] at hb2
  rw [← e3, ← e2]
  clear e2 e3
  have HE0 := hid hE0
  have HB2 := hid hb2
  have HB3 := hid hb3
  have HS0 := hid hsz0
  have HO0 := hid hown0
  clear hE0 hb2 hb3 hsz0 hown0
  go_loopg [12] m.roads.length (fun g i wr => ∃ (k : Nat) (v : Value), k + g = m.roads.length ∧ i = .int .i64 k ∧ Hid (OwnRd (w.heap.size + 3) wr v (cutTo m.roads k)) ∧ Hid (Box2 wr b2 39 (.int .i64 0) (.slice none 0 0)) ∧ Hid (Box2 wr b3 39 (.int .i64 m.n) v) ∧ Hid (w.heap.size + 3 ≤ wr.heap.size) ∧ Hid (Ext w wr))
  case atStart => exact ⟨0, _, by omega, rfl, HO0, HB2, HB3, Nat.le_of_eq HS0.out.symm, HE0⟩
  case round =>
    obtain ⟨k, v, hk, rfl, OWN, B2, B3, SZ, E⟩ := hrel
    have hkl : k ≤ m.roads.length := by omega
    have Hk := hid hk
    clear hk
    by_cases hlt : k < m.roads.length
    · obtain ⟨b, off, rfl, -, hc⟩ := Roads.get HM.out k hlt
      obtain ⟨c0, c1, c2⟩ := hc _ E.out
      obtain ⟨av, nv, cv, rfl⟩ := own_shape OWN.out
      have hsz := SZ.out
      clear hc
      by_cases h18 : k < 18
      · have Hc := hid (cutTo_hit hlt h18)
        have hcl := cutTo_len m.roads k
        generalize roadAt m.roads k = r at *
        have O2 := hid ((World.ownsRow.alloc OWN.out (.cells #[.int .i64 r.a, .int .i64 r.b, .int .i64 r.cost] 65)).alloc (.cells #[.int .i64 r.a, .int .i64 r.b, .int .i64 r.cost] 64))
        have hb3' := (B3.out.ext (Ext.ofAlloc wr (.cells #[.int .i64 r.a, .int .i64 r.b, .int .i64 r.cost] 65)))
        have HB3 := hid (hb3'.ext (Ext.ofAlloc _ (.cells #[.int .i64 r.a, .int .i64 r.b, .int .i64 r.cost] 64)))
        obtain ⟨d0, d1⟩ := hb3'.cells
        have hE := hid ((E.out.alloc (.cells #[.int .i64 r.a, .int .i64 r.b, .int .i64 r.cost] 65)).alloc (.cells #[.int .i64 r.a, .int .i64 r.b, .int .i64 r.cost] 64))
        have HB2 := hid ((B2.out.ext (Ext.ofAlloc wr (.cells #[.int .i64 r.a, .int .i64 r.b, .int .i64 r.cost] 65))).ext (Ext.ofAlloc _ (.cells #[.int .i64 r.a, .int .i64 r.b, .int .i64 r.cost] 64)))
        clear hb3'
        go_wp2_with (at_builtin; go_must (refine wpList_append_own _ rfl _ _ 37 rfl (w.heap.size + 3) 64 i0 (.agg #[.int .i64 0, .int .i64 0, .int .i64 0]) 3 24 Tryz.underlying37 hi hz0 hz1 hz2 rfl (by decide) _ _ _ rfl O2.out ⟨wr.heap.size + 1, 0, none⟩ 1 1 [.int .i64 r.a, .int .i64 r.b, .int .i64 r.cost] rfl rfl ?c1 ?c2 ?c3 ?c4 ?c5 ?_))
        case c1 =>
          have h := cell_three_new (wr.alloc (.cells #[.int .i64 r.a, .int .i64 r.b, .int .i64 r.cost] 65)) 64 (.int .i64 r.a) (.int .i64 r.b) (.int .i64 r.cost)
          rw [World.size_alloc] at h
          exact h
        case c2 => intro u hu; simp at hu; rcases hu with rfl | rfl | rfl <;> rfl
        case c3 => unfold maxLen; omega
        case c4 => omega
        case c5 => simp; omega
        intro v' w7 hown' hg _
        obtain ⟨a8, n8, c8, rfl⟩ := own_shape hown'
        have hR := OwnRd.push rfl hown'
        rw [← Hc.out] at hR
        have hszA : w.heap.size + 3 ≤ ((wr.alloc (.cells #[.int .i64 r.a, .int .i64 r.b, .int .i64 r.cost] 65)).alloc (.cells #[.int .i64 r.a, .int .i64 r.b, .int .i64 r.cost] 64)).heap.size := by simp; omega
        have hB := (Below.refl (w.heap.size + 3) _).grown hg hszA (fun k hk => (O2.out.lt k hk).1)
        have h3 := HB3.out.below hB (by have := E3.out; omega)
        have HB27 := hid (HB2.out.below hB (by have := E2.out; omega))
        have HE7 : Hid (Ext w w7) := hE.out.trans' hB (by omega)
        have HSZ7 : Hid (w.heap.size + 3 ≤ w7.heap.size) := Nat.le_trans hszA hB.size
        have HR7 := hid hR
        obtain ⟨q0, q1⟩ := h3.cells
        have f1 := h3.free 1
        have H37 := hid (h3.set1 (.slice a8 n8 c8))
        clear hown' hg hR hB h3 hszA c0 c1 c2 d0 d1
        go_wp2
        go_roundg (gk - 1)
        case rel => exact ⟨k + 1, _, by have := Hk.out; omega, by go_num, ownsRow_setCell_below HR7.out (a := ⟨b3, 1, none⟩) (by have := E3.out; show b3 < _; omega) _, HB27.out.other (by have := E2.out; have := E3.out; omega) _ _, H37.out, by show _ ≤ (w7.setCell _ _).heap.size; have := HSZ7.out; simpa using this, HE7.out.setCell (by have := E3.out; omega) _ _⟩
        case measure => have := Hk.out; omega
      · have Hc := hid (cutTo_miss (rs := m.roads) (k := k) (by omega))
        generalize roadAt m.roads k = r at *
        have HB3 := hid (B3.out.ext (Ext.ofAlloc wr (.cells #[.int .i64 r.a, .int .i64 r.b, .int .i64 r.cost] 65)))
        have HB2 := hid (B2.out.ext (Ext.ofAlloc wr (.cells #[.int .i64 r.a, .int .i64 r.b, .int .i64 r.cost] 65)))
        have HE := hid (E.out.alloc (.cells #[.int .i64 r.a, .int .i64 r.b, .int .i64 r.cost] 65))
        have O2 := hid (World.ownsRow.alloc OWN.out (.cells #[.int .i64 r.a, .int .i64 r.b, .int .i64 r.cost] 65))
        have HSZ : Hid (w.heap.size + 3 ≤ (wr.alloc (.cells #[.int .i64 r.a, .int .i64 r.b, .int .i64 r.cost] 65)).heap.size) := by show _ ≤ _; simp; omega
        go_wp2
        go_roundg (gk - 1)
        case rel => exact ⟨k + 1, _, by have := Hk.out; omega, by go_num, by rw [Hc.out]; exact O2.out, HB2, HB3, HSZ, HE⟩
        case measure => have := Hk.out; omega
    · have ek : k = m.roads.length := by omega
      have hO := OWN.out
      rw [ek, cutTo_all] at hO
      have HO := hid hO
      obtain ⟨av, nv, cv, rfl⟩ := own_shape OWN.out
      obtain ⟨d0, d1⟩ := B3.out.cells
      obtain ⟨q0, q1⟩ := B2.out.cells
      have f0 := B2.out.free 0
      have f1 := B2.out.free 1
      clear ek hO
      go_wp2
      refine bodyPost_ret (v := .agg #[.int .i64 m.n, .slice av nv cv]) (by simp [results, Tryz.results8, go_sem, q0, q1]) rfl ?_
      exact ⟨_, rfl, ownsRow_base (ownsRow_setCell_below (ownsRow_setCell_below HO.out (a := ⟨b2, 0, none⟩) (by have := E2.out; show b2 < _; omega) _) (a := ⟨b2, 1, none⟩) (by have := E2.out; show b2 < _; omega) _) (by omega), (E.out.setCell (by have := E2.out; omega) _ _).setCell (by have := E2.out; omega) _ _⟩


def rowRoads (k : Nat) : List RoadD := (List.range k).map fun (i : Nat) => ⟨(i : Int), (i : Int) + 1, 2⟩
theorem rowRoads_succ (k : Nat) : rowRoads (k + 1) = rowRoads k ++ [⟨(k : Int), (k : Int) + 1, 2⟩] := by unfold rowRoads; rw [List.range_succ, List.map_append]; rfl
theorem rowRoads_len (k : Nat) : (rowRoads k).length = k := by unfold rowRoads; simp
theorem et_road5 : ET 22 65 3 24 (.agg #[.int .i64 0, .int .i64 0, .int .i64 0]) := ⟨Tryz.underlying22, by kernel_rfl, by kernel_rfl, by decide, by decide⟩
/-- A row of roads of the reference's kind. -/
theorem own5_roads {B : Nat} {w : World} {v : Value} {rs : List RoadD} (h : w.ownsRow B 65 3 v rs.length (rcells rs)) (hl : rs.length ≤ 5864062014805) : Roads w v rs := by
  refine ⟨hl, ?_⟩
  obtain ⟨hln, ⟨rfl, h0⟩ | ⟨g, cap, cur, rfl, -, hh, h1, h2, h3, h4⟩⟩ := id h
  · exact ⟨none, 0, by rw [h0], by omega, fun i hi => by omega⟩
  · refine ⟨_, cap, rfl, h1, fun i hi => ⟨g, 0, rfl, ?_⟩⟩
    obtain ⟨a1, a2, a3⟩ := rcells_get rs i hi
    refine ⟨?_, ?_, ?_⟩
    · have := World.ownsRow.cells h rfl (i * 3) _ a1
      rw [Addr.add_lit] at this; exact this
    · have := World.ownsRow.cells h rfl (i * 3 + 1) _ a2
      rw [Addr.add_lit] at this; exact this
    · have := World.ownsRow.cells h rfl (i * 3 + 2) _ a3
      rw [Addr.add_lit] at this; exact this

theorem rowRoads_ok : mapOk ⟨8, rowRoads 7⟩ = true := by decide
set_option maxHeartbeats 4000000 in
set_option maxRecDepth 100000 in
theorem row_any (w : World) :
    Calls Tryz.prog 36 #[] w fun e w' => ∃ u, e = .returned (.agg #[.int .i64 8, u]) ∧ Roads w' u (rowRoads 7) ∧ Ext w w' := by
  have EW : Hid (Ext w ((w.alloc (.cells #[.int .i64 0, .slice none 0 0] 24)).alloc (.cells #[.int .i64 8, .slice none 0 0] 24))) := (Ext.ofAlloc w _).alloc _
  have B0 : Hid (Box2 ((w.alloc (.cells #[.int .i64 0, .slice none 0 0] 24)).alloc (.cells #[.int .i64 8, .slice none 0 0] 24)) w.heap.size 24 (.int .i64 0) (.slice none 0 0)) := Box2.ext (Box2.alloc w _ _ _) (Ext.ofAlloc _ _)
  have B1 : Hid (Box2 ((w.alloc (.cells #[.int .i64 0, .slice none 0 0] 24)).alloc (.cells #[.int .i64 8, .slice none 0 0] 24)) (w.heap.size + 1) 24 (.int .i64 8) (.slice none 0 0)) := by
    have := Box2.alloc (w.alloc (.cells #[.int .i64 0, .slice none 0 0] 24)) 24 (.int .i64 8) (.slice none 0 0)
    rw [World.size_alloc] at this
    exact this
  go_enter Tryz.func36, Tryz.ntmps36
  go_wp2
  generalize (w.alloc (.cells #[.int .i64 0, .slice none 0 0] 24)).alloc (.cells #[.int .i64 8, .slice none 0 0] 24) = W at *
  go_loopg [4] 7 (fun g i wr => ∃ (k : Nat) (v : Value), k + g = 7 ∧ i = .int .i64 k ∧ Hid (Moved (fun j => j = w.heap.size + 1) W wr) ∧ Hid (Box2 wr (w.heap.size + 1) 24 (.int .i64 8) v) ∧ Hid (OwnN W.heap.size 65 3 wr v k (rcells (rowRoads k))))
  case atStart => exact ⟨0, .slice none 0 0, by omega, rfl, Moved.refl _ _, B1, OwnN.empty _ _ _ _⟩
  case round =>
    obtain ⟨k, v, hk, rfl, MV, BX, OW⟩ := hrel
    have Hk := hid hk
    obtain ⟨av, cv, rfl⟩ := OW.out.shape
    have hk7 : k ≤ 7 := by omega
    clear hk
    have B0r : Hid (Box2 wr w.heap.size 24 (.int .i64 0) (.slice none 0 0)) := MV.out.heap (by omega) B0.out
    by_cases hlt : k < 7
    · obtain ⟨c0, c1⟩ := BX.out.cells
      have hki : (k : Int) < 7 := by omega
      have hkn : k ≤ 1000000 := by omega
      have HKN := hid hkn
      have HSW := hid MV.out.size
      clear hkn
      go_wp2_with (first
        | (at_builtin; refine wpl_push rfl _ _ 22 65 3 24 _ et_road5 rfl W.heap.size k (.slice av k cv) (rcells (rowRoads k)) [.int .i64 k, .int .i64 ((k : Int) + 1), .int .i64 2] wr rfl OW.out.1 rfl rfl rfl (fun u hu => by simp at hu; rcases hu with rfl | rfl | rfl <;> rfl) HKN.out HSW.out ?_
           intro v5 w5 hO5 hM5 hL5 hS5
           obtain ⟨a5, c5, rfl⟩ := hO5.shape
           have BX5 := hid (Box2.moved BX.out hM5 (fun e => OW.out.notBox BX.out (by decide) e))
           have M5 := hid hM5
           have O5 := hid hO5
           have f1 := BX5.out.free 1
           have c1' := BX5.out.cells.2
           clear c0 c1 hM5 hO5 hL5)
        | go_in)
      have M6 : Hid (Moved (fun j => j = w.heap.size + 1) w5 (w5.setCell ⟨w.heap.size + 1, 1, none⟩ (.slice a5 (k + 1) c5))) := (Moved.refl (fun j => j = w.heap.size + 1) w5).set (.inl rfl) 1 _
      have BX6 : Hid (Box2 (w5.setCell ⟨w.heap.size + 1, 1, none⟩ (.slice a5 (k + 1) c5)) (w.heap.size + 1) 24 (.int .i64 8) (.slice a5 (k + 1) c5)) := BX5.out.set1 _
      have O6 : Hid (OwnN W.heap.size 65 3 (w5.setCell ⟨w.heap.size + 1, 1, none⟩ (.slice a5 (k + 1) c5)) (.slice a5 (k + 1) c5) (k + 1) (rcells (rowRoads k) ++ [.int .i64 k, .int .i64 ((k : Int) + 1), .int .i64 2])) := O5.out.moved M6.out (fun j hj e => by subst e; exact O5.out.notBox BX5.out (by decide) hj)
      have MV6 : Hid (Moved (fun j => j = w.heap.size + 1) W (w5.setCell ⟨w.heap.size + 1, 1, none⟩ (.slice a5 (k + 1) c5))) := MV.out.trans ((M5.out.weaken (G := fun j => j = w.heap.size + 1 ∨ (Value.slice av k cv).ownBlock = some j) (fun _ h => .inr h)).trans (M6.out.weaken (fun _ h => .inl h)) (fun _ _ h => h)) (fun j hj e => by
        rcases e with e | e
        · exact e
        · have := (OW.out.1.lt j e).1; omega)
      generalize w5.setCell ⟨w.heap.size + 1, 1, none⟩ (.slice a5 (k + 1) c5) = w6 at *
      go_roundg (gk - 1)
      case rel => exact ⟨k + 1, _, by have := Hk.out; omega, by go_num, MV6, BX6, by show OwnN _ _ _ _ _ _ _; rw [rowRoads_succ, rcells_app]; exact O6.out⟩
      case measure => have := Hk.out; omega
    · obtain rfl : k = 7 := by omega
      obtain ⟨c0, c1⟩ := BX.out.cells
      obtain ⟨e0, e1⟩ := B0r.out.cells
      have f0 := B0r.out.free 0
      have f1 := B0r.out.free 1
      go_wp2
      have M6 : Moved (fun j => j = w.heap.size) wr ((wr.setCell ⟨w.heap.size, 0, none⟩ (.int .i64 8)).setCell ⟨w.heap.size, 1, none⟩ (.slice av 7 cv)) := ((Moved.refl (fun j => j = w.heap.size) wr).set (.inl rfl) 0 _).set (.inl rfl) 1 _
      refine bodyPost_ret (results_cell_row rfl _ _ w.heap.size _ _ _ _ rfl ((B0r.out.set0 (.int .i64 8)).set1 (.slice av 7 cv)) Tryz.underlying24 (by kernel_rfl) (by kernel_rfl)) rfl ?_
      refine ⟨_, rfl, own5_roads (B := W.heap.size) (OW.out.moved M6 (fun j hj e => by subst e; exact OW.out.notBox B0r.out (by decide) hj)).1 (by decide), ?_⟩
      exact ext_moved (ext_moved EW.out MV.out (fun j e => by omega)) M6 (fun j e => by omega)

end Go.Proofs.YteiamhapplnlaabGreatDoor
