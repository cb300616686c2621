/-
  Contract of the statements' Of: a copy of a map, with at most eighteen roads.
-/
import Derived.Test.YtkbkgkmogbkabaaDoorRtMap
import Derived.Deep.LoopGhost
namespace Go.Proofs.YtkbkgkmogbkabaaDoor
open Go.RowKit

def cutM (m : MapD) : MapD := ⟨m.n, m.roads.take 18⟩
theorem Box2.below {B : Nat} {w w' : World} {b : Nat} {t : TypeId} {v0 v1 : Value} (h : Box2 w b t v0 v1) (e : Below B w w') (hb : b < B) : Box2 w' b t v0 v1 := by
  show w'.heap[b]? = _
  rw [e.block b hb]; exact h
def cutTo (rs : List RoadD) (k : Nat) : List RoadD := (rs.take k).take 18
theorem cutTo_hit {rs : List RoadD} {k : Nat} (hk : k < rs.length) (h : k < 18) : cutTo rs (k + 1) = cutTo rs k ++ [roadAt rs k] := by
  unfold cutTo
  rw [List.take_take, List.take_take, Nat.min_eq_right (by omega), Nat.min_eq_right (by omega), List.take_succ_eq_append_getElem hk, roadAt_get hk]
theorem cutTo_miss {rs : List RoadD} {k : Nat} (h : 18 ≤ k) : cutTo rs (k + 1) = cutTo rs k := by
  unfold cutTo
  rw [List.take_take, List.take_take, Nat.min_eq_left (by omega), Nat.min_eq_left (by omega)]
theorem cutTo_len (rs : List RoadD) (k : Nat) : (cutTo rs k).length ≤ 18 := by unfold cutTo; rw [List.length_take]; omega
theorem cutTo_all (rs : List RoadD) : cutTo rs rs.length = rs.take 18 := by unfold cutTo; rw [List.take_of_length_le (Nat.le_refl _)]

theorem Ext.trans' {a b c : World} {B : Nat} (h : Ext a b) (k : Below B b c) (hB : a.heap.size ≤ B) : Ext a c := Below.trans h (Below.mono k hB)

set_option maxRecDepth 20000 in
set_option maxHeartbeats 4000000 in
theorem Of_any (vr : Value) (m : MapD) (w : World) (hm : MapR w vr m) :
    Calls Tryd.prog 12 #[.agg #[.int .i64 m.n, vr]] w fun e w' => ∃ u, e = .returned (.agg #[.int .i64 m.n, u]) ∧ OwnRd w.heap.size w' u (m.roads.take 18) ∧ Ext w w' := by
  obtain ⟨ao, cap, rfl⟩ := hm.shape
  have HM := hid hm
  have hlen : m.roads.length ≤ 5864062014805 := hm.1
  obtain ⟨i0, hi, hz0, hz1, hz2⟩ := info_parts info_road
  go_enter Tryd.func12, Tryd.ntmps12
  go_wp2
  have hE0 := ((Ext.ofAlloc w (.cells #[.int .i64 m.n, .slice ao m.roads.length cap] 24)).alloc (.cells #[.int .i64 0, .slice none 0 0] 31)).alloc (.cells #[.int .i64 m.n, .slice none 0 0] 31)
  have hb2 := (Box2.alloc (w.alloc (.cells #[.int .i64 m.n, .slice ao m.roads.length cap] 24)) 31 (.int .i64 0) (.slice none 0 0)).ext (Ext.ofAlloc _ (.cells #[.int .i64 m.n, .slice none 0 0] 31))
  have hb3 := Box2.alloc ((w.alloc (.cells #[.int .i64 m.n, .slice ao m.roads.length cap] 24)).alloc (.cells #[.int .i64 0, .slice none 0 0] 31)) 31 (.int .i64 m.n) (.slice none 0 0)
  have hsz0 : (((w.alloc (.cells #[.int .i64 m.n, .slice ao m.roads.length cap] 24)).alloc (.cells #[.int .i64 0, .slice none 0 0] 31)).alloc (.cells #[.int .i64 m.n, .slice none 0 0] 31)).heap.size = w.heap.size + 3 := by simp
  rw [World.size_alloc] at hb2
  rw [World.size_alloc, World.size_alloc] at hb3
  have hown0 : (((w.alloc (.cells #[.int .i64 m.n, .slice ao m.roads.length cap] 24)).alloc (.cells #[.int .i64 0, .slice none 0 0] 31)).alloc (.cells #[.int .i64 m.n, .slice none 0 0] 31)).ownsRow (w.heap.size + 3) 55 3 (.slice none 0 0) 0 [] := World.ownsRow_nil _ _ _ _
  generalize (((w.alloc (.cells #[.int .i64 m.n, .slice ao m.roads.length cap] 24)).alloc (.cells #[.int .i64 0, .slice none 0 0] 31)).alloc (.cells #[.int .i64 m.n, .slice none 0 0] 31)) = W0 at *
  obtain ⟨b2, e2⟩ : ∃ b2, b2 = w.heap.size + 1 := ⟨_, rfl⟩
  obtain ⟨b3, e3⟩ : ∃ b3, b3 = w.heap.size + 1 + 1 := ⟨_, rfl⟩
  have E2 := hid e2
  have E3 := hid e3
  rw [← e3] at hb3
  rw [← e2] at hb2
  rw [← e3, ← e2]
  clear e2 e3
  have HE0 := hid hE0
  have HB2 := hid hb2
  have HB3 := hid hb3
  have HS0 := hid hsz0
  have HO0 := hid hown0
  clear hE0 hb2 hb3 hsz0 hown0
  go_loopg [12] m.roads.length (fun g i wr => ∃ (k : Nat) (v : Value), k + g = m.roads.length ∧ i = .int .i64 k ∧ Hid (OwnRd (w.heap.size + 3) wr v (cutTo m.roads k)) ∧ Hid (Box2 wr b2 31 (.int .i64 0) (.slice none 0 0)) ∧ Hid (Box2 wr b3 31 (.int .i64 m.n) v) ∧ Hid (w.heap.size + 3 ≤ wr.heap.size) ∧ Hid (Ext w wr))
  case atStart => exact ⟨0, _, by omega, rfl, HO0, HB2, HB3, Nat.le_of_eq HS0.out.symm, HE0⟩
  case round =>
    obtain ⟨k, v, hk, rfl, OWN, B2, B3, SZ, E⟩ := hrel
    have hkl : k ≤ m.roads.length := by omega
    have Hk := hid hk
    clear hk
    by_cases hlt : k < m.roads.length
    · obtain ⟨b, off, rfl, -, hc⟩ := Roads.get HM.out k hlt
      obtain ⟨c0, c1, c2⟩ := hc _ E.out
      obtain ⟨av, nv, cv, rfl⟩ := own_shape OWN.out
      have hsz := SZ.out
      clear hc
      by_cases h18 : k < 18
      · have Hc := hid (cutTo_hit hlt h18)
        have hcl := cutTo_len m.roads k
        generalize roadAt m.roads k = r at *
        have O2 := hid ((World.ownsRow.alloc OWN.out (.cells #[.int .i64 r.a, .int .i64 r.b, .int .i64 r.cost] 51)).alloc (.cells #[.int .i64 r.a, .int .i64 r.b, .int .i64 r.cost] 55))
        have hb3' := (B3.out.ext (Ext.ofAlloc wr (.cells #[.int .i64 r.a, .int .i64 r.b, .int .i64 r.cost] 51)))
        have HB3 := hid (hb3'.ext (Ext.ofAlloc _ (.cells #[.int .i64 r.a, .int .i64 r.b, .int .i64 r.cost] 55)))
        obtain ⟨d0, d1⟩ := hb3'.cells
        have hE := hid ((E.out.alloc (.cells #[.int .i64 r.a, .int .i64 r.b, .int .i64 r.cost] 51)).alloc (.cells #[.int .i64 r.a, .int .i64 r.b, .int .i64 r.cost] 55))
        have HB2 := hid ((B2.out.ext (Ext.ofAlloc wr (.cells #[.int .i64 r.a, .int .i64 r.b, .int .i64 r.cost] 51))).ext (Ext.ofAlloc _ (.cells #[.int .i64 r.a, .int .i64 r.b, .int .i64 r.cost] 55)))
        clear hb3'
        go_wp2_with (at_builtin; go_must (refine wpList_append_own _ rfl _ _ 29 rfl (w.heap.size + 3) 55 i0 (.agg #[.int .i64 0, .int .i64 0, .int .i64 0]) 3 24 Tryd.underlying29 hi hz0 hz1 hz2 rfl (by decide) _ _ _ rfl O2.out ⟨wr.heap.size + 1, 0, none⟩ 1 1 [.int .i64 r.a, .int .i64 r.b, .int .i64 r.cost] rfl rfl ?c1 ?c2 ?c3 ?c4 ?c5 ?_))
        case c1 =>
          have h := cell_three_new (wr.alloc (.cells #[.int .i64 r.a, .int .i64 r.b, .int .i64 r.cost] 51)) 55 (.int .i64 r.a) (.int .i64 r.b) (.int .i64 r.cost)
          rw [World.size_alloc] at h
          exact h
        case c2 => intro u hu; simp at hu; rcases hu with rfl | rfl | rfl <;> rfl
        case c3 => unfold maxLen; omega
        case c4 => omega
        case c5 => simp; omega
        intro v' w7 hown' hg _
        obtain ⟨a8, n8, c8, rfl⟩ := own_shape hown'
        have hR := OwnRd.push rfl hown'
        rw [← Hc.out] at hR
        have hszA : w.heap.size + 3 ≤ ((wr.alloc (.cells #[.int .i64 r.a, .int .i64 r.b, .int .i64 r.cost] 51)).alloc (.cells #[.int .i64 r.a, .int .i64 r.b, .int .i64 r.cost] 55)).heap.size := by simp; omega
        have hB := (Below.refl (w.heap.size + 3) _).grown hg hszA (fun k hk => (O2.out.lt k hk).1)
        have h3 := HB3.out.below hB (by have := E3.out; omega)
        have HB27 := hid (HB2.out.below hB (by have := E2.out; omega))
        have HE7 : Hid (Ext w w7) := hE.out.trans' hB (by omega)
        have HSZ7 : Hid (w.heap.size + 3 ≤ w7.heap.size) := Nat.le_trans hszA hB.size
        have HR7 := hid hR
        obtain ⟨q0, q1⟩ := h3.cells
        have f1 := h3.free 1
        have H37 := hid (h3.set1 (.slice a8 n8 c8))
        clear hown' hg hR hB h3 hszA c0 c1 c2 d0 d1
        go_wp2
        go_roundg (gk - 1)
        case rel => exact ⟨k + 1, _, by have := Hk.out; omega, by go_num, ownsRow_setCell_below HR7.out (a := ⟨b3, 1, none⟩) (by have := E3.out; show b3 < _; omega) _, HB27.out.other (by have := E2.out; have := E3.out; omega) _ _, H37.out, by show _ ≤ (w7.setCell _ _).heap.size; have := HSZ7.out; simpa using this, HE7.out.setCell (by have := E3.out; omega) _ _⟩
        case measure => have := Hk.out; omega
      · have Hc := hid (cutTo_miss (rs := m.roads) (k := k) (by omega))
        generalize roadAt m.roads k = r at *
        have HB3 := hid (B3.out.ext (Ext.ofAlloc wr (.cells #[.int .i64 r.a, .int .i64 r.b, .int .i64 r.cost] 51)))
        have HB2 := hid (B2.out.ext (Ext.ofAlloc wr (.cells #[.int .i64 r.a, .int .i64 r.b, .int .i64 r.cost] 51)))
        have HE := hid (E.out.alloc (.cells #[.int .i64 r.a, .int .i64 r.b, .int .i64 r.cost] 51))
        have O2 := hid (World.ownsRow.alloc OWN.out (.cells #[.int .i64 r.a, .int .i64 r.b, .int .i64 r.cost] 51))
        have HSZ : Hid (w.heap.size + 3 ≤ (wr.alloc (.cells #[.int .i64 r.a, .int .i64 r.b, .int .i64 r.cost] 51)).heap.size) := by show _ ≤ _; simp; omega
        go_wp2
        go_roundg (gk - 1)
        case rel => exact ⟨k + 1, _, by have := Hk.out; omega, by go_num, by rw [Hc.out]; exact O2.out, HB2, HB3, HSZ, HE⟩
        case measure => have := Hk.out; omega
    · have ek : k = m.roads.length := by omega
      have hO := OWN.out
      rw [ek, cutTo_all] at hO
      have HO := hid hO
      obtain ⟨av, nv, cv, rfl⟩ := own_shape OWN.out
      obtain ⟨d0, d1⟩ := B3.out.cells
      obtain ⟨q0, q1⟩ := B2.out.cells
      have f0 := B2.out.free 0
      have f1 := B2.out.free 1
      clear ek hO
      go_wp2
      refine bodyPost_ret (v := .agg #[.int .i64 m.n, .slice av nv cv]) (by simp [results, Tryd.results12, go_sem, q0, q1]) rfl ?_
      exact ⟨_, rfl, ownsRow_base (ownsRow_setCell_below (ownsRow_setCell_below HO.out (a := ⟨b2, 0, none⟩) (by have := E2.out; show b2 < _; omega) _) (a := ⟨b2, 1, none⟩) (by have := E2.out; show b2 < _; omega) _) (by omega), (E.out.setCell (by have := E2.out; omega) _ _).setCell (by have := E2.out; omega) _ _⟩

end Go.Proofs.YtkbkgkmogbkabaaDoor
