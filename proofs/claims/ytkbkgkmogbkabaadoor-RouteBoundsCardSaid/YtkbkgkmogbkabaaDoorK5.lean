/-
  Texts of this claim, part 5: RtFrame, RtOf.
-/
import Derived.ProofKit
import Derived.Lib.SmallJoins
import Derived.Deep.Slices
import Derived.Deep.Strs
import Derived.SizedLaws
import Derived.Deep.LoopGhost
import Derived.Test.YtkbkgkmogbkabaaDoorK4
/-
  How the arguments of the statements are opened: a map, a slice of ints.
-/
namespace Go.Proofs.YtkbkgkmogbkabaaDoor
open Go.ChangeShapes Go.WideShapes Go.ChangeAt Go.RowKit Go.Joins Go.Deep

theorem own : ownKnob Tryd.prog.godebug = none := by kernel_rfl
theorem laidOut : laidOutB Tryd.prog = true := by kernel_rfl
theorem cells_int : Tryd.prog.cellsOf 3 = 1 := by kernel_rfl
theorem cells_road : Tryd.prog.cellsOf 51 = 3 := by kernel_rfl
theorem cells_map : Tryd.prog.cellsOf 24 = 2 := by kernel_rfl
theorem bytes_int : Tryd.prog.bytesOf 3 = 8 := by kernel_rfl
theorem bytes_road : Tryd.prog.bytesOf 51 = 24 := by kernel_rfl

theorem plain_addr {w : World} {a : Addr} {v : Value} (h : w.cell? (a.add 0) = some v) : ∃ b off, a = ⟨b, off, none⟩ := by
  obtain ⟨b, off, spot⟩ := a
  have hspot : spot = none := by simpa [Addr.add] using World.cell?_spot h
  subst hspot
  exact ⟨b, off, rfl⟩

section
variable {H : Type} {enc : TypeId × Value → H} {W : World}

set_option maxRecDepth 100000 in
theorem ints_of_trod {fuel : Nat} {c : Value} {y : DataW H × List MemPlace} (h : DataW.trod enc Tryd.prog W 0 (fun _ => true) true fuel 25 [c] = some y)
    (hw : ∀ n ∈ DataW.weights Tryd.prog 25 y.1, n ≤ reachBytes) : ∃ xs, Ints W c xs := by
  rcases open_ints Tryd.underlying25 Tryd.underlying3 cells_int h with ⟨hcs, _⟩ | ⟨a, len, cap, zs, hcs, _, hl, hm, hz, hx, hcell, _⟩
  · simp only [List.cons.injEq, and_true] at hcs
    subst hcs
    exact ⟨[], Ints.nil _ _ _⟩
  · simp only [List.cons.injEq, and_true] at hcs
    subst hcs
    simp only [if_true] at hz
    subst hx
    have hb := hw ((zs.take len).length * 8 + (zs.drop len).length * 8) (by
      simp only [DataW.weights, Tryd.underlying25, List.mem_cons]
      left
      rw [bytes_int, Nat.add_mul]; simp [lits])
    simp only [reachBytes, List.length_take, List.length_drop] at hb
    have hlen : (zs.take len).length = len := by simp; omega
    refine ⟨zs.take len, by omega, some a, cap, by rw [hlen], by omega, fun i hi => ?_⟩
    obtain ⟨b, off, rfl⟩ := plain_addr (hcell 0 (by omega))
    refine ⟨b, off, rfl, ?_⟩
    have := hcell i (by omega)
    rw [Addr.add_lit] at this
    rw [this]
    simp [List.getD, List.getElem?_eq_getElem (show i < zs.length by omega)]

instance : Inhabited RoadD := ⟨⟨0, 0, 0⟩⟩
set_option maxRecDepth 100000 in
/-- A road's three cells. -/
theorem road_of_trod {fuel : Nat} {cs : List Value} {y : DataW H × List MemPlace} (h : DataW.trod enc Tryd.prog W 0 (fun _ => true) true fuel 51 cs = some y) :
    ∃ r : RoadD, cs = r.cells := by
  obtain ⟨y0, y1, y2, n, -, hl, h0, h1, h2⟩ := trod_struct3 Tryd.underlying51 h
  rw [cells_road] at hl
  match cs, hl with
  | [c0, c1, c2], _ =>
    have g0 : DataW.trod enc Tryd.prog W 0 (fun _ => true) true n 3 [c0] = some y0 := h0
    have g1 : DataW.trod enc Tryd.prog W 0 (fun _ => true) true n 3 [c1] = some y1 := h1
    have g2 : DataW.trod enc Tryd.prog W 0 (fun _ => true) true n 3 [c2] = some y2 := h2
    obtain ⟨a, ha, -⟩ := DataW.trod_int Tryd.underlying3 g0
    obtain ⟨b, hb, -⟩ := DataW.trod_int Tryd.underlying3 g1
    obtain ⟨c, hc, -⟩ := DataW.trod_int Tryd.underlying3 g2
    simp only [List.cons.injEq, and_true] at ha hb hc
    exact ⟨⟨a, b, c⟩, by rw [ha, hb, hc]; rfl⟩

set_option maxRecDepth 100000 in
theorem roads_of_trod {fuel : Nat} {c : Value} {y : DataW H × List MemPlace} (h : DataW.trod enc Tryd.prog W 0 (fun _ => true) true fuel 22 [c] = some y)
    (hw : ∀ n ∈ DataW.weights Tryd.prog 22 y.1, n ≤ reachBytes) : ∃ rs, Roads W c rs := by
  rcases open_slice Tryd.underlying22 h with ⟨hcs, _⟩ | ⟨a, len, cap, m, n, D, Pl, hcs, _, hl, hm, hmm, hx, hel⟩
  · simp only [List.cons.injEq, and_true] at hcs
    subst hcs
    exact ⟨[], by simp, none, 0, rfl, by simp, fun i hi => by simp at hi⟩
  · simp only [List.cons.injEq, and_true] at hcs
    subst hcs
    simp only [if_true] at hmm
    subst hmm
    subst hx
    have hb := hw (len * 24 + (m - len) * 24) (by
      simp only [DataW.weights, Tryd.underlying22, List.mem_cons]
      left
      rw [bytes_road, Nat.add_mul]; simp)
    simp only [reachBytes] at hb
    have each : ∀ i, i < len → ∃ r : RoadD, W.cells? 0 (a.add (i * 3)) 3 = some r.cells := fun i hi => by
      obtain ⟨cs', h1, h2⟩ := hel i (by omega)
      obtain ⟨r, rfl⟩ := road_of_trod h2
      rw [cells_road] at h1
      exact ⟨r, h1⟩
    obtain ⟨X, hX⟩ := choose_lt (α := RoadD) (p := fun i r => W.cells? 0 (a.add (i * 3)) 3 = some r.cells) each
    refine ⟨(List.range len).map X, by simp; omega, some a, m, by simp, by simp; omega, fun i hi => ?_⟩
    have hi' : i < len := by simpa using hi
    have hc0 := (World.cells?_some (hX 0 (by omega))).2.2 0 (by omega)
    rw [add_add, Nat.zero_mul, Nat.add_zero] at hc0
    obtain ⟨b, off, rfl⟩ := plain_addr hc0
    have hc := (World.cells?_some (hX i hi')).2.2
    have c0 := hc 0 (by omega)
    have c1 := hc 1 (by omega)
    have c2 := hc 2 (by omega)
    rw [add_add, Addr.add_lit] at c0 c1 c2
    simp only [List.getElem_map, List.getElem_range]
    exact ⟨b, off, rfl, c0, c1, c2⟩

set_option maxRecDepth 100000 in
theorem map_of_trod {r : Reach} {b0 : Nat} {v : Value} {d : DataW H} {ps : List MemPlace} (hv : Value.okWide Tryd.prog W r b0 24 v)
    (h : DataW.Trod enc Tryd.prog W 0 (fun _ => true) true 24 v d ps) (hw : ∀ n ∈ DataW.weights Tryd.prog 24 d, n ≤ reachBytes) :
    ∃ vr m, v = .agg #[.int .i64 m.n, vr] ∧ MapR W vr m := by
  obtain ⟨c0, c1, y0, y1, n, rfl, rfl, rfl, hy0, hy1⟩ := open_agg2 Tryd.underlying24 (by kernel_rfl) cells_map hv h
  have key : ∀ n, n ∈ DataW.weights Tryd.prog 22 y1.1 → n ≤ reachBytes := by
    intro n hn
    refine hw n ?_
    simp only [DataW.weights, Tryd.underlying24, DataW.weightsEach, List.map_cons, List.map_nil, List.mem_append, List.append_nil]
    exact .inr hn
  obtain ⟨k, hk, -⟩ := DataW.trod_int Tryd.underlying3 hy0
  obtain ⟨rs, h1⟩ := roads_of_trod hy1 key
  simp only [List.cons.injEq, and_true] at hk
  exact ⟨c1, ⟨k, rs⟩, by rw [hk], h1⟩

set_option maxRecDepth 100000 in
theorem ints_of_arg {r : Reach} {b0 : Nat} {v : Value} {d : DataW H} {ps : List MemPlace} (hv : Value.okWide Tryd.prog W r b0 25 v)
    (h : DataW.Trod enc Tryd.prog W 0 (fun _ => true) true 25 v d ps) (hw : ∀ n ∈ DataW.weights Tryd.prog 25 d, n ≤ reachBytes) : ∃ xs, Ints W v xs := by
  obtain ⟨a0, len, cap, rfl⟩ := okWide_slice Tryd.underlying25 hv
  obtain ⟨fuel, hf⟩ := h
  exact ints_of_trod (y := (d, ps)) (by simpa [Value.cells] using hf) hw

theorem weights_at {ts : List TypeId} {ds : List (DataW H)} (hsz : (DataW.weightsEach Tryd.prog ts ds).all (· ≤ reachBytes) = true) {j : Nat} {t : TypeId} {d : DataW H} (ht : ts[j]? = some t) (hd : ds[j]? = some d) :
    ∀ n ∈ DataW.weights Tryd.prog t d, n ≤ reachBytes := fun n hn => by
  have := List.all_eq_true.1 hsz n (DataW.weights_mem_each ht hd n hn)
  simpa using this
end

end Go.Proofs.YtkbkgkmogbkabaaDoor

/-
  Contract of the statements' Of: a copy of a map, with at most eighteen roads.
-/
namespace Go.Proofs.YtkbkgkmogbkabaaDoor
open Go.RowKit

def cutM (m : MapD) : MapD := ⟨m.n, m.roads.take 18⟩
theorem Box2.below {B : Nat} {w w' : World} {b : Nat} {t : TypeId} {v0 v1 : Value} (h : Box2 w b t v0 v1) (e : Below B w w') (hb : b < B) : Box2 w' b t v0 v1 := by
  show w'.heap[b]? = _
  rw [e.block b hb]; exact h
def cutTo (rs : List RoadD) (k : Nat) : List RoadD := (rs.take k).take 18
theorem cutTo_hit {rs : List RoadD} {k : Nat} (hk : k < rs.length) (h : k < 18) : cutTo rs (k + 1) = cutTo rs k ++ [roadAt rs k] := by
  unfold cutTo
  rw [List.take_take, List.take_take, Nat.min_eq_right (by omega), Nat.min_eq_right (by omega), List.take_succ_eq_append_getElem hk, roadAt_get hk]
theorem cutTo_miss {rs : List RoadD} {k : Nat} (h : 18 ≤ k) : cutTo rs (k + 1) = cutTo rs k := by
  unfold cutTo
  rw [List.take_take, List.take_take, Nat.min_eq_left (by omega), Nat.min_eq_left (by omega)]
theorem cutTo_len (rs : List RoadD) (k : Nat) : (cutTo rs k).length ≤ 18 := by unfold cutTo; rw [List.length_take]; omega
theorem cutTo_all (rs : List RoadD) : cutTo rs rs.length = rs.take 18 := by unfold cutTo; rw [List.take_of_length_le (Nat.le_refl _)]

theorem Ext.trans' {a b c : World} {B : Nat} (h : Ext a b) (k : Below B b c) (hB : a.heap.size ≤ B) : Ext a c := Below.trans h (Below.mono k hB)

set_option maxRecDepth 20000 in
set_option maxHeartbeats 4000000 in
theorem Of_any (vr : Value) (m : MapD) (w : World) (hm : MapR w vr m) :
    Calls Tryd.prog 12 #[.agg #[.int .i64 m.n, vr]] w fun e w' => ∃ u, e = .returned (.agg #[.int .i64 m.n, u]) ∧ OwnRd w.heap.size w' u (m.roads.take 18) ∧ Ext w w' := by
  obtain ⟨ao, cap, rfl⟩ := hm.shape
  have HM := hid hm
  have hlen : m.roads.length ≤ 5864062014805 := hm.1
  obtain ⟨i0, hi, hz0, hz1, hz2⟩ := info_parts info_road
  go_enter Tryd.func12, Tryd.ntmps12
  go_wp2
  have hE0 := ((Ext.ofAlloc w (.cells #[.int .i64 m.n, .slice ao m.roads.length cap] 24)).alloc (.cells #[.int .i64 0, .slice none 0 0] 31)).alloc (.cells #[.int .i64 m.n, .slice none 0 0] 31)
  have hb2 := (Box2.alloc (w.alloc (.cells #[.int .i64 m.n, .slice ao m.roads.length cap] 24)) 31 (.int .i64 0) (.slice none 0 0)).ext (Ext.ofAlloc _ (.cells #[.int .i64 m.n, .slice none 0 0] 31))
  have hb3 := Box2.alloc ((w.alloc (.cells #[.int .i64 m.n, .slice ao m.roads.length cap] 24)).alloc (.cells #[.int .i64 0, .slice none 0 0] 31)) 31 (.int .i64 m.n) (.slice none 0 0)
  have hsz0 : (((w.alloc (.cells #[.int .i64 m.n, .slice ao m.roads.length cap] 24)).alloc (.cells #[.int .i64 0, .slice none 0 0] 31)).alloc (.cells #[.int .i64 m.n, .slice none 0 0] 31)).heap.size = w.heap.size + 3 := by simp
  rw [World.size_alloc] at hb2
  rw [World.size_alloc, World.size_alloc] at hb3
  have hown0 : (((w.alloc (.cells #[.int .i64 m.n, .slice ao m.roads.length cap] 24)).alloc (.cells #[.int .i64 0, .slice none 0 0] 31)).alloc (.cells #[.int .i64 m.n, .slice none 0 0] 31)).ownsRow (w.heap.size + 3) 55 3 (.slice none 0 0) 0 [] := World.ownsRow_nil _ _ _ _
  generalize (((w.alloc (.cells #[.int .i64 m.n, .slice ao m.roads.length cap] 24)).alloc (.cells #[.int .i64 0, .slice none 0 0] 31)).alloc (.cells #[.int .i64 m.n, .slice none 0 0] 31)) = W0 at *
  obtain ⟨b2, e2⟩ : ∃ b2, b2 = w.heap.size + 1 := ⟨_, rfl⟩
  obtain ⟨b3, e3⟩ : ∃ b3, b3 = w.heap.size + 1 + 1 := ⟨_, rfl⟩
  have E2 := hid e2
  have E3 := hid e3
  rw [← e3] at hb3
  rw [← e2] at hb2
  rw [← e3, ← e2]
  clear e2 e3
  have HE0 := hid hE0
  have HB2 := hid hb2
  have HB3 := hid hb3
  have HS0 := hid hsz0
  have HO0 := hid hown0
  clear hE0 hb2 hb3 hsz0 hown0
  go_loopg [12] m.roads.length (fun g i wr => ∃ (k : Nat) (v : Value), k + g = m.roads.length ∧ i = .int .i64 k ∧ Hid (OwnRd (w.heap.size + 3) wr v (cutTo m.roads k)) ∧ Hid (Box2 wr b2 31 (.int .i64 0) (.slice none 0 0)) ∧ Hid (Box2 wr b3 31 (.int .i64 m.n) v) ∧ Hid (w.heap.size + 3 ≤ wr.heap.size) ∧ Hid (Ext w wr))
  case atStart => exact ⟨0, _, by omega, rfl, HO0, HB2, HB3, Nat.le_of_eq HS0.out.symm, HE0⟩
  case round =>
    obtain ⟨k, v, hk, rfl, OWN, B2, B3, SZ, E⟩ := hrel
    have hkl : k ≤ m.roads.length := by omega
    have Hk := hid hk
    clear hk
    by_cases hlt : k < m.roads.length
    · obtain ⟨b, off, rfl, -, hc⟩ := Roads.get HM.out k hlt
      obtain ⟨c0, c1, c2⟩ := hc _ E.out
      obtain ⟨av, nv, cv, rfl⟩ := own_shape OWN.out
      have hsz := SZ.out
      clear hc
      by_cases h18 : k < 18
      · have Hc := hid (cutTo_hit hlt h18)
        have hcl := cutTo_len m.roads k
        generalize roadAt m.roads k = r at *
        have O2 := hid ((World.ownsRow.alloc OWN.out (.cells #[.int .i64 r.a, .int .i64 r.b, .int .i64 r.cost] 51)).alloc (.cells #[.int .i64 r.a, .int .i64 r.b, .int .i64 r.cost] 55))
        have hb3' := (B3.out.ext (Ext.ofAlloc wr (.cells #[.int .i64 r.a, .int .i64 r.b, .int .i64 r.cost] 51)))
        have HB3 := hid (hb3'.ext (Ext.ofAlloc _ (.cells #[.int .i64 r.a, .int .i64 r.b, .int .i64 r.cost] 55)))
        obtain ⟨d0, d1⟩ := hb3'.cells
        have hE := hid ((E.out.alloc (.cells #[.int .i64 r.a, .int .i64 r.b, .int .i64 r.cost] 51)).alloc (.cells #[.int .i64 r.a, .int .i64 r.b, .int .i64 r.cost] 55))
        have HB2 := hid ((B2.out.ext (Ext.ofAlloc wr (.cells #[.int .i64 r.a, .int .i64 r.b, .int .i64 r.cost] 51))).ext (Ext.ofAlloc _ (.cells #[.int .i64 r.a, .int .i64 r.b, .int .i64 r.cost] 55)))
        clear hb3'
        go_wp2_with (at_builtin; go_must (refine wpList_append_own _ rfl _ _ 29 rfl (w.heap.size + 3) 55 i0 (.agg #[.int .i64 0, .int .i64 0, .int .i64 0]) 3 24 Tryd.underlying29 hi hz0 hz1 hz2 rfl (by decide) _ _ _ rfl O2.out ⟨wr.heap.size + 1, 0, none⟩ 1 1 [.int .i64 r.a, .int .i64 r.b, .int .i64 r.cost] rfl rfl ?c1 ?c2 ?c3 ?c4 ?c5 ?_))
        case c1 =>
          have h := cell_three_new (wr.alloc (.cells #[.int .i64 r.a, .int .i64 r.b, .int .i64 r.cost] 51)) 55 (.int .i64 r.a) (.int .i64 r.b) (.int .i64 r.cost)
          rw [World.size_alloc] at h
          exact h
        case c2 => intro u hu; simp at hu; rcases hu with rfl | rfl | rfl <;> rfl
        case c3 => unfold maxLen; omega
        case c4 => omega
        case c5 => simp; omega
        intro v' w7 hown' hg _
        obtain ⟨a8, n8, c8, rfl⟩ := own_shape hown'
        have hR := OwnRd.push rfl hown'
        rw [← Hc.out] at hR
        have hszA : w.heap.size + 3 ≤ ((wr.alloc (.cells #[.int .i64 r.a, .int .i64 r.b, .int .i64 r.cost] 51)).alloc (.cells #[.int .i64 r.a, .int .i64 r.b, .int .i64 r.cost] 55)).heap.size := by simp; omega
        have hB := (Below.refl (w.heap.size + 3) _).grown hg hszA (fun k hk => (O2.out.lt k hk).1)
        have h3 := HB3.out.below hB (by have := E3.out; omega)
        have HB27 := hid (HB2.out.below hB (by have := E2.out; omega))
        have HE7 : Hid (Ext w w7) := hE.out.trans' hB (by omega)
        have HSZ7 : Hid (w.heap.size + 3 ≤ w7.heap.size) := Nat.le_trans hszA hB.size
        have HR7 := hid hR
        obtain ⟨q0, q1⟩ := h3.cells
        have f1 := h3.free 1
        have H37 := hid (h3.set1 (.slice a8 n8 c8))
        clear hown' hg hR hB h3 hszA c0 c1 c2 d0 d1
        go_wp2
        go_roundg (gk - 1)
        case rel => exact ⟨k + 1, _, by have := Hk.out; omega, by go_num, ownsRow_setCell_below HR7.out (a := ⟨b3, 1, none⟩) (by have := E3.out; show b3 < _; omega) _, HB27.out.other (by have := E2.out; have := E3.out; omega) _ _, H37.out, by show _ ≤ (w7.setCell _ _).heap.size; have := HSZ7.out; simpa using this, HE7.out.setCell (by have := E3.out; omega) _ _⟩
        case measure => have := Hk.out; omega
      · have Hc := hid (cutTo_miss (rs := m.roads) (k := k) (by omega))
        generalize roadAt m.roads k = r at *
        have HB3 := hid (B3.out.ext (Ext.ofAlloc wr (.cells #[.int .i64 r.a, .int .i64 r.b, .int .i64 r.cost] 51)))
        have HB2 := hid (B2.out.ext (Ext.ofAlloc wr (.cells #[.int .i64 r.a, .int .i64 r.b, .int .i64 r.cost] 51)))
        have HE := hid (E.out.alloc (.cells #[.int .i64 r.a, .int .i64 r.b, .int .i64 r.cost] 51))
        have O2 := hid (World.ownsRow.alloc OWN.out (.cells #[.int .i64 r.a, .int .i64 r.b, .int .i64 r.cost] 51))
        have HSZ : Hid (w.heap.size + 3 ≤ (wr.alloc (.cells #[.int .i64 r.a, .int .i64 r.b, .int .i64 r.cost] 51)).heap.size) := by show _ ≤ _; simp; omega
        go_wp2
        go_roundg (gk - 1)
        case rel => exact ⟨k + 1, _, by have := Hk.out; omega, by go_num, by rw [Hc.out]; exact O2.out, HB2, HB3, HSZ, HE⟩
        case measure => have := Hk.out; omega
    · have ek : k = m.roads.length := by omega
      have hO := OWN.out
      rw [ek, cutTo_all] at hO
      have HO := hid hO
      obtain ⟨av, nv, cv, rfl⟩ := own_shape OWN.out
      obtain ⟨d0, d1⟩ := B3.out.cells
      obtain ⟨q0, q1⟩ := B2.out.cells
      have f0 := B2.out.free 0
      have f1 := B2.out.free 1
      clear ek hO
      go_wp2
      refine bodyPost_ret (v := .agg #[.int .i64 m.n, .slice av nv cv]) (by simp [results, Tryd.results12, go_sem, q0, q1]) rfl ?_
      exact ⟨_, rfl, ownsRow_base (ownsRow_setCell_below (ownsRow_setCell_below HO.out (a := ⟨b2, 0, none⟩) (by have := E2.out; show b2 < _; omega) _) (a := ⟨b2, 1, none⟩) (by have := E2.out; show b2 < _; omega) _) (by omega), (E.out.setCell (by have := E2.out; omega) _ _).setCell (by have := E2.out; omega) _ _⟩

end Go.Proofs.YtkbkgkmogbkabaaDoor
