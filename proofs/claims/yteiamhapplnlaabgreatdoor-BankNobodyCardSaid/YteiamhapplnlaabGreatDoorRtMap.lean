/-
  Maps: what a slice of roads reads as; roads of the call's own.
-/
import Derived.Test.YteiamhapplnlaabGreatDoorRtBase
namespace Go.Proofs.YteiamhapplnlaabGreatDoor
open Go.RowKit

/-- A road, as data. -/
structure RoadD where
  a : Int
  b : Int
  cost : Int
deriving DecidableEq
/-- A map, as data. -/
structure MapD where
  n : Int
  roads : List RoadD

def RoadD.cells (r : RoadD) : List Value := [.int .i64 r.a, .int .i64 r.b, .int .i64 r.cost]
def RoadD.val (r : RoadD) : Value := .agg #[.int .i64 r.a, .int .i64 r.b, .int .i64 r.cost]
def rcells (rs : List RoadD) : List Value := rs.flatMap RoadD.cells
theorem rcells_len (rs : List RoadD) : (rcells rs).length = rs.length * 3 := by
  induction rs with
  | nil => rfl
  | cons q rs ih =>
    have e : rcells (q :: rs) = .int .i64 q.a :: .int .i64 q.b :: .int .i64 q.cost :: rcells rs := rfl
    rw [e, List.length_cons, List.length_cons, List.length_cons, ih, List.length_cons]; omega
theorem rcells_get : ∀ (rs : List RoadD) (i : Nat) (h : i < rs.length), (rcells rs)[i * 3]? = some (.int .i64 rs[i].a) ∧ (rcells rs)[i * 3 + 1]? = some (.int .i64 rs[i].b) ∧ (rcells rs)[i * 3 + 2]? = some (.int .i64 rs[i].cost)
  | [], i, h => by simp at h
  | q :: rs, 0, h => ⟨rfl, rfl, rfl⟩
  | q :: rs, i + 1, h => by
    have ih := rcells_get rs i (by simpa using h)
    have e : rcells (q :: rs) = .int .i64 q.a :: .int .i64 q.b :: .int .i64 q.cost :: rcells rs := rfl
    rw [e, show (i + 1) * 3 = i * 3 + 1 + 1 + 1 from by omega]
    exact ih
theorem rcells_one (rs : List RoadD) : ∀ u ∈ rcells rs, u.oneCell' = true := by
  intro u hu
  obtain ⟨r, -, hr⟩ := List.mem_flatMap.1 hu
  simp [RoadD.cells] at hr
  rcases hr with rfl | rfl | rfl <;> rfl
theorem rcells_app (xs ys : List RoadD) : rcells (xs ++ ys) = rcells xs ++ rcells ys := by unfold rcells; rw [List.flatMap_append]

/-- The slice v reads as roads. -/
def Roads (w : World) (v : Value) (rs : List RoadD) : Prop :=
  rs.length ≤ 5864062014805 ∧ ∃ ao cap, v = .slice ao rs.length cap ∧ rs.length ≤ cap ∧
    ∀ i, (h : i < rs.length) → ∃ b off, ao = some ⟨b, off, none⟩ ∧ w.cell? ⟨b, off + i * 3, none⟩ = some (.int .i64 rs[i].a) ∧ w.cell? ⟨b, off + i * 3 + 1, none⟩ = some (.int .i64 rs[i].b) ∧ w.cell? ⟨b, off + i * 3 + 2, none⟩ = some (.int .i64 rs[i].cost)
theorem Roads.ext {w w' : World} {v : Value} {rs : List RoadD} (h : Roads w v rs) (e : Ext w w') : Roads w' v rs := by
  obtain ⟨hl, ao, cap, rfl, hcap, hc⟩ := h
  refine ⟨hl, ao, cap, rfl, hcap, fun i hi => ?_⟩
  obtain ⟨b, off, ha, h1, h2, h3⟩ := hc i hi
  exact ⟨b, off, ha, e.cell h1, e.cell h2, e.cell h3⟩
def roadAt (rs : List RoadD) (i : Nat) : RoadD := rs.getD i ⟨0, 0, 0⟩
theorem roadAt_get {rs : List RoadD} {i : Nat} (h : i < rs.length) : roadAt rs i = rs[i] := by
  unfold roadAt; rw [List.getD_eq_getElem?_getD, List.getElem?_eq_getElem h]; rfl
theorem roadAt_mem {rs : List RoadD} {i : Nat} (h : i < rs.length) : roadAt rs i ∈ rs := by rw [roadAt_get h]; exact List.getElem_mem h
theorem Roads.get {w : World} {ao : Option Addr} {n cap : Nat} {rs : List RoadD} (h : Roads w (.slice ao n cap) rs) (i : Nat) (hi : i < rs.length) :
    ∃ b off, ao = some ⟨b, off, none⟩ ∧ b < w.heap.size ∧ (∀ w', Ext w w' → w'.cell? ⟨b, off + i * 3, none⟩ = some (.int .i64 (roadAt rs i).a) ∧ w'.cell? ⟨b, off + i * 3 + 1, none⟩ = some (.int .i64 (roadAt rs i).b) ∧ w'.cell? ⟨b, off + i * 3 + 2, none⟩ = some (.int .i64 (roadAt rs i).cost)) := by
  obtain ⟨hl, ao', cap', he, hcap, hc⟩ := h
  simp only [Value.slice.injEq] at he
  obtain ⟨rfl, rfl, rfl⟩ := he
  obtain ⟨b, off, ha, h1, h2, h3⟩ := hc i hi
  rw [roadAt_get hi]
  exact ⟨b, off, ha, World.block_lt_of_cell? _ _ h1, fun w' e => ⟨e.cell h1, e.cell h2, e.cell h3⟩⟩
theorem Roads.shape {w : World} {v : Value} {rs : List RoadD} (h : Roads w v rs) : ∃ ao cap, v = .slice ao rs.length cap := by
  obtain ⟨-, ao, cap, rfl, -⟩ := h; exact ⟨_, _, rfl⟩
theorem Roads.some {w : World} {ao : Option Addr} {n cap : Nat} {rs : List RoadD} (h : Roads w (.slice ao n cap) rs) : (rs = [] ∨ ∃ b off, ao = some ⟨b, off, none⟩) := by
  by_cases e : 0 < rs.length
  · obtain ⟨b, off, ha, -⟩ := h.get 0 e
    exact .inr ⟨b, off, ha⟩
  · exact .inl (List.eq_nil_of_length_eq_zero (by omega))

/-- A map that is handed over: a number and roads. -/
def MapR (w : World) (vr : Value) (m : MapD) : Prop := Roads w vr m.roads
theorem MapR.ext {w w' : World} {vr : Value} {m : MapD} (h : MapR w vr m) (e : Ext w w') : MapR w' vr m := Roads.ext h e

/-- Roads of the call's own. -/
abbrev OwnRd (B : Nat) (w : World) (v : Value) (rs : List RoadD) : Prop := w.ownsRow B 64 3 v rs.length (rcells rs)
theorem OwnRd.roads {B : Nat} {w : World} {v : Value} {rs : List RoadD} (h : OwnRd B w v rs) (hl : rs.length ≤ 5864062014805) : Roads w v rs := by
  refine ⟨hl, ?_⟩
  have h0 := h
  obtain ⟨hlen, h | ⟨g, cap, cur, rfl, hg, hh, hn, hm, hs, ht⟩⟩ := h
  · obtain ⟨rfl, hn⟩ := h
    exact ⟨none, 0, by rw [hn], by omega, fun i hi => by omega⟩
  · refine ⟨_, cap, rfl, hn, fun i hi => ⟨g, 0, rfl, ?_, ?_, ?_⟩⟩
    · have h2 := World.ownsRow.cells h0 rfl (i * 3) _ (rcells_get rs i hi).1
      rw [Addr.add_lit] at h2; exact h2
    · have h2 := World.ownsRow.cells h0 rfl (i * 3 + 1) _ (rcells_get rs i hi).2.1
      rw [Addr.add_lit] at h2; exact h2
    · have h2 := World.ownsRow.cells h0 rfl (i * 3 + 2) _ (rcells_get rs i hi).2.2
      rw [Addr.add_lit] at h2; exact h2
theorem OwnRd.push {B : Nat} {w' : World} {v' : Value} {rs : List RoadD} {r : RoadD} {n : Nat} (hn : n = rs.length + 1) (h : w'.ownsRow B 64 3 v' n (rcells rs ++ r.cells)) : OwnRd B w' v' (rs ++ [r]) := by
  subst hn
  show w'.ownsRow B _ 3 v' (rs ++ [r]).length (rcells (rs ++ [r]))
  rw [List.length_append, rcells_app]
  have e : rcells [r] = r.cells := by simp [rcells]
  rw [e]; exact h
theorem info_road : (Tryz.prog.info? 64).map (fun i => (i.zero, i.size, i.bytes)) = some (some (.agg #[.int .i64 0, .int .i64 0, .int .i64 0]), 3, 24) := by kernel_rfl
theorem cell_three_new (w : World) (t : TypeId) (x y z : Value) : ∀ (j : Nat) (u : Value), [x, y, z][j]? = some u → (w.alloc (.cells #[x, y, z] t)).cell? ((⟨w.heap.size, 0, none⟩ : Addr).add j) = some u := by
  intro j u hj
  obtain ⟨c0, c1, c2⟩ := (Box3.alloc w t x y z).cells
  rw [Addr.add_lit]
  match j, hj with
  | 0, hj => simp at hj; subst hj; exact c0
  | 1, hj => simp at hj; subst hj; exact c1
  | 2, hj => simp at hj; subst hj; exact c2

/-- A block of two cells: a map in memory of the call's own. -/
def Box2 (w : World) (b : Nat) (t : TypeId) (v0 v1 : Value) : Prop := w.heap[b]? = some (.cells #[v0, v1] t (0, 0))
theorem Box2.cells {w : World} {b : Nat} {t : TypeId} {v0 v1 : Value} (h : Box2 w b t v0 v1) : w.cell? ⟨b, 0, none⟩ = some v0 ∧ w.cell? ⟨b, 1, none⟩ = some v1 :=
  ⟨cell_of_row w b 0 _ _ _ h, cell_of_row w b 1 _ _ _ h⟩
theorem Box2.ext {w w' : World} {b : Nat} {t : TypeId} {v0 v1 : Value} (h : Box2 w b t v0 v1) (e : Ext w w') : Box2 w' b t v0 v1 := heap_ext h e
theorem Box2.other {w : World} {b : Nat} {t : TypeId} {v0 v1 : Value} (h : Box2 w b t v0 v1) {g' : Nat} (hg : g' ≠ b) (i : Nat) (v : Value) : Box2 (w.setCell ⟨g', i, none⟩ v) b t v0 v1 := by
  show (w.setCell ⟨g', i, none⟩ v).heap[b]? = _
  rw [Below.heap_setCell _ _ _ _ (fun e => hg e.symm)]; exact h
theorem Box2.alloc (w : World) (t : TypeId) (v0 v1 : Value) : Box2 (w.alloc (.cells #[v0, v1] t)) w.heap.size t v0 v1 := heap_alloc_new w _
theorem Box2.free {w : World} {b : Nat} {t : TypeId} {v0 v1 : Value} (h : Box2 w b t v0 v1) (i : Nat) : w.frozen? ⟨b, i, none⟩ = false := by
  have h' : w.heap[b]? = some (.cells #[v0, v1] t (0, 0)) := h
  simp [World.frozen?, h']
theorem Box2.set1 {w : World} {b : Nat} {t : TypeId} {v0 v1 : Value} (h : Box2 w b t v0 v1) (v : Value) : Box2 (w.setCell ⟨b, 1, none⟩ v) b t v0 v := by
  have h' : w.heap[b]? = some (.cells #[v0, v1] t (0, 0)) := h
  show (w.setCell ⟨b, 1, none⟩ v).heap[b]? = _
  simp only [World.setCell, Array.getElem?_modify, if_true, h', Option.map_some]
  simp

end Go.Proofs.YteiamhapplnlaabGreatDoor
