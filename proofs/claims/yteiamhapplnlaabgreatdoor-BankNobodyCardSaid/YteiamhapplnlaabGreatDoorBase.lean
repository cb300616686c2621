/-
  What a slice of ints, a slice of such slices, reads as in a world; what is kept when a world grows. Plain lemmas for all walks of this claim.
-/
import Derived.Test.YteiamhapplnlaabGreatDoorRows
import Derived.WalkKit
import Derived.WalkSpells
import Derived.WalkLawsBesides
namespace Go.Proofs.YteiamhapplnlaabGreatDoor
open Go.RowKit

theorem hid {p : Prop} (h : p) : Hid p := h

theorem retv {a b : Value} (h : a = b) : Ending.returned a = .returned b := by rw [h]
theorem ret_int {k : IntKind} {a b : Int} (h : a = b) : Ending.returned (.int k a) = .returned (.int k b) := by rw [h]
theorem ret_bool {a b : Bool} (h : a = b) : Ending.returned (.bool a) = .returned (.bool b) := by rw [h]

/-- All blocks that were there are as they were. -/
def Ext (w w' : World) : Prop := Below w.heap.size w w'

theorem Ext.refl (w : World) : Ext w w := Below.refl _ _
theorem Ext.trans {a b c : World} (h : Ext a b) (k : Ext b c) : Ext a c := Below.trans h (Below.mono k (Below.size h))
theorem Ext.alloc {a w : World} (h : Ext a w) (o : Obj) : Ext a (w.alloc o) := Below.alloc h (Below.size h) o
theorem Ext.drew {a w : World} (h : Ext a w) : Ext a w.drew := Below.drew h
theorem Ext.drewN {a w : World} (h : Ext a w) (n : Nat) : Ext a (w.drewN n) := ⟨h.os, h.tape, h.output, h.size, h.block⟩
theorem Ext.size {a b : World} (h : Ext a b) : a.heap.size ≤ b.heap.size := Below.size h
theorem Ext.below {a b : World} (h : Ext a b) {B : Nat} (hB : B ≤ a.heap.size) : Below B a b := Below.mono h hB
theorem Ext.ofAlloc (w : World) (o : Obj) : Ext w (w.alloc o) := (Ext.refl w).alloc o

theorem Ext.cell {w w' : World} (h : Ext w w') {p : Addr} {u : Value} (hp : w.cell? p = some u) : w'.cell? p = some u := by
  have hb := World.block_lt_of_cell? _ _ hp
  rw [Below.cell h hb]; exact hp

/-- The slice v reads as xs: as ints. -/
def Ints (w : World) (v : Value) (xs : List Int) : Prop :=
  xs.length ≤ 17592186044416 ∧ ∃ ao cap, v = .slice ao xs.length cap ∧ xs.length ≤ cap ∧
    ∀ i, (h : i < xs.length) → ∃ b off, ao = some ⟨b, off, none⟩ ∧ w.cell? ⟨b, off + i, none⟩ = some (.int .i64 xs[i])

/-- The slice v reads as xss: a slice of slices of ints. -/
def Rows2 (w : World) (v : Value) (xss : List (List Int)) : Prop :=
  xss.length ≤ 5864062014805 ∧ ∃ ao cap, v = .slice ao xss.length cap ∧ xss.length ≤ cap ∧
    ∀ i, (h : i < xss.length) → ∃ b off u, ao = some ⟨b, off, none⟩ ∧ w.cell? ⟨b, off + i, none⟩ = some u ∧ Ints w u xss[i]

theorem Ints.ext {w w' : World} {v : Value} {xs : List Int} (h : Ints w v xs) (e : Ext w w') : Ints w' v xs := by
  obtain ⟨hl, ao, cap, rfl, hcap, hc⟩ := h
  refine ⟨hl, ao, cap, rfl, hcap, fun i hi => ?_⟩
  obtain ⟨b, off, ha, hcell⟩ := hc i hi
  exact ⟨b, off, ha, e.cell hcell⟩

theorem Rows2.ext {w w' : World} {v : Value} {xss : List (List Int)} (h : Rows2 w v xss) (e : Ext w w') : Rows2 w' v xss := by
  obtain ⟨hl, ao, cap, rfl, hcap, hc⟩ := h
  refine ⟨hl, ao, cap, rfl, hcap, fun i hi => ?_⟩
  obtain ⟨b, off, u, ha, hcell, hu⟩ := hc i hi
  exact ⟨b, off, u, ha, e.cell hcell, hu.ext e⟩

theorem Ints.nil (w : World) (ao : Option Addr) (cap : Nat) : Ints w (.slice ao 0 cap) [] := ⟨by simp, ao, cap, rfl, by simp, fun i hi => by simp at hi⟩
theorem Ints.take {w : World} {ao : Option Addr} {cap : Nat} {xs : List Int} (h : Ints w (.slice ao xs.length cap) xs) {k : Nat} (hk : k ≤ xs.length) : Ints w (.slice ao k cap) (xs.take k) := by
  obtain ⟨hl, ao', cap', he, hcap, hc⟩ := h
  simp only [Value.slice.injEq, true_and] at he
  obtain ⟨rfl, rfl⟩ := he
  have hlk : (xs.take k).length = k := by simp; omega
  refine ⟨by omega, ao, cap, by rw [hlk], by omega, fun i hi => ?_⟩
  obtain ⟨b, off, ha, hcell⟩ := hc i (by omega)
  exact ⟨b, off, ha, by rw [hcell]; simp⟩
theorem Ints.drew {w : World} {v : Value} {xs : List Int} (h : Ints w v xs) : Ints w.drew v xs := h.ext ((Ext.refl w).drew)

/-- A row of one-cell elements of the call's own: the slice v, of block base on, holds xs. -/
abbrev OwnI (base : Nat) (w : World) (v : Value) (xs : List Int) : Prop := w.ownsRow base 3 1 v xs.length (xs.map (Value.int .i64))

theorem OwnI.ints {base : Nat} {w : World} {v : Value} {xs : List Int} (h : OwnI base w v xs) (hl : xs.length ≤ 17592186044416) : Ints w v xs := by
  refine ⟨hl, ?_⟩
  have h0 := h
  obtain ⟨-, h | ⟨g, cap, cur, rfl, hg, hh, hn, hm, hs, ht⟩⟩ := h
  · obtain ⟨rfl, hn⟩ := h
    refine ⟨none, 0, by rw [hn], by omega, fun i hi => by omega⟩
  · refine ⟨_, cap, rfl, hn, fun i hi => ⟨g, 0, rfl, ?_⟩⟩
    have := World.ownsRow.cellAt h0 i (by omega)
    rw [Nat.zero_add, this]
    simp [hi]

theorem OwnI.ext {base : Nat} {w w' : World} {v : Value} {xs : List Int} (h : OwnI base w v xs) {B : Nat} (e : Below B w w') (hB : ∀ k, v.ownBlock = some k → k < B) : OwnI base w' v xs := by
  obtain ⟨hl, h | ⟨g, cap, cur, rfl, hg, hh, r⟩⟩ := h
  · exact ⟨hl, .inl h⟩
  · exact ⟨hl, .inr ⟨g, cap, cur, rfl, hg, by rw [e.block g (hB g rfl)]; exact hh, r⟩⟩

theorem ownsRow_below {base e size : Nat} {w w' : World} {v : Value} {n : Nat} {xs : List Value} (h : w.ownsRow base e size v n xs) {B : Nat} (eB : Below B w w') (hB : ∀ k, v.ownBlock = some k → k < B) : w'.ownsRow base e size v n xs := by
  obtain ⟨hl, h | ⟨g, cap, cur, rfl, hg, hh, r⟩⟩ := h
  · exact ⟨hl, .inl h⟩
  · exact ⟨hl, .inr ⟨g, cap, cur, rfl, hg, by rw [eB.block g (hB g rfl)]; exact hh, r⟩⟩

theorem ownsRow_ext {base e size : Nat} {w w' : World} {v : Value} {n : Nat} {xs : List Value} (h : w.ownsRow base e size v n xs) (eE : Ext w w') : w'.ownsRow base e size v n xs :=
  ownsRow_below h eE (fun k hk => (h.lt k hk).2)

theorem ownsRow_base {base base' e size : Nat} {w : World} {v : Value} {n : Nat} {xs : List Value} (h : w.ownsRow base e size v n xs) (hb : base' ≤ base) : w.ownsRow base' e size v n xs := by
  obtain ⟨hl, h | ⟨g, cap, cur, rfl, hg, r⟩⟩ := h
  · exact ⟨hl, .inl h⟩
  · exact ⟨hl, .inr ⟨g, cap, cur, rfl, by omega, r⟩⟩

/-- Behind an append of one element to a row of the call's own. -/
theorem OwnI.push {B : Nat} {w' : World} {v' : Value} {xs : List Int} {x : Int} {n : Nat} (hn : n = xs.length + 1) (h : w'.ownsRow B 3 1 v' n (xs.map (Value.int .i64) ++ [.int .i64 x])) : OwnI B w' v' (xs ++ [x]) := by
  subst hn
  show w'.ownsRow B 3 1 v' (xs ++ [x]).length ((xs ++ [x]).map (Value.int .i64))
  rw [List.length_append, List.map_append]; exact h
theorem Ext.push {W wr w' : World} {o : Obj} {B e size n : Nat} {v : Value} {xs : List Value} (hE : Ext W wr) (hown : wr.ownsRow B e size v n xs) (hB : W.heap.size ≤ B) (hg : (wr.alloc o).grownBy w' v.ownBlock) : Ext W w' :=
  Below.grown (hE.alloc o) hg (by have := hE.size; simp; omega) (fun k hk => Nat.le_trans hB (hown.lt k hk).1)

/-- A plan, as data. -/
structure PlanD where
  hands : List (List Int)
  shifts : List (List Int)
  places : List Int

/-- The three fields of a plan read so. -/
def PlanR (w : World) (vh vs vp : Value) (p : PlanD) : Prop := Rows2 w vh p.hands ∧ Rows2 w vs p.shifts ∧ Ints w vp p.places

theorem PlanR.ext {w w' : World} {vh vs vp : Value} {p : PlanD} (h : PlanR w vh vs vp p) (e : Ext w w') : PlanR w' vh vs vp p :=
  ⟨h.1.ext e, h.2.1.ext e, h.2.2.ext e⟩

theorem info_int : (Tryz.prog.info? 3).map (fun i => (i.zero, i.size, i.bytes)) = some (some (.int .i64 0), 1, 8) := by kernel_rfl
theorem info_ints : (Tryz.prog.info? 79).map (fun i => (i.zero, i.size, i.bytes)) = some (some (.slice none 0 0), 1, 24) := by kernel_rfl

theorem int_oneCell (zs : List Int) : ∀ u ∈ zs.map (Value.int .i64), u.oneCell' = true := ints_oneCell .i64 zs

end Go.Proofs.YteiamhapplnlaabGreatDoor
