/-
  Plain lemmas of rows, blocks and slices of slices.
-/
import Derived.Test.YteiamhapplnlaabGreatDoorRepeat
import Derived.Test.YteiamhapplnlaabGreatDoorSkips
import Derived.Deep.RegionHeld3
namespace Go.Proofs.YteiamhapplnlaabGreatDoor
open Go.RowKit

def rowAt (xss : List (List Int)) (i : Int) : List Int := xss.getD i.toNat []
/-- A row of a slice of slices, found and read, in every later world. -/
theorem Rows2.at {w : World} {ao : Option Addr} {n cap : Nat} {xss : List (List Int)} (h : Rows2 w (.slice ao n cap) xss) (i : Int) (h0 : 0 ≤ i) (h1 : i < xss.length) :
    ∃ b off ar cr, ao = some ⟨b, off, none⟩ ∧ (∀ w', Ext w w' → w'.cell? ⟨b, off + i.toNat, none⟩ = some (.slice ar (rowAt xss i).length cr)) ∧ Ints w (.slice ar (rowAt xss i).length cr) (rowAt xss i) := by
  obtain ⟨hl, ao', cap', he, hcap, hc⟩ := h
  simp only [Value.slice.injEq] at he
  obtain ⟨rfl, rfl, rfl⟩ := he
  obtain ⟨b, off, u, ha, hcell, hu⟩ := hc i.toNat (by omega)
  have hr : xss[i.toNat]'(by omega) = rowAt xss i := by unfold rowAt; rw [List.getD_eq_getElem?_getD, List.getElem?_eq_getElem (by omega)]; rfl
  rw [hr] at hu
  obtain ⟨hl', ar, cr, rfl, r⟩ := hu
  exact ⟨b, off, ar, cr, ha, fun w' e => e.cell hcell, hl', ar, cr, rfl, r⟩
/-- The hands of a shift, the best first. -/
def intAt (m : List Int) (i : Int) : Int := m.getD i.toNat (-2)
theorem Ints.at {w : World} {ao : Option Addr} {n cap : Nat} {xs : List Int} (h : Ints w (.slice ao n cap) xs) (i : Int) (h0 : 0 ≤ i) (h1 : i < xs.length) :
    ∃ b off, ao = some ⟨b, off, none⟩ ∧ (∀ w', Ext w w' → w'.cell? ⟨b, off + i.toNat, none⟩ = some (.int .i64 (intAt xs i))) := by
  obtain ⟨hl, ao', cap', he, hcap, hc⟩ := h
  simp only [Value.slice.injEq] at he
  obtain ⟨rfl, rfl, rfl⟩ := he
  obtain ⟨b, off, ha, hcell⟩ := hc i.toNat (by omega)
  have hr : xs[i.toNat]'(by omega) = intAt xs i := by unfold intAt; rw [List.getD_eq_getElem?_getD, List.getElem?_eq_getElem (by omega)]; rfl
  rw [hr] at hcell
  exact ⟨b, off, ha, fun w' e => e.cell hcell⟩
theorem rowAt_mem {xss : List (List Int)} {i : Int} (h0 : 0 ≤ i) (h1 : i < xss.length) : rowAt xss i ∈ xss := by
  have hlt : i.toNat < xss.length := by omega
  have : rowAt xss i = xss[i.toNat] := by unfold rowAt; rw [List.getD_eq_getElem?_getD, List.getElem?_eq_getElem hlt]; rfl
  rw [this]; exact List.getElem_mem hlt
/-- A list of shifts as a matching. -/
def fn (m : List Int) (h : Nat) : Int := intAt m h
theorem fn_get {m : List Int} {h : Nat} (hh : h < m.length) : fn m h = m[h] := by
  unfold fn intAt; rw [Int.toNat_natCast, List.getD_eq_getElem?_getD, List.getElem?_eq_getElem hh]; rfl
theorem fn_ext {a b : List Int} (hl : a.length = b.length) (h : ∀ x, x < a.length → fn a x = fn b x) : a = b := by
  apply List.ext_getElem hl
  intro i h1 h2
  have := h i h1
  rwa [fn_get h1, fn_get h2] at this
theorem IntBlock.lt {w : World} {g : Nat} {xs : List Int} (h : IntBlock w g xs) : g < w.heap.size := lt_of_block h
theorem IntBlock.cell {w : World} {g : Nat} {xs : List Int} (h : IntBlock w g xs) {i : Nat} (hi : i < xs.length) : w.cell? ⟨g, i, none⟩ = some (.int .i64 (fn xs i)) := by
  rw [cell_of_row w g i _ _ _ h, fn_get hi]; simp [hi]
theorem IntBlock.free {w : World} {g : Nat} {xs : List Int} (h : IntBlock w g xs) (i : Nat) : w.frozen? ⟨g, i, none⟩ = false := by
  have h' : w.heap[g]? = some (.cells (xs.map (Value.int .i64)).toArray 3 (0, 0)) := h
  simp [World.frozen?, h']
theorem IntBlock.set {w : World} {g : Nat} {xs : List Int} (h : IntBlock w g xs) (i : Nat) (v : Int) : IntBlock (w.setCell ⟨g, i, none⟩ (.int .i64 v)) g (xs.set i v) := by
  have h' : w.heap[g]? = some (.cells (xs.map (Value.int .i64)).toArray 3 (0, 0)) := h
  show (w.setCell ⟨g, i, none⟩ (.int .i64 v)).heap[g]? = _
  simp only [World.setCell, Array.getElem?_modify, if_true, h', Option.map_some]
  simp [List.map_set]
theorem IntBlock.other {w : World} {g : Nat} {xs : List Int} (h : IntBlock w g xs) {g' : Nat} (hg : g' ≠ g) (i : Nat) (v : Value) : IntBlock (w.setCell ⟨g', i, none⟩ v) g xs := by
  show (w.setCell ⟨g', i, none⟩ v).heap[g]? = _
  rw [Below.heap_setCell _ _ _ _ (fun e => hg e.symm)]; exact h
theorem heap_ext {w w' : World} {g : Nat} {o : Obj} (h : w.heap[g]? = some o) (e : Ext w w') : w'.heap[g]? = some o := by rw [e.block g (lt_of_block h)]; exact h
theorem IntBlock.ext {w w' : World} {g : Nat} {xs : List Int} (h : IntBlock w g xs) (e : Ext w w') : IntBlock w' g xs := heap_ext h e
theorem IntBlock.own {w : World} {g : Nat} {xs : List Int} (h : IntBlock w g xs) {base n : Nat} (hb : base ≤ g) (hn : n = xs.length) (hm : xs.length ≤ 17592186044416) : OwnI base w (.slice (some ⟨g, 0, none⟩) n n) xs := by
  subst hn
  exact ⟨by simp, .inr ⟨g, xs.length, _, rfl, hb, h, Nat.le_refl _, by unfold maxLen; omega, by simp, by simp [List.take_of_length_le]⟩⟩
theorem IntBlock.ints {w : World} {g : Nat} {xs : List Int} (h : IntBlock w g xs) {n : Nat} (hn : n = xs.length) (hm : xs.length ≤ 17592186044416) : Ints w (.slice (some ⟨g, 0, none⟩) n n) xs := (h.own (base := 0) (Nat.zero_le _) hn hm).ints hm
/-- A block of three cells: a plan in memory of the call's own. -/
def Box3 (w : World) (b : Nat) (t : TypeId) (v0 v1 v2 : Value) : Prop := w.heap[b]? = some (.cells #[v0, v1, v2] t (0, 0))
theorem Box3.cells {w : World} {b : Nat} {t : TypeId} {v0 v1 v2 : Value} (h : Box3 w b t v0 v1 v2) : w.cell? ⟨b, 0, none⟩ = some v0 ∧ w.cell? ⟨b, 1, none⟩ = some v1 ∧ w.cell? ⟨b, 2, none⟩ = some v2 :=
  ⟨cell_of_row w b 0 _ _ _ h, cell_of_row w b 1 _ _ _ h, cell_of_row w b 2 _ _ _ h⟩
theorem Box3.ext {w w' : World} {b : Nat} {t : TypeId} {v0 v1 v2 : Value} (h : Box3 w b t v0 v1 v2) (e : Ext w w') : Box3 w' b t v0 v1 v2 := heap_ext h e
theorem Box3.other {w : World} {b : Nat} {t : TypeId} {v0 v1 v2 : Value} (h : Box3 w b t v0 v1 v2) {g' : Nat} (hg : g' ≠ b) (i : Nat) (v : Value) : Box3 (w.setCell ⟨g', i, none⟩ v) b t v0 v1 v2 := by
  show (w.setCell ⟨g', i, none⟩ v).heap[b]? = _
  rw [Below.heap_setCell _ _ _ _ (fun e => hg e.symm)]; exact h
theorem Box3.alloc (w : World) (t : TypeId) (v0 v1 v2 : Value) : Box3 (w.alloc (.cells #[v0, v1, v2] t)) w.heap.size t v0 v1 v2 := heap_alloc_new w _
theorem Ext.setCell {a w : World} (h : Ext a w) {g : Nat} (hg : a.heap.size ≤ g) (i : Nat) (v : Value) : Ext a (w.setCell ⟨g, i, none⟩ v) := Below.setCell h (p := ⟨g, i, none⟩) hg v
/-- A row of a slice of slices whose address is known. -/
theorem Rows2.row {w : World} {b off n cap : Nat} {xss : List (List Int)} (h : Rows2 w (.slice (some ⟨b, off, none⟩) n cap) xss) (k : Nat) (hk : k < xss.length) :
    b < w.heap.size ∧ ∃ ar cr, (∀ w', Ext w w' → w'.cell? ⟨b, off + k, none⟩ = some (.slice ar (rowAt xss k).length cr)) ∧ Ints w (.slice ar (rowAt xss k).length cr) (rowAt xss k) := by
  obtain ⟨b', off', ar, cr, he, hc, hi⟩ := h.at k (by omega) (by omega)
  simp only [Option.some.injEq, Addr.mk.injEq, and_true] at he
  obtain ⟨rfl, rfl⟩ := he
  rw [Int.toNat_natCast] at hc
  exact ⟨World.block_lt_of_cell? _ _ (hc w (Ext.refl w)), ar, cr, hc, hi⟩
theorem Ints.get {w : World} {ao : Option Addr} {n cap : Nat} {xs : List Int} (h : Ints w (.slice ao n cap) xs) (i : Nat) (hi : i < xs.length) :
    ∃ b off, ao = some ⟨b, off, none⟩ ∧ b < w.heap.size ∧ (∀ w', Ext w w' → w'.cell? ⟨b, off + i, none⟩ = some (.int .i64 (fn xs i))) := by
  obtain ⟨b, off, ha, hc⟩ := h.at i (by omega) (by omega)
  rw [Int.toNat_natCast] at hc
  exact ⟨b, off, ha, World.block_lt_of_cell? _ _ (hc w (Ext.refl w)), hc⟩
theorem Ints.get' {w : World} {b off n cap : Nat} {xs : List Int} (h : Ints w (.slice (some ⟨b, off, none⟩) n cap) xs) (i : Nat) (hi : i < xs.length) :
    b < w.heap.size ∧ (∀ w', Ext w w' → w'.cell? ⟨b, off + i, none⟩ = some (.int .i64 (fn xs i))) := by
  obtain ⟨b', off', he, r⟩ := h.get i hi
  simp only [Option.some.injEq, Addr.mk.injEq, and_true] at he
  obtain ⟨rfl, rfl⟩ := he
  exact r
/-- A slice of slices of the call's own, its rows too. -/
def OwnRows (B : Nat) (w : World) (v : Value) (xss : List (List Int)) : Prop :=
  ∃ us : List Value, w.ownsRow B 79 1 v us.length us ∧ us.length = xss.length ∧ ∀ i, (h1 : i < us.length) → (h2 : i < xss.length) → OwnI B w us[i] xss[i] ∧ xss[i].length ≤ 17592186044416
theorem OwnRows.ext {B : Nat} {w w' : World} {v : Value} {xss : List (List Int)} (h : OwnRows B w v xss) (e : Ext w w') : OwnRows B w' v xss := by
  obtain ⟨us, h1, h2, h3⟩ := h
  exact ⟨us, ownsRow_ext h1 e, h2, fun i a b => ⟨ownsRow_ext (h3 i a b).1 e, (h3 i a b).2⟩⟩
theorem OwnRows.base {B B' : Nat} {w : World} {v : Value} {xss : List (List Int)} (h : OwnRows B w v xss) (hb : B' ≤ B) : OwnRows B' w v xss := by
  obtain ⟨us, h1, h2, h3⟩ := h
  exact ⟨us, ownsRow_base h1 hb, h2, fun i a b => ⟨ownsRow_base (h3 i a b).1 hb, (h3 i a b).2⟩⟩
theorem OwnRows.nil (B : Nat) (w : World) : OwnRows B w (.slice none 0 0) [] := ⟨[], World.ownsRow_nil _ _ _ _, rfl, fun i h _ => by simp at h⟩
theorem OwnRows.rows2 {B : Nat} {w : World} {v : Value} {xss : List (List Int)} (h : OwnRows B w v xss) (hl : xss.length ≤ 5864062014805) : Rows2 w v xss := by
  obtain ⟨us, h1, h2, h3⟩ := h
  refine ⟨hl, ?_⟩
  obtain ⟨h0, h | ⟨g, cap, cur, rfl, hg, hh, hn, hm, hs, ht⟩⟩ := id h1
  · obtain ⟨rfl, hn⟩ := h
    exact ⟨none, 0, by rw [← h2, hn], by omega, fun i hi => by omega⟩
  · refine ⟨_, cap, by rw [h2], by omega, fun i hi => ⟨g, 0, us[i]'(by omega), rfl, ?_, ?_⟩⟩
    · have := World.ownsRow.cellAt h1 i (by omega)
      rw [Nat.zero_add, this]; simp
    · exact OwnI.ints (h3 i (by omega) hi).1 (h3 i (by omega) hi).2
theorem OwnRows.push {B : Nat} {w w' : World} {v' u : Value} {xss : List (List Int)} {xs : List Int} {us : List Value} (h1 : us.length = xss.length)
    (h2 : ∀ i, (h1 : i < us.length) → (h2 : i < xss.length) → OwnI B w us[i] xss[i] ∧ xss[i].length ≤ 17592186044416) (hu : OwnI B w u xs) (hx : xs.length ≤ 17592186044416)
    (hrow : w'.ownsRow B 79 1 v' (us.length + 1) (us ++ [u])) (hkeep : ∀ z zs, OwnI B w z zs → OwnI B w' z zs) : OwnRows B w' v' (xss ++ [xs]) := by
  refine ⟨us ++ [u], by rw [List.length_append]; exact hrow, by simp [h1], fun i a b => ?_⟩
  by_cases hi : i < us.length
  · rw [List.getElem_append_left hi]
    simp only [List.getElem_append_left (show i < xss.length by omega)]
    have := h2 i hi (by omega)
    exact ⟨hkeep _ _ this.1, this.2⟩
  · have e : i = us.length := by simp at a; omega
    subst e
    simp only [List.getElem_append_right (Nat.le_refl _), Nat.sub_self, List.getElem_cons_zero]
    have : (xss ++ [xs])[us.length]'b = xs := by simp [h1]
    rw [this]
    exact ⟨hkeep _ _ hu, hx⟩
/-- A row of ints stays what it is when another kind of row is appended to. -/
theorem ownI_grown {B : Nat} {w w' : World} {v z : Value} {us : List Value} {n : Nat} {o : Obj} {zs : List Int} (hrow : w.ownsRow B 79 1 v n us) (hg : (w.alloc o).grownBy w' v.ownBlock) (h : OwnI B w z zs) : OwnI B w' z zs := by
  have h' : OwnI B (w.alloc o) z zs := World.ownsRow.alloc h o
  refine World.ownsRow.kept h' hg ?_
  obtain ⟨-, ha | ⟨g, cap, cur, rfl, hgB, hh, r⟩⟩ := h
  · left; rw [ha.1]; rfl
  · right
    obtain ⟨-, hb | ⟨g', cap', cur', rfl, hgB', hh', r'⟩⟩ := hrow
    · rw [hb.1]; simp [Value.ownBlock]
    · simp only [Value.ownBlock, ne_eq, Option.some.injEq]
      rintro rfl
      rw [hh] at hh'; simp at hh'
theorem OwnRows.shape {B : Nat} {w : World} {v : Value} {xss : List (List Int)} (h : OwnRows B w v xss) : ∃ a n c, v = .slice a n c := by
  obtain ⟨us, ⟨-, ⟨h, -⟩ | ⟨g, cap, cur, h, -⟩⟩, -⟩ := h <;> exact ⟨_, _, _, h⟩
theorem own_shape {B e sz n : Nat} {w : World} {v : Value} {xs : List Value} (h : w.ownsRow B e sz v n xs) : ∃ a n c, v = .slice a n c := by
  obtain ⟨-, ⟨h, -⟩ | ⟨g, cap, cur, h, -⟩⟩ := h <;> exact ⟨_, _, _, h⟩
theorem Box3.free {w : World} {b : Nat} {t : TypeId} {v0 v1 v2 : Value} (h : Box3 w b t v0 v1 v2) (i : Nat) : w.frozen? ⟨b, i, none⟩ = false := by
  have h' : w.heap[b]? = some (.cells #[v0, v1, v2] t (0, 0)) := h
  simp [World.frozen?, h']
theorem frozen_ext {w w' : World} {a : Addr} {u : Value} (e : Ext w w') (hc : w.cell? a = some u) (hf : w.frozen? a = false) : w'.frozen? a = false := by
  rw [e.frozen (World.block_lt_of_cell? _ _ hc)]; exact hf
theorem OwnRows.setBelow {B : Nat} {w : World} {v : Value} {xss : List (List Int)} (h : OwnRows B w v xss) {b : Nat} (hb : b < B) (i : Nat) (u : Value) : OwnRows B (w.setCell ⟨b, i, none⟩ u) v xss := by
  obtain ⟨us, h1, h2, h3⟩ := h
  exact ⟨us, ownsRow_setCell_below h1 (a := ⟨b, i, none⟩) hb u, h2, fun j a c => ⟨ownsRow_setCell_below (h3 j a c).1 (a := ⟨b, i, none⟩) hb u, (h3 j a c).2⟩⟩
theorem OwnRows.lt {B : Nat} {w : World} {v : Value} {xss : List (List Int)} (h : OwnRows B w v xss) : ∀ k, v.ownBlock = some k → B ≤ k ∧ k < w.heap.size := by
  obtain ⟨us, h1, -⟩ := h
  exact h1.lt
/-- One row of a slice of slices of the call's own is turned. -/
theorem OwnRows.set {B : Nat} {w : World} {g n cap : Nat} {u : Value} {xss : List (List Int)} {l : List Int} (h : OwnRows B w (.slice (some ⟨g, 0, none⟩) n cap) xss) {x : Nat} (hx : x < xss.length) (hu : OwnI B w u l) (hl : l.length ≤ 17592186044416) :
    OwnRows B (w.setCell ⟨g, x, none⟩ u) (.slice (some ⟨g, 0, none⟩) n cap) (xss.set x l) ∧ (∃ v, w.cell? ⟨g, x, none⟩ = some v) ∧ w.frozen? ⟨g, x, none⟩ = false ∧ n = xss.length := by
  obtain ⟨us, h1, h2, h3⟩ := h
  have hn : n = us.length := by
    obtain ⟨-, ⟨h, -⟩ | ⟨g', cap', cur, h, -⟩⟩ := id h1 <;> simp at h
    exact h.2.1
  subst hn
  have keep : ∀ z zs, OwnI B w z zs → OwnI B (w.setCell ⟨g, x, none⟩ u) z zs := by
    intro z zs hz
    refine ownsRow_setCell_other hz (a := ⟨g, x, none⟩) ?_ u
    obtain ⟨-, ha | ⟨g1, cap1, cur1, rfl, -, hh1, -⟩⟩ := hz
    · rw [ha.1]; simp [Value.ownBlock]
    · obtain ⟨-, hb | ⟨g2, cap2, cur2, hv, -, hh2, -⟩⟩ := h1
      · simp at hb
      · simp only [Value.slice.injEq, Option.some.injEq, Addr.mk.injEq, and_true, true_and] at hv
        obtain ⟨rfl, rfl⟩ := hv
        simp only [Value.ownBlock, ne_eq, Option.some.injEq]
        rintro rfl
        rw [hh1] at hh2; simp at hh2
  have hst := (World.ownsRow.stored h1 x u).1
  have hcell := World.ownsRow.cellAt h1 x (by omega)
  refine ⟨⟨us.set x u, by rw [List.length_set]; exact hst, by rw [List.length_set, List.length_set]; exact h2, fun i a b => ?_⟩, ⟨_, hcell.trans (List.getElem?_eq_getElem (by omega))⟩, World.ownsRow.frozenAt h1 x, h2⟩
  rw [List.getElem_set, List.getElem_set]
  split
  · exact ⟨keep _ _ hu, hl⟩
  · have := h3 i (by simpa using a) (by simpa using b)
    exact ⟨keep _ _ this.1, this.2⟩
theorem OwnRows.head {B : Nat} {w : World} {v : Value} {xss : List (List Int)} (h : OwnRows B w v xss) (hne : 0 < xss.length) : ∃ g cap, v = .slice (some ⟨g, 0, none⟩) xss.length cap ∧ B ≤ g ∧ g < w.heap.size := by
  obtain ⟨us, h1, h2, h3⟩ := h
  obtain ⟨-, ⟨-, hn⟩ | ⟨g, cap, cur, hv, hg, hh, -⟩⟩ := h1
  · omega
  · exact ⟨g, cap, by rw [hv, h2], hg, lt_of_block hh⟩
theorem own_len {B e sz n : Nat} {w : World} {v : Value} {xs : List Value} (h : w.ownsRow B e sz v n xs) : ∃ a c, v = .slice a n c := by
  obtain ⟨-, ⟨h, hn⟩ | ⟨g, cap, cur, h, -⟩⟩ := h
  · exact ⟨_, _, by rw [hn]; exact h⟩
  · exact ⟨_, _, h⟩
theorem rows_one_cell {B : Nat} {w : World} {us : List Value} {xss : List (List Int)} (h : ∀ i, (h1 : i < us.length) → (h2 : i < xss.length) → OwnI B w us[i] xss[i] ∧ xss[i].length ≤ 17592186044416) (hl : us.length = xss.length) : ∀ u ∈ us, u.oneCell' = true := by
  intro u hu
  obtain ⟨i, hi, rfl⟩ := List.getElem_of_mem hu
  obtain ⟨a, n, c, e⟩ := own_shape (h i hi (by omega)).1
  rw [e]; rfl
theorem ownI_grown0 {B B' : Nat} {w w' : World} {v z : Value} {us : List Value} {n : Nat} {zs : List Int} (hrow : w.ownsRow B 79 1 v n us) (hg : w.grownBy w' v.ownBlock) (h : OwnI B' w z zs) : OwnI B' w' z zs := by
  refine World.ownsRow.kept h hg ?_
  obtain ⟨-, ha | ⟨g, cap, cur, rfl, hgB, hh, r⟩⟩ := h
  · left; rw [ha.1]; rfl
  · right
    obtain ⟨-, hb | ⟨g', cap', cur', rfl, hgB', hh', r'⟩⟩ := hrow
    · rw [hb.1]; simp [Value.ownBlock]
    · simp only [Value.ownBlock, ne_eq, Option.some.injEq]
      rintro rfl
      rw [hh] at hh'; simp at hh'

end Go.Proofs.YteiamhapplnlaabGreatDoor
