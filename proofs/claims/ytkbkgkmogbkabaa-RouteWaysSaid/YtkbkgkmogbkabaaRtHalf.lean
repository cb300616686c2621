/-
  A table of the call's own of which the first rows are made.
-/
import Derived.Test.YtkbkgkmogbkabaaRtMat
namespace Go.Proofs.Ytkbkgkmogbkabaa
open Go.RowKit

/-- v has n rows; the first i are rows of n numbers, D, of the call's own, and apart; the others are nil. -/
def HalfM (B : Nat) (w : World) (v : Value) (i n : Nat) (D : Nat → Nat → Int) : Prop :=
  ∃ gs : List Nat, gs.length = i ∧ i ≤ n ∧ gs.Nodup ∧ w.ownsRow B 34 1 v n (gs.map (rowV n) ++ List.replicate (n - i) (.slice none 0 0)) ∧ (∀ g ∈ gs, B ≤ g ∧ v.ownBlock ≠ some g ∧ g < w.heap.size) ∧ ∀ k, (h : k < gs.length) → IntBlock w gs[k] (rowL n (D k))

theorem HalfM.ext {B : Nat} {w w' : World} {v : Value} {i n : Nat} {D : Nat → Nat → Int} (h : HalfM B w v i n D) (e : Ext w w') : HalfM B w' v i n D := by
  obtain ⟨gs, h1, h0, h2, h3, h4, h5⟩ := h
  exact ⟨gs, h1, h0, h2, ownsRow_ext h3 e, fun g hg => ⟨(h4 g hg).1, (h4 g hg).2.1, Nat.lt_of_lt_of_le (h4 g hg).2.2 e.size⟩, fun k hk => (h5 k hk).ext e⟩
theorem HalfM.congr {B : Nat} {w : World} {v : Value} {i n : Nat} {D D' : Nat → Nat → Int} (h : HalfM B w v i n D) (e : ∀ k j, k < i → j < n → D k j = D' k j) : HalfM B w v i n D' := by
  obtain ⟨gs, h1, h0, h2, h3, h4, h5⟩ := h
  refine ⟨gs, h1, h0, h2, h3, h4, fun k hk => ?_⟩
  have he : rowL n (D k) = rowL n (D' k) := by
    unfold rowL
    exact List.map_congr_left fun j hj => e k j (by omega) (List.mem_range.1 hj)
  rw [← he]; exact h5 k hk
theorem HalfM.mat {B : Nat} {w : World} {v : Value} {n : Nat} {D : Nat → Nat → Int} (h : HalfM B w v n n D) : Mat B w v n n D := by
  obtain ⟨gs, h1, h0, h2, h3, h4, h5⟩ := h
  rw [Nat.sub_self, List.replicate_zero, List.append_nil] at h3
  exact ⟨gs, h1, h2, h3, fun g hg => ⟨(h4 g hg).1, (h4 g hg).2.1⟩, h5⟩
theorem HalfM.zero {B n : Nat} (w : World) (D : Nat → Nat → Int) (hB : B ≤ w.heap.size) (hn : n ≤ 1000) :
    HalfM B (w.alloc (.cells (madeCells #[Value.slice none 0 0] n) 34)) (.slice (some ⟨w.heap.size, 0, none⟩) n n) 0 n D := by
  have h := World.ownsRow_lit (base := B) (e := 34) (size := 1) w (madeCells #[Value.slice none 0 0] n) n hB (by unfold maxLen; omega) (by
    rw [← Array.length_toList, toList_madeCells_one]; simp)
  rw [toList_madeCells_one] at h
  exact ⟨[], rfl, Nat.zero_le _, List.nodup_nil, h, fun g hg => by simp at hg, fun k hk => by simp at hk⟩
/-- Where the next row goes. -/
theorem HalfM.next {B : Nat} {w : World} {b i n : Nat} {D : Nat → Nat → Int} (h : HalfM B w (.slice (some ⟨b, 0, none⟩) n n) i n D) (hi : i < n) :
    w.cell? ⟨b, i, none⟩ = some (.slice none 0 0) ∧ w.frozen? ⟨b, i, none⟩ = false ∧ B ≤ b := by
  obtain ⟨gs, h1, h0, h2, h3, h4, h5⟩ := h
  refine ⟨?_, World.ownsRow.frozenAt h3 i, ?_⟩
  · rw [World.ownsRow.cellAt h3 i (by omega), List.getElem?_append_right (by simp; omega)]
    rw [List.length_map, h1, Nat.sub_self, List.getElem?_replicate, if_pos (by omega)]
  · obtain ⟨-, ⟨h, -⟩ | ⟨g, cap, cur, h, hB, -⟩⟩ := h3
    · simp at h
    · simp only [Value.slice.injEq, Option.some.injEq, Addr.mk.injEq, and_true] at h
      rw [h.1]; exact hB
/-- A row more. -/
theorem HalfM.make {B : Nat} {w w1 : World} {b g i n : Nat} {D : Nat → Nat → Int} (h : HalfM B w (.slice (some ⟨b, 0, none⟩) n n) i n D) (hi : i < n) (e : Ext w w1) (hg : w.heap.size ≤ g) (hB : B ≤ w.heap.size) {f : Nat → Int} (hb : IntBlock w1 g (rowL n f)) :
    HalfM B (w1.setCell ⟨b, i, none⟩ (rowV n g)) (.slice (some ⟨b, 0, none⟩) n n) (i + 1) n (fun a => if a = i then f else D a) := by
  have hbw : b < w.heap.size := World.block_lt_of_cell? _ _ (h.next hi).1
  obtain ⟨gs, h1, h0, h2, h3, h4, h5⟩ := h
  subst h1
  have hst := (World.ownsRow.stored (ownsRow_ext h3 e) gs.length (rowV n g)).1
  have hset : (gs.map (rowV n) ++ List.replicate (n - gs.length) (Value.slice none 0 0)).set gs.length (rowV n g) = (gs ++ [g]).map (rowV n) ++ List.replicate (n - (gs.length + 1)) (.slice none 0 0) := by
    obtain ⟨m, hm⟩ : ∃ m, n - gs.length = m + 1 := ⟨n - gs.length - 1, by omega⟩
    have hm2 : n - (gs.length + 1) = m := by omega
    rw [hm, hm2, List.set_append_right _ _ (by simp), List.length_map, Nat.sub_self, List.replicate_succ, List.set_cons_zero, List.map_append, List.append_assoc]
    rfl
  rw [hset] at hst
  have hgl := hb.lt
  refine ⟨gs ++ [g], by simp, by omega, ?_, hst, ?_, ?_⟩
  · rw [List.nodup_append]
    refine ⟨h2, by simp, fun a ha b' hb' => ?_⟩
    simp at hb'
    subst hb'
    have := (h4 a ha).2.2
    omega
  · intro x hx
    rcases List.mem_append.1 hx with hx | hx
    · refine ⟨(h4 x hx).1, (h4 x hx).2.1, ?_⟩
      have := (h4 x hx).2.2
      have := e.size
      simp; omega
    · simp at hx
      subst hx
      refine ⟨by omega, ?_, by simpa using hgl⟩
      simp only [Value.ownBlock, ne_eq, Option.some.injEq]
      omega
  · intro k hk
    by_cases hik : k < gs.length
    · have e1 : (gs ++ [g])[k] = gs[k] := List.getElem_append_left hik
      show IntBlock _ (gs ++ [g])[k] (rowL n (if k = gs.length then f else D k))
      rw [if_neg (by omega), e1]
      refine ((h5 k hik).ext e).other (fun h => ?_) _ _
      have := (h4 _ (List.getElem_mem hik)).2.1
      rw [← h] at this
      exact this rfl
    · have hi2 : k = gs.length := by simp at hk; omega
      subst hi2
      have e1 : (gs ++ [g])[gs.length]'hk = g := by simp
      show IntBlock _ ((gs ++ [g])[gs.length]'hk) (rowL n (if gs.length = gs.length then f else D gs.length))
      rw [if_pos rfl, e1]
      exact hb.other (by omega) _ _
/-- A row that is made: where it is, and that it may be written. -/
theorem HalfM.row {B : Nat} {w : World} {b i n : Nat} {D : Nat → Nat → Int} (h : HalfM B w (.slice (some ⟨b, 0, none⟩) n n) i n D) {k : Nat} (hk : k < i) :
    ∃ g, w.cell? ⟨b, k, none⟩ = some (.slice (some ⟨g, 0, none⟩) n n) ∧ IntBlock w g (rowL n (D k)) ∧ B ≤ g ∧ b ≠ g ∧
      ∀ (j : Nat) (x : Int), j < n → HalfM B (w.setCell ⟨g, j, none⟩ (.int .i64 x)) (.slice (some ⟨b, 0, none⟩) n n) i n (updM D k j x) := by
  obtain ⟨gs, h1, h0, h2, h3, h4, h5⟩ := h
  subst h1
  have hc : w.cell? ⟨b, k, none⟩ = some (rowV n gs[k]) := by
    rw [World.ownsRow.cellAt h3 k (by omega), List.getElem?_append_left (by simpa using hk), List.getElem?_map, List.getElem?_eq_getElem hk]; rfl
  have hne : b ≠ gs[k] := fun e => (h4 gs[k] (List.getElem_mem hk)).2.1 (by rw [← e]; rfl)
  refine ⟨gs[k], hc, h5 k hk, (h4 _ (List.getElem_mem hk)).1, hne, fun j x hj => ?_⟩
  refine ⟨gs, rfl, h0, h2, ownsRow_setCell_other h3 (a := ⟨gs[k], j, none⟩) ?_ _, fun g hg => ⟨(h4 g hg).1, (h4 g hg).2.1, by have := (h4 g hg).2.2; simpa using this⟩, fun a ha => ?_⟩
  · exact (h4 _ (List.getElem_mem hk)).2.1
  · by_cases e : a = k
    · subst e
      have := (h5 a ha).set j x
      rw [rowL_set] at this
      have e2 : updM D a j x a = updF (D a) j x := by unfold updM; rw [if_pos rfl]
      rw [e2]; exact this
    · have e2 : updM D k j x a = D a := by unfold updM; rw [if_neg e]
      rw [e2]
      exact (h5 a ha).other (fun h => e ((List.getElem_inj h2).1 h).symm) _ _

end Go.Proofs.Ytkbkgkmogbkabaa
