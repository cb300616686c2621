/-
  A table of the call's own: rows of its own, each a block of ints.
-/
import Derived.Test.YteiamhapplnlaabGreatDoorRtBase
namespace Go.Proofs.YteiamhapplnlaabGreatDoor
open Go.RowKit

/-- The first n values of a function. -/
def rowL (n : Nat) (f : Nat → Int) : List Int := (List.range n).map f
theorem rowL_len (n : Nat) (f : Nat → Int) : (rowL n f).length = n := by simp [rowL]
theorem rowL_fn {n : Nat} {f : Nat → Int} {j : Nat} (h : j < n) : fn (rowL n f) j = f j := by
  rw [fn_get (by rw [rowL_len]; exact h)]; simp [rowL]
def updF (f : Nat → Int) (j : Nat) (x : Int) : Nat → Int := fun k => if k = j then x else f k
theorem rowL_set {n : Nat} {f : Nat → Int} {j : Nat} {x : Int} : (rowL n f).set j x = rowL n (updF f j x) := by
  apply List.ext_getElem
  · simp [rowL]
  · intro k h1 h2
    rw [List.getElem_set]
    simp only [rowL, List.getElem_map, List.getElem_range, updF]
    by_cases e : j = k
    · simp [e]
    · have e' : ¬ k = j := fun h => e h.symm
      simp [e, e']
theorem rowL_rep (n : Nat) (x : Int) : List.replicate n x = rowL n (fun _ => x) := by
  apply List.ext_getElem
  · simp [rowL]
  · intro k h1 h2; simp [rowL]
def updM (D : Nat → Nat → Int) (i j : Nat) (x : Int) : Nat → Nat → Int := fun a => if a = i then updF (D i) j x else D a
def rowV (n : Nat) (g : Nat) : Value := .slice (some ⟨g, 0, none⟩) n n

/-- v is a table of k rows of n numbers, D; all its blocks are of the call's own, and apart. -/
def Mat (B : Nat) (w : World) (v : Value) (k n : Nat) (D : Nat → Nat → Int) : Prop :=
  ∃ gs : List Nat, gs.length = k ∧ gs.Nodup ∧ w.ownsRow B 79 1 v k (gs.map (rowV n)) ∧ (∀ g ∈ gs, B ≤ g ∧ v.ownBlock ≠ some g) ∧ ∀ i, (h : i < gs.length) → IntBlock w gs[i] (rowL n (D i))

theorem Mat.nil (B : Nat) (w : World) (n : Nat) (D : Nat → Nat → Int) : Mat B w (.slice none 0 0) 0 n D :=
  ⟨[], rfl, List.nodup_nil, World.ownsRow_nil _ _ _ _, fun g h => by simp at h, fun i h => by simp at h⟩
theorem Mat.ext {B : Nat} {w w' : World} {v : Value} {k n : Nat} {D : Nat → Nat → Int} (h : Mat B w v k n D) (e : Ext w w') : Mat B w' v k n D := by
  obtain ⟨gs, h1, h2, h3, h4, h5⟩ := h
  exact ⟨gs, h1, h2, ownsRow_ext h3 e, h4, fun i hi => (h5 i hi).ext e⟩
theorem Mat.base {B B' : Nat} {w : World} {v : Value} {k n : Nat} {D : Nat → Nat → Int} (h : Mat B w v k n D) (hb : B' ≤ B) : Mat B' w v k n D := by
  obtain ⟨gs, h1, h2, h3, h4, h5⟩ := h
  exact ⟨gs, h1, h2, ownsRow_base h3 hb, fun g hg => ⟨Nat.le_trans hb (h4 g hg).1, (h4 g hg).2⟩, h5⟩
theorem Mat.congr {B : Nat} {w : World} {v : Value} {k n : Nat} {D D' : Nat → Nat → Int} (h : Mat B w v k n D) (e : ∀ i j, i < k → j < n → D i j = D' i j) : Mat B w v k n D' := by
  obtain ⟨gs, h1, h2, h3, h4, h5⟩ := h
  refine ⟨gs, h1, h2, h3, h4, fun i hi => ?_⟩
  have he : rowL n (D i) = rowL n (D' i) := by
    unfold rowL
    exact List.map_congr_left fun j hj => e i j (by omega) (List.mem_range.1 hj)
  rw [← he]; exact h5 i hi
theorem Mat.shape {B : Nat} {w : World} {v : Value} {k n : Nat} {D : Nat → Nat → Int} (h : Mat B w v k n D) : ∃ a c, v = .slice a k c := by
  obtain ⟨gs, -, -, ⟨-, ⟨h, h2⟩ | ⟨g, cap, cur, h, -⟩⟩, -⟩ := h
  · exact ⟨_, _, by rw [h, h2]⟩
  · exact ⟨_, _, h⟩
theorem Mat.head {B : Nat} {w : World} {v : Value} {k n : Nat} {D : Nat → Nat → Int} (h : Mat B w v k n D) (hk : 0 < k) : ∃ b c, v = .slice (some ⟨b, 0, none⟩) k c ∧ B ≤ b := by
  obtain ⟨gs, -, -, ⟨-, ⟨h, h2⟩ | ⟨g, cap, cur, h, hb, -⟩⟩, -⟩ := h
  · omega
  · exact ⟨_, _, h, hb⟩
/-- A row: where it is, and that it may be written. -/
theorem Mat.row {B : Nat} {w : World} {b c k n : Nat} {D : Nat → Nat → Int} (h : Mat B w (.slice (some ⟨b, 0, none⟩) k c) k n D) {i : Nat} (hi : i < k) :
    ∃ g, w.cell? ⟨b, i, none⟩ = some (rowV n g) ∧ IntBlock w g (rowL n (D i)) ∧ B ≤ g ∧ b ≠ g ∧
      (∀ (j : Nat) (x : Int), j < n → Mat B (w.setCell ⟨g, j, none⟩ (.int .i64 x)) (.slice (some ⟨b, 0, none⟩) k c) k n (updM D i j x)) ∧
      (∀ i2, i2 < k → i2 ≠ i → ∃ g2, g2 ≠ g ∧ w.cell? ⟨b, i2, none⟩ = some (rowV n g2) ∧ IntBlock w g2 (rowL n (D i2))) := by
  obtain ⟨gs, h1, h2, h3, h4, h5⟩ := h
  subst h1
  have cellAt : ∀ a, (ha : a < gs.length) → w.cell? ⟨b, a, none⟩ = some (rowV n gs[a]) := by
    intro a ha
    have := World.ownsRow.cells h3 rfl a (rowV n gs[a]) (by rw [List.getElem?_map, List.getElem?_eq_getElem ha]; rfl)
    rw [Addr.add_lit, Nat.zero_add] at this; exact this
  have hne : b ≠ gs[i] := fun e => (h4 gs[i] (List.getElem_mem hi)).2 (by rw [← e]; rfl)
  refine ⟨gs[i], cellAt i hi, h5 i hi, (h4 _ (List.getElem_mem hi)).1, hne, ?_, ?_⟩
  · intro j x hj
    refine ⟨gs, rfl, h2, ownsRow_setCell_other h3 (a := ⟨gs[i], j, none⟩) ?_ _, h4, fun a ha => ?_⟩
    · exact (h4 _ (List.getElem_mem hi)).2
    · by_cases e : a = i
      · subst e
        have := (h5 a ha).set j x
        rw [rowL_set] at this
        have e2 : updM D a j x a = updF (D a) j x := by unfold updM; rw [if_pos rfl]
        rw [e2]; exact this
      · have e2 : updM D i j x a = D a := by unfold updM; rw [if_neg e]
        rw [e2]
        exact (h5 a ha).other (fun h => e ((List.getElem_inj h2).1 h).symm) _ _
  · intro i2 hi2 hne2
    exact ⟨gs[i2], fun h => hne2 ((List.getElem_inj h2).1 h), cellAt i2 hi2, h5 i2 hi2⟩

theorem Mat.rows2 {B : Nat} {w : World} {v : Value} {k n : Nat} {D : Nat → Nat → Int} (h : Mat B w v k n D) (hk : k ≤ 1000) (hn : n ≤ 1000) : Rows2 w v ((List.range k).map (fun i => rowL n (D i))) := by
  obtain ⟨gs, h1, h2, h3, h4, h5⟩ := h
  subst h1
  refine ⟨by simp; omega, ?_⟩
  obtain ⟨hl, ⟨h, hz⟩ | ⟨g, cap, cur, h, -, -, hcap, -⟩⟩ := id h3
  · exact ⟨none, 0, by rw [h]; simp [hz], by rw [List.length_map, List.length_range]; omega, fun i hi => by rw [List.length_map, List.length_range] at hi; omega⟩
  · subst h
    refine ⟨some ⟨g, 0, none⟩, cap, by simp, by simpa using hcap, fun i hi => ?_⟩
    have hi' : i < gs.length := by simpa using hi
    refine ⟨g, 0, rowV n gs[i], rfl, ?_, ?_⟩
    · have := World.ownsRow.cells h3 rfl i (rowV n gs[i]) (by rw [List.getElem?_map, List.getElem?_eq_getElem hi']; rfl)
      rw [Addr.add_lit] at this; exact this
    · rw [List.getElem_map, List.getElem_range]
      exact (h5 i hi').ints (by rw [rowL_len]) (by rw [rowL_len]; omega)

/-- A row more. -/
theorem Mat.push {B : Nat} {w0 : World} {v : Value} {k n : Nat} {D : Nat → Nat → Int} (h : Mat B w0 v k n D) (hB : B ≤ w0.heap.size) :
    ∃ us : List Value, us.length = k ∧ w0.ownsRow B 79 1 v k us ∧
      ∀ (wA w' : World) (v' : Value) (g : Nat) (f : Nat → Int), Ext w0 wA → w0.heap.size ≤ g → IntBlock wA g (rowL n f) → w'.ownsRow B 79 1 v' (k + 1) (us ++ [rowV n g]) → wA.grownBy w' v.ownBlock →
        (v'.ownBlock = v.ownBlock ∨ ∃ q, v'.ownBlock = some q ∧ wA.heap.size ≤ q) → Mat B w' v' (k + 1) n (fun a => if a = k then f else D a) := by
  obtain ⟨gs, h1, h2, h3, h4, h5⟩ := h
  subst h1
  refine ⟨gs.map (rowV n), by simp, h3, fun wA w' v' g f e hg hb hown hgr hat => ?_⟩
  have hlt : ∀ x ∈ gs, x < w0.heap.size := by
    intro x hx
    obtain ⟨i, hi, rfl⟩ := List.getElem_of_mem hx
    exact (h5 i hi).lt
  have hgA : g < wA.heap.size := hb.lt
  have hvlt := h3.lt
  have hsz := e.size
  refine ⟨gs ++ [g], by simp, ?_, ?_, ?_, ?_⟩
  · rw [List.nodup_append]
    refine ⟨h2, by simp, fun a ha b hb' => ?_⟩
    simp at hb'
    subst hb'
    have := hlt a ha
    omega
  · rw [List.map_append]; exact hown
  · intro x hx
    have hx2 : B ≤ x ∧ x < wA.heap.size ∧ v.ownBlock ≠ some x := by
      rcases List.mem_append.1 hx with hx | hx
      · exact ⟨(h4 x hx).1, Nat.lt_of_lt_of_le (hlt x hx) hsz, (h4 x hx).2⟩
      · simp at hx; subst hx
        exact ⟨by omega, hgA, fun e => by have := (hvlt _ e).2; omega⟩
    refine ⟨hx2.1, fun e => ?_⟩
    rcases hat with a | ⟨q, a, hq⟩
    · rw [a] at e; exact hx2.2.2 e
    · rw [a] at e; simp at e; omega
  · intro i hi
    have keep : ∀ x L, IntBlock wA x L → v.ownBlock ≠ some x → IntBlock w' x L := by
      intro x L hx hne
      show w'.heap[x]? = _
      rw [hgr.block x hx.lt (fun e => hne e.symm)]; exact hx
    by_cases hik : i < gs.length
    · have e1 : (gs ++ [g])[i] = gs[i] := List.getElem_append_left hik
      show IntBlock w' (gs ++ [g])[i] (rowL n (if i = gs.length then f else D i))
      rw [if_neg (by omega), e1]
      exact keep _ _ ((h5 i hik).ext e) (h4 _ (List.getElem_mem hik)).2
    · have hi2 : i = gs.length := by simp at hi; omega
      subst hi2
      have e1 : (gs ++ [g])[gs.length]'hi = g := by simp
      show IntBlock w' ((gs ++ [g])[gs.length]'hi) (rowL n (if gs.length = gs.length then f else D gs.length))
      rw [if_pos rfl, e1]
      exact keep _ _ hb (fun e => by have := (hvlt _ e).2; omega)

end Go.Proofs.YteiamhapplnlaabGreatDoor
