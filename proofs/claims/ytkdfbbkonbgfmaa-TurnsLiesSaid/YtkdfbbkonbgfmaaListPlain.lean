/-
  All lists of different numbers of a list, in order. Plain Lean.
-/
import Derived.Test.YtkdfbbkonbgfmaaRefBefore
namespace Go.Proofs.Ytkdfbbkonbgfmaa
open Go.RowKit

/-- One number more, for each that is not in the list. -/
def moreP (own l : List Int) : List (List Int) := (own.filter (fun x => decide (x ∉ l))).map (fun x => l ++ [x])
/-- All lists of k different numbers. -/
def chosenP (own : List Int) : Nat → List (List Int)
  | 0 => [[]]
  | k + 1 => ((chosenP own k).map (moreP own)).flatten
theorem moreP_mem {own l m : List Int} : m ∈ moreP own l ↔ ∃ x, x ∈ own ∧ x ∉ l ∧ m = l ++ [x] := by
  unfold moreP
  rw [List.mem_map]
  constructor
  · rintro ⟨x, hx, rfl⟩
    rw [List.mem_filter, decide_eq_true_iff] at hx
    exact ⟨x, hx.1, hx.2, rfl⟩
  · rintro ⟨x, h1, h2, rfl⟩
    exact ⟨x, by rw [List.mem_filter, decide_eq_true_iff]; exact ⟨h1, h2⟩, rfl⟩
theorem chosenP_mem {own : List Int} : ∀ {k : Nat} {l : List Int}, l ∈ chosenP own k ↔ SubL own l ∧ l.length = k := by
  intro k
  induction k with
  | zero =>
    intro l
    unfold chosenP
    rw [List.mem_singleton]
    constructor
    · rintro rfl; exact ⟨SubL.nil own, rfl⟩
    · rintro ⟨-, h⟩; exact List.eq_nil_of_length_eq_zero h
  | succ k ih =>
    intro l
    unfold chosenP
    rw [List.mem_flatten]
    constructor
    · rintro ⟨L, hL, hl⟩
      obtain ⟨m, hm, rfl⟩ := List.mem_map.1 hL
      obtain ⟨x, h1, h2, rfl⟩ := moreP_mem.1 hl
      obtain ⟨g1, g2⟩ := ih.1 hm
      exact ⟨g1.push h1 h2, by simp [g2]⟩
    · rintro ⟨h1, h2⟩
      have hne : l ≠ [] := fun e => by rw [e] at h2; simp at h2
      have e := List.dropLast_concat_getLast hne
      obtain ⟨m, hm⟩ : ∃ m, m = l.dropLast := ⟨_, rfl⟩
      obtain ⟨x, hx⟩ : ∃ x, x = l.getLast hne := ⟨_, rfl⟩
      rw [← hm, ← hx] at e
      rw [← e] at h1 h2 ⊢
      have hnd := h1.1
      rw [List.nodup_append] at hnd
      refine ⟨moreP own m, List.mem_map.2 ⟨m, ih.2 ⟨⟨hnd.1, fun y hy => h1.2 y (by simp [hy])⟩, by simpa using h2⟩, rfl⟩, moreP_mem.2 ⟨x, h1.2 x (by simp), fun hxm => hnd.2.2 x hxm x (by simp) rfl, rfl⟩⟩

/-- In order: none before one that stands ahead of it. -/
def SrtL (L : List (List Int)) : Prop := L.Pairwise (fun a b => ¬ ltL b a)
theorem leL_trans {a b c : List Int} (h1 : ¬ ltL b a) (h2 : ¬ ltL c b) : ¬ ltL c a := by
  intro h
  rcases ltL_total a b with g | g | g
  · exact h2 (ltL_trans h g)
  · subst g; exact h2 h
  · exact h1 g
theorem ltL_le {a b : List Int} (h : ltL a b) : ¬ ltL b a := fun g => ltL_irrefl a (ltL_trans h g)
/-- A list is put behind those that come before it. -/
theorem SrtL.insert {L : List (List Int)} {l : List Int} {k : Nat} (h : SrtL L) (hk : k ≤ L.length) (h1 : ∀ j, (hj : j < k) → ltL (L[j]'(by omega)) l) (h2 : ∀ hj : k < L.length, ¬ ltL L[k] l) : SrtL (L.take k ++ l :: L.drop k) := by
  unfold SrtL at *
  rw [List.pairwise_append]
  have hs : (L.take k ++ L.drop k).Pairwise (fun a b => ¬ ltL b a) := by rw [List.take_append_drop]; exact h
  rw [List.pairwise_append] at hs
  refine ⟨hs.1, ?_, ?_⟩
  · rw [List.pairwise_cons]
    refine ⟨fun m hm => ?_, hs.2.1⟩
    by_cases e : k < L.length
    · have h3 := h2 e
      rw [List.drop_eq_getElem_cons e] at hm hs
      rcases List.mem_cons.1 hm with g | g
      · rw [g]; exact h3
      · exact leL_trans h3 ((List.pairwise_cons.1 hs.2.1).1 m g)
    · rw [List.drop_of_length_le (by omega)] at hm
      simp at hm
  · intro a ha b hb
    have hal : ltL a l := by
      obtain ⟨j, hj, rfl⟩ := List.getElem_of_mem ha
      rw [List.length_take] at hj
      rw [List.getElem_take]
      exact h1 j (by omega)
    rcases List.mem_cons.1 hb with g | g
    · rw [g]; exact ltL_le hal
    · exact hs.2.2 a ha b g
/-- The lists of a list: all, in order. -/
structure IsLists (own : List Int) (L : List (List Int)) : Prop where
  srt : SrtL L
  mem : ∀ l, l ∈ L ↔ SubL own l
/-- The first of them for which G holds. -/
theorem IsLists.least {G : List Int → Prop} {own : List Int} {L : List (List Int)} (h : IsLists own L) {k : Nat} (hk : k < L.length) (hg : G L[k]) (hn : ∀ j, (hj : j < k) → ¬ G (L[j]'(by omega))) : LeastL G own L[k] := by
  refine ⟨(h.mem _).1 (List.getElem_mem hk), hg, fun l' hs hG => ?_⟩
  obtain ⟨j, hj, rfl⟩ := List.getElem_of_mem ((h.mem l').2 hs)
  rcases Nat.lt_trichotomy j k with g | g | g
  · exact absurd hG (hn j g)
  · subst g; exact .inl rfl
  · have h1 := List.pairwise_iff_getElem.1 h.srt k j hk hj g
    rcases ltL_total L[k] L[j] with g2 | g2 | g2
    · exact .inr g2
    · exact .inl g2
    · exact absurd g2 h1

end Go.Proofs.Ytkdfbbkonbgfmaa
