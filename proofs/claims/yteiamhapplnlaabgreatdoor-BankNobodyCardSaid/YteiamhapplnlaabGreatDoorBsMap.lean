/-
  A map by names as a list that rises: look-up, store, keys. Plain laws on the library's datum.
-/
import Derived.Test.YteiamhapplnlaabGreatDoorBsPlain
import Derived.Maps.OwnSet
import Derived.Maps.RangeWalk
import Derived.Sort.KeysCollected
import Derived.WideShapes
namespace Go.Proofs.YteiamhapplnlaabGreatDoor
open Go.RowKit

section
variable {α H : Type}
def mapD (g : α → DataW H) (l : List (Bs × α)) : DataW H := .map (l.map fun p => (.string p.1, g p.2))

theorem bs_irrefl (a : Bs) : bsLt a a = false := WideAt.bytes_irrefl a
theorem bs_trans {a b c : Bs} (h : bsLt a b = true) (k : bsLt b c = true) : bsLt a c = true := Go.WideShapes.bytes_trans a b c h k
theorem bs_total {a b : Bs} (h : a ≠ b) : bsLt a b = true ∨ bsLt b a = true := WideAt.bytes_total a b h
theorem bs_asymm {a b : Bs} (h : bsLt a b = true) : bsLt b a = false := by
  cases g : bsLt b a
  · rfl
  · have := bs_trans h g
    rw [bs_irrefl] at this
    cases this
theorem bs_ne {a b : Bs} (h : bsLt a b = true) : a ≠ b := by
  rintro rfl
  rw [bs_irrefl] at h
  cases h

theorem same_str (a b : Bs) : (Lit.string a).sameKey (.string b) = (a == b) := rfl
theorem mapD_at (g : α → DataW H) (l : List (Bs × α)) (k : Bs) (z : DataW H) : (mapD g l).atKey (.string k) z = match getS l k with | some v => g v | none => z := by
  unfold mapD DataW.atKey getS
  simp only
  induction l with
  | nil => rfl
  | cons p r ih =>
    simp only [List.map_cons, List.find?_cons, same_str]
    cases p.1 == k
    · exact ih
    · rfl
theorem mapD_has (g : α → DataW H) (l : List (Bs × α)) (k : Bs) : Maps.has (mapD g l) (.string k) = (getS l k).isSome := by
  unfold mapD getS
  rw [Maps.has_eq]
  induction l with
  | nil => rfl
  | cons p r ih =>
    simp only [List.map_cons, List.any_cons, List.find?_cons, same_str]
    cases p.1 == k
    · simpa using ih
    · rfl
theorem mapD_size (g : α → DataW H) (l : List (Bs × α)) : Maps.size (mapD g l) = l.length := by unfold mapD; rw [Maps.size_eq, List.length_map]
theorem mapD_keys (g : α → DataW H) (l : List (Bs × α)) : strKeys (mapD g l) = l.map (·.1) := by
  unfold mapD strKeys
  simp only [List.map_map]
  rfl
theorem RisS.cons {p : Bs × α} {r : List (Bs × α)} (h : RisS (p :: r)) : (∀ q ∈ r, bsLt p.1 q.1 = true) ∧ RisS r := List.pairwise_cons.1 h
theorem mapD_put (g : α → DataW H) : ∀ {l : List (Bs × α)}, RisS l → ∀ (k : Bs) (v : α), (mapD g l).put (.string k) (g v) = mapD g (setS l k v)
  | [], _, k, v => rfl
  | p :: r, h, k, v => by
    obtain ⟨h1, h2⟩ := h.cons
    have keep : ∀ r' : List (Bs × α), (∀ q ∈ r', bsLt k q.1 = true) → (r'.map fun p => (Lit.string p.1, g p.2)).filter (fun q => !q.1.sameKey (.string k)) = r'.map fun p => (Lit.string p.1, g p.2) := by
      intro r' hr
      rw [List.filter_eq_self]
      intro q hq
      obtain ⟨x, hx, rfl⟩ := List.mem_map.1 hq
      simp only [same_str]
      have := bs_ne (hr x hx)
      simp [Ne.symm this]
    have front : ∀ r' : List (Bs × α), (∀ q ∈ r', bsLt k q.1 = true) → DataW.insert (Lit.string k, g v) (r'.map fun p => (Lit.string p.1, g p.2)) = (Lit.string k, g v) :: r'.map fun p => (Lit.string p.1, g p.2) := by
      intro r' hr
      cases r' with
      | nil => rfl
      | cons q t =>
        show (if (Lit.string k).before (.string q.1) = true then _ else _) = _
        have : (Lit.string k).before (.string q.1) = true := hr q (by simp)
        rw [if_pos this]; rfl
    unfold setS
    by_cases e : p.1 = k
    · rw [if_pos e]
      subst e
      unfold mapD DataW.put
      simp only [List.map_cons, List.filter_cons, same_str, beq_self_eq_true, Bool.not_true, Bool.false_eq_true, if_false]
      rw [keep r h1, front r h1]
    · rw [if_neg e]
      by_cases hb : bsLt k p.1 = true
      · rw [if_pos hb]
        have hall : ∀ q ∈ p :: r, bsLt k q.1 = true := by
          intro q hq
          rcases List.mem_cons.1 hq with rfl | hq
          · exact hb
          · exact bs_trans hb (h1 q hq)
        unfold mapD DataW.put
        simp only
        rw [keep _ hall, front _ hall]; rfl
      · rw [if_neg hb]
        have ih := mapD_put g h2 k v
        unfold mapD DataW.put at ih ⊢
        simp only [DataW.map.injEq] at ih ⊢
        have e1 : (p.1 == k) = false := by simpa using e
        have e2 : (Lit.string k).before (.string p.1) = false := by show bsLt k p.1 = false; simpa using hb
        simp only [List.map_cons, List.filter_cons, same_str, e1, Bool.not_false, if_true]
        rw [← ih]
        show (if (Lit.string k).before (.string p.1) = true then _ else _) = _
        rw [if_neg (by rw [e2]; simp)]
theorem setS_mem {l : List (Bs × α)} {k : Bs} {v : α} {x : Bs × α} (h : x ∈ setS l k v) : x = (k, v) ∨ x ∈ l := by
  induction l with
  | nil => simpa [setS] using h
  | cons p r ih =>
    unfold setS at h
    split at h
    · rcases List.mem_cons.1 h with h | h
      · exact .inl h
      · exact .inr (by simp [h])
    · split at h
      · rcases List.mem_cons.1 h with h | h
        · exact .inl h
        · exact .inr h
      · rcases List.mem_cons.1 h with h | h
        · exact .inr (by simp [h])
        · rcases ih h with h | h
          · exact .inl h
          · exact .inr (by simp [h])
theorem RisS.set {l : List (Bs × α)} (h : RisS l) (k : Bs) (v : α) : RisS (setS l k v) := by
  induction l with
  | nil => exact List.pairwise_singleton _ _
  | cons p r ih =>
    obtain ⟨h1, h2⟩ := h.cons
    unfold setS
    split
    · rename_i e
      subst e
      exact List.pairwise_cons.2 ⟨h1, h2⟩
    · rename_i e
      split
      · rename_i hb
        refine List.pairwise_cons.2 ⟨fun q hq => ?_, h⟩
        rcases List.mem_cons.1 hq with rfl | hq
        · exact hb
        · exact bs_trans hb (h1 q hq)
      · rename_i hb
        refine List.pairwise_cons.2 ⟨fun q hq => ?_, ih h2⟩
        rcases setS_mem hq with rfl | hq
        · rcases bs_total e with g | g
          · exact g
          · exact absurd g hb
        · exact h1 q hq
theorem getS_mem {l : List (Bs × α)} {k : Bs} {v : α} (h : getS l k = some v) : (k, v) ∈ l := by
  unfold getS at h
  obtain ⟨p, hp, rfl⟩ := Option.map_eq_some_iff.1 h
  have e := List.find?_some hp
  simp only [beq_iff_eq] at e
  subst e
  exact List.mem_of_find?_eq_some hp
theorem getS_none {l : List (Bs × α)} {k : Bs} (h : getS l k = none) : ∀ p ∈ l, p.1 ≠ k := by
  unfold getS at h
  rw [Option.map_eq_none_iff, List.find?_eq_none] at h
  intro p hp
  simpa using h p hp
theorem getS_of_mem {l : List (Bs × α)} (h : RisS l) {k : Bs} {v : α} (hm : (k, v) ∈ l) : getS l k = some v := by
  induction l with
  | nil => simp at hm
  | cons p r ih =>
    obtain ⟨h1, h2⟩ := h.cons
    unfold getS
    rcases List.mem_cons.1 hm with rfl | hm'
    · simp
    · have := bs_ne (h1 _ hm')
      rw [List.find?_cons_of_neg (by simpa using this)]
      exact ih h2 hm'
theorem setS_length_le {l : List (Bs × α)} (k : Bs) (v : α) : (setS l k v).length ≤ l.length + 1 := by
  induction l with
  | nil => simp [setS]
  | cons p r ih =>
    unfold setS
    split
    · simp
    · split
      · simp
      · simp only [List.length_cons]; omega

end

theorem before_lt : ∀ (a b : Bs), bytesBefore a b = decide (a < b)
  | [], [] => by simp [bytesBefore]
  | [], _ :: _ => by simp [bytesBefore]
  | _ :: _, [] => by simp [bytesBefore]
  | x :: a, y :: b => by
    have ih := before_lt a b
    unfold bytesBefore
    rw [ih]
    by_cases h : x < y
    · simp [h, List.cons_lt_cons_iff]
    · by_cases e : x = y
      · subst e
        simp [h]
      · simp [List.cons_lt_cons_iff, h, e]
/-- Keys that rise are what the sort makes of any arrangement of them. -/
theorem sort_keys {l ss : List Bs} (h : l.Pairwise fun a b => bsLt a b = true) (hp : ss.Perm l) : ss.mergeSort (fun x y => decide (x ≤ y)) = l := by
  rw [show ss.mergeSort (fun x y => decide (x ≤ y)) = l.mergeSort (fun x y => decide (x ≤ y)) from mergeSort_of_perm hp]
  apply List.mergeSort_of_pairwise
  exact h.imp (fun {a b} hab => by
    have : a < b := by have := before_lt a b; rw [show bytesBefore a b = true from hab] at this; simpa using this.symm
    simpa using List.le_of_lt this)

end Go.Proofs.YteiamhapplnlaabGreatDoor
