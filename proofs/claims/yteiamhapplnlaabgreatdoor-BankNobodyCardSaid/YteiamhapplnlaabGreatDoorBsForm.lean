/-
  Contract of form.
-/
import Derived.Test.YteiamhapplnlaabGreatDoorBsNum
import Derived.Test.YteiamhapplnlaabGreatDoorBsPush
import Derived.Test.YteiamhapplnlaabGreatDoorRtMap
namespace Go.Proofs.YteiamhapplnlaabGreatDoor
open Go.RowKit

theorem splitC_mem (c : UInt8) : ∀ (s : Bs) (x : Bs), x ∈ splitC c s → (∀ b ∈ x, b ∈ s) ∧ x.length ≤ s.length
  | [], x, h => by simp [splitC] at h; subst h; simp
  | b :: r, x, h => by
    have ih := splitC_mem c r
    unfold splitC at h
    split at h
    · rcases List.mem_cons.1 h with rfl | h
      · simp
      · obtain ⟨h1, h2⟩ := ih x h
        exact ⟨fun y hy => by simp [h1 y hy], by simp; omega⟩
    · split at h
      · simp at h; subst h; simp
      · rename_i a t e
        rw [e] at ih
        rcases List.mem_cons.1 h with rfl | h
        · obtain ⟨h1, h2⟩ := ih a (by simp)
          refine ⟨fun y hy => ?_, by simp; omega⟩
          rcases List.mem_cons.1 hy with rfl | hy
          · simp
          · simp [h1 y hy]
        · obtain ⟨h1, h2⟩ := ih x (by simp [h])
          exact ⟨fun y hy => by simp [h1 y hy], by simp; omega⟩
theorem formW_name {k : UInt8} {ks : Bs} {x : Bs} {xs : List Bs} (hk : k = 110) (h : nameB x = true) : formW (k :: ks) (x :: xs) = (formW ks xs).map fun p => (x :: p.1, p.2) := by
  rw [formW, if_pos hk, if_pos h]
theorem formW_bad {k : UInt8} {ks : Bs} {x : Bs} {xs : List Bs} (hk : k = 110) (h : nameB x = false) : formW (k :: ks) (x :: xs) = none := by
  rw [formW, if_pos hk, if_neg (by rw [h]; simp)]
theorem formW_num {k : UInt8} {ks : Bs} {x : Bs} {xs : List Bs} {n : Int} (hk : k ≠ 110) (h : numB x = some n) : formW (k :: ks) (x :: xs) = (formW ks xs).map fun p => (p.1, n :: p.2) := by
  rw [formW, if_neg hk, h]; rfl
theorem formW_none {k : UInt8} {ks : Bs} {x : Bs} {xs : List Bs} (hk : k ≠ 110) (h : numB x = none) : formW (k :: ks) (x :: xs) = none := by
  rw [formW, if_neg hk, h]; rfl
theorem formW_len : ∀ (ks : Bs) (ws : List Bs), ks.length ≠ ws.length → formW ks ws = none
  | [], [], h => absurd rfl h
  | [], _ :: _, _ => rfl
  | _ :: _, [], _ => rfl
  | k :: ks, x :: xs, h => by
    have ih := formW_len ks xs (by simpa using h)
    rw [formW, ih]
    split
    · split <;> rfl
    · cases numB x <;> rfl
/-- What is read so far, and what is to come. -/
def FormAt (ks : Bs) (ws : List Bs) (k : Nat) (A : List Bs) (N : List Int) : Prop := formW ks ws = (formW (ks.drop k) (ws.drop k)).map fun p => (A ++ p.1, N ++ p.2)
theorem FormAt.start (ks : Bs) (ws : List Bs) : FormAt ks ws 0 [] [] := by
  unfold FormAt
  rw [List.drop_zero, List.drop_zero]
  cases formW ks ws <;> simp
theorem drop_at {α : Type} {l : List α} {k : Nat} (h : k < l.length) : l.drop k = l[k] :: l.drop (k + 1) := List.drop_eq_getElem_cons h
theorem FormAt.name {ks : Bs} {ws : List Bs} {k : Nat} {A : List Bs} {N : List Int} (h : FormAt ks ws k A N) (h1 : k < ks.length) (h2 : k < ws.length) (hk : ks[k] = 110) (hn : nameB ws[k] = true) : FormAt ks ws (k + 1) (A ++ [ws[k]]) N := by
  unfold FormAt at h ⊢
  rw [h, drop_at h1, drop_at h2, formW_name hk hn, Option.map_map]
  congr 1
  funext p
  simp
theorem FormAt.bad {ks : Bs} {ws : List Bs} {k : Nat} {A : List Bs} {N : List Int} (h : FormAt ks ws k A N) (h1 : k < ks.length) (h2 : k < ws.length) (hk : ks[k] = 110) (hn : nameB ws[k] = false) : formW ks ws = none := by
  unfold FormAt at h
  rw [h, drop_at h1, drop_at h2, formW_bad hk hn]; rfl
theorem FormAt.num {ks : Bs} {ws : List Bs} {k : Nat} {A : List Bs} {N : List Int} {n : Int} (h : FormAt ks ws k A N) (h1 : k < ks.length) (h2 : k < ws.length) (hk : ks[k] ≠ 110) (hn : numB ws[k] = some n) : FormAt ks ws (k + 1) A (N ++ [n]) := by
  unfold FormAt at h ⊢
  rw [h, drop_at h1, drop_at h2, formW_num hk hn, Option.map_map]
  congr 1
  funext p
  simp
theorem FormAt.none {ks : Bs} {ws : List Bs} {k : Nat} {A : List Bs} {N : List Int} (h : FormAt ks ws k A N) (h1 : k < ks.length) (h2 : k < ws.length) (hk : ks[k] ≠ 110) (hn : numB ws[k] = Option.none) : formW ks ws = Option.none := by
  unfold FormAt at h
  rw [h, drop_at h1, drop_at h2, formW_none hk hn]; rfl
theorem FormAt.end {ks : Bs} {ws : List Bs} {k : Nat} {A : List Bs} {N : List Int} (h : FormAt ks ws k A N) (h1 : ks.length ≤ k) (h2 : ws.length ≤ k) : formW ks ws = some (A, N) := by
  unfold FormAt at h
  rw [h, List.drop_of_length_le h1, List.drop_of_length_le h2]; simp [formW]

/-- The words, the numbers of a line. -/
def LWords (w : World) (v : Value) (ws : List Bs) : Prop := OwnN 0 9 1 w v ws.length (ws.map strV)
def LNums (w : World) (v : Value) (ns : List Int) : Prop := OwnN 0 3 1 w v ns.length (ns.map (Value.int .i64))
theorem LWords.ext {w w' : World} {v : Value} {ws : List Bs} (h : LWords w v ws) (e : Ext w w') : LWords w' v ws := OwnN.ext h e
theorem LNums.ext {w w' : World} {v : Value} {ws : List Int} (h : LNums w v ws) (e : Ext w w') : LNums w' v ws := OwnN.ext h e
/-- What form answers. -/
def FormAns (r : Option (List Bs × List Int)) (w : World) (e : Ending) : Prop := ∃ (vw vn : Value) (b : Bool), e = .returned (.tuple #[.agg #[vw, vn], .bool b]) ∧ ((b = false ∧ r = none ∧ vw = .slice none 0 0 ∧ vn = .slice none 0 0) ∨ (b = true ∧ ∃ ws ns, r = some (ws, ns) ∧ LWords w vw ws ∧ LNums w vn ns ∧ ws.length ≤ 200 ∧ ns.length ≤ 200))
theorem Box2.moved {F : Nat → Prop} {w w' : World} {b t : Nat} {v0 v1 : Value} (h : Box2 w b t v0 v1) (m : Moved F w w') (hf : ¬ F b) : Box2 w' b t v0 v1 := m.heap hf h
theorem Box2.set0 {w : World} {b t : Nat} {v0 v1 : Value} (h : Box2 w b t v0 v1) (v : Value) : Box2 (w.setCell ⟨b, 0, none⟩ v) b t v v1 := by
  have h' : w.heap[b]? = some (.cells #[v0, v1] t (0, 0)) := h
  show (w.setCell _ _).heap[b]? = _
  simp only [World.setCell, Array.getElem?_modify, if_true, h', Option.map_some]; simp
theorem Box2.lt {w : World} {b t : Nat} {v0 v1 : Value} (h : Box2 w b t v0 v1) : b < w.heap.size := lt_of_block h

end Go.Proofs.YteiamhapplnlaabGreatDoor
