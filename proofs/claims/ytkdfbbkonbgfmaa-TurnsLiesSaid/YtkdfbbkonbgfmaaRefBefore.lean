/-
  Contract of the reference's before: slices compared from the front.
-/
import Derived.Test.YtkdfbbkonbgfmaaLieRanks
namespace Go.Proofs.Ytkdfbbkonbgfmaa
open Go.RowKit

def befB : List Int → List Int → Bool
  | _, [] => false
  | [], _ :: _ => true
  | a :: ys, b :: bs => if a < b then true else if b < a then false else befB ys bs
theorem befB_iff : ∀ (a b : List Int), befB a b = true ↔ ltL a b
  | [], [] => by simp [befB, ltL]
  | _ :: _, [] => by simp [befB, ltL]
  | [], _ :: _ => by simp [befB, ltL]
  | a :: ys, b :: bs => by
    have ih := befB_iff ys bs
    unfold befB ltL
    by_cases h1 : a < b
    · simp [h1]
    · by_cases h2 : b < a
      · rw [if_neg h1, if_pos h2]
        constructor
        · intro h; simp at h
        · rintro (h | ⟨h, -⟩) <;> omega
      · rw [if_neg h1, if_neg h2, ih]
        constructor
        · intro h; exact .inr ⟨by omega, h⟩
        · rintro (h | ⟨-, h⟩)
          · exact absurd h h1
          · exact h
theorem befB_drop {a b : List Int} : ∀ {k : Nat}, k ≤ a.length → k ≤ b.length → (∀ j, j < k → fn a j = fn b j) → befB a b = befB (a.drop k) (b.drop k) := by
  intro k
  induction k with
  | zero => intro _ _ _; simp
  | succ k ih =>
    intro ha hb h
    rw [ih (by omega) (by omega) (fun j hj => h j (by omega))]
    have e := h k (by omega)
    rw [fn_get (by omega), fn_get (by omega)] at e
    rw [List.drop_eq_getElem_cons (show k < a.length by omega), List.drop_eq_getElem_cons (show k < b.length by omega)]
    simp [befB, e]
theorem befB_short {a b : List Int} (hb : b.length ≤ a.length) (h : ∀ j, j < b.length → fn a j = fn b j) : befB a b = false := by
  rw [befB_drop hb (Nat.le_refl _) h, List.drop_of_length_le (Nat.le_refl _)]
  cases a.drop b.length <;> rfl
theorem befB_at {a b : List Int} {k : Nat} (ha : k < a.length) (hb : k < b.length) (h : ∀ j, j < k → fn a j = fn b j) : befB a b = if fn a k < fn b k then true else if fn b k < fn a k then false else befB (a.drop (k + 1)) (b.drop (k + 1)) := by
  rw [befB_drop (by omega) (by omega) h, List.drop_eq_getElem_cons ha, List.drop_eq_getElem_cons hb, fn_get ha, fn_get hb]
  rfl
theorem befB_end {a b : List Int} (h : ∀ j, j < a.length → j < b.length → fn a j = fn b j) (hl : a.length ≤ b.length) : befB a b = decide (a.length < b.length) := by
  rw [befB_drop (Nat.le_refl _) hl (fun j hj => h j hj (by omega)), List.drop_of_length_le (Nat.le_refl _)]
  by_cases e : a.length < b.length
  · rw [List.drop_eq_getElem_cons e]; simp [befB, e]
  · rw [List.drop_of_length_le (by omega)]; simp [befB, e]

set_option maxHeartbeats 2000000 in
theorem before_any (v u : Value) (a b : List Int) (w : World) (hv : Ints w v a) (hu : Ints w u b) :
    Calls Try.prog 120 #[v, u] w fun e w' => e = .returned (.bool (befB a b)) ∧ w = w' := by
  have HV := hid hv
  have HU := hid hu
  obtain ⟨hla, ao, ca, rfl, -⟩ := hv
  obtain ⟨hlb, bo, cb, rfl, -⟩ := hu
  go_enter Try.func120, Try.ntmps120
  go_wp2
  go_loopg [9] a.length (fun g i wr => ∃ k : Nat, k + g = a.length ∧ i = .int .i64 k ∧ k ≤ b.length ∧ Hid (∀ j, j < k → fn a j = fn b j) ∧ w = wr)
  case atStart => exact ⟨0, by omega, rfl, by omega, fun j hj => by omega, rfl⟩
  case round =>
    obtain ⟨k, hk, rfl, hkb, EQ, rfl⟩ := hrel
    have hka : k ≤ a.length := by omega
    have Hk := hid hk
    clear hk
    by_cases hlt : k < a.length
    · have hki : (k : Int) < a.length := by omega
      obtain ⟨p, o, rfl, -, hc⟩ := HV.out.get k hlt
      have da := hc _ (Ext.refl _)
      by_cases hkb2 : k < b.length
      · have hkbi : (k : Int) < b.length := by omega
        have hkbn : ¬ ((b.length : Int) ≤ k) := by omega
        obtain ⟨p2, o2, rfl, -, hc2⟩ := HU.out.get k hkb2
        have db := hc2 _ (Ext.refl _)
        have hat := befB_at hlt hkb2 EQ.out
        obtain ⟨x, hx⟩ : ∃ x, x = fn a k := ⟨_, rfl⟩
        obtain ⟨y, hy⟩ : ∃ y, y = fn b k := ⟨_, rfl⟩
        rw [← hx] at da hat
        rw [← hy] at db hat
        have HX := hid hx
        have HY := hid hy
        clear hc hc2 hx hy
        by_cases c1 : y < x
        · have hf : befB a b = false := by rw [hat, if_neg (by omega), if_pos c1]
          have HF := hid hf
          clear hat hf
          go_wp2
          go_ret
          exact ⟨ret_bool HF.out.symm, rfl⟩
        · by_cases c2 : x < y
          · have hf : befB a b = true := by rw [hat, if_pos c2]
            have HF := hid hf
            clear hat hf
            go_wp2
            go_ret
            exact ⟨ret_bool HF.out.symm, rfl⟩
          · have EQ2 : Hid (∀ j, j < k + 1 → fn a j = fn b j) := fun j hj => by
              by_cases e : j = k
              · subst e
                have := HX.out
                have := HY.out
                omega
              · exact EQ.out j (by omega)
            clear hat
            go_wp2
            go_roundg (gk - 1)
            case rel => exact ⟨k + 1, by have := Hk.out; omega, by go_num, by omega, EQ2, rfl⟩
            case measure => have := Hk.out; omega
      · have hkbn : ((b.length : Int) ≤ k) := by omega
        have HF : Hid (befB a b = false) := befB_short (by omega) (fun j hj => EQ.out j (by omega))
        clear hc
        go_wp2
        go_ret
        exact ⟨ret_bool HF.out.symm, rfl⟩
    · have ek : k = a.length := by omega
      have HF : Hid (befB a b = decide (a.length < b.length)) := befB_end (fun j hj _ => EQ.out j (by omega)) (by omega)
      clear ek
      go_wp2
      go_ret
      exact ⟨ret_bool (by rw [HF.out]), rfl⟩

end Go.Proofs.Ytkdfbbkonbgfmaa
