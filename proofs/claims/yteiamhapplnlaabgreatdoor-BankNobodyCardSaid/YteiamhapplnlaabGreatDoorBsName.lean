/-
  Contracts of isName, and of the test of a byte.
-/
import Derived.Test.YteiamhapplnlaabGreatDoorBsMem
namespace Go.Proofs.YteiamhapplnlaabGreatDoor
open Go.RowKit

def iterPos (w : World) (b : Nat) : Nat := match w.heap[b]? with
  | some (.stringIter _ p) => p
  | _ => 0
def lowB (c : UInt8) : Bool := decide (97 ≤ c) && decide (c ≤ 122)
theorem lowB_lo {c : UInt8} (h : ¬ (c.toNat : Int) < 97 ∧ ¬ 122 < (c.toNat : Int)) : lowB c = true := by
  unfold lowB
  have h1 : (97 : UInt8) ≤ c := UInt8.le_iff_toNat_le.2 (by show 97 ≤ c.toNat; omega)
  have h2 : c ≤ (122 : UInt8) := UInt8.le_iff_toNat_le.2 (by show c.toNat ≤ 122; omega)
  simp [h1, h2]
theorem lowB_no {c : UInt8} (h : (c.toNat : Int) < 97 ∨ 122 < (c.toNat : Int)) : lowB c = false := by
  unfold lowB
  rcases h with h | h
  · have h1 : ¬ (97 : UInt8) ≤ c := fun e => by have := UInt8.le_iff_toNat_le.1 e; have e2 : (97 : UInt8).toNat = 97 := rfl; omega
    simp [h1]
  · have h2 : ¬ c ≤ (122 : UInt8) := fun e => by have := UInt8.le_iff_toNat_le.1 e; have e2 : (122 : UInt8).toNat = 122 := rfl; omega
    simp [h2]

theorem asc_get {s : ByteArray} {k : Nat} (h : k < s.size) : s.data.toList[k]'(by rw [Array.length_toList]; exact h) = s[k] := rfl
theorem name_low {s : ByteArray} (h : ∀ j (h : j < s.size), lowB s[j] = true) : s.data.toList.all (fun c => decide (97 ≤ c) && decide (c ≤ 122)) = true := by
  rw [List.all_eq_true]
  intro c hc
  obtain ⟨j, hj, rfl⟩ := List.getElem_of_mem hc
  exact h j (by rw [Array.length_toList] at hj; exact hj)
theorem name_bad {s : ByteArray} {k : Nat} (hk : k < s.size) (h : lowB s[k] = false) : nameB s.data.toList = false := by
  unfold nameB
  have : s.data.toList.all (fun c => decide (97 ≤ c) && decide (c ≤ 122)) = false := by
    rw [List.all_eq_false]
    exact ⟨s[k], by rw [← asc_get hk]; exact List.getElem_mem _, by rw [show (decide (97 ≤ s[k]) && decide (s[k] ≤ 122)) = false from h]; simp⟩
  rw [this]; rfl
theorem name_val {s : ByteArray} (h : ∀ j (h : j < s.size), lowB s[j] = true) : nameB s.data.toList = (!s.data.toList.isEmpty && decide ((s.size : Int) ≤ 8)) := by
  unfold nameB
  rw [name_low h]
  have e : s.data.toList.length = s.size := by rw [Array.length_toList]; rfl
  rw [e]
  have e2 : decide (s.data.toList ≠ []) = !s.data.toList.isEmpty := by cases s.data.toList <;> simp
  rw [e2, Bool.true_and]
  congr 1
  exact decide_eq_decide.2 (by omega)

set_option maxHeartbeats 1000000 in
theorem isName_str (s : ByteArray) (w : World) (ha : ∀ k (h : k < s.size), s[k].toNat < 128) :
    Calls Tryz.prog 77 #[.string s] w fun e w' => e = .returned (.bool (nameB s.data.toList)) ∧ Ext w w' := by
  have htl : s.toList.isEmpty = s.data.toList.isEmpty := by rw [ByteArray.toList_eq]
  have HT := hid htl
  clear htl
  go_enter Tryz.func77, Tryz.ntmps77
  go_wp2
  go_loopw [4] (fun c wr => ∃ k : Nat, k ≤ s.size ∧ wr = w.iter s k ∧ ∀ j (h : j < s.size), j < k → lowB s[j] = true) (fun c wr => s.size - iterPos wr w.heap.size)
  case atStart => exact ⟨0, Nat.zero_le _, rfl, fun j _ h => by omega⟩
  case round =>
    obtain ⟨k, hk, rfl, hall⟩ := hrel
    have HA := hid hall
    clear hall
    by_cases hlt : k < s.size
    · have hnx := fun ty => run_next_ascii (P := Tryz.prog) w s k ty hlt (ha k hlt)
      obtain ⟨c, hc⟩ : ∃ c, c = s[k] := ⟨_, rfl⟩
      rw [← hc] at hnx
      have HC := hid hc
      clear hc
      by_cases h1 : (c.toNat : Int) < 97
      · have HB := hid (name_bad hlt (by rw [← HC.out]; exact lowB_no (.inl h1)))
        go_wp2
        go_ret
        exact ⟨ret_bool HB.out.symm, (Ext.refl w).alloc _⟩
      · by_cases h2 : 122 < (c.toNat : Int)
        · have HB := hid (name_bad hlt (by rw [← HC.out]; exact lowB_no (.inr h2)))
          go_wp2
          go_ret
          exact ⟨ret_bool HB.out.symm, (Ext.refl w).alloc _⟩
        · have HB := hid (lowB_lo ⟨h1, h2⟩)
          go_wp2
          go_roundw
          case rel =>
            refine ⟨k + 1, by omega, rfl, fun j hj hjk => ?_⟩
            by_cases e : j = k
            · subst e; rw [← HC.out]; exact HB.out
            · exact HA.out j hj (by omega)
          case measure =>
            simp only [iterPos, World.iter_heap]
            omega
    · obtain rfl : k = s.size := by omega
      have hnx := fun ty => run_next_end (P := Tryz.prog) w s s.size ty (by omega)
      have HV := hid (name_val (s := s) (fun j h => HA.out j h h))
      cases he : s.toList.isEmpty with
      | true =>
        have HE := hid he
        go_wp2
        go_ret
        exact ⟨ret_bool (by rw [HV.out, ← HT.out, HE.out]; rfl), (Ext.refl w).alloc _⟩
      | false =>
        have HE := hid he
        go_wp2
        go_ret
        exact ⟨ret_bool (by rw [HV.out, ← HT.out, HE.out]; rfl), (Ext.refl w).alloc _⟩

theorem isName_any (t : Bs) (w : World) (ha : ∀ c ∈ t, c.toNat < 128) :
    Calls Tryz.prog 77 #[strV t] w fun e w' => e = .returned (.bool (nameB t)) ∧ Ext w w' :=
  isName_str (strB t) w (fun k h => ha _ (by rw [← asc_get h]; exact List.getElem_mem _))

end Go.Proofs.YteiamhapplnlaabGreatDoor
