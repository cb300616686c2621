/-
  Texts of this claim, part 13: Tz.
-/
import Derived.Shelf.Spec.TrailingZeros
import Derived.Test.YtkbkgkmogbkabaaDoorK12
/-
  Contract of math/bits.TrailingZeros under its table.
-/
namespace Go.Proofs.YtkbkgkmogbkabaaDoor
open Go.RowKit

/-- The table of the library, in its variable. -/
def Tab64 (w : World) : Prop := TabAt 1 Lib.deBruijn64tab w
theorem Tab64.ext {w w' : World} (h : Tab64 w) (e : Ext w w') : Tab64 w' := fun j hj => e.cell (h j hj)

theorem ctz_bit (x : Nat) (h0 : 0 < x) (h : x < 2 ^ 64) : x.testBit (Lib.ctz 64 x) = true ∧ ∀ j, j < Lib.ctz 64 x → x.testBit j = false := by
  obtain ⟨m, hm, -⟩ := Lib.ctzFrom_spec 64 x h0 h
  have e : Lib.ctz 64 x = Lib.ctzFrom 64 x := by unfold Lib.ctz; rw [if_neg (by omega)]
  rw [e]
  generalize Lib.ctzFrom 64 x = k at hm
  subst hm
  have hp : ∀ n, 0 < 2 ^ n := fun n => Nat.pow_pos (by decide)
  constructor
  · rw [Nat.testBit_eq_decide_div_mod_eq, decide_eq_true_iff, Nat.mul_div_cancel_left _ (hp k)]; omega
  · intro j hj
    rw [Nat.testBit_eq_decide_div_mod_eq, decide_eq_false_iff_not]
    obtain ⟨d, rfl⟩ : ∃ d, k = j + (d + 1) := ⟨k - j - 1, by omega⟩
    rw [Nat.pow_add, Nat.mul_assoc, Nat.mul_div_cancel_left _ (hp j), Nat.pow_succ]
    generalize 2 ^ d = y
    have : y * 2 * (2 * m + 1) = 2 * (y * (2 * m + 1)) := by rw [Nat.mul_comm y 2, Nat.mul_assoc]
    rw [this]; omega

set_option maxHeartbeats 1000000 in
theorem tz64_any (x k idx : Nat) (w : World) (hx0 : ((x : Int) == 0) = false)
    (key : IntKind.u64.wrap (bits BinOp.and IntKind.u64 (x : Int) (IntKind.u64.wrap (-(x : Int))) * 285870213051353865) / 288230376151711744 = (idx : Int))
    (hi : idx < 64) (hk : k < 64) (hcell : w.cell? ⟨1, idx, none⟩ = some (.int .u8 k)) :
    Calls Tryd.prog 66 #[.int .u64 x] w fun e w' => e = .returned (.int .i64 k) ∧ w' = w := by
  go_enter Tryd.func66, Tryd.ntmps66
  go_wp2_with (simp only [key])
  go_ret
  exact ⟨rfl, rfl⟩

set_option maxHeartbeats 1000000 in
theorem tz_any (x : Nat) (w : World) (h0 : 0 < x) (hx : x < 2 ^ 62) (hT : Tab64 w) :
    Calls Tryd.prog 56 #[.int .u64 x] w fun e w' => e = .returned (.int .i64 (Lib.ctz 64 x)) ∧ w' = w := by
  have hx64 : x < 18446744073709551616 := by omega
  obtain ⟨hlow, hk⟩ := Lib.lowest_bit 64 x (by omega) hx64
  obtain ⟨hi, htab⟩ := Lib.deBruijn64_at _ hk
  have hcell := hT _ hi
  rw [htab] at hcell
  have H := hid (tz64_any x _ _ w (by simp; omega) (tz64_key x _ hx64 (by omega) hlow) hi hk hcell)
  have hw : IntKind.u64.wrap (x : Int) = (x : Int) := by rw [IntKind.wrap_u64]; omega
  clear hcell htab hi hlow hk hT
  go_enter Tryd.func56, Tryd.ntmps56
  go_wp2_with (fail)
  refine H.out.mono ?_
  rintro e w' ⟨rfl, rfl⟩
  go_wp2
  go_ret
  exact ⟨rfl, rfl⟩

theorem TZ.of {w : World} (h : Tab64 w) : TZ w := by
  intro w' e s h0 h256
  exact ⟨Lib.ctz 64 s, ctz_bit s h0 (by omega), tz_any s w' h0 (by omega) (h.ext e)⟩

end Go.Proofs.YtkbkgkmogbkabaaDoor
