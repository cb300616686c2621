/-
  Contracts of slices.EqualFunc on tables, and of the statements' same.
-/
import Derived.Test.YtkbkgkmogbkabaaRtBase
import Derived.Laws.EntriesVeiled
namespace Go.Proofs.Ytkbkgkmogbkabaa
open Go.RowKit

theorem take_extP {α : Type} {xs ys : List α} {k : Nat} (hx : k < xs.length) (hy : k < ys.length) (h : xs.take k = ys.take k) (he : xs[k] = ys[k]) : xs.take (k + 1) = ys.take (k + 1) := by
  rw [List.take_succ_eq_append_getElem hx, List.take_succ_eq_append_getElem hy, h, he]
def eqR (xss yss : List (List Int)) : Bool := decide (xss = yss)
theorem eqI_iff' {a b : List Int} : eqI a b = true ↔ a = b := by unfold eqI; exact decide_eq_true_iff

set_option maxHeartbeats 1000000 in
theorem EqualFunc_any (v u : Value) (xs ys : List (List Int)) (w : World) (hv : Rows2 w v xs) (hu : Rows2 w u ys) :
    Calls Try.prog 37 #[v, u, .func (.func 17) #[] #[]] w fun e w' => e = .returned (.bool (eqR xs ys)) ∧ Ext w w' := by
  obtain ⟨hl, ao, cap, rfl, -, hc⟩ := hv
  obtain ⟨hl2, ao2, cap2, rfl, -, hc2⟩ := hu
  by_cases hlen : xs.length = ys.length
  · have hl' : (((xs.length : Nat) : Int) != ((ys.length : Nat) : Int)) = false := by simp [hlen]
    have Hlen := hid hlen
    have hle : xs.length ≤ ys.length := by omega
    clear hlen
    go_enter Try.func37, Try.ntmps37
    go_wp2
    go_loopg [17] xs.length (fun g i wr => ∃ k : Nat, k + g = xs.length ∧ i = .int .i64 k ∧ Hid (xs.take k = ys.take k) ∧ Hid (Ext w wr))
    case atStart => exact ⟨0, by omega, rfl, rfl, Ext.refl _⟩
    case round =>
      obtain ⟨k, hk, rfl, Heq, E⟩ := hrel
      have hkl : k ≤ xs.length := by omega
      have Hk := hid hk
      clear hk
      by_cases hlt : k < xs.length
      · have hlt2 : k < ys.length := by omega
        obtain ⟨b, off, x, rfl, c1, hx⟩ := hc k hlt
        obtain ⟨b2, off2, y, rfl, d1, hy⟩ := hc2 k hlt2
        have e1 := E.out.cell c1
        have e2 := E.out.cell d1
        have HX := hid hx
        have HY := hid hy
        obtain ⟨-, ax, cx, rfl, -⟩ := id hx
        obtain ⟨-, ay, cy, rfl, -⟩ := id hy
        have hi0 : (0 : Int) ≤ (k : Int) := by omega
        have hi1 : (k : Int) < xs.length := by omega
        have hi2 : (k : Int) < ys.length := by omega
        clear c1 d1 hx hy
        go_wp2_with (fail)
        refine (Equal_any _ _ xs[k] ys[k] _ (HX.out.ext E.out) (HY.out.ext E.out)).mono ?_
        cases he : eqI xs[k] ys[k]
        · have Hf : Hid (eqR xs ys = false) := by
            show _ = _
            unfold eqR
            rw [decide_eq_false_iff_not]
            rintro rfl
            have : eqI xs[k] xs[k] = true := eqI_iff'.2 rfl
            rw [he] at this; simp at this
          rintro e w1 ⟨rfl, n, rfl⟩
          go_wp2
          go_ret
          exact ⟨ret_bool Hf.out.symm, E.out.drewN _⟩
        · have Hs := hid (take_extP hlt hlt2 Heq.out (eqI_iff'.1 he))
          rintro e w1 ⟨rfl, n, rfl⟩
          go_wp2
          go_roundg (gk - 1)
          case rel => exact ⟨k + 1, by have := Hk.out; omega, by go_num, Hs.out, E.out.drewN _⟩
          case measure => have := Hk.out; omega
      · go_wp2
        go_ret
        refine ⟨ret_bool ?_, E.out⟩
        unfold eqR; symm; rw [decide_eq_true_iff]
        have := Heq.out
        have hL := Hlen.out
        rw [List.take_of_length_le (by omega), List.take_of_length_le (by omega)] at this
        exact this
  · have hl' : (((xs.length : Nat) : Int) != ((ys.length : Nat) : Int)) = true := bne_iff_ne.2 (by omega)
    have Hlen := hid hlen
    clear hlen
    go_enter Try.func37, Try.ntmps37
    go_wp2
    go_ret
    refine ⟨ret_bool ?_, Ext.refl _⟩
    unfold eqR; symm; rw [decide_eq_false_iff_not]; rintro rfl; exact Hlen.out rfl

set_option maxHeartbeats 1000000 in
theorem same_any (v u : Value) (xs ys : List (List Int)) (w : World) (hv : Rows2 w v xs) (hu : Rows2 w u ys) :
    Calls Try.prog 19 #[v, u] w fun e w' => e = .returned (.bool (eqR xs ys)) ∧ Ext w w' := by
  have HV := hid hv
  have HU := hid hu
  obtain ⟨-, ao, cap, rfl, -⟩ := id hv
  obtain ⟨-, ao2, cap2, rfl, -⟩ := id hu
  clear hv hu
  go_enter Try.func19, Try.ntmps19
  go_wp2_with (fail)
  refine (EqualFunc_any _ _ xs ys _ HV.out HU.out).mono ?_
  rintro e w1 ⟨rfl, he⟩
  have HE := hid he
  clear he
  go_wp2
  go_ret
  exact ⟨rfl, HE.out⟩

end Go.Proofs.Ytkbkgkmogbkabaa
