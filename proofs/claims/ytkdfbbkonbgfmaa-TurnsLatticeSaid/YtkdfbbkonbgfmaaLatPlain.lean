/-
  The first and the last of the middle matchings; the closure of TurnsLattice.
-/
import Derived.Test.YtkdfbbkonbgfmaaRefCov
import Derived.Test.YtkdfbbkonbgfmaaMiddle
import Derived.Test.YtkdfbbkonbgfmaaHas
import Derived.Test.YtkdfbbkonbgfmaaHonestLaw
namespace Go.Proofs.Ytkdfbbkonbgfmaa
open Go.RowKit

theorem nth_first {l : List Int} {x : Int} (hx : x ∈ l) : nth (srt l) 0 ≤ x := by
  obtain ⟨i, hi, rfl⟩ := List.getElem_of_mem ((srt_perm l).mem_iff.2 hx)
  rw [← nth_get hi]
  exact sorted_le (srt_sorted l) (Nat.zero_le _) hi
theorem nth_last {l : List Int} {x : Int} (hx : x ∈ l) : x ≤ nth (srt l) (l.length - 1) := by
  obtain ⟨i, hi, rfl⟩ := List.getElem_of_mem ((srt_perm l).mem_iff.2 hx)
  have hl := srt_len l
  rw [← nth_get hi]
  exact sorted_le (srt_sorted l) (by omega) (by omega)
theorem MidL.st {p : PlanD} {hp : PlanOk p} {j : Nat} {m : List Int} (hm : MidL p (stAll p hp) j m) (hj : j < (stAll p hp).length) : StL p hp m := mem_stAll.1 (hm.mem hj)
theorem mid_first {p : PlanD} {hp : PlanOk p} {m f : List Int} (hm : MidL p (stAll p hp) 0 m) (hf : IsFirst p hp f) : m = f := by
  have hms := hm.st stAll_pos
  refine LeM.antisymm hms ⟨hf.len, hf.st⟩ (fun h hh => ?_) (best_of_first hf _ (mem_stAll.2 hms))
  rw [(hm.val h hh).2]
  exact nth_first (List.mem_map.2 ⟨f, stAll_first hf, rfl⟩)
theorem mid_last {p : PlanD} {hp : PlanOk p} {m f : List Int} (hm : MidL p (stAll p hp) ((stAll p hp).length - 1) m) (hf : IsLast p hp f) : m = f := by
  have hms := hm.st (by have := stAll_pos (p := p) (hp := hp); omega)
  refine LeM.antisymm hms ⟨hf.len, hf.st⟩ (worst_of_last hf _ (mem_stAll.2 hms)) (fun h hh => ?_)
  rw [(hm.val h hh).2]
  have := nth_last (l := (stAll p hp).map (fun q => rankP (rowAt p.hands h) (fn q h))) (List.mem_map.2 ⟨f, stAll_last hf, rfl⟩)
  rwa [List.length_map] at this

theorem hmod2 (h : Int) (n : Nat) (h1 : 1 ≤ n) (h6 : n ≤ 15625) : ∃ x : Nat, IntKind.i64.wrap ((IntKind.u64.wrap h).tmod n) = x ∧ x < n := by
  have e : IntKind.u64.wrap h = h % 18446744073709551616 := IntKind.wrap_u64 h
  have a0 : 0 ≤ IntKind.u64.wrap h := by rw [e]; exact Int.emod_nonneg _ (by decide)
  have b0 := Int.tmod_nonneg (n : Int) a0
  have b1 := Int.tmod_lt_of_pos (IntKind.u64.wrap h) (show (0 : Int) < n by omega)
  obtain ⟨x, hx⟩ := Int.eq_ofNat_of_zero_le b0
  refine ⟨x, ?_, by omega⟩
  rw [hx]
  rw [IntWalk.i64_left]
  exact IntWalk.wrap64_in _ (by omega)

set_option maxHeartbeats 1000000 in
theorem latSame_any (bx : Nat) (vx v : Value) (x y : List Int) (w : World) (hc : w.cell? ⟨bx, 0, none⟩ = some vx) (hx : Ints w vx x) (hy : Ints w v y) :
    Calls Try.prog 50 #[v, .pointer (some ⟨bx, 0, none⟩)] w fun e w' => e = .returned (.bool (eqI y x)) ∧ Ext w w' := by
  have HX := hid hx
  have HY := hid hy
  obtain ⟨-, ax, cx, rfl, -⟩ := id hx
  obtain ⟨-, ay, cy, rfl, -⟩ := id hy
  clear hx hy
  go_enter Try.func50, Try.ntmps50
  go_wp2_with (fail)
  refine (Equal_any _ _ y x _ HY.out HX.out).mono ?_
  rintro e w1 ⟨rfl, n, rfl⟩
  go_wp2
  go_ret
  exact ⟨rfl, (Ext.refl _).drewN _⟩

theorem any_eqI2 (L : List (List Int)) (x : List Int) (h : x ∈ L) : L.any (fun y => eqI y x) = true := by
  rw [List.any_eq_true]
  exact ⟨x, h, eqI_iff.2 rfl⟩

theorem Rows2.three {w : World} {b : Nat} {va vb vc : Value} {xa xb xc : List Int} (h0 : w.cell? ⟨b, 0, none⟩ = some va) (h1 : w.cell? ⟨b, 1, none⟩ = some vb) (h2 : w.cell? ⟨b, 2, none⟩ = some vc) (ha : Ints w va xa) (hb : Ints w vb xb) (hc : Ints w vc xc) :
    Rows2 w (.slice (some ⟨b, 0, none⟩) 3 3) [xa, xb, xc] := by
  refine ⟨by simp, some ⟨b, 0, none⟩, 3, rfl, by simp, fun i hi => ?_⟩
  match i, hi with
  | 0, _ => exact ⟨b, 0, va, rfl, h0, ha⟩
  | 1, _ => exact ⟨b, 0, vb, rfl, h1, hb⟩
  | 2, _ => exact ⟨b, 0, vc, rfl, h2, hc⟩

end Go.Proofs.Ytkdfbbkonbgfmaa
