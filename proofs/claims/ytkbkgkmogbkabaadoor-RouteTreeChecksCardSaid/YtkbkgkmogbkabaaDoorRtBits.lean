/-
  Sets of stops: bits.
-/
import Derived.Test.YtkbkgkmogbkabaaDoorRtMoat
import Derived.Test.YtkbkgkmogbkabaaDoorRtValid
import Derived.Laws.BitsLemmas
namespace Go.Proofs.YtkbkgkmogbkabaaDoor
open Go.RowKit

/-- A set of stops of a map. -/
def stopsB (n s : Int) : Bool := decide (0 < s ∧ s < 2 ^ n.toNat)
theorem pow_in (n : Int) (h0 : 0 ≤ n) (h8 : n ≤ 8) : (0 : Int) < 2 ^ n.toNat ∧ (2 : Int) ^ n.toNat ≤ 256 := by
  have : n = 0 ∨ n = 1 ∨ n = 2 ∨ n = 3 ∨ n = 4 ∨ n = 5 ∨ n = 6 ∨ n = 7 ∨ n = 8 := by omega
  rcases this with rfl | rfl | rfl | rfl | rfl | rfl | rfl | rfl | rfl <;> decide

theorem stops_any (vr : Value) (m : MapD) (s : Int) (w : World) (hm : MapR w vr m) (h0 : 0 ≤ m.n) (h8 : m.n ≤ 8) :
    Calls Tryd.prog 30 #[.agg #[.int .i64 m.n, vr], .int .i64 s] w fun e w' => e = .returned (.bool (stopsB m.n s)) ∧ Ext w w' := by
  obtain ⟨ao, cap, rfl⟩ := hm.shape
  obtain ⟨p0, p1⟩ := pow_in m.n h0 h8
  obtain ⟨pw, hpw⟩ : ∃ x : Int, x = 2 ^ m.n.toNat := ⟨_, rfl⟩
  have hw : wrap64 (2 ^ m.n.toNat) = pw := by rw [hpw]; exact IntWalk.wrap64_in _ (by omega)
  have Hpw := hid hpw
  clear p0 p1 hpw hm
  by_cases hs : 0 < s
  · by_cases hs2 : s < pw
    · go_enter Tryd.func30, Tryd.ntmps30
      go_wp2
      go_ret
      exact ⟨ret_bool (by unfold stopsB; rw [← Hpw.out]; simp [hs, hs2]), Ext.ofAlloc _ _⟩
    · go_enter Tryd.func30, Tryd.ntmps30
      go_wp2
      go_ret
      exact ⟨ret_bool (by unfold stopsB; rw [← Hpw.out]; simp [hs, hs2]), Ext.ofAlloc _ _⟩
  · go_enter Tryd.func30, Tryd.ntmps30
    go_wp2
    go_ret
    exact ⟨ret_bool (by unfold stopsB; first | (symm; rw [decide_eq_false_iff_not]; omega) | (rw [decide_eq_false_iff_not]; omega)), Ext.ofAlloc _ _⟩
theorem RStops_any (vr : Value) (m : MapD) (s : Int) (w : World) (hm : MapR w vr m) (h0 : 0 ≤ m.n) (h8 : m.n ≤ 8) :
    Calls Tryd.prog 15 #[.agg #[.int .i64 m.n, vr], .int .i64 s] w fun e w' => e = .returned (.bool (stopsB m.n s)) ∧ Ext w w' := by
  obtain ⟨ao, cap, rfl⟩ := hm.shape
  obtain ⟨p0, p1⟩ := pow_in m.n h0 h8
  obtain ⟨pw, hpw⟩ : ∃ x : Int, x = 2 ^ m.n.toNat := ⟨_, rfl⟩
  have hw : wrap64 (2 ^ m.n.toNat) = pw := by rw [hpw]; exact IntWalk.wrap64_in _ (by omega)
  have Hpw := hid hpw
  clear p0 p1 hpw hm
  by_cases hs : 0 < s
  · by_cases hs2 : s < pw
    · go_enter Tryd.func15, Tryd.ntmps15
      go_wp2
      go_ret
      exact ⟨ret_bool (by unfold stopsB; rw [← Hpw.out]; simp [hs, hs2]), Ext.ofAlloc _ _⟩
    · go_enter Tryd.func15, Tryd.ntmps15
      go_wp2
      go_ret
      exact ⟨ret_bool (by unfold stopsB; rw [← Hpw.out]; simp [hs, hs2]), Ext.ofAlloc _ _⟩
  · go_enter Tryd.func15, Tryd.ntmps15
    go_wp2
    go_ret
    exact ⟨ret_bool (by unfold stopsB; first | (symm; rw [decide_eq_false_iff_not]; omega) | (rw [decide_eq_false_iff_not]; omega)), Ext.ofAlloc _ _⟩

theorem wraps_i64_62 (n : Int) (h0 : 0 ≤ n) (h1 : n < 2 ^ 62) : IntKind.i64.wrap n = n := by rw [IntKind.wrap_i64]; omega
theorem bits_one (x : Int) (h0 : 0 ≤ x) (h1 : x < 2 ^ 62) : bits .and .i64 x 1 = x % 2 := by
  have h := bits_mask .i64 62 (by decide) wraps_i64_62 1 (by decide) x h0 h1
  simpa using h
theorem bits_xor (a b : Nat) (ha : a < 2 ^ 62) (hb : b < 2 ^ 62) : bits .xor .i64 a b = ((a ^^^ b : Nat) : Int) := by
  have ha' : a % 2 ^ 64 = a := Nat.mod_eq_of_lt (by omega)
  have hb' : b % 2 ^ 64 = b := Nat.mod_eq_of_lt (by omega)
  have hx : a ^^^ b < 2 ^ 62 := Nat.xor_lt_two_pow ha hb
  show IntKind.i64.wrap ((BitVec.ofInt 64 (a : Int) ^^^ BitVec.ofInt 64 (b : Int)).toNat : Int) = _
  rw [BitVec.toNat_xor, BitVec.ofInt_natCast, BitVec.ofInt_natCast, BitVec.toNat_ofNat, BitVec.toNat_ofNat, ha', hb']
  exact wraps_i64_62 _ (by omega) (by omega)
/-- Whether a road leads out of a set. -/
def crossB (r : RoadD) (s : Int) : Bool := (s / 2 ^ r.a.toNat % 2 != s / 2 ^ r.b.toNat % 2)
theorem div_in (s : Int) (k : Nat) (h0 : 0 ≤ s) (h1 : s ≤ 256) : 0 ≤ s / 2 ^ k ∧ s / 2 ^ k ≤ 256 := by
  have hp : (0 : Int) < 2 ^ k := Int.pow_pos (by omega)
  exact ⟨Int.ediv_nonneg h0 (Int.le_of_lt hp), Int.le_trans (Int.ediv_le_self _ h0) h1⟩
theorem xor_one (x y : Int) (h0 : 0 ≤ x) (h1 : x ≤ 256) (h2 : 0 ≤ y) (h3 : y ≤ 256) : (bits .and .i64 (bits .xor .i64 x y) 1 == 1) = (x % 2 != y % 2) := by
  obtain ⟨a, rfl⟩ := Int.eq_ofNat_of_zero_le h0
  obtain ⟨b, rfl⟩ := Int.eq_ofNat_of_zero_le h2
  have hx : a ^^^ b < 2 ^ 62 := Nat.xor_lt_two_pow (by omega) (by omega)
  rw [bits_xor a b (by omega) (by omega), bits_one _ (by omega) (by omega)]
  have h := Nat.xor_mod_two_pow (a := a) (b := b) (n := 1)
  rw [Nat.pow_one] at h
  have e : ((a ^^^ b : Nat) : Int) % 2 = (((a ^^^ b) % 2 : Nat) : Int) := by omega
  rw [e, h]
  have ea : (a : Int) % 2 = ((a % 2 : Nat) : Int) := by omega
  have eb : (b : Int) % 2 = ((b % 2 : Nat) : Int) := by omega
  rw [ea, eb]
  rcases Nat.mod_two_eq_zero_or_one a with p | p <;> rcases Nat.mod_two_eq_zero_or_one b with q | q <;> rw [p, q] <;> decide

theorem crosses_any (r : RoadD) (s : Int) (w : World) (ha : 0 ≤ r.a) (hb : 0 ≤ r.b) (ha8 : r.a < 8) (hb8 : r.b < 8) (h0 : 0 ≤ s) (h1 : s ≤ 256) :
    Calls Tryd.prog 40 #[.agg #[.int .i64 r.a, .int .i64 r.b, .int .i64 r.cost], .int .i64 s] w fun e w' => e = .returned (.bool (crossB r s)) ∧ Ext w w' := by
  obtain ⟨b0, b1, b2⟩ := (Box3.alloc w 55 (.int .i64 r.a) (.int .i64 r.b) (.int .i64 r.cost)).cells
  have HX : Hid ((bits .and .i64 (bits .xor .i64 (s / 2 ^ r.a.toNat) (s / 2 ^ r.b.toNat)) 1 == 1) = crossB r s) := by
    obtain ⟨a0, a1⟩ := div_in s r.a.toNat h0 h1
    obtain ⟨c0, c1⟩ := div_in s r.b.toNat h0 h1
    exact xor_one _ _ a0 a1 c0 c1
  go_enter Tryd.func40, Tryd.ntmps40
  go_wp2
  refine wp_region_held_drew (S := (fun w' => w'.cell? ⟨w.heap.size, 0, none⟩ = some (.int .i64 r.a) ∧ w'.cell? ⟨w.heap.size, 1, none⟩ = some (.int .i64 r.b))) (by kernel_rfl) ?hSa0 (fun hHeld => ?_)
  case hSa0 => (first | (exact ⟨b0, b1⟩) | ((try dsimp only); exact ⟨b0, b1⟩))
  refine wpAnyH_tk 0 (v := ?va0) rfl (by kernel_rfl) (by kernel_rfl) (by kernel_rfl) (fun _ _ _ h => h) (by rfl) ?hya0 (by assumption) ?_
  case hya0 => (intro w hSw; (try dsimp only at hSw); go_simp <;> with_reducible rfl)
  (try simp only [Act.put, List.setIfInBounds_toArray, List.set_cons_zero, List.set_cons_succ])
  refine wpAnyH_tk 1 (v := ?va1) rfl (by kernel_rfl) (by kernel_rfl) (by kernel_rfl) (fun _ _ _ h => h) (by rfl) ?hya1 (by assumption) ?_
  case hya1 => (intro w hSw; (try dsimp only at hSw); go_simp <;> with_reducible rfl)
  (try simp only [Act.put, List.setIfInBounds_toArray, List.set_cons_zero, List.set_cons_succ])
  refine wpAnyH_tk 2 (v := ?va2) rfl (by kernel_rfl) (by kernel_rfl) (by kernel_rfl) (fun _ _ _ h => h) (by rfl) ?hya2 (by assumption) ?_
  case hya2 => (intro w hSw; (try dsimp only at hSw); go_simp <;> with_reducible rfl)
  (try simp only [Act.put, List.setIfInBounds_toArray, List.set_cons_zero, List.set_cons_succ])
  refine wpAnyH_tk 3 (v := ?va3) rfl (by kernel_rfl) (by kernel_rfl) (by kernel_rfl) (fun _ _ _ h => h) (by rfl) ?hya3 (by assumption) ?_
  case hya3 => (intro w hSw; (try dsimp only at hSw); go_simp <;> with_reducible rfl)
  (try simp only [Act.put, List.setIfInBounds_toArray, List.set_cons_zero, List.set_cons_succ])
  refine wpAnyH_tk 4 (v := ?va4) rfl (by kernel_rfl) (by kernel_rfl) (by kernel_rfl) (fun _ _ _ h => h) (by rfl) ?hya4 (by assumption) ?_
  case hya4 => (intro w hSw; (try dsimp only at hSw); go_simp <;> with_reducible rfl)
  (try simp only [Act.put, List.setIfInBounds_toArray, List.set_cons_zero, List.set_cons_succ])
  refine wpAnyH_tk 5 (v := ?va5) rfl (by kernel_rfl) (by kernel_rfl) (by kernel_rfl) (fun _ _ _ h => h) (by rfl) ?hya5 (by assumption) ?_
  case hya5 => (intro w hSw; (try dsimp only at hSw); go_simp <;> with_reducible rfl)
  (try simp only [Act.put, List.setIfInBounds_toArray, List.set_cons_zero, List.set_cons_succ])
  refine wpAnyH_tk 6 (v := ?va6) rfl (by kernel_rfl) (by kernel_rfl) (by kernel_rfl) (fun _ _ _ h => h) (by rfl) ?hya6 (by assumption) ?_
  case hya6 => (intro w hSw; (try dsimp only at hSw); go_simp <;> with_reducible rfl)
  (try simp only [Act.put, List.setIfInBounds_toArray, List.set_cons_zero, List.set_cons_succ])
  refine wpAnyH_tk 7 (v := ?va7) rfl (by kernel_rfl) (by kernel_rfl) (by kernel_rfl) (fun _ _ _ h => h) (by rfl) ?hya7 (by assumption) ?_
  case hya7 => (intro w hSw; (try dsimp only at hSw); go_simp <;> with_reducible rfl)
  (try simp only [Act.put, List.setIfInBounds_toArray, List.set_cons_zero, List.set_cons_succ])
  refine wpAnyH_tk 8 (v := ?va8) rfl (by kernel_rfl) (by kernel_rfl) (by kernel_rfl) (fun _ _ _ h => h) (by rfl) ?hya8 (by assumption) ?_
  case hya8 => (intro w hSw; (try dsimp only at hSw); go_simp <;> with_reducible rfl)
  (try simp only [Act.put, List.setIfInBounds_toArray, List.set_cons_zero, List.set_cons_succ])
  refine wpAnyH_tk 9 (v := ?va9) rfl (by kernel_rfl) (by kernel_rfl) (by kernel_rfl) (fun _ _ _ h => h) (by rfl) ?hya9 (by assumption) ?_
  case hya9 => (intro w hSw; (try dsimp only at hSw); go_simp <;> with_reducible rfl)
  (try simp only [Act.put, List.setIfInBounds_toArray, List.set_cons_zero, List.set_cons_succ])
  refine wpAnyH_tk 10 (v := ?va10) rfl (by kernel_rfl) (by kernel_rfl) (by kernel_rfl) (fun _ _ _ h => h) (by rfl) ?hya10 (by assumption) ?_
  case hya10 => (intro w hSw; (try dsimp only at hSw); go_simp <;> with_reducible rfl)
  (try simp only [Act.put, List.setIfInBounds_toArray, List.set_cons_zero, List.set_cons_succ])
  refine wpAnyH_tk 11 (v := ?va11) rfl (by kernel_rfl) (by kernel_rfl) (by kernel_rfl) (fun _ _ _ h => h) (by rfl) ?hya11 (by assumption) ?_
  case hya11 => (intro w hSw; (try dsimp only at hSw); go_simp <;> with_reducible rfl)
  (try simp only [Act.put, List.setIfInBounds_toArray, List.set_cons_zero, List.set_cons_succ])
  refine wpAnyH_done (by kernel_rfl) ?_ _
  go_wp2
  go_ret
  exact ⟨ret_bool HX.out, (Ext.ofAlloc _ _).drew⟩

end Go.Proofs.YtkbkgkmogbkabaaDoor
