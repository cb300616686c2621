/-
  Texts of this claim, part 10: RtBits, TrConn, TrJoined, TrTree, TrCheck, TrRTree.
-/
import Derived.Laws.BitsLemmas
import Derived.Test.YtkbkgkmogbkabaaDoorK9
/-
  Sets of stops: bits.
-/
namespace Go.Proofs.YtkbkgkmogbkabaaDoor
open Go.RowKit

/-- A set of stops of a map. -/
def stopsB (n s : Int) : Bool := decide (0 < s ∧ s < 2 ^ n.toNat)
theorem pow_in (n : Int) (h0 : 0 ≤ n) (h8 : n ≤ 8) : (0 : Int) < 2 ^ n.toNat ∧ (2 : Int) ^ n.toNat ≤ 256 := by
  have : n = 0 ∨ n = 1 ∨ n = 2 ∨ n = 3 ∨ n = 4 ∨ n = 5 ∨ n = 6 ∨ n = 7 ∨ n = 8 := by omega
  rcases this with rfl | rfl | rfl | rfl | rfl | rfl | rfl | rfl | rfl <;> decide

theorem stops_any (vr : Value) (m : MapD) (s : Int) (w : World) (hm : MapR w vr m) (h0 : 0 ≤ m.n) (h8 : m.n ≤ 8) :
    Calls Tryd.prog 30 #[.agg #[.int .i64 m.n, vr], .int .i64 s] w fun e w' => e = .returned (.bool (stopsB m.n s)) ∧ Ext w w' := by
  obtain ⟨ao, cap, rfl⟩ := hm.shape
  obtain ⟨p0, p1⟩ := pow_in m.n h0 h8
  obtain ⟨pw, hpw⟩ : ∃ x : Int, x = 2 ^ m.n.toNat := ⟨_, rfl⟩
  have hw : wrap64 (2 ^ m.n.toNat) = pw := by rw [hpw]; exact IntWalk.wrap64_in _ (by omega)
  have Hpw := hid hpw
  clear p0 p1 hpw hm
  by_cases hs : 0 < s
  · by_cases hs2 : s < pw
    · go_enter Tryd.func30, Tryd.ntmps30
      go_wp2
      go_ret
      exact ⟨ret_bool (by unfold stopsB; rw [← Hpw.out]; simp [hs, hs2]), Ext.ofAlloc _ _⟩
    · go_enter Tryd.func30, Tryd.ntmps30
      go_wp2
      go_ret
      exact ⟨ret_bool (by unfold stopsB; rw [← Hpw.out]; simp [hs, hs2]), Ext.ofAlloc _ _⟩
  · go_enter Tryd.func30, Tryd.ntmps30
    go_wp2
    go_ret
    exact ⟨ret_bool (by unfold stopsB; first | (symm; rw [decide_eq_false_iff_not]; omega) | (rw [decide_eq_false_iff_not]; omega)), Ext.ofAlloc _ _⟩
theorem RStops_any (vr : Value) (m : MapD) (s : Int) (w : World) (hm : MapR w vr m) (h0 : 0 ≤ m.n) (h8 : m.n ≤ 8) :
    Calls Tryd.prog 15 #[.agg #[.int .i64 m.n, vr], .int .i64 s] w fun e w' => e = .returned (.bool (stopsB m.n s)) ∧ Ext w w' := by
  obtain ⟨ao, cap, rfl⟩ := hm.shape
  obtain ⟨p0, p1⟩ := pow_in m.n h0 h8
  obtain ⟨pw, hpw⟩ : ∃ x : Int, x = 2 ^ m.n.toNat := ⟨_, rfl⟩
  have hw : wrap64 (2 ^ m.n.toNat) = pw := by rw [hpw]; exact IntWalk.wrap64_in _ (by omega)
  have Hpw := hid hpw
  clear p0 p1 hpw hm
  by_cases hs : 0 < s
  · by_cases hs2 : s < pw
    · go_enter Tryd.func15, Tryd.ntmps15
      go_wp2
      go_ret
      exact ⟨ret_bool (by unfold stopsB; rw [← Hpw.out]; simp [hs, hs2]), Ext.ofAlloc _ _⟩
    · go_enter Tryd.func15, Tryd.ntmps15
      go_wp2
      go_ret
      exact ⟨ret_bool (by unfold stopsB; rw [← Hpw.out]; simp [hs, hs2]), Ext.ofAlloc _ _⟩
  · go_enter Tryd.func15, Tryd.ntmps15
    go_wp2
    go_ret
    exact ⟨ret_bool (by unfold stopsB; first | (symm; rw [decide_eq_false_iff_not]; omega) | (rw [decide_eq_false_iff_not]; omega)), Ext.ofAlloc _ _⟩

theorem wraps_i64_62 (n : Int) (h0 : 0 ≤ n) (h1 : n < 2 ^ 62) : IntKind.i64.wrap n = n := by rw [IntKind.wrap_i64]; omega
theorem bits_one (x : Int) (h0 : 0 ≤ x) (h1 : x < 2 ^ 62) : bits .and .i64 x 1 = x % 2 := by
  have h := bits_mask .i64 62 (by decide) wraps_i64_62 1 (by decide) x h0 h1
  simpa using h
theorem bits_xor (a b : Nat) (ha : a < 2 ^ 62) (hb : b < 2 ^ 62) : bits .xor .i64 a b = ((a ^^^ b : Nat) : Int) := by
  have ha' : a % 2 ^ 64 = a := Nat.mod_eq_of_lt (by omega)
  have hb' : b % 2 ^ 64 = b := Nat.mod_eq_of_lt (by omega)
  have hx : a ^^^ b < 2 ^ 62 := Nat.xor_lt_two_pow ha hb
  show IntKind.i64.wrap ((BitVec.ofInt 64 (a : Int) ^^^ BitVec.ofInt 64 (b : Int)).toNat : Int) = _
  rw [BitVec.toNat_xor, BitVec.ofInt_natCast, BitVec.ofInt_natCast, BitVec.toNat_ofNat, BitVec.toNat_ofNat, ha', hb']
  exact wraps_i64_62 _ (by omega) (by omega)
/-- Whether a road leads out of a set. -/
def crossB (r : RoadD) (s : Int) : Bool := (s / 2 ^ r.a.toNat % 2 != s / 2 ^ r.b.toNat % 2)
theorem div_in (s : Int) (k : Nat) (h0 : 0 ≤ s) (h1 : s ≤ 256) : 0 ≤ s / 2 ^ k ∧ s / 2 ^ k ≤ 256 := by
  have hp : (0 : Int) < 2 ^ k := Int.pow_pos (by omega)
  exact ⟨Int.ediv_nonneg h0 (Int.le_of_lt hp), Int.le_trans (Int.ediv_le_self _ h0) h1⟩
theorem xor_one (x y : Int) (h0 : 0 ≤ x) (h1 : x ≤ 256) (h2 : 0 ≤ y) (h3 : y ≤ 256) : (bits .and .i64 (bits .xor .i64 x y) 1 == 1) = (x % 2 != y % 2) := by
  obtain ⟨a, rfl⟩ := Int.eq_ofNat_of_zero_le h0
  obtain ⟨b, rfl⟩ := Int.eq_ofNat_of_zero_le h2
  have hx : a ^^^ b < 2 ^ 62 := Nat.xor_lt_two_pow (by omega) (by omega)
  rw [bits_xor a b (by omega) (by omega), bits_one _ (by omega) (by omega)]
  have h := Nat.xor_mod_two_pow (a := a) (b := b) (n := 1)
  rw [Nat.pow_one] at h
  have e : ((a ^^^ b : Nat) : Int) % 2 = (((a ^^^ b) % 2 : Nat) : Int) := by omega
  rw [e, h]
  have ea : (a : Int) % 2 = ((a % 2 : Nat) : Int) := by omega
  have eb : (b : Int) % 2 = ((b % 2 : Nat) : Int) := by omega
  rw [ea, eb]
  rcases Nat.mod_two_eq_zero_or_one a with p | p <;> rcases Nat.mod_two_eq_zero_or_one b with q | q <;> rw [p, q] <;> decide

theorem crosses_any (r : RoadD) (s : Int) (w : World) (ha : 0 ≤ r.a) (hb : 0 ≤ r.b) (ha8 : r.a < 8) (hb8 : r.b < 8) (h0 : 0 ≤ s) (h1 : s ≤ 256) :
    Calls Tryd.prog 40 #[.agg #[.int .i64 r.a, .int .i64 r.b, .int .i64 r.cost], .int .i64 s] w fun e w' => e = .returned (.bool (crossB r s)) ∧ Ext w w' := by
  obtain ⟨b0, b1, b2⟩ := (Box3.alloc w 55 (.int .i64 r.a) (.int .i64 r.b) (.int .i64 r.cost)).cells
  have HX : Hid ((bits .and .i64 (bits .xor .i64 (s / 2 ^ r.a.toNat) (s / 2 ^ r.b.toNat)) 1 == 1) = crossB r s) := by
    obtain ⟨a0, a1⟩ := div_in s r.a.toNat h0 h1
    obtain ⟨c0, c1⟩ := div_in s r.b.toNat h0 h1
    exact xor_one _ _ a0 a1 c0 c1
  go_enter Tryd.func40, Tryd.ntmps40
  go_wp2
  refine wp_region_held_drew (S := (fun w' => w'.cell? ⟨w.heap.size, 0, none⟩ = some (.int .i64 r.a) ∧ w'.cell? ⟨w.heap.size, 1, none⟩ = some (.int .i64 r.b))) (by kernel_rfl) ?hSa0 (fun hHeld => ?_)
  case hSa0 => (first | (exact ⟨b0, b1⟩) | ((try dsimp only); exact ⟨b0, b1⟩))
  refine wpAnyH_tk 0 (v := ?va0) rfl (by kernel_rfl) (by kernel_rfl) (by kernel_rfl) (fun _ _ _ h => h) (by rfl) ?hya0 (by assumption) ?_
  case hya0 => (intro w hSw; (try dsimp only at hSw); go_simp <;> with_reducible rfl)
  (try simp only [Act.put, List.setIfInBounds_toArray, List.set_cons_zero, List.set_cons_succ])
  refine wpAnyH_tk 1 (v := ?va1) rfl (by kernel_rfl) (by kernel_rfl) (by kernel_rfl) (fun _ _ _ h => h) (by rfl) ?hya1 (by assumption) ?_
  case hya1 => (intro w hSw; (try dsimp only at hSw); go_simp <;> with_reducible rfl)
  (try simp only [Act.put, List.setIfInBounds_toArray, List.set_cons_zero, List.set_cons_succ])
  refine wpAnyH_tk 2 (v := ?va2) rfl (by kernel_rfl) (by kernel_rfl) (by kernel_rfl) (fun _ _ _ h => h) (by rfl) ?hya2 (by assumption) ?_
  case hya2 => (intro w hSw; (try dsimp only at hSw); go_simp <;> with_reducible rfl)
  (try simp only [Act.put, List.setIfInBounds_toArray, List.set_cons_zero, List.set_cons_succ])
  refine wpAnyH_tk 3 (v := ?va3) rfl (by kernel_rfl) (by kernel_rfl) (by kernel_rfl) (fun _ _ _ h => h) (by rfl) ?hya3 (by assumption) ?_
  case hya3 => (intro w hSw; (try dsimp only at hSw); go_simp <;> with_reducible rfl)
  (try simp only [Act.put, List.setIfInBounds_toArray, List.set_cons_zero, List.set_cons_succ])
  refine wpAnyH_tk 4 (v := ?va4) rfl (by kernel_rfl) (by kernel_rfl) (by kernel_rfl) (fun _ _ _ h => h) (by rfl) ?hya4 (by assumption) ?_
  case hya4 => (intro w hSw; (try dsimp only at hSw); go_simp <;> with_reducible rfl)
  (try simp only [Act.put, List.setIfInBounds_toArray, List.set_cons_zero, List.set_cons_succ])
  refine wpAnyH_tk 5 (v := ?va5) rfl (by kernel_rfl) (by kernel_rfl) (by kernel_rfl) (fun _ _ _ h => h) (by rfl) ?hya5 (by assumption) ?_
  case hya5 => (intro w hSw; (try dsimp only at hSw); go_simp <;> with_reducible rfl)
  (try simp only [Act.put, List.setIfInBounds_toArray, List.set_cons_zero, List.set_cons_succ])
  refine wpAnyH_tk 6 (v := ?va6) rfl (by kernel_rfl) (by kernel_rfl) (by kernel_rfl) (fun _ _ _ h => h) (by rfl) ?hya6 (by assumption) ?_
  case hya6 => (intro w hSw; (try dsimp only at hSw); go_simp <;> with_reducible rfl)
  (try simp only [Act.put, List.setIfInBounds_toArray, List.set_cons_zero, List.set_cons_succ])
  refine wpAnyH_tk 7 (v := ?va7) rfl (by kernel_rfl) (by kernel_rfl) (by kernel_rfl) (fun _ _ _ h => h) (by rfl) ?hya7 (by assumption) ?_
  case hya7 => (intro w hSw; (try dsimp only at hSw); go_simp <;> with_reducible rfl)
  (try simp only [Act.put, List.setIfInBounds_toArray, List.set_cons_zero, List.set_cons_succ])
  refine wpAnyH_tk 8 (v := ?va8) rfl (by kernel_rfl) (by kernel_rfl) (by kernel_rfl) (fun _ _ _ h => h) (by rfl) ?hya8 (by assumption) ?_
  case hya8 => (intro w hSw; (try dsimp only at hSw); go_simp <;> with_reducible rfl)
  (try simp only [Act.put, List.setIfInBounds_toArray, List.set_cons_zero, List.set_cons_succ])
  refine wpAnyH_tk 9 (v := ?va9) rfl (by kernel_rfl) (by kernel_rfl) (by kernel_rfl) (fun _ _ _ h => h) (by rfl) ?hya9 (by assumption) ?_
  case hya9 => (intro w hSw; (try dsimp only at hSw); go_simp <;> with_reducible rfl)
  (try simp only [Act.put, List.setIfInBounds_toArray, List.set_cons_zero, List.set_cons_succ])
  refine wpAnyH_tk 10 (v := ?va10) rfl (by kernel_rfl) (by kernel_rfl) (by kernel_rfl) (fun _ _ _ h => h) (by rfl) ?hya10 (by assumption) ?_
  case hya10 => (intro w hSw; (try dsimp only at hSw); go_simp <;> with_reducible rfl)
  (try simp only [Act.put, List.setIfInBounds_toArray, List.set_cons_zero, List.set_cons_succ])
  refine wpAnyH_tk 11 (v := ?va11) rfl (by kernel_rfl) (by kernel_rfl) (by kernel_rfl) (fun _ _ _ h => h) (by rfl) ?hya11 (by assumption) ?_
  case hya11 => (intro w hSw; (try dsimp only at hSw); go_simp <;> with_reducible rfl)
  (try simp only [Act.put, List.setIfInBounds_toArray, List.set_cons_zero, List.set_cons_succ])
  refine wpAnyH_done (by kernel_rfl) ?_ _
  go_wp2
  go_ret
  exact ⟨ret_bool HX.out, (Ext.ofAlloc _ _).drew⟩

end Go.Proofs.YtkbkgkmogbkabaaDoor

/-
  Contract of connected, given that of the least bit.
-/
namespace Go.Proofs.YtkbkgkmogbkabaaDoor
open Go.RowKit

/-- Whether all stops of a set bear one label. -/
def connP (p : Nat → Int) (s : Int) (k : Nat) : Prop := ∀ i, i < 8 → s / 2 ^ i % 2 = 1 → p i = p k


set_option maxRecDepth 20000 in
set_option maxHeartbeats 4000000 in
theorem connected_any (b : Nat) (p : Nat → Int) (s : Int) (k : Nat) (w : World) (hp : PBox w b p) (h0 : 0 < s) (h1 : s < 256) (hk : k < 8)
    (hTZ : Calls Tryd.prog 56 #[.int .u64 s] w fun e w' => e = .returned (.int .i64 k) ∧ w' = w) [dec : Decidable (connP p s k)] :
    Calls Tryd.prog 37 #[.pointer (some ⟨b, 0, none⟩), .int .i64 s] w fun e w' => e = .returned (.bool (decide (connP p s k))) ∧ Ext w w' := by
  have HP := hid hp
  have HTZ := hid hTZ
  have hwr : IntKind.u64.wrap s = s := by rw [IntKind.wrap_u64]; omega
  have hk8 : (k : Int) < 8 := by omega
  clear hp hTZ
  go_enter Tryd.func37, Tryd.ntmps37
  go_wp2_with (fail)
  refine HTZ.out.mono ?_
  rintro e w1 ⟨rfl, rfl⟩
  clear hwr
  go_wp2
  go_loopg [10] 8 (fun g i wr => ∃ n : Nat, n + g = 8 ∧ i = .int .i64 n ∧ Hid (∀ i, i < n → s / 2 ^ i % 2 = 1 → p i = p k) ∧ Hid (Ext w1 wr))
  case atStart => exact ⟨0, by omega, rfl, fun i hi => by omega, Ext.refl _⟩
  case round =>
    obtain ⟨n, hn, rfl, OK, E⟩ := hrel
    have hn8 : n ≤ 8 := by omega
    have Hn := hid hn
    clear hn
    by_cases hlt : n < 8
    · have dn := (HP.out.ext E.out).cell hlt
      have dk := (HP.out.ext E.out).cell hk
      obtain ⟨u0, u1⟩ := div_in s n (by omega) (by omega)
      have ua := bits_one _ u0 (by omega)
      have E2 := hid E.out.drew
      obtain ⟨x, hx⟩ : ∃ x, x = p n := ⟨_, rfl⟩
      obtain ⟨y, hy⟩ : ∃ y, y = p k := ⟨_, rfl⟩
      rw [← hx] at dn
      rw [← hy] at dk
      have HX := hid hx
      have HY := hid hy
      obtain ⟨q, hq⟩ : ∃ q, q = s / 2 ^ n % 2 := ⟨_, rfl⟩
      rw [← hq] at ua
      have HQ := hid hq
      clear hx hy hq u0 u1
      by_cases z1 : q = 1
      · have z1b : (q == 1) = true := beq_iff_eq.2 z1
        by_cases z2 : x = y
        · have z2b : (x != y) = false := by rw [z2]; simp
          have OK2 : Hid (∀ i, i < n + 1 → s / 2 ^ i % 2 = 1 → p i = p k) := by
            intro i hi hb
            by_cases e : i = n
            · subst e; rw [← HX.out, ← HY.out]; exact z2
            · exact OK.out i (by omega) hb
          clear z1 z2
          go_wp2
          refine wp_region_held_drew (S := (fun w' => w'.cell? ⟨b, n, none⟩ = some (.int .i64 x) ∧ w'.cell? ⟨b, k, none⟩ = some (.int .i64 y))) (by kernel_rfl) ?hSa0 (fun hHeld => ?_)
          case hSa0 => (first | (exact ⟨dn, dk⟩) | ((try dsimp only); exact ⟨dn, dk⟩))
          refine wpAnyH_tk 0 (v := ?va0) rfl (by kernel_rfl) (by kernel_rfl) (by kernel_rfl) (fun _ _ _ h => h) (by rfl) ?hya0 (by assumption) ?_
          case hya0 => (intro w hSw; (try dsimp only at hSw); go_simp <;> with_reducible rfl)
          (try simp only [Act.put, List.setIfInBounds_toArray, List.set_cons_zero, List.set_cons_succ])
          refine wpAnyH_tk 1 (v := ?va1) rfl (by kernel_rfl) (by kernel_rfl) (by kernel_rfl) (fun _ _ _ h => h) (by rfl) ?hya1 (by assumption) ?_
          case hya1 => (intro w hSw; (try dsimp only at hSw); go_simp <;> with_reducible rfl)
          (try simp only [Act.put, List.setIfInBounds_toArray, List.set_cons_zero, List.set_cons_succ])
          refine wpAnyH_tk 2 (v := ?va2) rfl (by kernel_rfl) (by kernel_rfl) (by kernel_rfl) (fun _ _ _ h => h) (by rfl) ?hya2 (by assumption) ?_
          case hya2 => (intro w hSw; (try dsimp only at hSw); go_simp <;> with_reducible rfl)
          (try simp only [Act.put, List.setIfInBounds_toArray, List.set_cons_zero, List.set_cons_succ])
          refine wpAnyH_tk 3 (v := ?va3) rfl (by kernel_rfl) (by kernel_rfl) (by kernel_rfl) (fun _ _ _ h => h) (by rfl) ?hya3 (by assumption) ?_
          case hya3 => (intro w hSw; (try dsimp only at hSw); go_simp <;> with_reducible rfl)
          (try simp only [Act.put, List.setIfInBounds_toArray, List.set_cons_zero, List.set_cons_succ])
          refine wpAnyH_tk 4 (v := ?va4) rfl (by kernel_rfl) (by kernel_rfl) (by kernel_rfl) (fun _ _ _ h => h) (by rfl) ?hya4 (by assumption) ?_
          case hya4 => (intro w hSw; (try dsimp only at hSw); go_simp <;> with_reducible rfl)
          (try simp only [Act.put, List.setIfInBounds_toArray, List.set_cons_zero, List.set_cons_succ])
          refine wpAnyH_tk 5 (v := ?va5) rfl (by kernel_rfl) (by kernel_rfl) (by kernel_rfl) (fun _ _ _ h => h) (by rfl) ?hya5 (by assumption) ?_
          case hya5 => (intro w hSw; (try dsimp only at hSw); go_simp <;> with_reducible rfl)
          (try simp only [Act.put, List.setIfInBounds_toArray, List.set_cons_zero, List.set_cons_succ])
          refine wpAnyH_tk 6 (v := ?va6) rfl (by kernel_rfl) (by kernel_rfl) (by kernel_rfl) (fun _ _ _ h => h) (by rfl) ?hya6 (by assumption) ?_
          case hya6 => (intro w hSw; (try dsimp only at hSw); go_simp <;> with_reducible rfl)
          (try simp only [Act.put, List.setIfInBounds_toArray, List.set_cons_zero, List.set_cons_succ])
          refine wpAnyH_tk 7 (v := ?va7) rfl (by kernel_rfl) (by kernel_rfl) (by kernel_rfl) (fun _ _ _ h => h) (by rfl) ?hya7 (by assumption) ?_
          case hya7 => (intro w hSw; (try dsimp only at hSw); go_simp <;> with_reducible rfl)
          (try simp only [Act.put, List.setIfInBounds_toArray, List.set_cons_zero, List.set_cons_succ])
          refine wpAnyH_tk 8 (v := ?va8) rfl (by kernel_rfl) (by kernel_rfl) (by kernel_rfl) (fun _ _ _ h => h) (by rfl) ?hya8 (by assumption) ?_
          case hya8 => (intro w hSw; (try dsimp only at hSw); go_simp <;> with_reducible rfl)
          (try simp only [Act.put, List.setIfInBounds_toArray, List.set_cons_zero, List.set_cons_succ])
          refine wpAnyH_tk 9 (v := ?va9) rfl (by kernel_rfl) (by kernel_rfl) (by kernel_rfl) (fun _ _ _ h => h) (by rfl) ?hya9 (by assumption) ?_
          case hya9 => (intro w hSw; (try dsimp only at hSw); go_simp <;> with_reducible rfl)
          (try simp only [Act.put, List.setIfInBounds_toArray, List.set_cons_zero, List.set_cons_succ])
          refine wpAnyH_tk 10 (v := ?va10) rfl (by kernel_rfl) (by kernel_rfl) (by kernel_rfl) (fun _ _ _ h => h) (by rfl) ?hya10 (by assumption) ?_
          case hya10 => (intro w hSw; (try dsimp only at hSw); go_simp <;> with_reducible rfl)
          (try simp only [Act.put, List.setIfInBounds_toArray, List.set_cons_zero, List.set_cons_succ])
          refine wpAnyH_tk 11 (v := ?va11) rfl (by kernel_rfl) (by kernel_rfl) (by kernel_rfl) (fun _ _ _ h => h) (by rfl) ?hya11 (by assumption) ?_
          case hya11 => (intro w hSw; (try dsimp only at hSw); go_simp <;> with_reducible rfl)
          (try simp only [Act.put, List.setIfInBounds_toArray, List.set_cons_zero, List.set_cons_succ])
          refine wpAnyH_tk 12 (v := ?va12) rfl (by kernel_rfl) (by kernel_rfl) (by kernel_rfl) (fun _ _ _ h => h) (by rfl) ?hya12 (by assumption) ?_
          case hya12 => (intro w hSw; (try dsimp only at hSw); go_simp <;> with_reducible rfl)
          (try simp only [Act.put, List.setIfInBounds_toArray, List.set_cons_zero, List.set_cons_succ])
          refine wpAnyH_tk 13 (v := ?va13) rfl (by kernel_rfl) (by kernel_rfl) (by kernel_rfl) (fun _ _ _ h => h) (by rfl) ?hya13 (by assumption) ?_
          case hya13 => (intro w hSw; (try dsimp only at hSw); go_simp <;> with_reducible rfl)
          (try simp only [Act.put, List.setIfInBounds_toArray, List.set_cons_zero, List.set_cons_succ])
          refine wpAnyH_tk 14 (v := ?va14) rfl (by kernel_rfl) (by kernel_rfl) (by kernel_rfl) (fun _ _ _ h => h) (by rfl) ?hya14 (by assumption) ?_
          case hya14 => (intro w hSw; (try dsimp only at hSw); go_simp <;> with_reducible rfl)
          (try simp only [Act.put, List.setIfInBounds_toArray, List.set_cons_zero, List.set_cons_succ])
          refine wpAnyH_tk 15 (v := ?va15) rfl (by kernel_rfl) (by kernel_rfl) (by kernel_rfl) (fun _ _ _ h => h) (by rfl) ?hya15 (by assumption) ?_
          case hya15 => (intro w hSw; (try dsimp only at hSw); go_simp <;> with_reducible rfl)
          (try simp only [Act.put, List.setIfInBounds_toArray, List.set_cons_zero, List.set_cons_succ])
          refine wpAnyH_tk 16 (v := ?va16) rfl (by kernel_rfl) (by kernel_rfl) (by kernel_rfl) (fun _ _ _ h => h) (by rfl) ?hya16 (by assumption) ?_
          case hya16 => (intro w hSw; (try dsimp only at hSw); go_simp <;> with_reducible rfl)
          (try simp only [Act.put, List.setIfInBounds_toArray, List.set_cons_zero, List.set_cons_succ])
          refine wpAnyH_tk 17 (v := ?va17) rfl (by kernel_rfl) (by kernel_rfl) (by kernel_rfl) (fun _ _ _ h => h) (by rfl) ?hya17 (by assumption) ?_
          case hya17 => (intro w hSw; (try dsimp only at hSw); go_simp <;> with_reducible rfl)
          (try simp only [Act.put, List.setIfInBounds_toArray, List.set_cons_zero, List.set_cons_succ])
          refine wpAnyH_done (by kernel_rfl) ?_ _
          clear hHeld dn dk ua z1b z2b
          go_wp2
          go_roundg (gk - 1)
          case rel => exact ⟨n + 1, by have := Hn.out; omega, by go_num, OK2.out, E2.out⟩
          case measure => have := Hn.out; omega
        · have z2b : (x != y) = true := by rw [bne_iff_ne]; exact z2
          have HR : Hid (decide (connP p s k) = false) := decide_eq_false (fun h => z2 (by rw [HX.out, HY.out]; exact h n hlt (by rw [← HQ.out]; exact z1)))
          clear z1 z2
          go_wp2
          refine wp_region_held_drew (S := (fun w' => w'.cell? ⟨b, n, none⟩ = some (.int .i64 x) ∧ w'.cell? ⟨b, k, none⟩ = some (.int .i64 y))) (by kernel_rfl) ?hSb0 (fun hHeld => ?_)
          case hSb0 => (first | (exact ⟨dn, dk⟩) | ((try dsimp only); exact ⟨dn, dk⟩))
          refine wpAnyH_tk 0 (v := ?vb0) rfl (by kernel_rfl) (by kernel_rfl) (by kernel_rfl) (fun _ _ _ h => h) (by rfl) ?hyb0 (by assumption) ?_
          case hyb0 => (intro w hSw; (try dsimp only at hSw); go_simp <;> with_reducible rfl)
          (try simp only [Act.put, List.setIfInBounds_toArray, List.set_cons_zero, List.set_cons_succ])
          refine wpAnyH_tk 1 (v := ?vb1) rfl (by kernel_rfl) (by kernel_rfl) (by kernel_rfl) (fun _ _ _ h => h) (by rfl) ?hyb1 (by assumption) ?_
          case hyb1 => (intro w hSw; (try dsimp only at hSw); go_simp <;> with_reducible rfl)
          (try simp only [Act.put, List.setIfInBounds_toArray, List.set_cons_zero, List.set_cons_succ])
          refine wpAnyH_tk 2 (v := ?vb2) rfl (by kernel_rfl) (by kernel_rfl) (by kernel_rfl) (fun _ _ _ h => h) (by rfl) ?hyb2 (by assumption) ?_
          case hyb2 => (intro w hSw; (try dsimp only at hSw); go_simp <;> with_reducible rfl)
          (try simp only [Act.put, List.setIfInBounds_toArray, List.set_cons_zero, List.set_cons_succ])
          refine wpAnyH_tk 3 (v := ?vb3) rfl (by kernel_rfl) (by kernel_rfl) (by kernel_rfl) (fun _ _ _ h => h) (by rfl) ?hyb3 (by assumption) ?_
          case hyb3 => (intro w hSw; (try dsimp only at hSw); go_simp <;> with_reducible rfl)
          (try simp only [Act.put, List.setIfInBounds_toArray, List.set_cons_zero, List.set_cons_succ])
          refine wpAnyH_tk 4 (v := ?vb4) rfl (by kernel_rfl) (by kernel_rfl) (by kernel_rfl) (fun _ _ _ h => h) (by rfl) ?hyb4 (by assumption) ?_
          case hyb4 => (intro w hSw; (try dsimp only at hSw); go_simp <;> with_reducible rfl)
          (try simp only [Act.put, List.setIfInBounds_toArray, List.set_cons_zero, List.set_cons_succ])
          refine wpAnyH_tk 5 (v := ?vb5) rfl (by kernel_rfl) (by kernel_rfl) (by kernel_rfl) (fun _ _ _ h => h) (by rfl) ?hyb5 (by assumption) ?_
          case hyb5 => (intro w hSw; (try dsimp only at hSw); go_simp <;> with_reducible rfl)
          (try simp only [Act.put, List.setIfInBounds_toArray, List.set_cons_zero, List.set_cons_succ])
          refine wpAnyH_tk 6 (v := ?vb6) rfl (by kernel_rfl) (by kernel_rfl) (by kernel_rfl) (fun _ _ _ h => h) (by rfl) ?hyb6 (by assumption) ?_
          case hyb6 => (intro w hSw; (try dsimp only at hSw); go_simp <;> with_reducible rfl)
          (try simp only [Act.put, List.setIfInBounds_toArray, List.set_cons_zero, List.set_cons_succ])
          refine wpAnyH_tk 7 (v := ?vb7) rfl (by kernel_rfl) (by kernel_rfl) (by kernel_rfl) (fun _ _ _ h => h) (by rfl) ?hyb7 (by assumption) ?_
          case hyb7 => (intro w hSw; (try dsimp only at hSw); go_simp <;> with_reducible rfl)
          (try simp only [Act.put, List.setIfInBounds_toArray, List.set_cons_zero, List.set_cons_succ])
          refine wpAnyH_tk 8 (v := ?vb8) rfl (by kernel_rfl) (by kernel_rfl) (by kernel_rfl) (fun _ _ _ h => h) (by rfl) ?hyb8 (by assumption) ?_
          case hyb8 => (intro w hSw; (try dsimp only at hSw); go_simp <;> with_reducible rfl)
          (try simp only [Act.put, List.setIfInBounds_toArray, List.set_cons_zero, List.set_cons_succ])
          refine wpAnyH_tk 9 (v := ?vb9) rfl (by kernel_rfl) (by kernel_rfl) (by kernel_rfl) (fun _ _ _ h => h) (by rfl) ?hyb9 (by assumption) ?_
          case hyb9 => (intro w hSw; (try dsimp only at hSw); go_simp <;> with_reducible rfl)
          (try simp only [Act.put, List.setIfInBounds_toArray, List.set_cons_zero, List.set_cons_succ])
          refine wpAnyH_tk 10 (v := ?vb10) rfl (by kernel_rfl) (by kernel_rfl) (by kernel_rfl) (fun _ _ _ h => h) (by rfl) ?hyb10 (by assumption) ?_
          case hyb10 => (intro w hSw; (try dsimp only at hSw); go_simp <;> with_reducible rfl)
          (try simp only [Act.put, List.setIfInBounds_toArray, List.set_cons_zero, List.set_cons_succ])
          refine wpAnyH_tk 11 (v := ?vb11) rfl (by kernel_rfl) (by kernel_rfl) (by kernel_rfl) (fun _ _ _ h => h) (by rfl) ?hyb11 (by assumption) ?_
          case hyb11 => (intro w hSw; (try dsimp only at hSw); go_simp <;> with_reducible rfl)
          (try simp only [Act.put, List.setIfInBounds_toArray, List.set_cons_zero, List.set_cons_succ])
          refine wpAnyH_tk 12 (v := ?vb12) rfl (by kernel_rfl) (by kernel_rfl) (by kernel_rfl) (fun _ _ _ h => h) (by rfl) ?hyb12 (by assumption) ?_
          case hyb12 => (intro w hSw; (try dsimp only at hSw); go_simp <;> with_reducible rfl)
          (try simp only [Act.put, List.setIfInBounds_toArray, List.set_cons_zero, List.set_cons_succ])
          refine wpAnyH_tk 13 (v := ?vb13) rfl (by kernel_rfl) (by kernel_rfl) (by kernel_rfl) (fun _ _ _ h => h) (by rfl) ?hyb13 (by assumption) ?_
          case hyb13 => (intro w hSw; (try dsimp only at hSw); go_simp <;> with_reducible rfl)
          (try simp only [Act.put, List.setIfInBounds_toArray, List.set_cons_zero, List.set_cons_succ])
          refine wpAnyH_tk 14 (v := ?vb14) rfl (by kernel_rfl) (by kernel_rfl) (by kernel_rfl) (fun _ _ _ h => h) (by rfl) ?hyb14 (by assumption) ?_
          case hyb14 => (intro w hSw; (try dsimp only at hSw); go_simp <;> with_reducible rfl)
          (try simp only [Act.put, List.setIfInBounds_toArray, List.set_cons_zero, List.set_cons_succ])
          refine wpAnyH_tk 15 (v := ?vb15) rfl (by kernel_rfl) (by kernel_rfl) (by kernel_rfl) (fun _ _ _ h => h) (by rfl) ?hyb15 (by assumption) ?_
          case hyb15 => (intro w hSw; (try dsimp only at hSw); go_simp <;> with_reducible rfl)
          (try simp only [Act.put, List.setIfInBounds_toArray, List.set_cons_zero, List.set_cons_succ])
          refine wpAnyH_tk 16 (v := ?vb16) rfl (by kernel_rfl) (by kernel_rfl) (by kernel_rfl) (fun _ _ _ h => h) (by rfl) ?hyb16 (by assumption) ?_
          case hyb16 => (intro w hSw; (try dsimp only at hSw); go_simp <;> with_reducible rfl)
          (try simp only [Act.put, List.setIfInBounds_toArray, List.set_cons_zero, List.set_cons_succ])
          refine wpAnyH_tk 17 (v := ?vb17) rfl (by kernel_rfl) (by kernel_rfl) (by kernel_rfl) (fun _ _ _ h => h) (by rfl) ?hyb17 (by assumption) ?_
          case hyb17 => (intro w hSw; (try dsimp only at hSw); go_simp <;> with_reducible rfl)
          (try simp only [Act.put, List.setIfInBounds_toArray, List.set_cons_zero, List.set_cons_succ])
          refine wpAnyH_done (by kernel_rfl) ?_ _
          clear hHeld dn dk ua z1b z2b
          go_wp2
          go_ret
          exact ⟨ret_bool (by rw [HR.out]), E2.out⟩
      · have z1b : (q == 1) = false := beq_eq_false_iff_ne.2 z1
        have OK2 : Hid (∀ i, i < n + 1 → s / 2 ^ i % 2 = 1 → p i = p k) := by
          intro i hi hb
          by_cases e : i = n
          · subst e; exact absurd (by rw [HQ.out]; exact hb) z1
          · exact OK.out i (by omega) hb
        clear z1
        go_wp2
        refine wp_region_held_drew (S := (fun w' => w'.cell? ⟨b, n, none⟩ = some (.int .i64 x) ∧ w'.cell? ⟨b, k, none⟩ = some (.int .i64 y))) (by kernel_rfl) ?hSc0 (fun hHeld => ?_)
        case hSc0 => (first | (exact ⟨dn, dk⟩) | ((try dsimp only); exact ⟨dn, dk⟩))
        refine wpAnyH_tk 0 (v := ?vc0) rfl (by kernel_rfl) (by kernel_rfl) (by kernel_rfl) (fun _ _ _ h => h) (by rfl) ?hyc0 (by assumption) ?_
        case hyc0 => (intro w hSw; (try dsimp only at hSw); go_simp <;> with_reducible rfl)
        (try simp only [Act.put, List.setIfInBounds_toArray, List.set_cons_zero, List.set_cons_succ])
        refine wpAnyH_tk 1 (v := ?vc1) rfl (by kernel_rfl) (by kernel_rfl) (by kernel_rfl) (fun _ _ _ h => h) (by rfl) ?hyc1 (by assumption) ?_
        case hyc1 => (intro w hSw; (try dsimp only at hSw); go_simp <;> with_reducible rfl)
        (try simp only [Act.put, List.setIfInBounds_toArray, List.set_cons_zero, List.set_cons_succ])
        refine wpAnyH_tk 2 (v := ?vc2) rfl (by kernel_rfl) (by kernel_rfl) (by kernel_rfl) (fun _ _ _ h => h) (by rfl) ?hyc2 (by assumption) ?_
        case hyc2 => (intro w hSw; (try dsimp only at hSw); go_simp <;> with_reducible rfl)
        (try simp only [Act.put, List.setIfInBounds_toArray, List.set_cons_zero, List.set_cons_succ])
        refine wpAnyH_tk 3 (v := ?vc3) rfl (by kernel_rfl) (by kernel_rfl) (by kernel_rfl) (fun _ _ _ h => h) (by rfl) ?hyc3 (by assumption) ?_
        case hyc3 => (intro w hSw; (try dsimp only at hSw); go_simp <;> with_reducible rfl)
        (try simp only [Act.put, List.setIfInBounds_toArray, List.set_cons_zero, List.set_cons_succ])
        refine wpAnyH_tk 4 (v := ?vc4) rfl (by kernel_rfl) (by kernel_rfl) (by kernel_rfl) (fun _ _ _ h => h) (by rfl) ?hyc4 (by assumption) ?_
        case hyc4 => (intro w hSw; (try dsimp only at hSw); go_simp <;> with_reducible rfl)
        (try simp only [Act.put, List.setIfInBounds_toArray, List.set_cons_zero, List.set_cons_succ])
        refine wpAnyH_tk 5 (v := ?vc5) rfl (by kernel_rfl) (by kernel_rfl) (by kernel_rfl) (fun _ _ _ h => h) (by rfl) ?hyc5 (by assumption) ?_
        case hyc5 => (intro w hSw; (try dsimp only at hSw); go_simp <;> with_reducible rfl)
        (try simp only [Act.put, List.setIfInBounds_toArray, List.set_cons_zero, List.set_cons_succ])
        refine wpAnyH_skips 5 true 18 1 (by kernel_rfl) rfl (fun _ _ _ _ _ h => h) [6, 7, 8, 9, 10, 11, 12, 13, 14, 15, 16] [19, 20, 21, 22, 23, 24, 25, 26, 27, 28, 29] _ _ _ rfl (by kernel_rfl) (by rfl) (by assumption) ?_
        (try simp only [putsAll, List.foldl, Act.put, List.setIfInBounds_toArray, List.set_cons_zero, List.set_cons_succ])
        refine wpAnyH_tk 17 (v := ?vc17) rfl (by kernel_rfl) (by kernel_rfl) (by kernel_rfl) (fun _ _ _ h => h) (by rfl) ?hyc17 (by assumption) ?_
        case hyc17 => (intro w hSw; (try dsimp only at hSw); go_simp <;> with_reducible rfl)
        (try simp only [Act.put, List.setIfInBounds_toArray, List.set_cons_zero, List.set_cons_succ])
        refine wpAnyH_done (by kernel_rfl) ?_ _
        clear hHeld dn dk ua z1b
        go_wp2
        go_roundg (gk - 1)
        case rel => exact ⟨n + 1, by have := Hn.out; omega, by go_num, OK2.out, E2.out⟩
        case measure => have := Hn.out; omega
    · have HR : Hid (decide (connP p s k) = true) := decide_eq_true (fun i hi hb => OK.out i (by omega) hb)
      go_wp2
      go_ret
      exact ⟨ret_bool (by rw [HR.out]), E.out⟩

end Go.Proofs.YtkbkgkmogbkabaaDoor

/-
  Contract of the reference's joined.
-/
namespace Go.Proofs.YtkbkgkmogbkabaaDoor
open Go.RowKit

theorem meet1_lt {m : Nat} {r : RoadD} (h : m < 256) (ha : r.a.toNat < 8) (hb : r.b.toNat < 8) : meet1 m r < 256 := by
  have e : (256 : Nat) = 2 ^ 8 := by decide
  unfold meet1
  split
  · rw [e] at h ⊢
    exact Nat.or_lt_two_pow h (by rw [← e]; exact both_lt ha hb)
  · exact h
theorem bits_or_nat (a b : Nat) (ha : a < 2 ^ 62) (hb : b < 2 ^ 62) : bits .or .i64 a b = ((a ||| b : Nat) : Int) := (bits_nat .i64 62 (by decide) wraps_i64_62 a b ha hb).2
theorem bits_and_nat (a b : Nat) (ha : a < 2 ^ 62) (hb : b < 2 ^ 62) : bits .and .i64 a b = ((a &&& b : Nat) : Int) := (bits_nat .i64 62 (by decide) wraps_i64_62 a b ha hb).1

set_option maxRecDepth 20000 in
set_option maxHeartbeats 8000000 in
theorem joined_any (vr v : Value) (N : Nat) (rs : List RoadD) (idx : List Int) (s : Nat) (w : World) (hv : Roads w vr rs) (hi : Ints w v idx) (hix : ∀ i ∈ idx, 0 ≤ i ∧ i < rs.length) (hok : ∀ r ∈ rs, roadOk N r = true) (hN8 : N ≤ 8) (hs : s < N) (E : List RoadD) (hE : E = idx.map (fun i => roadAt rs i.toNat)) :
    Calls Tryd.prog 34 #[.agg #[.int .i64 N, vr], v, .int .i64 s] w fun e w' => e = .returned (.int .i64 (meetN E (2 ^ s) N : Nat)) ∧ Ext w w' := by
  obtain ⟨ao, cap, rfl⟩ := hv.shape
  have HV := hid hv
  have HI := hid hi
  obtain ⟨hlen, ai, ci, rfl, -⟩ := id hi
  have HIX := hid hix
  have HAll := hid hok
  have HE := hid hE
  have hEl : E.length = idx.length := by rw [hE]; simp
  have X0 := hid (Box2.alloc w 24 (.int .i64 N) (.slice ao rs.length cap))
  have HE0 := hid (Ext.ofAlloc w (.cells #[.int .i64 N, .slice ao rs.length cap] 24))
  have p2 : 2 ^ s < 256 := by
    have e : (256 : Nat) = 2 ^ 8 := by decide
    rw [e]; exact Nat.pow_lt_pow_right (by decide) (by omega)
  obtain ⟨m0, hm0⟩ : ∃ m0, m0 = 2 ^ s := ⟨_, rfl⟩
  have hsh : wrap64 (2 ^ s) = (m0 : Int) := by
    have e : ((2 : Int) ^ s) = ((2 ^ s : Nat) : Int) := by simp
    rw [e, hm0]; exact IntWalk.wrap64_in _ (by omega)
  have HSH := hid hsh
  rw [← hm0] at p2 ⊢
  clear hm0 hv hi hix hok hE
  go_enter Tryd.func34, Tryd.ntmps34
  go_wp2
  generalize w.alloc (.cells #[.int .i64 N, .slice ao rs.length cap] 24) = W at *
  clear hsh
  go_loopg [15, 7] N (fun g i u wr => ∃ (k m : Nat), k + g = N ∧ i = .int .i64 k ∧ u = .int .i64 m ∧ m < 256 ∧ Hid (m = meetN E m0 k) ∧ Hid (Ext W wr))
  case atStart => exact ⟨0, m0, by omega, rfl, by rw [HSH.out], p2, rfl, Ext.refl _⟩
  case round =>
    obtain ⟨k, m, hk, rfl, rfl, hm, HM, E1⟩ := hrel
    have hkN : k ≤ N := by omega
    have Hk := hid hk
    clear hk
    by_cases hlt : k < N
    · go_wp2
      go_loopg [19, 7] idx.length (fun g i u wr => ∃ (j n : Nat), j + g = idx.length ∧ i = .int .i64 j ∧ u = .int .i64 n ∧ n < 256 ∧ Hid (n = (E.take j).foldl meet1 m) ∧ Hid (Ext W wr))
      case atStart => exact ⟨0, m, by omega, rfl, rfl, hm, rfl, E1⟩
      case round =>
        clear E1
        obtain ⟨j, n, hj, rfl, rfl, hn, HN, E2⟩ := hrel
        have hjl : j ≤ idx.length := by omega
        have Hj := hid hj
        clear hj
        by_cases hjlt : j < idx.length
        · obtain ⟨bi, oi, rfl, -, hce⟩ := HI.out.get j hjlt
          have dj := hce _ (HE0.out.trans E2.out)
          have hfx := HIX.out (fn idx j) (by rw [fn_get hjlt]; exact List.getElem_mem _)
          have Htk : Hid (E.take (j + 1) = E.take j ++ [roadAt rs (fn idx j).toNat]) := by
            show _ = _
            rw [List.take_succ_eq_append_getElem (by omega)]
            congr 2
            have e := HE.out
            subst e
            rw [List.getElem_map, fn_get hjlt]
          obtain ⟨q, hq⟩ := Int.eq_ofNat_of_zero_le hfx.1
          rw [hq] at dj hfx Htk
          rw [Int.toNat_natCast] at Htk
          have hql : q < rs.length := by omega
          have hqi : (q : Int) < rs.length := by omega
          obtain ⟨bb, off, rfl, -, hcc⟩ := Roads.get HV.out q hql
          obtain ⟨r0, r1, -⟩ := hcc _ (HE0.out.trans E2.out)
          obtain ⟨q1, q2, q3, q4, -, -, -⟩ := roadOk_iff.1 (HAll.out _ (roadAt_mem hql))
          generalize roadAt rs q = r at *
          have ca := pow_in r.a q1 (by omega)
          have c0 := (X0.out.ext E2.out).cells.2
          have ha8 : r.a.toNat < 8 := by omega
          have hb8 : r.b.toNat < 8 := by omega
          have hbl := both_lt ha8 hb8
          have pa : 2 ^ r.a.toNat < 2 ^ 62 := Nat.pow_lt_pow_right (by decide) (by omega)
          have pb : 2 ^ r.b.toNat < 2 ^ 62 := Nat.pow_lt_pow_right (by decide) (by omega)
          obtain ⟨xa, hxa⟩ : ∃ x, x = 2 ^ r.a.toNat := ⟨_, rfl⟩
          obtain ⟨xb, hxb⟩ : ∃ x, x = 2 ^ r.b.toNat := ⟨_, rfl⟩
          have ea : ((2 : Int) ^ r.a.toNat) = (xa : Int) := by rw [hxa]; simp
          have eb : ((2 : Int) ^ r.b.toNat) = (xb : Int) := by rw [hxb]; simp
          have wa : IntKind.i64.wrap (2 ^ r.a.toNat) = (xa : Int) := by rw [ea]; exact wraps_i64_62 _ (by omega) (by omega)
          have wb : IntKind.i64.wrap (2 ^ r.b.toNat) = (xb : Int) := by rw [eb]; exact wraps_i64_62 _ (by omega) (by omega)
          have wo : bits .or .i64 xa xb = (bothN r : Int) := by rw [bits_or_nat xa xb (by omega) (by omega), hxa, hxb]; rfl
          have wn : bits .and .i64 n (bothN r) = ((n &&& bothN r : Nat) : Int) := bits_and_nat n (bothN r) (by omega) (by omega)
          have wm : bits .or .i64 n (bothN r) = ((n ||| bothN r : Nat) : Int) := bits_or_nat n (bothN r) (by omega) (by omega)
          have HL := hid (meet1_lt hn ha8 hb8)
          have HS : Hid (meet1 n r = (E.take (j + 1)).foldl meet1 m) := by
            show _ = _
            rw [Htk.out, List.foldl_append, ← HN.out]; rfl
          have E3 := hid E2.out.drew
          clear hce hcc ca pa pb hxa hxb ea eb hbl
          obtain ⟨bo, hbo⟩ : ∃ x, x = bothN r := ⟨_, rfl⟩
          rw [← hbo] at wo wn wm
          have HBO := hid hbo
          clear hbo
          go_wp2
          refine wp_region_held_drew (S := (fun w' => w'.cell? ⟨w.heap.size, 1, none⟩ = some (.slice (some ⟨bb, off, none⟩) rs.length cap) ∧ w'.cell? ⟨bb, off + q * 3, none⟩ = some (.int .i64 r.a) ∧ w'.cell? ⟨bb, off + q * 3 + 1, none⟩ = some (.int .i64 r.b))) (by kernel_rfl) ?hSa0 (fun hHeld => ?_)
          case hSa0 => (first | (exact ⟨c0, r0, r1⟩) | ((try dsimp only); exact ⟨c0, r0, r1⟩))
          refine wpAnyH_tk 0 (v := ?va0) rfl (by kernel_rfl) (by kernel_rfl) (by kernel_rfl) (fun _ _ _ h => h) (by rfl) ?hya0 (by assumption) ?_
          case hya0 => (intro w hSw; (try dsimp only at hSw); go_simp <;> with_reducible rfl)
          (try simp only [Act.put, List.setIfInBounds_toArray, List.set_cons_zero, List.set_cons_succ])
          refine wpAnyH_tk 1 (v := ?va1) rfl (by kernel_rfl) (by kernel_rfl) (by kernel_rfl) (fun _ _ _ h => h) (by rfl) ?hya1 (by assumption) ?_
          case hya1 => (intro w hSw; (try dsimp only at hSw); go_simp <;> with_reducible rfl)
          (try simp only [Act.put, List.setIfInBounds_toArray, List.set_cons_zero, List.set_cons_succ])
          refine wpAnyH_tk 2 (v := ?va2) rfl (by kernel_rfl) (by kernel_rfl) (by kernel_rfl) (fun _ _ _ h => h) (by rfl) ?hya2 (by assumption) ?_
          case hya2 => (intro w hSw; (try dsimp only at hSw); go_simp <;> with_reducible rfl)
          (try simp only [Act.put, List.setIfInBounds_toArray, List.set_cons_zero, List.set_cons_succ])
          refine wpAnyH_tk 3 (v := ?va3) rfl (by kernel_rfl) (by kernel_rfl) (by kernel_rfl) (fun _ _ _ h => h) (by rfl) ?hya3 (by assumption) ?_
          case hya3 => (intro w hSw; (try dsimp only at hSw); go_simp <;> with_reducible rfl)
          (try simp only [Act.put, List.setIfInBounds_toArray, List.set_cons_zero, List.set_cons_succ])
          refine wpAnyH_tk 4 (v := ?va4) rfl (by kernel_rfl) (by kernel_rfl) (by kernel_rfl) (fun _ _ _ h => h) (by rfl) ?hya4 (by assumption) ?_
          case hya4 => (intro w hSw; (try dsimp only at hSw); go_simp <;> with_reducible rfl)
          (try simp only [Act.put, List.setIfInBounds_toArray, List.set_cons_zero, List.set_cons_succ])
          refine wpAnyH_tk 5 (v := ?va5) rfl (by kernel_rfl) (by kernel_rfl) (by kernel_rfl) (fun _ _ _ h => h) (by rfl) ?hya5 (by assumption) ?_
          case hya5 => (intro w hSw; (try dsimp only at hSw); go_simp <;> with_reducible rfl)
          (try simp only [Act.put, List.setIfInBounds_toArray, List.set_cons_zero, List.set_cons_succ])
          refine wpAnyH_tk 6 (v := ?va6) rfl (by kernel_rfl) (by kernel_rfl) (by kernel_rfl) (fun _ _ _ h => h) (by rfl) ?hya6 (by assumption) ?_
          case hya6 => (intro w hSw; (try dsimp only at hSw); go_simp <;> with_reducible rfl)
          (try simp only [Act.put, List.setIfInBounds_toArray, List.set_cons_zero, List.set_cons_succ])
          refine wpAnyH_tk 7 (v := ?va7) rfl (by kernel_rfl) (by kernel_rfl) (by kernel_rfl) (fun _ _ _ h => h) (by rfl) ?hya7 (by assumption) ?_
          case hya7 => (intro w hSw; (try dsimp only at hSw); go_simp <;> with_reducible rfl)
          (try simp only [Act.put, List.setIfInBounds_toArray, List.set_cons_zero, List.set_cons_succ])
          refine wpAnyH_tk 8 (v := ?va8) rfl (by kernel_rfl) (by kernel_rfl) (by kernel_rfl) (fun _ _ _ h => h) (by rfl) ?hya8 (by assumption) ?_
          case hya8 => (intro w hSw; (try dsimp only at hSw); go_simp <;> with_reducible rfl)
          (try simp only [Act.put, List.setIfInBounds_toArray, List.set_cons_zero, List.set_cons_succ])
          refine wpAnyH_tk 9 (v := ?va9) rfl (by kernel_rfl) (by kernel_rfl) (by kernel_rfl) (fun _ _ _ h => h) (by rfl) ?hya9 (by assumption) ?_
          case hya9 => (intro w hSw; (try dsimp only at hSw); go_simp <;> with_reducible rfl)
          (try simp only [Act.put, List.setIfInBounds_toArray, List.set_cons_zero, List.set_cons_succ])
          refine wpAnyH_tk 10 (v := ?va10) rfl (by kernel_rfl) (by kernel_rfl) (by kernel_rfl) (fun _ _ _ h => h) (by rfl) ?hya10 (by assumption) ?_
          case hya10 => (intro w hSw; (try dsimp only at hSw); go_simp <;> with_reducible rfl)
          (try simp only [Act.put, List.setIfInBounds_toArray, List.set_cons_zero, List.set_cons_succ])
          refine wpAnyH_tk 11 (v := ?va11) rfl (by kernel_rfl) (by kernel_rfl) (by kernel_rfl) (fun _ _ _ h => h) (by rfl) ?hya11 (by assumption) ?_
          case hya11 => (intro w hSw; (try dsimp only at hSw); go_simp <;> with_reducible rfl)
          (try simp only [Act.put, List.setIfInBounds_toArray, List.set_cons_zero, List.set_cons_succ])
          refine wpAnyH_tk 12 (v := ?va12) rfl (by kernel_rfl) (by kernel_rfl) (by kernel_rfl) (fun _ _ _ h => h) (by rfl) ?hya12 (by assumption) ?_
          case hya12 => (intro w hSw; (try dsimp only at hSw); go_simp <;> with_reducible rfl)
          (try simp only [Act.put, List.setIfInBounds_toArray, List.set_cons_zero, List.set_cons_succ])
          refine wpAnyH_tk 13 (v := ?va13) rfl (by kernel_rfl) (by kernel_rfl) (by kernel_rfl) (fun _ _ _ h => h) (by rfl) ?hya13 (by assumption) ?_
          case hya13 => (intro w hSw; (try dsimp only at hSw); go_simp <;> with_reducible rfl)
          (try simp only [Act.put, List.setIfInBounds_toArray, List.set_cons_zero, List.set_cons_succ])
          refine wpAnyH_tk 14 (v := ?va14) rfl (by kernel_rfl) (by kernel_rfl) (by kernel_rfl) (fun _ _ _ h => h) (by rfl) ?hya14 (by assumption) ?_
          case hya14 => (intro w hSw; (try dsimp only at hSw); go_simp <;> with_reducible rfl)
          (try simp only [Act.put, List.setIfInBounds_toArray, List.set_cons_zero, List.set_cons_succ])
          refine wpAnyH_tk 15 (v := ?va15) rfl (by kernel_rfl) (by kernel_rfl) (by kernel_rfl) (fun _ _ _ h => h) (by rfl) ?hya15 (by assumption) ?_
          case hya15 => (intro w hSw; (try dsimp only at hSw); go_simp <;> with_reducible rfl)
          (try simp only [Act.put, List.setIfInBounds_toArray, List.set_cons_zero, List.set_cons_succ])
          refine wpAnyH_done (by kernel_rfl) ?_ _
          clear hHeld dj r0 r1 wa wb wo c0
          by_cases hz : n &&& bo = 0
          · have hzb : (((n &&& bo : Nat) : Int) != 0) = false := by rw [hz]; rfl
            have HV2 : Hid (meet1 n r = n) := by show _ = _; unfold meet1; rw [← HBO.out, if_neg (by simp [hz])]
            rw [hz] at wn
            clear hz
            go_wp2
            go_roundg (gk - 1)
            case rel => exact ⟨j + 1, n, by have := Hj.out; omega, by go_num, rfl, hn, by show _ = _; rw [← HS.out]; exact HV2.out.symm, E3.out⟩
            case measure => have := Hj.out; omega
          · have HV2 : Hid (meet1 n r = n ||| bo) := by show _ = _; unfold meet1; rw [← HBO.out, if_pos hz]
            obtain ⟨an, han⟩ : ∃ x, x = n &&& bo := ⟨_, rfl⟩
            rw [← han] at wn hz
            have hzi : ¬ (an : Int) = 0 := by omega
            have hzb : ((an : Int) != 0) = true := by rw [bne_iff_ne]; exact hzi
            clear hz han
            go_wp2
            go_roundg (gk - 1)
            case rel => exact ⟨j + 1, n ||| bo, by have := Hj.out; omega, by go_num, rfl, by rw [← HV2.out]; exact HL.out, by rw [← HV2.out]; exact HS.out, E3.out⟩
            case measure => have := Hj.out; omega
        · have h1 := HN.out
          rw [List.take_of_length_le (by omega)] at h1
          have HN2 : Hid (n = meetN E m0 (k + 1)) := by
            show _ = _
            rw [h1, HM.out]; rfl
          clear h1
          go_wp2
          go_roundg (N - (k + 1))
          case rel => exact ⟨k + 1, n, by omega, by go_num, rfl, hn, HN2.out, E2.out⟩
          case measure => have := Hk.out; omega
    · have ek : k = N := by omega
      have h1 := HM.out
      rw [ek] at h1
      have H1 := hid h1
      clear h1 ek
      go_wp2
      go_ret
      exact ⟨by rw [← H1.out]; rfl, HE0.out.trans E1.out⟩

end Go.Proofs.YtkbkgkmogbkabaaDoor

/-
  Contract of the program's tree, given the least bit.
-/
namespace Go.Proofs.YtkbkgkmogbkabaaDoor
open Go.RowKit

/-- What the least bit answers, in this world and in all that grow out of it. -/
def TZ (w : World) : Prop := ∀ w', Ext w w' → ∀ s : Nat, 0 < s → s < 256 → ∃ k : Nat, (s.testBit k = true ∧ ∀ j, j < k → s.testBit j = false) ∧ Calls Tryd.prog 56 #[.int .u64 (s : Int)] w' fun e w'' => e = .returned (.int .i64 k) ∧ w'' = w'
theorem TZ.ext {w w' : World} (h : TZ w) (e : Ext w w') : TZ w' := fun w2 e2 => h w2 (e.trans e2)

theorem bit_iff (s i : Nat) : (s : Int) / 2 ^ i % 2 = 1 ↔ s.testBit i = true := by
  have e : ((s : Int) / 2 ^ i % 2) = ((s / 2 ^ i % 2 : Nat) : Int) := by simp
  rw [e, Nat.testBit_eq_decide_div_mod_eq, decide_eq_true_iff]
  omega
theorem bit_lt {s i n : Nat} (hs : s < 2 ^ n) (h : s.testBit i = true) : i < n := by
  rcases Nat.lt_or_ge i n with g | g
  · exact g
  · exfalso
    rw [Nat.testBit_lt_two_pow (Nat.lt_of_lt_of_le hs (Nat.pow_le_pow_right (by decide) g))] at h
    simp at h
theorem connP_iff {E : List RoadD} {p : Nat → Int} (hp : Lab E p) {s k : Nat} (hs : s < 256) (hk : s.testBit k = true) : connP p s k ↔ ∀ x y, s.testBit x = true → s.testBit y = true → Conn E x y := by
  have h8 : ∀ x, s.testBit x = true → x < 8 := fun x hx => bit_lt (n := 8) (by exact hs) hx
  rw [← one_label hp (T := fun x => s.testBit x = true) h8 hk]
  unfold connP
  constructor
  · intro h x hx; exact h x (h8 x hx) ((bit_iff s x).2 hx)
  · intro h i _ hi; exact h i ((bit_iff s i).1 hi)

/-- In the middle: the first k roads are a forest in order. -/
def Upto (rs : List RoadD) (l : List Int) (k : Nat) : Prop := ∀ j, j < k → okAt rs l j

theorem touchN_lt {s : Nat} (hs : s < 256) : ∀ (E : List RoadD), (∀ r ∈ E, r.a.toNat < 8 ∧ r.b.toNat < 8) → touchN s E < 256 := by
  intro E
  induction E generalizing s with
  | nil => intro _; exact hs
  | cons r E ih =>
    intro h
    have hr := h r (List.mem_cons_self ..)
    exact ih (s := s ||| bothN r) (Nat.or_lt_two_pow (n := 8) hs (both_lt hr.1 hr.2)) (fun q hq => h q (List.mem_cons_of_mem _ hq))

/-- What tree answers. -/
def TreeAns (rs : List RoadD) (s : Nat) (l : List Int) (e : Ending) : Prop := (treeP rs s l ∧ e = .returned (.tuple #[.int .i64 (costL rs l), .bool true])) ∨ (¬ treeP rs s l ∧ e = .returned (.tuple #[.int .i64 0, .bool false]))

set_option maxRecDepth 20000 in
set_option maxHeartbeats 8000000 in
theorem tree_any (vr v : Value) (N : Nat) (rs : List RoadD) (l : List Int) (s : Nat) (w : World) (hv : Roads w vr rs) (hl : Ints w v l) (hok : ∀ r ∈ rs, roadOk N r = true) (hN8 : N ≤ 8) (hrl : rs.length ≤ 16) (hs0 : 0 < s) (hs : s < 2 ^ N) (hTZ : TZ w) :
    Calls Tryd.prog 31 #[.agg #[.int .i64 N, vr], .int .i64 s, v] w fun e w' => TreeAns rs s l e ∧ Ext w w' := by
  obtain ⟨ao, cap, rfl⟩ := hv.shape
  have HV := hid hv
  have HL := hid hl
  have HTZ := hid hTZ
  obtain ⟨hlen, al, cl, rfl, -⟩ := id hl
  have HAll := hid hok
  have X0 := hid (Box2.alloc w 31 (.int .i64 N) (.slice ao rs.length cap))
  clear hv hl hok hTZ
  go_enter Tryd.func31, Tryd.ntmps31
  go_wp2_with (fail)
  refine (apart_any _).mono ?_
  rintro e w1 ⟨rfl, he⟩
  have HE := hid ((Ext.ofAlloc w _).trans he)
  have HX := hid (X0.out.ext he)
  clear he X0
  go_wp2
  have hb : PBox (w1.alloc (.cells #[.int .i64 0, .int .i64 1, .int .i64 2, .int .i64 3, .int .i64 4, .int .i64 5, .int .i64 6, .int .i64 7] 69)) w1.heap.size (fun i => (i : Int)) := heap_alloc_new w1 _
  have hE1 := Ext.ofAlloc w1 (.cells #[.int .i64 0, .int .i64 1, .int .i64 2, .int .i64 3, .int .i64 4, .int .i64 5, .int .i64 6, .int .i64 7] 69)
  generalize w1.alloc (.cells #[.int .i64 0, .int .i64 1, .int .i64 2, .int .i64 3, .int .i64 4, .int .i64 5, .int .i64 6, .int .i64 7] 69) = W at hb hE1 ⊢
  have HB0 := hid hb
  have HE1 := hid hE1
  obtain ⟨gp, hgp⟩ : ∃ gp, gp = w1.heap.size := ⟨_, rfl⟩
  rw [← hgp] at HB0
  rw [← hgp]
  have HGP := hid hgp
  have s256 : s < 256 := by
    have h1 : (2 : Nat) ^ N ≤ 2 ^ 8 := Nat.pow_le_pow_right (by decide) hN8
    have e : (256 : Nat) = 2 ^ 8 := by decide
    omega
  clear hb hE1 hgp
  go_loopg [17, 9, 10] l.length (fun g i vc vt wr => ∃ (k : Nat) (c : Int) (t : Nat) (p : Nat → Int), k + g = l.length ∧ k ≤ 16 ∧ i = .int .i64 k ∧ vc = .int .i64 c ∧ vt = .int .i64 t ∧ 0 ≤ c ∧ c ≤ 50 * (k : Int) ∧ t < 256 ∧ Hid (c = costL rs (l.take k)) ∧ Hid (t = touchN s (edges rs (l.take k))) ∧ Hid (Upto rs l k) ∧ Hid (Lab (edges rs (l.take k)) p) ∧ Hid (PBox wr gp p) ∧ Hid (Ext w1 wr))
  case atStart => exact ⟨0, 0, s, _, by omega, by omega, rfl, rfl, rfl, by omega, by omega, s256, rfl, rfl, fun j hj => by omega, Lab.nil, HB0, HE1⟩
  case round =>
    clear HB0 HE1
    obtain ⟨k, c, t, p, hk, hk16, rfl, rfl, rfl, hc0, hc1, ht, CS, TN, UP, LAB, PB, E⟩ := hrel
    have hkl : k ≤ l.length := by omega
    have Hk := hid hk
    clear hk
    by_cases hlt : k < l.length
    · obtain ⟨bl, ol, rfl, -, hce⟩ := HL.out.get k hlt
      have dk := hce _ (HE.out.trans E.out)
      obtain ⟨c0, c1⟩ := (HX.out.ext E.out).cells
      obtain ⟨x, hx⟩ : ∃ x, x = fn l k := ⟨_, rfl⟩
      rw [← hx] at dk
      have HXX := hid hx
      have FAIL : Hid (¬ okAt rs l k → ¬ treeP rs s l) := fun h g => h (g.1 k hlt)
      clear hce hx
      by_cases x0 : x < 0
      · have HR := hid (FAIL.out (fun g => by have := g.1.1; rw [← HXX.out] at this; omega))
        go_wp2
        go_ret2
        exact ⟨.inr ⟨HR.out, rfl⟩, HE.out.trans E.out⟩
      · by_cases x1 : (rs.length : Int) ≤ x
        · have HR := hid (FAIL.out (fun g => by have := g.1.2.1; rw [← HXX.out] at this; omega))
          go_wp2
          go_ret2
          exact ⟨.inr ⟨HR.out, rfl⟩, HE.out.trans E.out⟩
        · obtain ⟨q, hq⟩ := Int.eq_ofNat_of_zero_le (show 0 ≤ x by omega)
          subst hq
          have hql : q < rs.length := by omega
          have hqi : (q : Int) < rs.length := by omega
          by_cases k0 : 0 < k
          · obtain ⟨bl', ol', hbe, -, hcp⟩ := HL.out.get (k - 1) (by omega)
            simp only [Option.some.injEq, Addr.mk.injEq, and_true] at hbe
            obtain ⟨rfl, rfl⟩ := hbe
            have dp := hcp _ (HE.out.trans E.out)
            obtain ⟨y, hy⟩ : ∃ y, y = fn l (k - 1) := ⟨_, rfl⟩
            rw [← hy] at dp
            have HY := hid hy
            clear hcp hy
            by_cases yx : (q : Int) ≤ y
            · have HR := hid (FAIL.out (fun g => by have := g.1.2.2 k0; rw [← HXX.out, ← HY.out] at this; omega))
              go_wp2
              go_ret2
              exact ⟨.inr ⟨HR.out, rfl⟩, HE.out.trans E.out⟩
            · have HI : Hid (0 ≤ fn l k ∧ fn l k < rs.length ∧ (0 < k → fn l (k - 1) < fn l k)) := by
                show _ ∧ _
                rw [← HXX.out, ← HY.out]
                exact ⟨by omega, by omega, fun _ => by omega⟩
              obtain ⟨bb, off, rfl, -, hcc⟩ := Roads.get HV.out q hql
              obtain ⟨r0, r1, r2⟩ := hcc _ (HE.out.trans E.out)
              have Htk : Hid (edges rs (l.take (k + 1)) = edges rs (l.take k) ++ [roadAt rs q]) := by
                show _ = _
                rw [List.take_succ_eq_append_getElem hlt]
                unfold edges
                rw [List.map_append, ← fn_get hlt, ← HXX.out]
                rfl
              have HQ : Hid (roadAt rs (fn l k).toNat = roadAt rs q) := by show _ = _; rw [← HXX.out]; rfl
              have hrok := roadOk_iff.1 (HAll.out _ (roadAt_mem hql))
              obtain ⟨q1, q2, q3, q4, -, q6, q7⟩ := hrok
              obtain ⟨r, hr⟩ : ∃ r, r = roadAt rs q := ⟨_, rfl⟩
              have HRQ : Hid (roadAt rs q = r) := hr.symm
              rw [← hr] at r0 r1 r2 Htk HQ q1 q2 q3 q4 q6 q7
              clear hr
              have ha8 : r.a < 8 := by omega
              have hb8 : r.b < 8 := by omega
              have hla : r.a.toNat < 8 := by omega
              have hlb : r.b.toNat < 8 := by omega
              go_wp2_with (fail)
              refine (join_any gp p r _ PB.out q1 ha8 q3 hb8).mono ?_
              rintro e w2 ⟨rfl, hpb, hon⟩
              have E2 := hid (hon.ext E.out (by rw [HGP.out]; exact Nat.le_refl _))
              have PB2 := hid hpb
              have HLI := hid (LAB.out r.a.toNat r.b.toNat hla hlb)
              have HLJ := hid (LAB.out.join hla hlb)
              clear hpb hon hcc c0 c1 dk r0 r1 r2 dp
              by_cases hj : p r.a.toNat = p r.b.toNat
              · have hjb : (p r.a.toNat != p r.b.toNat) = false := by rw [hj]; simp
                have HR := hid (FAIL.out (fun g => g.2 (by rw [HQ.out]; exact HLI.out.1 hj)))
                rw [hjb]
                clear hj hjb
                go_wp2
                go_ret2
                exact ⟨.inr ⟨HR.out, rfl⟩, HE.out.trans E2.out⟩
              · have hjb : (p r.a.toNat != p r.b.toNat) = true := by rw [bne_iff_ne]; exact hj
                have UP2 : Hid (Upto rs l (k + 1)) := fun j hj2 => by
                  by_cases e : j = k
                  · subst e
                    exact ⟨HI.out, by rw [HQ.out]; exact fun g => hj (HLI.out.2 g)⟩
                  · exact UP.out j (by omega)
                have hk17 : k + 1 ≤ 16 := by
                  have key : ∀ j, j < k + 1 → (j : Int) ≤ fn l j := by
                    intro j
                    induction j with
                    | zero => intro h; exact (UP2.out 0 h).1.1
                    | succ j ih =>
                      intro h
                      have h1 := ih (by omega)
                      have h2 := (UP2.out (j + 1) h).1.2.2 (by omega)
                      rw [Nat.add_sub_cancel] at h2
                      omega
                  have h1 := key k (by omega)
                  have h2 := HI.out.2.1
                  omega
                obtain ⟨c0, c1⟩ := (HX.out.ext E2.out).cells
                have hcc := (Roads.get HV.out q hql)
                obtain ⟨bb', off', hbe, -, hcc⟩ := hcc
                simp only [Option.some.injEq, Addr.mk.injEq, and_true] at hbe
                obtain ⟨rfl, rfl⟩ := hbe
                have hcc := hcc _ (HE.out.trans E2.out)
                rw [HRQ.out] at hcc
                obtain ⟨r0, r1, r2⟩ := hcc
                have hbl := both_lt hla hlb
                have pa : 2 ^ r.a.toNat < 2 ^ 62 := Nat.pow_lt_pow_right (by decide) (by omega)
                have pb : 2 ^ r.b.toNat < 2 ^ 62 := Nat.pow_lt_pow_right (by decide) (by omega)
                obtain ⟨xa, hxa⟩ : ∃ x, x = 2 ^ r.a.toNat := ⟨_, rfl⟩
                obtain ⟨xb, hxb⟩ : ∃ x, x = 2 ^ r.b.toNat := ⟨_, rfl⟩
                have ea : ((2 : Int) ^ r.a.toNat) = (xa : Int) := by rw [hxa]; simp
                have eb : ((2 : Int) ^ r.b.toNat) = (xb : Int) := by rw [hxb]; simp
                have wa : IntKind.i64.wrap (2 ^ r.a.toNat) = (xa : Int) := by rw [ea]; exact wraps_i64_62 _ (by omega) (by omega)
                have wb : IntKind.i64.wrap (2 ^ r.b.toNat) = (xb : Int) := by rw [eb]; exact wraps_i64_62 _ (by omega) (by omega)
                have wo : bits .or .i64 xa xb = (bothN r : Int) := by rw [bits_or_nat xa xb (by omega) (by omega), hxa, hxb]; rfl
                have wm : bits .or .i64 t (bothN r) = ((t ||| bothN r : Nat) : Int) := bits_or_nat t (bothN r) (by omega) (by omega)
                have ht2 : t ||| bothN r < 256 := Nat.or_lt_two_pow (n := 8) ht hbl
                have CS2 : Hid (c + r.cost = costL rs (l.take (k + 1))) := by
                  show _ = _
                  unfold costL
                  rw [Htk.out, List.foldl_append, CS.out]; rfl
                have TN2 : Hid (t ||| bothN r = touchN s (edges rs (l.take (k + 1)))) := by
                  show _ = _
                  unfold touchN
                  rw [Htk.out, List.foldl_append, TN.out]; rfl
                have LAB2 : Hid (Lab (edges rs (l.take (k + 1))) (joinL p r.a.toNat r.b.toNat)) := by
                  show Lab _ _
                  rw [Htk.out]; exact HLJ.out
                have hw1 : IntKind.i64.wrap (c + r.cost) = c + r.cost := wraps_i64_62 _ (by omega) (by omega)
                have E3 := hid E2.out.drew
                have PB3 := hid (PB2.out.ext ((Ext.refl w2).drew))
                rw [hjb]
                clear hj hjb pa pb hxa hxb ea eb hbl
                obtain ⟨bo, hbo⟩ : ∃ x, x = bothN r := ⟨_, rfl⟩
                rw [← hbo] at wo wm ht2 TN2
                clear hbo
                go_wp2
                refine wp_region_held_drew (S := (fun w' => w'.cell? ⟨w.heap.size, 1, none⟩ = some (.slice (some ⟨bb, off, none⟩) rs.length cap) ∧ w'.cell? ⟨bb, off + q * 3, none⟩ = some (.int .i64 r.a) ∧ w'.cell? ⟨bb, off + q * 3 + 1, none⟩ = some (.int .i64 r.b))) (by kernel_rfl) ?hSa0 (fun hHeld => ?_)
                case hSa0 => (first | (exact ⟨c1, r0, r1⟩) | ((try dsimp only); exact ⟨c1, r0, r1⟩))
                refine wpAnyH_tk 0 (v := ?va0) rfl (by kernel_rfl) (by kernel_rfl) (by kernel_rfl) (fun _ _ _ h => h) (by rfl) ?hya0 (by assumption) ?_
                case hya0 => (intro w hSw; (try dsimp only at hSw); go_simp <;> with_reducible rfl)
                (try simp only [Act.put, List.setIfInBounds_toArray, List.set_cons_zero, List.set_cons_succ])
                refine wpAnyH_tk 1 (v := ?va1) rfl (by kernel_rfl) (by kernel_rfl) (by kernel_rfl) (fun _ _ _ h => h) (by rfl) ?hya1 (by assumption) ?_
                case hya1 => (intro w hSw; (try dsimp only at hSw); go_simp <;> with_reducible rfl)
                (try simp only [Act.put, List.setIfInBounds_toArray, List.set_cons_zero, List.set_cons_succ])
                refine wpAnyH_tk 2 (v := ?va2) rfl (by kernel_rfl) (by kernel_rfl) (by kernel_rfl) (fun _ _ _ h => h) (by rfl) ?hya2 (by assumption) ?_
                case hya2 => (intro w hSw; (try dsimp only at hSw); go_simp <;> with_reducible rfl)
                (try simp only [Act.put, List.setIfInBounds_toArray, List.set_cons_zero, List.set_cons_succ])
                refine wpAnyH_tk 3 (v := ?va3) rfl (by kernel_rfl) (by kernel_rfl) (by kernel_rfl) (fun _ _ _ h => h) (by rfl) ?hya3 (by assumption) ?_
                case hya3 => (intro w hSw; (try dsimp only at hSw); go_simp <;> with_reducible rfl)
                (try simp only [Act.put, List.setIfInBounds_toArray, List.set_cons_zero, List.set_cons_succ])
                refine wpAnyH_tk 4 (v := ?va4) rfl (by kernel_rfl) (by kernel_rfl) (by kernel_rfl) (fun _ _ _ h => h) (by rfl) ?hya4 (by assumption) ?_
                case hya4 => (intro w hSw; (try dsimp only at hSw); go_simp <;> with_reducible rfl)
                (try simp only [Act.put, List.setIfInBounds_toArray, List.set_cons_zero, List.set_cons_succ])
                refine wpAnyH_tk 5 (v := ?va5) rfl (by kernel_rfl) (by kernel_rfl) (by kernel_rfl) (fun _ _ _ h => h) (by rfl) ?hya5 (by assumption) ?_
                case hya5 => (intro w hSw; (try dsimp only at hSw); go_simp <;> with_reducible rfl)
                (try simp only [Act.put, List.setIfInBounds_toArray, List.set_cons_zero, List.set_cons_succ])
                refine wpAnyH_tk 6 (v := ?va6) rfl (by kernel_rfl) (by kernel_rfl) (by kernel_rfl) (fun _ _ _ h => h) (by rfl) ?hya6 (by assumption) ?_
                case hya6 => (intro w hSw; (try dsimp only at hSw); go_simp <;> with_reducible rfl)
                (try simp only [Act.put, List.setIfInBounds_toArray, List.set_cons_zero, List.set_cons_succ])
                refine wpAnyH_tk 7 (v := ?va7) rfl (by kernel_rfl) (by kernel_rfl) (by kernel_rfl) (fun _ _ _ h => h) (by rfl) ?hya7 (by assumption) ?_
                case hya7 => (intro w hSw; (try dsimp only at hSw); go_simp <;> with_reducible rfl)
                (try simp only [Act.put, List.setIfInBounds_toArray, List.set_cons_zero, List.set_cons_succ])
                refine wpAnyH_tk 8 (v := ?va8) rfl (by kernel_rfl) (by kernel_rfl) (by kernel_rfl) (fun _ _ _ h => h) (by rfl) ?hya8 (by assumption) ?_
                case hya8 => (intro w hSw; (try dsimp only at hSw); go_simp <;> with_reducible rfl)
                (try simp only [Act.put, List.setIfInBounds_toArray, List.set_cons_zero, List.set_cons_succ])
                refine wpAnyH_tk 9 (v := ?va9) rfl (by kernel_rfl) (by kernel_rfl) (by kernel_rfl) (fun _ _ _ h => h) (by rfl) ?hya9 (by assumption) ?_
                case hya9 => (intro w hSw; (try dsimp only at hSw); go_simp <;> with_reducible rfl)
                (try simp only [Act.put, List.setIfInBounds_toArray, List.set_cons_zero, List.set_cons_succ])
                refine wpAnyH_tk 10 (v := ?va10) rfl (by kernel_rfl) (by kernel_rfl) (by kernel_rfl) (fun _ _ _ h => h) (by rfl) ?hya10 (by assumption) ?_
                case hya10 => (intro w hSw; (try dsimp only at hSw); go_simp <;> with_reducible rfl)
                (try simp only [Act.put, List.setIfInBounds_toArray, List.set_cons_zero, List.set_cons_succ])
                refine wpAnyH_tk 11 (v := ?va11) rfl (by kernel_rfl) (by kernel_rfl) (by kernel_rfl) (fun _ _ _ h => h) (by rfl) ?hya11 (by assumption) ?_
                case hya11 => (intro w hSw; (try dsimp only at hSw); go_simp <;> with_reducible rfl)
                (try simp only [Act.put, List.setIfInBounds_toArray, List.set_cons_zero, List.set_cons_succ])
                refine wpAnyH_tk 12 (v := ?va12) rfl (by kernel_rfl) (by kernel_rfl) (by kernel_rfl) (fun _ _ _ h => h) (by rfl) ?hya12 (by assumption) ?_
                case hya12 => (intro w hSw; (try dsimp only at hSw); go_simp <;> with_reducible rfl)
                (try simp only [Act.put, List.setIfInBounds_toArray, List.set_cons_zero, List.set_cons_succ])
                refine wpAnyH_tk 13 (v := ?va13) rfl (by kernel_rfl) (by kernel_rfl) (by kernel_rfl) (fun _ _ _ h => h) (by rfl) ?hya13 (by assumption) ?_
                case hya13 => (intro w hSw; (try dsimp only at hSw); go_simp <;> with_reducible rfl)
                (try simp only [Act.put, List.setIfInBounds_toArray, List.set_cons_zero, List.set_cons_succ])
                refine wpAnyH_tk 14 (v := ?va14) rfl (by kernel_rfl) (by kernel_rfl) (by kernel_rfl) (fun _ _ _ h => h) (by rfl) ?hya14 (by assumption) ?_
                case hya14 => (intro w hSw; (try dsimp only at hSw); go_simp <;> with_reducible rfl)
                (try simp only [Act.put, List.setIfInBounds_toArray, List.set_cons_zero, List.set_cons_succ])
                refine wpAnyH_tk 15 (v := ?va15) rfl (by kernel_rfl) (by kernel_rfl) (by kernel_rfl) (fun _ _ _ h => h) (by rfl) ?hya15 (by assumption) ?_
                case hya15 => (intro w hSw; (try dsimp only at hSw); go_simp <;> with_reducible rfl)
                (try simp only [Act.put, List.setIfInBounds_toArray, List.set_cons_zero, List.set_cons_succ])
                refine wpAnyH_tk 16 (v := ?va16) rfl (by kernel_rfl) (by kernel_rfl) (by kernel_rfl) (fun _ _ _ h => h) (by rfl) ?hya16 (by assumption) ?_
                case hya16 => (intro w hSw; (try dsimp only at hSw); go_simp <;> with_reducible rfl)
                (try simp only [Act.put, List.setIfInBounds_toArray, List.set_cons_zero, List.set_cons_succ])
                refine wpAnyH_tk 17 (v := ?va17) rfl (by kernel_rfl) (by kernel_rfl) (by kernel_rfl) (fun _ _ _ h => h) (by rfl) ?hya17 (by assumption) ?_
                case hya17 => (intro w hSw; (try dsimp only at hSw); go_simp <;> with_reducible rfl)
                (try simp only [Act.put, List.setIfInBounds_toArray, List.set_cons_zero, List.set_cons_succ])
                refine wpAnyH_done (by kernel_rfl) ?_ _
                clear hHeld r0 r1 r2 wa wb wo c0 c1
                go_wp2
                go_roundg (gk - 1)
                case rel => exact ⟨k + 1, c + r.cost, t ||| bo, joinL p r.a.toNat r.b.toNat, by have := Hk.out; omega, hk17, by go_num, by go_num, rfl, by omega, by omega, ht2, CS2, TN2, UP2, LAB2, PB3, E3⟩
                case measure => have := Hk.out; omega
          · have ek : k = 0 := by omega
            have hk0 : ¬ ((k : Int) > 0) := by omega
            have HI : Hid (0 ≤ fn l k ∧ fn l k < rs.length ∧ (0 < k → fn l (k - 1) < fn l k)) := by
              show _ ∧ _
              rw [← HXX.out]
              exact ⟨by omega, by omega, fun h => by omega⟩
            clear ek
            obtain ⟨bb, off, rfl, -, hcc⟩ := Roads.get HV.out q hql
            obtain ⟨r0, r1, r2⟩ := hcc _ (HE.out.trans E.out)
            have Htk : Hid (edges rs (l.take (k + 1)) = edges rs (l.take k) ++ [roadAt rs q]) := by
              show _ = _
              rw [List.take_succ_eq_append_getElem hlt]
              unfold edges
              rw [List.map_append, ← fn_get hlt, ← HXX.out]
              rfl
            have HQ : Hid (roadAt rs (fn l k).toNat = roadAt rs q) := by show _ = _; rw [← HXX.out]; rfl
            have hrok := roadOk_iff.1 (HAll.out _ (roadAt_mem hql))
            obtain ⟨q1, q2, q3, q4, -, q6, q7⟩ := hrok
            obtain ⟨r, hr⟩ : ∃ r, r = roadAt rs q := ⟨_, rfl⟩
            have HRQ : Hid (roadAt rs q = r) := hr.symm
            rw [← hr] at r0 r1 r2 Htk HQ q1 q2 q3 q4 q6 q7
            clear hr
            have ha8 : r.a < 8 := by omega
            have hb8 : r.b < 8 := by omega
            have hla : r.a.toNat < 8 := by omega
            have hlb : r.b.toNat < 8 := by omega
            go_wp2_with (fail)
            refine (join_any gp p r _ PB.out q1 ha8 q3 hb8).mono ?_
            rintro e w2 ⟨rfl, hpb, hon⟩
            have E2 := hid (hon.ext E.out (by rw [HGP.out]; exact Nat.le_refl _))
            have PB2 := hid hpb
            have HLI := hid (LAB.out r.a.toNat r.b.toNat hla hlb)
            have HLJ := hid (LAB.out.join hla hlb)
            clear hpb hon hcc c0 c1 dk r0 r1 r2
            by_cases hj : p r.a.toNat = p r.b.toNat
            · have hjb : (p r.a.toNat != p r.b.toNat) = false := by rw [hj]; simp
              have HR := hid (FAIL.out (fun g => g.2 (by rw [HQ.out]; exact HLI.out.1 hj)))
              rw [hjb]
              clear hj hjb
              go_wp2
              go_ret2
              exact ⟨.inr ⟨HR.out, rfl⟩, HE.out.trans E2.out⟩
            · have hjb : (p r.a.toNat != p r.b.toNat) = true := by rw [bne_iff_ne]; exact hj
              have UP2 : Hid (Upto rs l (k + 1)) := fun j hj2 => by
                by_cases e : j = k
                · subst e
                  exact ⟨HI.out, by rw [HQ.out]; exact fun g => hj (HLI.out.2 g)⟩
                · exact UP.out j (by omega)
              have hk17 : k + 1 ≤ 16 := by
                have key : ∀ j, j < k + 1 → (j : Int) ≤ fn l j := by
                  intro j
                  induction j with
                  | zero => intro h; exact (UP2.out 0 h).1.1
                  | succ j ih =>
                    intro h
                    have h1 := ih (by omega)
                    have h2 := (UP2.out (j + 1) h).1.2.2 (by omega)
                    rw [Nat.add_sub_cancel] at h2
                    omega
                have h1 := key k (by omega)
                have h2 := HI.out.2.1
                omega
              obtain ⟨c0, c1⟩ := (HX.out.ext E2.out).cells
              have hcc := (Roads.get HV.out q hql)
              obtain ⟨bb', off', hbe, -, hcc⟩ := hcc
              simp only [Option.some.injEq, Addr.mk.injEq, and_true] at hbe
              obtain ⟨rfl, rfl⟩ := hbe
              have hcc := hcc _ (HE.out.trans E2.out)
              rw [HRQ.out] at hcc
              obtain ⟨r0, r1, r2⟩ := hcc
              have hbl := both_lt hla hlb
              have pa : 2 ^ r.a.toNat < 2 ^ 62 := Nat.pow_lt_pow_right (by decide) (by omega)
              have pb : 2 ^ r.b.toNat < 2 ^ 62 := Nat.pow_lt_pow_right (by decide) (by omega)
              obtain ⟨xa, hxa⟩ : ∃ x, x = 2 ^ r.a.toNat := ⟨_, rfl⟩
              obtain ⟨xb, hxb⟩ : ∃ x, x = 2 ^ r.b.toNat := ⟨_, rfl⟩
              have ea : ((2 : Int) ^ r.a.toNat) = (xa : Int) := by rw [hxa]; simp
              have eb : ((2 : Int) ^ r.b.toNat) = (xb : Int) := by rw [hxb]; simp
              have wa : IntKind.i64.wrap (2 ^ r.a.toNat) = (xa : Int) := by rw [ea]; exact wraps_i64_62 _ (by omega) (by omega)
              have wb : IntKind.i64.wrap (2 ^ r.b.toNat) = (xb : Int) := by rw [eb]; exact wraps_i64_62 _ (by omega) (by omega)
              have wo : bits .or .i64 xa xb = (bothN r : Int) := by rw [bits_or_nat xa xb (by omega) (by omega), hxa, hxb]; rfl
              have wm : bits .or .i64 t (bothN r) = ((t ||| bothN r : Nat) : Int) := bits_or_nat t (bothN r) (by omega) (by omega)
              have ht2 : t ||| bothN r < 256 := Nat.or_lt_two_pow (n := 8) ht hbl
              have CS2 : Hid (c + r.cost = costL rs (l.take (k + 1))) := by
                show _ = _
                unfold costL
                rw [Htk.out, List.foldl_append, CS.out]; rfl
              have TN2 : Hid (t ||| bothN r = touchN s (edges rs (l.take (k + 1)))) := by
                show _ = _
                unfold touchN
                rw [Htk.out, List.foldl_append, TN.out]; rfl
              have LAB2 : Hid (Lab (edges rs (l.take (k + 1))) (joinL p r.a.toNat r.b.toNat)) := by
                show Lab _ _
                rw [Htk.out]; exact HLJ.out
              have hw1 : IntKind.i64.wrap (c + r.cost) = c + r.cost := wraps_i64_62 _ (by omega) (by omega)
              have E3 := hid E2.out.drew
              have PB3 := hid (PB2.out.ext ((Ext.refl w2).drew))
              rw [hjb]
              clear hj hjb pa pb hxa hxb ea eb hbl
              obtain ⟨bo, hbo⟩ : ∃ x, x = bothN r := ⟨_, rfl⟩
              rw [← hbo] at wo wm ht2 TN2
              clear hbo
              go_wp2
              refine wp_region_held_drew (S := (fun w' => w'.cell? ⟨w.heap.size, 1, none⟩ = some (.slice (some ⟨bb, off, none⟩) rs.length cap) ∧ w'.cell? ⟨bb, off + q * 3, none⟩ = some (.int .i64 r.a) ∧ w'.cell? ⟨bb, off + q * 3 + 1, none⟩ = some (.int .i64 r.b))) (by kernel_rfl) ?hSb0 (fun hHeld => ?_)
              case hSb0 => (first | (exact ⟨c1, r0, r1⟩) | ((try dsimp only); exact ⟨c1, r0, r1⟩))
              refine wpAnyH_tk 0 (v := ?vb0) rfl (by kernel_rfl) (by kernel_rfl) (by kernel_rfl) (fun _ _ _ h => h) (by rfl) ?hyb0 (by assumption) ?_
              case hyb0 => (intro w hSw; (try dsimp only at hSw); go_simp <;> with_reducible rfl)
              (try simp only [Act.put, List.setIfInBounds_toArray, List.set_cons_zero, List.set_cons_succ])
              refine wpAnyH_tk 1 (v := ?vb1) rfl (by kernel_rfl) (by kernel_rfl) (by kernel_rfl) (fun _ _ _ h => h) (by rfl) ?hyb1 (by assumption) ?_
              case hyb1 => (intro w hSw; (try dsimp only at hSw); go_simp <;> with_reducible rfl)
              (try simp only [Act.put, List.setIfInBounds_toArray, List.set_cons_zero, List.set_cons_succ])
              refine wpAnyH_tk 2 (v := ?vb2) rfl (by kernel_rfl) (by kernel_rfl) (by kernel_rfl) (fun _ _ _ h => h) (by rfl) ?hyb2 (by assumption) ?_
              case hyb2 => (intro w hSw; (try dsimp only at hSw); go_simp <;> with_reducible rfl)
              (try simp only [Act.put, List.setIfInBounds_toArray, List.set_cons_zero, List.set_cons_succ])
              refine wpAnyH_tk 3 (v := ?vb3) rfl (by kernel_rfl) (by kernel_rfl) (by kernel_rfl) (fun _ _ _ h => h) (by rfl) ?hyb3 (by assumption) ?_
              case hyb3 => (intro w hSw; (try dsimp only at hSw); go_simp <;> with_reducible rfl)
              (try simp only [Act.put, List.setIfInBounds_toArray, List.set_cons_zero, List.set_cons_succ])
              refine wpAnyH_tk 4 (v := ?vb4) rfl (by kernel_rfl) (by kernel_rfl) (by kernel_rfl) (fun _ _ _ h => h) (by rfl) ?hyb4 (by assumption) ?_
              case hyb4 => (intro w hSw; (try dsimp only at hSw); go_simp <;> with_reducible rfl)
              (try simp only [Act.put, List.setIfInBounds_toArray, List.set_cons_zero, List.set_cons_succ])
              refine wpAnyH_tk 5 (v := ?vb5) rfl (by kernel_rfl) (by kernel_rfl) (by kernel_rfl) (fun _ _ _ h => h) (by rfl) ?hyb5 (by assumption) ?_
              case hyb5 => (intro w hSw; (try dsimp only at hSw); go_simp <;> with_reducible rfl)
              (try simp only [Act.put, List.setIfInBounds_toArray, List.set_cons_zero, List.set_cons_succ])
              refine wpAnyH_tk 6 (v := ?vb6) rfl (by kernel_rfl) (by kernel_rfl) (by kernel_rfl) (fun _ _ _ h => h) (by rfl) ?hyb6 (by assumption) ?_
              case hyb6 => (intro w hSw; (try dsimp only at hSw); go_simp <;> with_reducible rfl)
              (try simp only [Act.put, List.setIfInBounds_toArray, List.set_cons_zero, List.set_cons_succ])
              refine wpAnyH_tk 7 (v := ?vb7) rfl (by kernel_rfl) (by kernel_rfl) (by kernel_rfl) (fun _ _ _ h => h) (by rfl) ?hyb7 (by assumption) ?_
              case hyb7 => (intro w hSw; (try dsimp only at hSw); go_simp <;> with_reducible rfl)
              (try simp only [Act.put, List.setIfInBounds_toArray, List.set_cons_zero, List.set_cons_succ])
              refine wpAnyH_tk 8 (v := ?vb8) rfl (by kernel_rfl) (by kernel_rfl) (by kernel_rfl) (fun _ _ _ h => h) (by rfl) ?hyb8 (by assumption) ?_
              case hyb8 => (intro w hSw; (try dsimp only at hSw); go_simp <;> with_reducible rfl)
              (try simp only [Act.put, List.setIfInBounds_toArray, List.set_cons_zero, List.set_cons_succ])
              refine wpAnyH_tk 9 (v := ?vb9) rfl (by kernel_rfl) (by kernel_rfl) (by kernel_rfl) (fun _ _ _ h => h) (by rfl) ?hyb9 (by assumption) ?_
              case hyb9 => (intro w hSw; (try dsimp only at hSw); go_simp <;> with_reducible rfl)
              (try simp only [Act.put, List.setIfInBounds_toArray, List.set_cons_zero, List.set_cons_succ])
              refine wpAnyH_tk 10 (v := ?vb10) rfl (by kernel_rfl) (by kernel_rfl) (by kernel_rfl) (fun _ _ _ h => h) (by rfl) ?hyb10 (by assumption) ?_
              case hyb10 => (intro w hSw; (try dsimp only at hSw); go_simp <;> with_reducible rfl)
              (try simp only [Act.put, List.setIfInBounds_toArray, List.set_cons_zero, List.set_cons_succ])
              refine wpAnyH_tk 11 (v := ?vb11) rfl (by kernel_rfl) (by kernel_rfl) (by kernel_rfl) (fun _ _ _ h => h) (by rfl) ?hyb11 (by assumption) ?_
              case hyb11 => (intro w hSw; (try dsimp only at hSw); go_simp <;> with_reducible rfl)
              (try simp only [Act.put, List.setIfInBounds_toArray, List.set_cons_zero, List.set_cons_succ])
              refine wpAnyH_tk 12 (v := ?vb12) rfl (by kernel_rfl) (by kernel_rfl) (by kernel_rfl) (fun _ _ _ h => h) (by rfl) ?hyb12 (by assumption) ?_
              case hyb12 => (intro w hSw; (try dsimp only at hSw); go_simp <;> with_reducible rfl)
              (try simp only [Act.put, List.setIfInBounds_toArray, List.set_cons_zero, List.set_cons_succ])
              refine wpAnyH_tk 13 (v := ?vb13) rfl (by kernel_rfl) (by kernel_rfl) (by kernel_rfl) (fun _ _ _ h => h) (by rfl) ?hyb13 (by assumption) ?_
              case hyb13 => (intro w hSw; (try dsimp only at hSw); go_simp <;> with_reducible rfl)
              (try simp only [Act.put, List.setIfInBounds_toArray, List.set_cons_zero, List.set_cons_succ])
              refine wpAnyH_tk 14 (v := ?vb14) rfl (by kernel_rfl) (by kernel_rfl) (by kernel_rfl) (fun _ _ _ h => h) (by rfl) ?hyb14 (by assumption) ?_
              case hyb14 => (intro w hSw; (try dsimp only at hSw); go_simp <;> with_reducible rfl)
              (try simp only [Act.put, List.setIfInBounds_toArray, List.set_cons_zero, List.set_cons_succ])
              refine wpAnyH_tk 15 (v := ?vb15) rfl (by kernel_rfl) (by kernel_rfl) (by kernel_rfl) (fun _ _ _ h => h) (by rfl) ?hyb15 (by assumption) ?_
              case hyb15 => (intro w hSw; (try dsimp only at hSw); go_simp <;> with_reducible rfl)
              (try simp only [Act.put, List.setIfInBounds_toArray, List.set_cons_zero, List.set_cons_succ])
              refine wpAnyH_tk 16 (v := ?vb16) rfl (by kernel_rfl) (by kernel_rfl) (by kernel_rfl) (fun _ _ _ h => h) (by rfl) ?hyb16 (by assumption) ?_
              case hyb16 => (intro w hSw; (try dsimp only at hSw); go_simp <;> with_reducible rfl)
              (try simp only [Act.put, List.setIfInBounds_toArray, List.set_cons_zero, List.set_cons_succ])
              refine wpAnyH_tk 17 (v := ?vb17) rfl (by kernel_rfl) (by kernel_rfl) (by kernel_rfl) (fun _ _ _ h => h) (by rfl) ?hyb17 (by assumption) ?_
              case hyb17 => (intro w hSw; (try dsimp only at hSw); go_simp <;> with_reducible rfl)
              (try simp only [Act.put, List.setIfInBounds_toArray, List.set_cons_zero, List.set_cons_succ])
              refine wpAnyH_done (by kernel_rfl) ?_ _
              clear hHeld r0 r1 r2 wa wb wo c0 c1
              go_wp2
              go_roundg (gk - 1)
              case rel => exact ⟨k + 1, c + r.cost, t ||| bo, joinL p r.a.toNat r.b.toNat, by have := Hk.out; omega, hk17, by go_num, by go_num, rfl, by omega, by omega, ht2, CS2, TN2, UP2, LAB2, PB3, E3⟩
              case measure => have := Hk.out; omega
    · have ek : l.take k = l := List.take_of_length_le (by omega)
      rw [ek] at CS TN LAB
      have UP2 : Hid (∀ j, j < l.length → okAt rs l j) := fun j hj => UP.out j (by omega)
      obtain ⟨z, ⟨hz1, hz2⟩, HTC⟩ := (HTZ.out.ext (HE.out.trans E.out)) wr (Ext.refl _) t (by
        rcases Nat.eq_zero_or_pos t with h | h
        · exfalso
          obtain ⟨i, hi⟩ := Nat.exists_testBit_of_ne_zero (show s ≠ 0 by omega)
          have := (touchN_bit (edges rs l) s i).2 (.inl hi)
          rw [← TN.out, h] at this
          simp at this
        · exact h) ht
      have hz8 : z < 8 := bit_lt (n := 8) (by exact ht) hz1
      have hti : (0 : Int) < t := by
        rcases Nat.eq_zero_or_pos t with h | h
        · rw [h] at hz1; simp at hz1
        · omega
      have hti2 : (t : Int) < 256 := by omega
      have dec : Decidable (connP p t z) := Classical.propDecidable _
      have HF : Hid (connP p t z ↔ treeP rs s l) := by
        show _ ↔ _
        rw [connP_iff LAB.out ht hz1]
        unfold treeP
        constructor
        · intro h
          refine ⟨UP2.out, fun x y hx hy => h x y ?_ ?_⟩
          · rw [TN.out, touchN_bit]; exact hx
          · rw [TN.out, touchN_bit]; exact hy
        · intro h x y hx hy
          rw [TN.out, touchN_bit] at hx hy
          exact h.2 x y hx hy
      have HTC2 := hid HTC
      have HZ := hid hz1
      clear ek HTC hz1 hz2
      go_wp2_with (fail)
      refine (connected_any gp p t z _ PB.out hti hti2 hz8 HTC2.out (dec := dec)).mono ?_
      by_cases hc : connP p t z
      · rw [decide_eq_true hc]
        rintro e w2 ⟨rfl, he⟩
        have HR := hid (HF.out.1 hc)
        have HW := hid (HE.out.trans (E.out.trans he))
        clear he hc
        go_wp2
        go_ret2
        exact ⟨.inl ⟨HR.out, by rw [← CS.out]; rfl⟩, HW.out⟩
      · rw [decide_eq_false hc]
        rintro e w2 ⟨rfl, he⟩
        have HR := hid (fun g => hc (HF.out.2 g))
        have HW := hid (HE.out.trans (E.out.trans he))
        clear he hc
        go_wp2
        go_ret2
        exact ⟨.inr ⟨HR.out, rfl⟩, HW.out⟩

end Go.Proofs.YtkbkgkmogbkabaaDoor

/-
  Contract of CheckTree.
-/
namespace Go.Proofs.YtkbkgkmogbkabaaDoor
open Go.RowKit

/-- The two values that a list of roads has. -/
def TreeVal (rs : List RoadD) (s : Nat) (l : List Int) (c : Int) (b : Bool) : Prop := (treeP rs s l ∧ c = costL rs l ∧ b = true) ∨ (¬ treeP rs s l ∧ c = 0 ∧ b = false)
theorem TreeVal.ex (rs : List RoadD) (s : Nat) (l : List Int) : ∃ c b, TreeVal rs s l c b := by
  by_cases h : treeP rs s l
  · exact ⟨_, _, .inl ⟨h, rfl, rfl⟩⟩
  · exact ⟨_, _, .inr ⟨h, rfl, rfl⟩⟩
theorem TreeVal.ans {rs : List RoadD} {s : Nat} {l : List Int} {c : Int} {b : Bool} (h : TreeVal rs s l c b) {e : Ending} (ha : TreeAns rs s l e) : e = .returned (.tuple #[.int .i64 c, .bool b]) := by
  rcases h with ⟨h, rfl, rfl⟩ | ⟨h, rfl, rfl⟩ <;> rcases ha with ⟨g, rfl⟩ | ⟨g, rfl⟩
  · rfl
  · exact absurd h g
  · exact absurd g h
  · rfl
theorem incr_lo {rs : List RoadD} {l : List Int} {n : Nat} (h : ∀ k, k < n → okAt rs l k) : ∀ k, k < n → (k : Int) ≤ fn l k := by
  intro k
  induction k with
  | zero => intro hk; exact (h 0 hk).1.1
  | succ k ih =>
    intro hk
    have h1 := ih (by omega)
    have h2 := (h (k + 1) hk).1.2.2 (by omega)
    rw [Nat.add_sub_cancel] at h2
    omega
theorem treeP_len {rs : List RoadD} {s : Nat} {l : List Int} (h : treeP rs s l) : l.length ≤ rs.length := by
  rcases Nat.eq_zero_or_pos l.length with e | e
  · omega
  · have h1 := incr_lo h.1 (l.length - 1) (by omega)
    have h2 := (h.1 (l.length - 1) (by omega)).1.2.1
    omega
theorem treeP_cut {rs : List RoadD} {s : Nat} {l : List Int} (hr : rs.length ≤ 16) {c : Int} {b : Bool} (h : TreeVal rs s l c b) : TreeVal rs s (l.take 18) c b := by
  by_cases hl : l.length ≤ 18
  · rw [List.take_of_length_le hl]; exact h
  · rcases h with ⟨h, -⟩ | ⟨h, r⟩
    · have := treeP_len h; omega
    · refine .inr ⟨fun g => ?_, r⟩
      have := treeP_len g
      rw [List.length_take] at this
      omega

set_option maxRecDepth 20000 in
set_option maxHeartbeats 4000000 in
theorem CheckTree_bad (vr v : Value) (m : MapD) (s : Int) (l : List Int) (w : World) (hm : MapR w vr m) (hl : Ints w v l) (hb : mapOk m = false ∨ (mapOk m = true ∧ stopsB m.n s = false)) :
    Calls Tryd.prog 11 #[.agg #[.int .i64 m.n, vr], .int .i64 s, v] w fun e w' => e = .returned (.tuple #[.int .i64 0, .bool false, .int .i64 2]) ∧ Ext w w' := by
  obtain ⟨ao, cap, rfl⟩ := hm.shape
  obtain ⟨-, am, cm, rfl, -⟩ := hl
  have HV := hid hm
  have X0 := hid (Box2.alloc w 31 (.int .i64 m.n) (.slice ao m.roads.length cap))
  clear hm
  go_enter Tryd.func11, Tryd.ntmps11
  go_wp2_with (fail)
  refine (valid_any _ m _ (MapR.ext HV.out (Ext.ofAlloc _ _))).mono ?_
  rintro e w1 ⟨rfl, he⟩
  have HE := hid ((Ext.ofAlloc w _).trans he)
  obtain ⟨c0, c1⟩ := (X0.out.ext he).cells
  clear he
  rcases hb with h1 | ⟨h1, h2⟩
  · rw [h1]
    clear h1
    go_wp2
    refine bodyPost_ret (v := .tuple #[.int .i64 0, .bool false, .int .i64 2]) (by simp [results, Tryd.results11, go_sem]) rfl ?_
    exact ⟨rfl, HE.out⟩
  · have hok2 := h1
    unfold mapOk at hok2
    rw [Bool.and_eq_true, decide_eq_true_iff] at hok2
    obtain ⟨⟨k1, k8, -⟩, -⟩ := hok2
    rw [h1]
    clear h1
    have HS := hid h2
    clear h2
    go_wp2_with (fail)
    refine (stops_any _ m s _ (MapR.ext HV.out HE.out) (by omega) k8).mono ?_
    rw [HS.out]
    rintro e w2 ⟨rfl, he⟩
    replace HE := hid (HE.out.trans he)
    clear he c0 c1
    go_wp2
    refine bodyPost_ret (v := .tuple #[.int .i64 0, .bool false, .int .i64 2]) (by simp [results, Tryd.results11, go_sem]) rfl ?_
    exact ⟨rfl, HE.out⟩

set_option maxRecDepth 20000 in
set_option maxHeartbeats 4000000 in
theorem CheckTree_ok (vr v : Value) (N : Nat) (rs : List RoadD) (s : Nat) (l : List Int) (w : World) (hv : Roads w vr rs) (hl : Ints w v l) (hok : mapOk ⟨N, rs⟩ = true) (hs : stopsB N s = true) (hTZ : TZ w) {c : Int} {b : Bool} (hcb : TreeVal rs s l c b) :
    Calls Tryd.prog 11 #[.agg #[.int .i64 N, vr], .int .i64 s, v] w fun e w' => e = .returned (.tuple #[.int .i64 c, .bool b, .int .i64 0]) ∧ Ext w w' := by
  obtain ⟨ao, cap, rfl⟩ := hv.shape
  have HL := hid hl
  have HTZ := hid hTZ
  have HCB := hid hcb
  obtain ⟨-, am, cm, rfl, -⟩ := hl
  have HV := hid hv
  have HOk := hid hok
  have HS := hid hs
  have hok2 := hok
  unfold mapOk at hok2
  rw [Bool.and_eq_true, decide_eq_true_iff, List.all_eq_true] at hok2
  obtain ⟨⟨h1, h8, h16⟩, hall⟩ := hok2
  dsimp only at h1 h8 h16 hall
  have HAll := hid hall
  have hs2 := hs
  unfold stopsB at hs2
  rw [decide_eq_true_iff] at hs2
  obtain ⟨s0, sN⟩ := hs2
  have hs0 : 0 < s := by omega
  have hsN : s < 2 ^ N := by
    rw [Int.toNat_natCast] at sN
    exact_mod_cast sN
  have HsN := hid hsN
  have X0 := hid (Box2.alloc w 31 (.int .i64 N) (.slice ao rs.length cap))
  clear hv hok hs hall sN hsN hTZ hcb
  go_enter Tryd.func11, Tryd.ntmps11
  go_wp2_with (fail)
  refine (valid_any _ ⟨N, rs⟩ _ (Roads.ext HV.out (Ext.ofAlloc _ _))).mono ?_
  rw [HOk.out]
  rintro e w1 ⟨rfl, he⟩
  have HE := hid ((Ext.ofAlloc w _).trans he)
  obtain ⟨c0, c1⟩ := (X0.out.ext he).cells
  clear he
  go_wp2_with (fail)
  refine (stops_any _ ⟨N, rs⟩ s _ (Roads.ext HV.out HE.out) (by show (0 : Int) ≤ N; omega) (by show (N : Int) ≤ 8; omega)).mono ?_
  rw [HS.out]
  rintro e w2 ⟨rfl, he⟩
  replace HE := hid (HE.out.trans he)
  replace c0 := he.cell c0
  replace c1 := he.cell c1
  clear he
  go_wp2_with (fail)
  refine (tree_any _ _ N rs l s _ (Roads.ext HV.out HE.out) (HL.out.ext HE.out) HAll.out (by omega) (by omega) hs0 HsN.out (HTZ.out.ext HE.out)).mono ?_
  rintro e w3 ⟨ha, he⟩
  obtain rfl := HCB.out.ans ha
  replace HE := hid (HE.out.trans he)
  clear he c0 c1 ha
  go_wp2
  refine bodyPost_ret (v := .tuple #[.int .i64 c, .bool b, .int .i64 0]) (by simp [results, Tryd.results11, go_sem]) rfl ?_
  exact ⟨rfl, HE.out⟩

end Go.Proofs.YtkbkgkmogbkabaaDoor

/-
  Contract of the reference's Tree.
-/
namespace Go.Proofs.YtkbkgkmogbkabaaDoor
open Go.RowKit

/-- a without b, as sets. -/
def andn (a b : Nat) : Nat := a ^^^ (a &&& b)
theorem andn_bit (a b i : Nat) : (andn a b).testBit i = (a.testBit i && !b.testBit i) := by
  unfold andn
  rw [Nat.testBit_xor, Nat.testBit_and]
  cases a.testBit i <;> cases b.testBit i <;> rfl
theorem andn_lt {a b n : Nat} (ha : a < 2 ^ n) : andn a b < 2 ^ n := Nat.xor_lt_two_pow ha (Nat.lt_of_le_of_lt Nat.and_le_left ha)
theorem bits_andn (a b : Nat) (ha : a < 2 ^ 62) (hb : b < 2 ^ 62) : bits .andNot .i64 a b = ((andn a b : Nat) : Int) := by
  have ha' : a % 2 ^ IntKind.i64.bits = a := Nat.mod_eq_of_lt (Nat.lt_of_lt_of_le ha (Nat.pow_le_pow_right (by decide) (by decide)))
  have hb' : b % 2 ^ IntKind.i64.bits = b := Nat.mod_eq_of_lt (Nat.lt_of_lt_of_le hb (Nat.pow_le_pow_right (by decide) (by decide)))
  have h1 : ∀ x y : BitVec IntKind.i64.bits, x &&& ~~~y = x ^^^ (x &&& y) := by
    intro x y
    apply BitVec.eq_of_getLsbD_eq
    intro i hi
    simp only [BitVec.getLsbD_and, BitVec.getLsbD_not, BitVec.getLsbD_xor, hi, decide_true, Bool.true_and]
    cases x.getLsbD i <;> cases y.getLsbD i <;> rfl
  have h2 := andn_lt (b := b) ha
  show IntKind.i64.wrap ((BitVec.ofInt IntKind.i64.bits (a : Int) &&& ~~~(BitVec.ofInt IntKind.i64.bits (b : Int))).toNat) = _
  rw [h1]
  simp only [BitVec.ofInt_natCast, BitVec.toNat_xor, BitVec.toNat_and, BitVec.toNat_ofNat, ha', hb']
  exact wraps_i64_62 _ (by omega) (by exact_mod_cast h2)
theorem andn_zero (a b : Nat) : andn a b = 0 ↔ ∀ i, a.testBit i = true → b.testBit i = true := by
  constructor
  · intro h i hi
    have := andn_bit a b i
    rw [h, hi, Nat.zero_testBit] at this
    cases e : b.testBit i
    · rw [e] at this; simp at this
    · rfl
  · intro h
    apply Nat.eq_of_testBit_eq
    intro i
    rw [andn_bit, Nat.zero_testBit]
    cases e : a.testBit i
    · rfl
    · rw [h i e]; rfl
/-- The least bit. -/
theorem low_bit {s n : Nat} (h0 : 0 < s) (h : s < 2 ^ n) : ∃ k, k < n ∧ s.testBit k = true ∧ ∀ j, j < k → s.testBit j = false := by
  obtain ⟨i, hi⟩ := Nat.exists_testBit_of_ne_zero (show s ≠ 0 by omega)
  have key : ∀ m i, i < m → s.testBit i = true → ∃ k, s.testBit k = true ∧ ∀ j, j < k → s.testBit j = false := by
    intro m
    induction m with
    | zero => intro i h; omega
    | succ m ih =>
      intro i him hi
      by_cases c : ∃ j, j < i ∧ s.testBit j = true
      · obtain ⟨j, hj, hjt⟩ := c
        exact ih j (by omega) hjt
      · refine ⟨i, hi, fun j hj => ?_⟩
        cases e : s.testBit j
        · rfl
        · exact absurd ⟨j, hj, e⟩ c
  obtain ⟨k, h1, h2⟩ := key (i + 1) i (by omega) hi
  exact ⟨k, bit_lt h h1, h1, h2⟩
theorem bit_zero (s i : Nat) : (s : Int) / 2 ^ i % 2 = (if s.testBit i then 1 else 0) := by
  have e : ((s : Int) / 2 ^ i % 2) = ((s / 2 ^ i % 2 : Nat) : Int) := by simp
  have h := Nat.testBit_eq_decide_div_mod_eq (x := s) (i := i)
  rw [e, h]
  rcases Nat.mod_two_eq_zero_or_one (s / 2 ^ i) with p | p <;> rw [p] <;> rfl
theorem meetN_lt {E : List RoadD} (hE : ∀ r ∈ E, r.a.toNat < 8 ∧ r.b.toNat < 8) {s : Nat} (hs : s < 8) (k : Nat) : meetN E (2 ^ s) k < 256 := ((Meets.start hs).rounds hE k).1
theorem edges_in {rs : List RoadD} {N : Nat} {l : List Int} (hok : ∀ r ∈ rs, roadOk N r = true) (hl : ∀ i ∈ l, 0 ≤ i ∧ i < rs.length) : ∀ r ∈ edges rs l, r.a.toNat < N ∧ r.b.toNat < N := by
  intro r hr
  obtain ⟨i, hi, rfl⟩ := List.mem_map.1 hr
  have := hl i hi
  have := roadOk_iff.1 (hok _ (roadAt_mem (rs := rs) (i := i.toNat) (by omega)))
  omega
/-- The two parts' test of the reference: all stops, and all that roads touch, are met. -/
theorem ref_ok {E : List RoadD} {N s z : Nat} (hE : ∀ r ∈ E, r.a.toNat < N ∧ r.b.toNat < N) (hN : N ≤ 8) (hz : z < N) (hs : s.testBit z = true) :
    (andn s (meetN E (2 ^ z) N) = 0 ∧ andn (touchN 0 E) (meetN E (2 ^ z) N) = 0) ↔ ∀ x y, touch s E x → touch s E y → Conn E x y := by
  rw [andn_zero, andn_zero, ← one_met (T := touch s E) (k := z) (.inl hs)]
  constructor
  · rintro ⟨h1, h2⟩ x (hx | hx)
    · exact (joined_bit hE hN hz x).1 (h1 x hx)
    · exact (joined_bit hE hN hz x).1 (h2 x ((touchN_bit E 0 x).2 (.inr hx)))
  · intro h
    refine ⟨fun i hi => (joined_bit hE hN hz i).2 (h i (.inl hi)), fun i hi => ?_⟩
    rcases (touchN_bit E 0 i).1 hi with g | g
    · simp at g
    · exact (joined_bit hE hN hz i).2 (h i (.inr g))

set_option maxRecDepth 20000 in
set_option maxHeartbeats 8000000 in
theorem RTree_any (vr v : Value) (N : Nat) (rs : List RoadD) (l : List Int) (s : Nat) (w : World) (hv : Roads w vr rs) (hl : Ints w v l) (hok : ∀ r ∈ rs, roadOk N r = true) (hN8 : N ≤ 8) (hrl : rs.length ≤ 16) (hs0 : 0 < s) (hs : s < 2 ^ N) :
    Calls Tryd.prog 17 #[.agg #[.int .i64 N, vr], .int .i64 s, v] w fun e w' => TreeAns rs s l e ∧ Ext w w' := by
  obtain ⟨ao, cap, rfl⟩ := hv.shape
  have HV := hid hv
  have HL := hid hl
  obtain ⟨hlen, al, cl, rfl, hcl, -⟩ := id hl
  have HAll := hid hok
  have X0 := hid (Box2.alloc w 24 (.int .i64 N) (.slice ao rs.length cap))
  have HE0 := hid (Ext.ofAlloc w (.cells #[.int .i64 N, .slice ao rs.length cap] 24))
  obtain ⟨z, hzN, hz1, hz2⟩ := low_bit hs0 hs
  have s256 : s < 256 := by
    have h1 : (2 : Nat) ^ N ≤ 2 ^ 8 := Nat.pow_le_pow_right (by decide) hN8
    have e : (256 : Nat) = 2 ^ 8 := by decide
    omega
  have HZ1 := hid hz1
  have HZ2 := hid hz2
  have hz8 : z < 8 := by omega
  have hsi : (s : Int) ≤ 256 := by omega
  have HN := hid hzN
  clear hv hl hok hz1 hz2 hzN hs hs0
  go_enter Tryd.func17, Tryd.ntmps17
  go_wp2
  generalize w.alloc (.cells #[.int .i64 N, .slice ao rs.length cap] 24) = W at *
  go_loopg [8] z (fun g i wr => ∃ (k : Nat), k + g = z ∧ i = .int .i64 k ∧ Hid (Ext W wr))
  case atStart => exact ⟨0, by omega, rfl, Ext.refl _⟩
  case round =>
    obtain ⟨k, hk, rfl, E1⟩ := hrel
    have hkz : k ≤ z := by omega
    have Hk := hid hk
    clear hk
    obtain ⟨u0, u1⟩ := div_in s k (by omega) hsi
    have ua := bits_one _ u0 (by omega)
    rw [bit_zero] at ua
    clear u0 u1
    by_cases hlt : k < z
    · rw [HZ2.out k hlt] at ua
      simp only [Bool.false_eq_true, if_false] at ua
      go_wp2
      go_roundg (gk - 1)
      case rel => exact ⟨k + 1, by have := Hk.out; omega, by go_num, E1.out⟩
      case measure => have := Hk.out; omega
    · have ek : k = z := by omega
      subst ek
      rw [HZ1.out] at ua
      simp only [if_true] at ua
      clear hlt
      go_wp2
      obtain ⟨W1, hW1⟩ : ∃ x, x = wr := ⟨_, rfl⟩
      have E0 := E1.out
      rw [← hW1] at E0
      have HE1 := hid (HE0.out.trans E0)
      have HX := hid (X0.out.ext E0)
      have EW : Hid (Ext W1 wr) := by rw [hW1]; exact Ext.refl _
      clear X0 E1 E0 hW1 HE0 Hk hkz ua
      have hk1 : (k : Int) < 9 := by omega
      go_loopg [24, 9, 10] l.length (fun g i vc vt wr => ∃ (j : Nat) (c : Int) (t : Nat), j + g = l.length ∧ j ≤ 16 ∧ i = .int .i64 j ∧ vc = .int .i64 c ∧ vt = .int .i64 t ∧ 0 ≤ c ∧ c ≤ 50 * (j : Int) ∧ t < 256 ∧ Hid (c = costL rs (l.take j)) ∧ Hid (t = touchN 0 (edges rs (l.take j))) ∧ Hid (Upto rs l j) ∧ Hid (Ext W1 wr))
      case atStart => exact ⟨0, 0, 0, by omega, by omega, rfl, rfl, rfl, by omega, by omega, by omega, rfl, rfl, fun j hj => by omega, EW⟩
      case round =>
        clear EW
        obtain ⟨j, c, t, hj, hj16, rfl, rfl, rfl, hc0, hc1, ht, CS, TN, UP, E⟩ := hrel
        have hjl : j ≤ l.length := by omega
        have Hj := hid hj
        clear hj
        by_cases hlt : j < l.length
        · obtain ⟨bl, ol, rfl, -, hce⟩ := HL.out.get j hlt
          have dk := hce _ (HE1.out.trans E.out)
          obtain ⟨c0, c1⟩ := (HX.out.ext E.out).cells
          obtain ⟨x, hx⟩ : ∃ x, x = fn l j := ⟨_, rfl⟩
          rw [← hx] at dk
          have HXX := hid hx
          have FAIL : Hid (¬ okAt rs l j → ¬ treeP rs s l) := fun h g => h (g.1 j hlt)
          clear hce hx
          by_cases x0 : x < 0
          · have HR := hid (FAIL.out (fun g => by have := g.1.1; rw [← HXX.out] at this; omega))
            go_wp2
            go_ret2
            exact ⟨.inr ⟨HR.out, rfl⟩, HE1.out.trans E.out⟩
          · by_cases x1 : (rs.length : Int) ≤ x
            · have HR := hid (FAIL.out (fun g => by have := g.1.2.1; rw [← HXX.out] at this; omega))
              go_wp2
              go_ret2
              exact ⟨.inr ⟨HR.out, rfl⟩, HE1.out.trans E.out⟩
            · obtain ⟨q, hq⟩ := Int.eq_ofNat_of_zero_le (show 0 ≤ x by omega)
              subst hq
              have hql : q < rs.length := by omega
              have hqi : (q : Int) < rs.length := by omega
              by_cases k0 : 0 < j
              · obtain ⟨bl', ol', hbe, -, hcp⟩ := HL.out.get (j - 1) (by omega)
                simp only [Option.some.injEq, Addr.mk.injEq, and_true] at hbe
                obtain ⟨rfl, rfl⟩ := hbe
                have dp := hcp _ (HE1.out.trans E.out)
                obtain ⟨y, hy⟩ : ∃ y, y = fn l (j - 1) := ⟨_, rfl⟩
                rw [← hy] at dp
                have HY := hid hy
                clear hcp hy
                by_cases yx : (q : Int) ≤ y
                · have HR := hid (FAIL.out (fun g => by have := g.1.2.2 k0; rw [← HXX.out, ← HY.out] at this; omega))
                  go_wp2
                  go_ret2
                  exact ⟨.inr ⟨HR.out, rfl⟩, HE1.out.trans E.out⟩
                · have HI : Hid (0 ≤ fn l j ∧ fn l j < rs.length ∧ (0 < j → fn l (j - 1) < fn l j)) := by
                    show _ ∧ _
                    rw [← HXX.out, ← HY.out]
                    exact ⟨by omega, by omega, fun _ => by omega⟩
                  obtain ⟨bb, off, rfl, -, hcc⟩ := Roads.get HV.out q hql
                  obtain ⟨r0, r1, r2⟩ := hcc _ (HE1.out.trans E.out)
                  have Htk : Hid (edges rs (l.take (j + 1)) = edges rs (l.take j) ++ [roadAt rs q]) := by
                    show _ = _
                    rw [List.take_succ_eq_append_getElem hlt]
                    unfold edges
                    rw [List.map_append, ← fn_get hlt, ← HXX.out]
                    rfl
                  have HQ : Hid (roadAt rs (fn l j).toNat = roadAt rs q) := by show _ = _; rw [← HXX.out]; rfl
                  obtain ⟨q1, q2, q3, q4, -, q6, q7⟩ := roadOk_iff.1 (HAll.out _ (roadAt_mem hql))
                  obtain ⟨r, hr⟩ : ∃ r, r = roadAt rs q := ⟨_, rfl⟩
                  rw [← hr] at r0 r1 r2 Htk HQ q1 q2 q3 q4 q6 q7
                  have hla : r.a.toNat < 8 := by omega
                  have hlb : r.b.toNat < 8 := by omega
                  have hlN : r.a.toNat < N := by omega
                  have hlN2 : r.b.toNat < N := by omega
                  have hb9 : r.b < 64 := by omega
                  have ha9 : r.a < 64 := by omega
                  have HIX : Hid (∀ i ∈ l.take j, 0 ≤ i ∧ i < rs.length) := fun i hi => by
                    obtain ⟨m, hm, rfl⟩ := List.getElem_of_mem hi
                    rw [List.length_take] at hm
                    have := (UP.out m (by omega)).1
                    rw [fn_get (by omega)] at this
                    rw [List.getElem_take]
                    exact ⟨this.1, this.2.1⟩
                  have HEd : Hid (∀ r ∈ edges rs (l.take j), r.a.toNat < N ∧ r.b.toNat < N) := edges_in HAll.out HIX.out
                  have hmlt := meetN_lt (E := edges rs (l.take j)) (fun r hr => by have := HEd.out r hr; omega) hla N
                  have HJB := hid (joined_bit HEd.out hN8 hlN r.b.toNat)
                  obtain ⟨m, hm⟩ : ∃ m, m = meetN (edges rs (l.take j)) (2 ^ r.a.toNat) N := ⟨_, rfl⟩
                  rw [← hm] at hmlt HJB
                  obtain ⟨u0, u1⟩ := div_in m r.b.toNat (by omega) (by omega)
                  have ub := bits_one _ u0 (by omega)
                  rw [bit_zero] at ub
                  obtain ⟨b1, hb1⟩ : ∃ b1 : Int, b1 = (if m.testBit r.b.toNat then 1 else 0) := ⟨_, rfl⟩
                  rw [← hb1] at ub
                  have HB1 := hid hb1
                  clear hb1
                  have hbl := both_lt hla hlb
                  have pa : 2 ^ r.a.toNat < 2 ^ 62 := Nat.pow_lt_pow_right (by decide) (by omega)
                  have pb : 2 ^ r.b.toNat < 2 ^ 62 := Nat.pow_lt_pow_right (by decide) (by omega)
                  obtain ⟨xa, hxa⟩ : ∃ x, x = 2 ^ r.a.toNat := ⟨_, rfl⟩
                  obtain ⟨xb, hxb⟩ : ∃ x, x = 2 ^ r.b.toNat := ⟨_, rfl⟩
                  have ea : ((2 : Int) ^ r.a.toNat) = (xa : Int) := by rw [hxa]; simp
                  have eb : ((2 : Int) ^ r.b.toNat) = (xb : Int) := by rw [hxb]; simp
                  have wa : IntKind.i64.wrap (2 ^ r.a.toNat) = (xa : Int) := by rw [ea]; exact wraps_i64_62 _ (by omega) (by omega)
                  have wb : IntKind.i64.wrap (2 ^ r.b.toNat) = (xb : Int) := by rw [eb]; exact wraps_i64_62 _ (by omega) (by omega)
                  have wo : bits .or .i64 xa xb = (bothN r : Int) := by rw [bits_or_nat xa xb (by omega) (by omega), hxa, hxb]; rfl
                  have wm : bits .or .i64 t (bothN r) = ((t ||| bothN r : Nat) : Int) := bits_or_nat t (bothN r) (by omega) (by omega)
                  have ht2 : t ||| bothN r < 256 := Nat.or_lt_two_pow (n := 8) ht hbl
                  have CS2 : Hid (c + r.cost = costL rs (l.take (j + 1))) := by
                    show _ = _
                    unfold costL
                    rw [Htk.out, List.foldl_append, CS.out]; rfl
                  have TN2 : Hid (t ||| bothN r = touchN 0 (edges rs (l.take (j + 1)))) := by
                    show _ = _
                    unfold touchN
                    rw [Htk.out, List.foldl_append, TN.out]; rfl
                  have HRV := hid (HV.out.ext (HE1.out.trans (E.out.trans (Ext.ofAlloc wr (.cells #[.int .i64 r.a, .int .i64 r.b, .int .i64 r.cost] 51)).drew)))
                  have HLV := hid ((HL.out.take (k := j) hjl).ext (HE1.out.trans (E.out.trans (Ext.ofAlloc wr (.cells #[.int .i64 r.a, .int .i64 r.b, .int .i64 r.cost] 51)).drew)))
                  obtain ⟨z0, z1, z2⟩ := (Box3.alloc wr 51 (.int .i64 r.a) (.int .i64 r.b) (.int .i64 r.cost)).cells
                  have c0' := (Ext.ofAlloc wr (.cells #[.int .i64 r.a, .int .i64 r.b, .int .i64 r.cost] 51)).cell c0
                  have c1' := (Ext.ofAlloc wr (.cells #[.int .i64 r.a, .int .i64 r.b, .int .i64 r.cost] 51)).cell c1
                  have EA := hid (E.out.trans (Ext.ofAlloc wr (.cells #[.int .i64 r.a, .int .i64 r.b, .int .i64 r.cost] 51)).drew)
                  obtain ⟨bo, hbo⟩ : ∃ x, x = bothN r := ⟨_, rfl⟩
                  rw [← hbo] at wo wm ht2 TN2
                  obtain ⟨gr, hgr⟩ : ∃ g, g = wr.heap.size := ⟨_, rfl⟩
                  have HM := hid hm
                  have hji : (j : Int) ≤ l.length := by omega
                  have hjc : j ≤ cl := by omega
                  clear hbo hr hcc pa pb hxa hxb ea eb hbl u0 u1 hm
                  go_wp2
                  rw [← hgr] at z0 z1 z2 ⊢
                  generalize wr.alloc (.cells #[.int .i64 r.a, .int .i64 r.b, .int .i64 r.cost] 51) = V at *
                  clear hgr c0 c1 dk r0 r1 r2 dp
                  refine wp_region_held_drew (S := (fun w' => w'.cell? ⟨w.heap.size, 0, none⟩ = some (.int .i64 N) ∧ w'.cell? ⟨w.heap.size, 1, none⟩ = some (.slice (some ⟨bb, off, none⟩) rs.length cap) ∧ w'.cell? ⟨gr, 0, none⟩ = some (.int .i64 r.a) ∧ w'.cell? ⟨gr, 1, none⟩ = some (.int .i64 r.b) ∧ w'.cell? ⟨gr, 2, none⟩ = some (.int .i64 r.cost))) (by kernel_rfl) ?hSa0 (fun hHeld => ?_)
                  case hSa0 => (first | (exact ⟨c0', c1', z0, z1, z2⟩) | ((try dsimp only); exact ⟨c0', c1', z0, z1, z2⟩))
                  refine wpAnyH_tk 0 (v := ?va0) rfl (by kernel_rfl) (by kernel_rfl) (by kernel_rfl) (fun _ _ _ h => h) (by rfl) ?hya0 (by assumption) ?_
                  case hya0 => (intro w hSw; (try dsimp only at hSw); go_simp <;> with_reducible rfl)
                  (try simp only [Act.put, List.setIfInBounds_toArray, List.set_cons_zero, List.set_cons_succ])
                  refine wpAnyH_tk 1 (v := ?va1) rfl (by kernel_rfl) (by kernel_rfl) (by kernel_rfl) (fun _ _ _ h => h) (by rfl) ?hya1 (by assumption) ?_
                  case hya1 => (intro w hSw; (try dsimp only at hSw); go_simp <;> with_reducible rfl)
                  (try simp only [Act.put, List.setIfInBounds_toArray, List.set_cons_zero, List.set_cons_succ])
                  refine wpAnyH_tk 2 (v := ?va2) rfl (by kernel_rfl) (by kernel_rfl) (by kernel_rfl) (fun _ _ _ h => h) (by rfl) ?hya2 (by assumption) ?_
                  case hya2 => (intro w hSw; (try dsimp only at hSw); go_simp <;> with_reducible rfl)
                  (try simp only [Act.put, List.setIfInBounds_toArray, List.set_cons_zero, List.set_cons_succ])
                  refine wpAnyH_tk 3 (v := ?va3) rfl (by kernel_rfl) (by kernel_rfl) (by kernel_rfl) (fun _ _ _ h => h) (by rfl) ?hya3 (by assumption) ?_
                  case hya3 => (intro w hSw; (try dsimp only at hSw); go_simp <;> with_reducible rfl)
                  (try simp only [Act.put, List.setIfInBounds_toArray, List.set_cons_zero, List.set_cons_succ])
                  refine wpAnyH_tk 4 (v := ?va4) rfl (by kernel_rfl) (by kernel_rfl) (by kernel_rfl) (fun _ _ _ h => h) (by rfl) ?hya4 (by assumption) ?_
                  case hya4 => (intro w hSw; (try dsimp only at hSw); go_simp <;> with_reducible rfl)
                  (try simp only [Act.put, List.setIfInBounds_toArray, List.set_cons_zero, List.set_cons_succ])
                  refine wpAnyH_tk 5 (v := ?va5) rfl (by kernel_rfl) (by kernel_rfl) (by kernel_rfl) (fun _ _ _ h => h) (by rfl) ?hya5 (by assumption) ?_
                  case hya5 => (intro w hSw; (try dsimp only at hSw); go_simp <;> with_reducible rfl)
                  (try simp only [Act.put, List.setIfInBounds_toArray, List.set_cons_zero, List.set_cons_succ])
                  refine wpAnyH_tk 7 (v := ?va7) rfl (by kernel_rfl) (by kernel_rfl) (by kernel_rfl) (fun _ _ _ h => h) (by rfl) ?hya7 (by assumption) ?_
                  case hya7 => (intro w hSw; (try dsimp only at hSw); go_simp <;> with_reducible rfl)
                  (try simp only [Act.put, List.setIfInBounds_toArray, List.set_cons_zero, List.set_cons_succ])
                  refine wpAnyH_tk 8 (v := ?va8) rfl (by kernel_rfl) (by kernel_rfl) (by kernel_rfl) (fun _ _ _ h => h) (by rfl) ?hya8 (by assumption) ?_
                  case hya8 => (intro w hSw; (try dsimp only at hSw); go_simp <;> with_reducible rfl)
                  (try simp only [Act.put, List.setIfInBounds_toArray, List.set_cons_zero, List.set_cons_succ])
                  refine wpAnyH_one 6 rfl (by kernel_rfl) (by rfl) (fun K hK => ?_)
                  go_simp
                  (obtain ⟨ra, hra⟩ : ∃ n : Nat, r.a = n := Int.eq_ofNat_of_zero_le q1; go_at_call 34; simp only [hra]; refine (joined_any _ _ N rs (l.take j) ra _ HRV.out HLV.out HIX.out HAll.out hN8 (by omega) (edges rs (l.take j)) rfl).mono ?_; rintro e wB ⟨rfl, heB⟩; rw [show 2 ^ ra = 2 ^ r.a.toNat by rw [hra]; rfl, ← HM.out]; have d0 := heB.cell c0'; have d1 := heB.cell c1'; have y0 := heB.cell z0; have y1 := heB.cell z1; have y2 := heB.cell z2; have EB := hid (EA.out.trans heB); clear heB c0' c1' z0 z1 z2 hra)
                  refine hK.out _ _ ?hSa7 (fun hHeld => ?_)
                  case hSa7 => (first | (exact ⟨d0, d1, y0, y1, y2⟩) | ((try dsimp only); exact ⟨d0, d1, y0, y1, y2⟩))
                  clear hK K
                  (try simp only [Act.put, List.setIfInBounds_toArray, List.set_cons_zero, List.set_cons_succ])
                  refine wpAnyH_tk 9 (v := ?va9) rfl (by kernel_rfl) (by kernel_rfl) (by kernel_rfl) (fun _ _ _ h => h) (by rfl) ?hya9 (by assumption) ?_
                  case hya9 => (intro w hSw; (try dsimp only at hSw); go_simp <;> with_reducible rfl)
                  (try simp only [Act.put, List.setIfInBounds_toArray, List.set_cons_zero, List.set_cons_succ])
                  refine wpAnyH_tk 10 (v := ?va10) rfl (by kernel_rfl) (by kernel_rfl) (by kernel_rfl) (fun _ _ _ h => h) (by rfl) ?hya10 (by assumption) ?_
                  case hya10 => (intro w hSw; (try dsimp only at hSw); go_simp <;> with_reducible rfl)
                  (try simp only [Act.put, List.setIfInBounds_toArray, List.set_cons_zero, List.set_cons_succ])
                  refine wpAnyH_tk 11 (v := ?va11) rfl (by kernel_rfl) (by kernel_rfl) (by kernel_rfl) (fun _ _ _ h => h) (by rfl) ?hya11 (by assumption) ?_
                  case hya11 => (intro w hSw; (try dsimp only at hSw); go_simp <;> with_reducible rfl)
                  (try simp only [Act.put, List.setIfInBounds_toArray, List.set_cons_zero, List.set_cons_succ])
                  refine wpAnyH_done (by kernel_rfl) ?_ _
                  by_cases hj2 : m.testBit r.b.toNat = true
                  · have HR := hid (FAIL.out (fun g => g.2 (by rw [HQ.out]; exact HJB.out.1 hj2)))
                    have hb2 := HB1.out
                    rw [hj2] at hb2
                    simp only [if_true] at hb2
                    subst hb2
                    clear hj2 hHeld
                    go_wp2
                    go_ret2
                    exact ⟨.inr ⟨HR.out, rfl⟩, HE1.out.trans EB.out⟩
                  · have UP2 : Hid (Upto rs l (j + 1)) := fun i hi => by
                      by_cases e : i = j
                      · subst e
                        exact ⟨HI.out, by rw [HQ.out]; exact fun g => hj2 (HJB.out.2 g)⟩
                      · exact UP.out i (by omega)
                    have hk17 : j + 1 ≤ 16 := by
                      have key : ∀ i, i < j + 1 → (i : Int) ≤ fn l i := by
                        intro i
                        induction i with
                        | zero => intro h; exact (UP2.out 0 h).1.1
                        | succ i ih =>
                          intro h
                          have h1 := ih (by omega)
                          have h2 := (UP2.out (i + 1) h).1.2.2 (by omega)
                          rw [Nat.add_sub_cancel] at h2
                          omega
                      have h1 := key j (by omega)
                      have h2 := HI.out.2.1
                      omega
                    have hjb : m.testBit r.b.toNat = false := by cases e : m.testBit r.b.toNat; rfl; exact absurd e hj2
                    have hb2 := HB1.out
                    rw [hjb] at hb2
                    simp only [Bool.false_eq_true, if_false] at hb2
                    subst hb2
                    have hw1 : IntKind.i64.wrap (c + r.cost) = c + r.cost := wraps_i64_62 _ (by omega) (by omega)
                    have EC := hid EB.out.drew
                    clear hj2 hHeld hjb
                    go_wp2
                    refine wp_region_held_drew (S := (fun w' => w'.cell? ⟨gr, 0, none⟩ = some (.int .i64 r.a) ∧ w'.cell? ⟨gr, 1, none⟩ = some (.int .i64 r.b))) (by kernel_rfl) ?hSb0 (fun hHeld => ?_)
                    case hSb0 => (first | (exact ⟨y0, y1⟩) | ((try dsimp only); exact ⟨y0, y1⟩))
                    refine wpAnyH_tk 0 (v := ?vb0) rfl (by kernel_rfl) (by kernel_rfl) (by kernel_rfl) (fun _ _ _ h => h) (by rfl) ?hyb0 (by assumption) ?_
                    case hyb0 => (intro w hSw; (try dsimp only at hSw); go_simp <;> with_reducible rfl)
                    (try simp only [Act.put, List.setIfInBounds_toArray, List.set_cons_zero, List.set_cons_succ])
                    refine wpAnyH_tk 1 (v := ?vb1) rfl (by kernel_rfl) (by kernel_rfl) (by kernel_rfl) (fun _ _ _ h => h) (by rfl) ?hyb1 (by assumption) ?_
                    case hyb1 => (intro w hSw; (try dsimp only at hSw); go_simp <;> with_reducible rfl)
                    (try simp only [Act.put, List.setIfInBounds_toArray, List.set_cons_zero, List.set_cons_succ])
                    refine wpAnyH_tk 2 (v := ?vb2) rfl (by kernel_rfl) (by kernel_rfl) (by kernel_rfl) (fun _ _ _ h => h) (by rfl) ?hyb2 (by assumption) ?_
                    case hyb2 => (intro w hSw; (try dsimp only at hSw); go_simp <;> with_reducible rfl)
                    (try simp only [Act.put, List.setIfInBounds_toArray, List.set_cons_zero, List.set_cons_succ])
                    refine wpAnyH_tk 3 (v := ?vb3) rfl (by kernel_rfl) (by kernel_rfl) (by kernel_rfl) (fun _ _ _ h => h) (by rfl) ?hyb3 (by assumption) ?_
                    case hyb3 => (intro w hSw; (try dsimp only at hSw); go_simp <;> with_reducible rfl)
                    (try simp only [Act.put, List.setIfInBounds_toArray, List.set_cons_zero, List.set_cons_succ])
                    refine wpAnyH_tk 4 (v := ?vb4) rfl (by kernel_rfl) (by kernel_rfl) (by kernel_rfl) (fun _ _ _ h => h) (by rfl) ?hyb4 (by assumption) ?_
                    case hyb4 => (intro w hSw; (try dsimp only at hSw); go_simp <;> with_reducible rfl)
                    (try simp only [Act.put, List.setIfInBounds_toArray, List.set_cons_zero, List.set_cons_succ])
                    refine wpAnyH_tk 5 (v := ?vb5) rfl (by kernel_rfl) (by kernel_rfl) (by kernel_rfl) (fun _ _ _ h => h) (by rfl) ?hyb5 (by assumption) ?_
                    case hyb5 => (intro w hSw; (try dsimp only at hSw); go_simp <;> with_reducible rfl)
                    (try simp only [Act.put, List.setIfInBounds_toArray, List.set_cons_zero, List.set_cons_succ])
                    refine wpAnyH_tk 6 (v := ?vb6) rfl (by kernel_rfl) (by kernel_rfl) (by kernel_rfl) (fun _ _ _ h => h) (by rfl) ?hyb6 (by assumption) ?_
                    case hyb6 => (intro w hSw; (try dsimp only at hSw); go_simp <;> with_reducible rfl)
                    (try simp only [Act.put, List.setIfInBounds_toArray, List.set_cons_zero, List.set_cons_succ])
                    refine wpAnyH_tk 7 (v := ?vb7) rfl (by kernel_rfl) (by kernel_rfl) (by kernel_rfl) (fun _ _ _ h => h) (by rfl) ?hyb7 (by assumption) ?_
                    case hyb7 => (intro w hSw; (try dsimp only at hSw); go_simp <;> with_reducible rfl)
                    (try simp only [Act.put, List.setIfInBounds_toArray, List.set_cons_zero, List.set_cons_succ])
                    refine wpAnyH_tk 8 (v := ?vb8) rfl (by kernel_rfl) (by kernel_rfl) (by kernel_rfl) (fun _ _ _ h => h) (by rfl) ?hyb8 (by assumption) ?_
                    case hyb8 => (intro w hSw; (try dsimp only at hSw); go_simp <;> with_reducible rfl)
                    (try simp only [Act.put, List.setIfInBounds_toArray, List.set_cons_zero, List.set_cons_succ])
                    refine wpAnyH_tk 9 (v := ?vb9) rfl (by kernel_rfl) (by kernel_rfl) (by kernel_rfl) (fun _ _ _ h => h) (by rfl) ?hyb9 (by assumption) ?_
                    case hyb9 => (intro w hSw; (try dsimp only at hSw); go_simp <;> with_reducible rfl)
                    (try simp only [Act.put, List.setIfInBounds_toArray, List.set_cons_zero, List.set_cons_succ])
                    refine wpAnyH_done (by kernel_rfl) ?_ _
                    clear hHeld
                    go_wp2
                    go_roundg (gk - 1)
                    case rel => exact ⟨j + 1, c + r.cost, t ||| bo, by have := Hj.out; omega, hk17, by go_num, by go_num, rfl, by omega, by omega, ht2, CS2, TN2, UP2, EC⟩
                    case measure => have := Hj.out; omega
              · have ek : j = 0 := by omega
                have hk0 : ¬ ((j : Int) > 0) := by omega
                have HI : Hid (0 ≤ fn l j ∧ fn l j < rs.length ∧ (0 < j → fn l (j - 1) < fn l j)) := by
                  show _ ∧ _
                  rw [← HXX.out]
                  exact ⟨by omega, by omega, fun h => by omega⟩
                clear ek
                obtain ⟨bb, off, rfl, -, hcc⟩ := Roads.get HV.out q hql
                obtain ⟨r0, r1, r2⟩ := hcc _ (HE1.out.trans E.out)
                have Htk : Hid (edges rs (l.take (j + 1)) = edges rs (l.take j) ++ [roadAt rs q]) := by
                  show _ = _
                  rw [List.take_succ_eq_append_getElem hlt]
                  unfold edges
                  rw [List.map_append, ← fn_get hlt, ← HXX.out]
                  rfl
                have HQ : Hid (roadAt rs (fn l j).toNat = roadAt rs q) := by show _ = _; rw [← HXX.out]; rfl
                obtain ⟨q1, q2, q3, q4, -, q6, q7⟩ := roadOk_iff.1 (HAll.out _ (roadAt_mem hql))
                obtain ⟨r, hr⟩ : ∃ r, r = roadAt rs q := ⟨_, rfl⟩
                rw [← hr] at r0 r1 r2 Htk HQ q1 q2 q3 q4 q6 q7
                have hla : r.a.toNat < 8 := by omega
                have hlb : r.b.toNat < 8 := by omega
                have hlN : r.a.toNat < N := by omega
                have hlN2 : r.b.toNat < N := by omega
                have hb9 : r.b < 64 := by omega
                have ha9 : r.a < 64 := by omega
                have HIX : Hid (∀ i ∈ l.take j, 0 ≤ i ∧ i < rs.length) := fun i hi => by
                  obtain ⟨m, hm, rfl⟩ := List.getElem_of_mem hi
                  rw [List.length_take] at hm
                  have := (UP.out m (by omega)).1
                  rw [fn_get (by omega)] at this
                  rw [List.getElem_take]
                  exact ⟨this.1, this.2.1⟩
                have HEd : Hid (∀ r ∈ edges rs (l.take j), r.a.toNat < N ∧ r.b.toNat < N) := edges_in HAll.out HIX.out
                have hmlt := meetN_lt (E := edges rs (l.take j)) (fun r hr => by have := HEd.out r hr; omega) hla N
                have HJB := hid (joined_bit HEd.out hN8 hlN r.b.toNat)
                obtain ⟨m, hm⟩ : ∃ m, m = meetN (edges rs (l.take j)) (2 ^ r.a.toNat) N := ⟨_, rfl⟩
                rw [← hm] at hmlt HJB
                obtain ⟨u0, u1⟩ := div_in m r.b.toNat (by omega) (by omega)
                have ub := bits_one _ u0 (by omega)
                rw [bit_zero] at ub
                obtain ⟨b1, hb1⟩ : ∃ b1 : Int, b1 = (if m.testBit r.b.toNat then 1 else 0) := ⟨_, rfl⟩
                rw [← hb1] at ub
                have HB1 := hid hb1
                clear hb1
                have hbl := both_lt hla hlb
                have pa : 2 ^ r.a.toNat < 2 ^ 62 := Nat.pow_lt_pow_right (by decide) (by omega)
                have pb : 2 ^ r.b.toNat < 2 ^ 62 := Nat.pow_lt_pow_right (by decide) (by omega)
                obtain ⟨xa, hxa⟩ : ∃ x, x = 2 ^ r.a.toNat := ⟨_, rfl⟩
                obtain ⟨xb, hxb⟩ : ∃ x, x = 2 ^ r.b.toNat := ⟨_, rfl⟩
                have ea : ((2 : Int) ^ r.a.toNat) = (xa : Int) := by rw [hxa]; simp
                have eb : ((2 : Int) ^ r.b.toNat) = (xb : Int) := by rw [hxb]; simp
                have wa : IntKind.i64.wrap (2 ^ r.a.toNat) = (xa : Int) := by rw [ea]; exact wraps_i64_62 _ (by omega) (by omega)
                have wb : IntKind.i64.wrap (2 ^ r.b.toNat) = (xb : Int) := by rw [eb]; exact wraps_i64_62 _ (by omega) (by omega)
                have wo : bits .or .i64 xa xb = (bothN r : Int) := by rw [bits_or_nat xa xb (by omega) (by omega), hxa, hxb]; rfl
                have wm : bits .or .i64 t (bothN r) = ((t ||| bothN r : Nat) : Int) := bits_or_nat t (bothN r) (by omega) (by omega)
                have ht2 : t ||| bothN r < 256 := Nat.or_lt_two_pow (n := 8) ht hbl
                have CS2 : Hid (c + r.cost = costL rs (l.take (j + 1))) := by
                  show _ = _
                  unfold costL
                  rw [Htk.out, List.foldl_append, CS.out]; rfl
                have TN2 : Hid (t ||| bothN r = touchN 0 (edges rs (l.take (j + 1)))) := by
                  show _ = _
                  unfold touchN
                  rw [Htk.out, List.foldl_append, TN.out]; rfl
                have HRV := hid (HV.out.ext (HE1.out.trans (E.out.trans (Ext.ofAlloc wr (.cells #[.int .i64 r.a, .int .i64 r.b, .int .i64 r.cost] 51)).drew)))
                have HLV := hid ((HL.out.take (k := j) hjl).ext (HE1.out.trans (E.out.trans (Ext.ofAlloc wr (.cells #[.int .i64 r.a, .int .i64 r.b, .int .i64 r.cost] 51)).drew)))
                obtain ⟨z0, z1, z2⟩ := (Box3.alloc wr 51 (.int .i64 r.a) (.int .i64 r.b) (.int .i64 r.cost)).cells
                have c0' := (Ext.ofAlloc wr (.cells #[.int .i64 r.a, .int .i64 r.b, .int .i64 r.cost] 51)).cell c0
                have c1' := (Ext.ofAlloc wr (.cells #[.int .i64 r.a, .int .i64 r.b, .int .i64 r.cost] 51)).cell c1
                have EA := hid (E.out.trans (Ext.ofAlloc wr (.cells #[.int .i64 r.a, .int .i64 r.b, .int .i64 r.cost] 51)).drew)
                obtain ⟨bo, hbo⟩ : ∃ x, x = bothN r := ⟨_, rfl⟩
                rw [← hbo] at wo wm ht2 TN2
                obtain ⟨gr, hgr⟩ : ∃ g, g = wr.heap.size := ⟨_, rfl⟩
                have HM := hid hm
                have hji : (j : Int) ≤ l.length := by omega
                have hjc : j ≤ cl := by omega
                clear hbo hr hcc pa pb hxa hxb ea eb hbl u0 u1 hm
                go_wp2
                rw [← hgr] at z0 z1 z2 ⊢
                generalize wr.alloc (.cells #[.int .i64 r.a, .int .i64 r.b, .int .i64 r.cost] 51) = V at *
                clear hgr c0 c1 dk r0 r1 r2
                refine wp_region_held_drew (S := (fun w' => w'.cell? ⟨w.heap.size, 0, none⟩ = some (.int .i64 N) ∧ w'.cell? ⟨w.heap.size, 1, none⟩ = some (.slice (some ⟨bb, off, none⟩) rs.length cap) ∧ w'.cell? ⟨gr, 0, none⟩ = some (.int .i64 r.a) ∧ w'.cell? ⟨gr, 1, none⟩ = some (.int .i64 r.b) ∧ w'.cell? ⟨gr, 2, none⟩ = some (.int .i64 r.cost))) (by kernel_rfl) ?hSc0 (fun hHeld => ?_)
                case hSc0 => (first | (exact ⟨c0', c1', z0, z1, z2⟩) | ((try dsimp only); exact ⟨c0', c1', z0, z1, z2⟩))
                refine wpAnyH_tk 0 (v := ?vc0) rfl (by kernel_rfl) (by kernel_rfl) (by kernel_rfl) (fun _ _ _ h => h) (by rfl) ?hyc0 (by assumption) ?_
                case hyc0 => (intro w hSw; (try dsimp only at hSw); go_simp <;> with_reducible rfl)
                (try simp only [Act.put, List.setIfInBounds_toArray, List.set_cons_zero, List.set_cons_succ])
                refine wpAnyH_tk 1 (v := ?vc1) rfl (by kernel_rfl) (by kernel_rfl) (by kernel_rfl) (fun _ _ _ h => h) (by rfl) ?hyc1 (by assumption) ?_
                case hyc1 => (intro w hSw; (try dsimp only at hSw); go_simp <;> with_reducible rfl)
                (try simp only [Act.put, List.setIfInBounds_toArray, List.set_cons_zero, List.set_cons_succ])
                refine wpAnyH_tk 2 (v := ?vc2) rfl (by kernel_rfl) (by kernel_rfl) (by kernel_rfl) (fun _ _ _ h => h) (by rfl) ?hyc2 (by assumption) ?_
                case hyc2 => (intro w hSw; (try dsimp only at hSw); go_simp <;> with_reducible rfl)
                (try simp only [Act.put, List.setIfInBounds_toArray, List.set_cons_zero, List.set_cons_succ])
                refine wpAnyH_tk 3 (v := ?vc3) rfl (by kernel_rfl) (by kernel_rfl) (by kernel_rfl) (fun _ _ _ h => h) (by rfl) ?hyc3 (by assumption) ?_
                case hyc3 => (intro w hSw; (try dsimp only at hSw); go_simp <;> with_reducible rfl)
                (try simp only [Act.put, List.setIfInBounds_toArray, List.set_cons_zero, List.set_cons_succ])
                refine wpAnyH_tk 4 (v := ?vc4) rfl (by kernel_rfl) (by kernel_rfl) (by kernel_rfl) (fun _ _ _ h => h) (by rfl) ?hyc4 (by assumption) ?_
                case hyc4 => (intro w hSw; (try dsimp only at hSw); go_simp <;> with_reducible rfl)
                (try simp only [Act.put, List.setIfInBounds_toArray, List.set_cons_zero, List.set_cons_succ])
                refine wpAnyH_tk 5 (v := ?vc5) rfl (by kernel_rfl) (by kernel_rfl) (by kernel_rfl) (fun _ _ _ h => h) (by rfl) ?hyc5 (by assumption) ?_
                case hyc5 => (intro w hSw; (try dsimp only at hSw); go_simp <;> with_reducible rfl)
                (try simp only [Act.put, List.setIfInBounds_toArray, List.set_cons_zero, List.set_cons_succ])
                refine wpAnyH_tk 7 (v := ?vc7) rfl (by kernel_rfl) (by kernel_rfl) (by kernel_rfl) (fun _ _ _ h => h) (by rfl) ?hyc7 (by assumption) ?_
                case hyc7 => (intro w hSw; (try dsimp only at hSw); go_simp <;> with_reducible rfl)
                (try simp only [Act.put, List.setIfInBounds_toArray, List.set_cons_zero, List.set_cons_succ])
                refine wpAnyH_tk 8 (v := ?vc8) rfl (by kernel_rfl) (by kernel_rfl) (by kernel_rfl) (fun _ _ _ h => h) (by rfl) ?hyc8 (by assumption) ?_
                case hyc8 => (intro w hSw; (try dsimp only at hSw); go_simp <;> with_reducible rfl)
                (try simp only [Act.put, List.setIfInBounds_toArray, List.set_cons_zero, List.set_cons_succ])
                refine wpAnyH_one 6 rfl (by kernel_rfl) (by rfl) (fun K hK => ?_)
                go_simp
                (obtain ⟨ra, hra⟩ : ∃ n : Nat, r.a = n := Int.eq_ofNat_of_zero_le q1; go_at_call 34; simp only [hra]; refine (joined_any _ _ N rs (l.take j) ra _ HRV.out HLV.out HIX.out HAll.out hN8 (by omega) (edges rs (l.take j)) rfl).mono ?_; rintro e wB ⟨rfl, heB⟩; rw [show 2 ^ ra = 2 ^ r.a.toNat by rw [hra]; rfl, ← HM.out]; have d0 := heB.cell c0'; have d1 := heB.cell c1'; have y0 := heB.cell z0; have y1 := heB.cell z1; have y2 := heB.cell z2; have EB := hid (EA.out.trans heB); clear heB c0' c1' z0 z1 z2 hra)
                refine hK.out _ _ ?hSc7 (fun hHeld => ?_)
                case hSc7 => (first | (exact ⟨d0, d1, y0, y1, y2⟩) | ((try dsimp only); exact ⟨d0, d1, y0, y1, y2⟩))
                clear hK K
                (try simp only [Act.put, List.setIfInBounds_toArray, List.set_cons_zero, List.set_cons_succ])
                refine wpAnyH_tk 9 (v := ?vc9) rfl (by kernel_rfl) (by kernel_rfl) (by kernel_rfl) (fun _ _ _ h => h) (by rfl) ?hyc9 (by assumption) ?_
                case hyc9 => (intro w hSw; (try dsimp only at hSw); go_simp <;> with_reducible rfl)
                (try simp only [Act.put, List.setIfInBounds_toArray, List.set_cons_zero, List.set_cons_succ])
                refine wpAnyH_tk 10 (v := ?vc10) rfl (by kernel_rfl) (by kernel_rfl) (by kernel_rfl) (fun _ _ _ h => h) (by rfl) ?hyc10 (by assumption) ?_
                case hyc10 => (intro w hSw; (try dsimp only at hSw); go_simp <;> with_reducible rfl)
                (try simp only [Act.put, List.setIfInBounds_toArray, List.set_cons_zero, List.set_cons_succ])
                refine wpAnyH_tk 11 (v := ?vc11) rfl (by kernel_rfl) (by kernel_rfl) (by kernel_rfl) (fun _ _ _ h => h) (by rfl) ?hyc11 (by assumption) ?_
                case hyc11 => (intro w hSw; (try dsimp only at hSw); go_simp <;> with_reducible rfl)
                (try simp only [Act.put, List.setIfInBounds_toArray, List.set_cons_zero, List.set_cons_succ])
                refine wpAnyH_done (by kernel_rfl) ?_ _
                by_cases hj2 : m.testBit r.b.toNat = true
                · have HR := hid (FAIL.out (fun g => g.2 (by rw [HQ.out]; exact HJB.out.1 hj2)))
                  have hb2 := HB1.out
                  rw [hj2] at hb2
                  simp only [if_true] at hb2
                  subst hb2
                  clear hj2 hHeld
                  go_wp2
                  go_ret2
                  exact ⟨.inr ⟨HR.out, rfl⟩, HE1.out.trans EB.out⟩
                · have UP2 : Hid (Upto rs l (j + 1)) := fun i hi => by
                    by_cases e : i = j
                    · subst e
                      exact ⟨HI.out, by rw [HQ.out]; exact fun g => hj2 (HJB.out.2 g)⟩
                    · exact UP.out i (by omega)
                  have hk17 : j + 1 ≤ 16 := by
                    have key : ∀ i, i < j + 1 → (i : Int) ≤ fn l i := by
                      intro i
                      induction i with
                      | zero => intro h; exact (UP2.out 0 h).1.1
                      | succ i ih =>
                        intro h
                        have h1 := ih (by omega)
                        have h2 := (UP2.out (i + 1) h).1.2.2 (by omega)
                        rw [Nat.add_sub_cancel] at h2
                        omega
                    have h1 := key j (by omega)
                    have h2 := HI.out.2.1
                    omega
                  have hjb : m.testBit r.b.toNat = false := by cases e : m.testBit r.b.toNat; rfl; exact absurd e hj2
                  have hb2 := HB1.out
                  rw [hjb] at hb2
                  simp only [Bool.false_eq_true, if_false] at hb2
                  subst hb2
                  have hw1 : IntKind.i64.wrap (c + r.cost) = c + r.cost := wraps_i64_62 _ (by omega) (by omega)
                  have EC := hid EB.out.drew
                  clear hj2 hHeld hjb
                  go_wp2
                  refine wp_region_held_drew (S := (fun w' => w'.cell? ⟨gr, 0, none⟩ = some (.int .i64 r.a) ∧ w'.cell? ⟨gr, 1, none⟩ = some (.int .i64 r.b))) (by kernel_rfl) ?hSd0 (fun hHeld => ?_)
                  case hSd0 => (first | (exact ⟨y0, y1⟩) | ((try dsimp only); exact ⟨y0, y1⟩))
                  refine wpAnyH_tk 0 (v := ?vd0) rfl (by kernel_rfl) (by kernel_rfl) (by kernel_rfl) (fun _ _ _ h => h) (by rfl) ?hyd0 (by assumption) ?_
                  case hyd0 => (intro w hSw; (try dsimp only at hSw); go_simp <;> with_reducible rfl)
                  (try simp only [Act.put, List.setIfInBounds_toArray, List.set_cons_zero, List.set_cons_succ])
                  refine wpAnyH_tk 1 (v := ?vd1) rfl (by kernel_rfl) (by kernel_rfl) (by kernel_rfl) (fun _ _ _ h => h) (by rfl) ?hyd1 (by assumption) ?_
                  case hyd1 => (intro w hSw; (try dsimp only at hSw); go_simp <;> with_reducible rfl)
                  (try simp only [Act.put, List.setIfInBounds_toArray, List.set_cons_zero, List.set_cons_succ])
                  refine wpAnyH_tk 2 (v := ?vd2) rfl (by kernel_rfl) (by kernel_rfl) (by kernel_rfl) (fun _ _ _ h => h) (by rfl) ?hyd2 (by assumption) ?_
                  case hyd2 => (intro w hSw; (try dsimp only at hSw); go_simp <;> with_reducible rfl)
                  (try simp only [Act.put, List.setIfInBounds_toArray, List.set_cons_zero, List.set_cons_succ])
                  refine wpAnyH_tk 3 (v := ?vd3) rfl (by kernel_rfl) (by kernel_rfl) (by kernel_rfl) (fun _ _ _ h => h) (by rfl) ?hyd3 (by assumption) ?_
                  case hyd3 => (intro w hSw; (try dsimp only at hSw); go_simp <;> with_reducible rfl)
                  (try simp only [Act.put, List.setIfInBounds_toArray, List.set_cons_zero, List.set_cons_succ])
                  refine wpAnyH_tk 4 (v := ?vd4) rfl (by kernel_rfl) (by kernel_rfl) (by kernel_rfl) (fun _ _ _ h => h) (by rfl) ?hyd4 (by assumption) ?_
                  case hyd4 => (intro w hSw; (try dsimp only at hSw); go_simp <;> with_reducible rfl)
                  (try simp only [Act.put, List.setIfInBounds_toArray, List.set_cons_zero, List.set_cons_succ])
                  refine wpAnyH_tk 5 (v := ?vd5) rfl (by kernel_rfl) (by kernel_rfl) (by kernel_rfl) (fun _ _ _ h => h) (by rfl) ?hyd5 (by assumption) ?_
                  case hyd5 => (intro w hSw; (try dsimp only at hSw); go_simp <;> with_reducible rfl)
                  (try simp only [Act.put, List.setIfInBounds_toArray, List.set_cons_zero, List.set_cons_succ])
                  refine wpAnyH_tk 6 (v := ?vd6) rfl (by kernel_rfl) (by kernel_rfl) (by kernel_rfl) (fun _ _ _ h => h) (by rfl) ?hyd6 (by assumption) ?_
                  case hyd6 => (intro w hSw; (try dsimp only at hSw); go_simp <;> with_reducible rfl)
                  (try simp only [Act.put, List.setIfInBounds_toArray, List.set_cons_zero, List.set_cons_succ])
                  refine wpAnyH_tk 7 (v := ?vd7) rfl (by kernel_rfl) (by kernel_rfl) (by kernel_rfl) (fun _ _ _ h => h) (by rfl) ?hyd7 (by assumption) ?_
                  case hyd7 => (intro w hSw; (try dsimp only at hSw); go_simp <;> with_reducible rfl)
                  (try simp only [Act.put, List.setIfInBounds_toArray, List.set_cons_zero, List.set_cons_succ])
                  refine wpAnyH_tk 8 (v := ?vd8) rfl (by kernel_rfl) (by kernel_rfl) (by kernel_rfl) (fun _ _ _ h => h) (by rfl) ?hyd8 (by assumption) ?_
                  case hyd8 => (intro w hSw; (try dsimp only at hSw); go_simp <;> with_reducible rfl)
                  (try simp only [Act.put, List.setIfInBounds_toArray, List.set_cons_zero, List.set_cons_succ])
                  refine wpAnyH_tk 9 (v := ?vd9) rfl (by kernel_rfl) (by kernel_rfl) (by kernel_rfl) (fun _ _ _ h => h) (by rfl) ?hyd9 (by assumption) ?_
                  case hyd9 => (intro w hSw; (try dsimp only at hSw); go_simp <;> with_reducible rfl)
                  (try simp only [Act.put, List.setIfInBounds_toArray, List.set_cons_zero, List.set_cons_succ])
                  refine wpAnyH_done (by kernel_rfl) ?_ _
                  clear hHeld
                  go_wp2
                  go_roundg (gk - 1)
                  case rel => exact ⟨j + 1, c + r.cost, t ||| bo, by have := Hj.out; omega, hk17, by go_num, by go_num, rfl, by omega, by omega, ht2, CS2, TN2, UP2, EC⟩
                  case measure => have := Hj.out; omega
        · have ek : l.take j = l := List.take_of_length_le (by omega)
          rw [ek] at CS TN
          have UP2 : Hid (∀ i, i < l.length → okAt rs l i) := fun i hi => UP.out i (by omega)
          have HIX : Hid (∀ i ∈ l, 0 ≤ i ∧ i < rs.length) := fun i hi => by
            obtain ⟨m, hm, rfl⟩ := List.getElem_of_mem hi
            have := (UP2.out m hm).1
            rw [fn_get hm] at this
            exact ⟨this.1, this.2.1⟩
          have HEd : Hid (∀ r ∈ edges rs l, r.a.toNat < N ∧ r.b.toNat < N) := edges_in HAll.out HIX.out
          have hmlt := meetN_lt (E := edges rs l) (fun r hr => by have := HEd.out r hr; omega) hz8 N
          have HF := hid (ref_ok HEd.out hN8 HN.out HZ1.out)
          obtain ⟨c0, c1⟩ := (HX.out.ext E.out).cells
          clear ek
          go_wp2_with (fail)
          refine (joined_any _ _ N rs l k _ (HV.out.ext (HE1.out.trans E.out)) (HL.out.ext (HE1.out.trans E.out)) HIX.out HAll.out hN8 HN.out (edges rs l) rfl).mono ?_
          rintro e w2 ⟨rfl, he⟩
          have HW := hid (HE1.out.trans (E.out.trans he))
          clear he c0 c1
          obtain ⟨m, hm⟩ : ∃ m, m = meetN (edges rs l) (2 ^ k) N := ⟨_, rfl⟩
          rw [← hm] at hmlt HF ⊢
          clear hm
          rw [← TN.out] at HF
          have a1 := bits_andn s m (by omega) (by omega)
          have a2 := bits_andn t m (by omega) (by omega)
          obtain ⟨p1, hp1⟩ : ∃ x, x = andn s m := ⟨_, rfl⟩
          obtain ⟨p2, hp2⟩ : ∃ x, x = andn t m := ⟨_, rfl⟩
          rw [← hp1] at a1 HF
          rw [← hp2] at a2 HF
          clear hp1 hp2
          by_cases e1 : p1 = 0
          · subst e1
            by_cases e2 : p2 = 0
            · subst e2
              have HR : Hid (treeP rs s l) := ⟨UP2.out, HF.out.1 ⟨rfl, rfl⟩⟩
              go_wp2
              go_ret2
              exact ⟨.inl ⟨HR.out, by rw [← CS.out]; rfl⟩, HW.out⟩
            · have e2b : ((p2 : Int) != 0) = true := by rw [bne_iff_ne]; omega
              have HR : Hid (¬ treeP rs s l) := fun g => e2 (HF.out.2 g.2).2
              clear e2
              go_wp2
              go_ret2
              exact ⟨.inr ⟨HR.out, rfl⟩, HW.out⟩
          · have e1b : ((p1 : Int) != 0) = true := by rw [bne_iff_ne]; omega
            have HR : Hid (¬ treeP rs s l) := fun g => e1 (HF.out.2 g.2).1
            clear e1
            go_wp2
            go_ret2
            exact ⟨.inr ⟨HR.out, rfl⟩, HW.out⟩

end Go.Proofs.YtkbkgkmogbkabaaDoor
