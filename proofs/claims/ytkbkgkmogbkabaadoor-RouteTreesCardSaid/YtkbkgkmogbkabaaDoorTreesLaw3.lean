/-
  RouteTrees: Tree returns the first of the trees with the least cost, and of these the fewest roads, and Spanning that for all stops, or the documented error. Conditions: those of the card.
-/
import Derived.Shelf.Sort.Plain
import Derived.Shelf.Slices.In.SortNone
import Derived.Sort.OwnSortedInts
import Derived.Test.YtkbkgkmogbkabaaDoorK4
import Derived.Test.YtkbkgkmogbkabaaDoorK12
import Derived.Test.YtkbkgkmogbkabaaDoorK11
import Derived.Test.YtkbkgkmogbkabaaDoorK9
import Derived.Test.YtkbkgkmogbkabaaDoorK14
import Derived.Test.YtkbkgkmogbkabaaDoorK5
import Derived.Test.YtkbkgkmogbkabaaDoorCards
import Derived.Test.YtkbkgkmogbkabaaDoorTie
import Derived.Test.YtkbkgkmogbkabaaDoorTreesLaw2
/-
  The shelf contract of slices.Sort at this program (its second seat), as the plain mode of the shelf writes it; what it says of a row of the call of its own.
-/
namespace Go.Proofs
open Go.Shelf
def Tryd.lays189_ren : Go.Shelf.Ren := ⟨fun | 189 => 49 | 125 => 62 | 257 => 61 | 128 => 79 | 129 => 80 | 294 => 70 | 295 => 71 | 296 => 72 | 297 => 73 | 298 => 74 | 299 => 75 | 216 => 76 | 300 => 77 | 301 => 78 | 328 => 84 | 329 => 85 | 330 => 86 | 331 => 87 | 332 => 88 | 215 => 89 | 343 => 91 | n => n, fun | 28 => 25 | 3 => 3 | 46 => 63 | 0 => 0 | 51 => 96 | 53 => 98 | 4 => 4 | 183 => 105 | 182 => 104 | 131 => 37 | 5 => 5 | 9 => 9 | 218 => 116 | 222 => 120 | 228 => 122 | 229 => 123 | n => n, fun | n => n⟩
theorem Tryd.lays189 : Go.Proofs.Lays.n189 Tryd.prog Tryd.lays189_ren := {
  mixed := by kernel_rfl
  f125 := Tryd.func62.trans (congrArg some (by kernel_rfl))
  f128 := Tryd.func79.trans (congrArg some (by kernel_rfl))
  f129 := Tryd.func80.trans (congrArg some (by kernel_rfl))
  f189 := Tryd.func49.trans (congrArg some (by kernel_rfl))
  f215 := Tryd.func89.trans (congrArg some (by kernel_rfl))
  f216 := Tryd.func76.trans (congrArg some (by kernel_rfl))
  f257 := Tryd.func61.trans (congrArg some (by kernel_rfl))
  f294 := Tryd.func70.trans (congrArg some (by kernel_rfl))
  f295 := Tryd.func71.trans (congrArg some (by kernel_rfl))
  f296 := Tryd.func72.trans (congrArg some (by kernel_rfl))
  f297 := Tryd.func73.trans (congrArg some (by kernel_rfl))
  f298 := Tryd.func74.trans (congrArg some (by kernel_rfl))
  f299 := Tryd.func75.trans (congrArg some (by kernel_rfl))
  f300 := Tryd.func77.trans (congrArg some (by kernel_rfl))
  f301 := Tryd.func78.trans (congrArg some (by kernel_rfl))
  f328 := Tryd.func84.trans (congrArg some (by kernel_rfl))
  f329 := Tryd.func85.trans (congrArg some (by kernel_rfl))
  f330 := Tryd.func86.trans (congrArg some (by kernel_rfl))
  f331 := Tryd.func87.trans (congrArg some (by kernel_rfl))
  f332 := Tryd.func88.trans (congrArg some (by kernel_rfl))
  f343 := Tryd.func91.trans (congrArg some (by kernel_rfl))
  t0 := Tryd.underlying0
  a0 := Tryd.isAgg0
  z0 := Tryd.sizeOf0
  v0 := Tryd.zeroValue0
  t3 := Tryd.underlying3
  a3 := Tryd.isAgg3
  z3 := Tryd.sizeOf3
  v3 := Tryd.zeroValue3
  t4 := Tryd.underlying4
  a4 := Tryd.isAgg4
  z4 := Tryd.sizeOf4
  v4 := Tryd.zeroValue4
  t5 := Tryd.underlying5
  a5 := Tryd.isAgg5
  z5 := Tryd.sizeOf5
  v5 := Tryd.zeroValue5
  t9 := Tryd.underlying9
  a9 := Tryd.isAgg9
  z9 := Tryd.sizeOf9
  v9 := Tryd.zeroValue9
  t28 := Tryd.underlying25
  a28 := Tryd.isAgg25
  z28 := Tryd.sizeOf25
  v28 := Tryd.zeroValue25
  t46 := Tryd.underlying63
  a46 := Tryd.isAgg63
  z46 := Tryd.sizeOf63
  v46 := Tryd.zeroValue63
  t51 := Tryd.underlying96
  a51 := Tryd.isAgg96
  z51 := Tryd.sizeOf96
  v51 := Tryd.zeroValue96
  t53 := Tryd.underlying98
  a53 := Tryd.isAgg98
  z53 := Tryd.sizeOf98
  v53 := Tryd.zeroValue98
  t131 := Tryd.underlying37
  a131 := Tryd.isAgg37
  z131 := Tryd.sizeOf37
  v131 := Tryd.zeroValue37
  t182 := Tryd.underlying104
  a182 := Tryd.isAgg104
  z182 := Tryd.sizeOf104
  v182 := Tryd.zeroValue104
  t183 := Tryd.underlying105
  a183 := Tryd.isAgg105
  z183 := Tryd.sizeOf105
  v183 := Tryd.zeroValue105
  t218 := Tryd.underlying116
  a218 := Tryd.isAgg116
  z218 := Tryd.sizeOf116
  v218 := Tryd.zeroValue116
  t222 := Tryd.underlying120
  a222 := Tryd.isAgg120
  z222 := Tryd.sizeOf120
  v222 := Tryd.zeroValue120
  t228 := Tryd.underlying122
  a228 := Tryd.isAgg122
  z228 := Tryd.sizeOf122
  v228 := Tryd.zeroValue122
  t229 := Tryd.underlying123
  a229 := Tryd.isAgg123
  z229 := Tryd.sizeOf123
  v229 := Tryd.zeroValue123 }
open Go.Sort Go.RowKit in
theorem Tryd.slices_Sort_int (blk off cap : Nat) (zs : List Int) (w : World) (hH : Holds (Value.int .i64) w blk off zs.toArray) (hblk : blk < w.heap.size) (hsz : zs.length < 4611686018427387904) :
    Calls Tryd.prog 49 #[.slice (some ⟨blk, off, none⟩) zs.length cap] w fun e w' =>
      e = .returned (.tuple #[]) ∧ ∃ n os, w' = grow (putRow (Value.int .i64) (Sort.ahead w n) blk off (zs.mergeSort fun x y => decide (x ≤ y)).toArray) os := Any.slices_Sort_int Tryd.lays189 blk off cap zs w hH hblk hsz
open Go.RowKit Go.Sort in
theorem Tryd.slices_Sort_int_none (p : Option Addr) (cap : Nat) (w : World) :
    Calls Tryd.prog 49 #[.slice p 0 cap] w fun e w' => e = .returned (.tuple #[]) ∧ w' = w := Any.slices_Sort_int_none Tryd.lays189 p cap w
end Go.Proofs
namespace Go.Proofs.YtkbkgkmogbkabaaDoor
open Go.RowKit Go.Sort

/-- A list sorted. -/
def sortL (xs : List Int) : List Int := xs.mergeSort fun x y => decide (x ≤ y)
theorem sortL_len (xs : List Int) : (sortL xs).length = xs.length := List.length_mergeSort xs
theorem sortL_mem {xs : List Int} {x : Int} : x ∈ sortL xs ↔ x ∈ xs := List.mem_mergeSort
theorem sortL_le (xs : List Int) : (sortL xs).Pairwise (· ≤ ·) := by
  have h := List.pairwise_mergeSort (le := fun x y : Int => decide (x ≤ y)) (fun a b c h1 h2 => by simp at *; omega) (fun a b => by simp; omega) xs
  exact h.imp (fun h => by simpa using h)
theorem sortL_lt {xs : List Int} (hn : xs.Nodup) : (sortL xs).Pairwise (· < ·) := by
  have h1 := sortL_le xs
  have h2 : (sortL xs).Nodup := (List.mergeSort_perm xs _).nodup_iff.2 hn
  have h3 : (sortL xs).Pairwise (fun a b => a ≤ b ∧ a ≠ b) := List.Pairwise.and h1 h2
  exact h3.imp (fun h => by omega)

theorem SortD_own (B : Nat) (v : Value) (xs : List Int) (w : World) (h : OwnI B w v xs) (hl : xs.length ≤ 17592186044416) :
    Calls Tryd.prog 49 #[v] w fun e w' => e = .returned (.tuple #[]) ∧ OwnI B w' v (sortL xs) ∧ w.grownBy w' v.ownBlock := by
  obtain ⟨hlen, h | ⟨g, cap, cur, rfl, hg, hh, hn, hm, hs, ht⟩⟩ := id h
  · obtain ⟨rfl, hn⟩ := h
    have hx : xs = [] := List.eq_nil_of_length_eq_zero hn
    subst hx
    refine (Tryd.slices_Sort_int_none none 0 w).mono ?_
    rintro e w' ⟨rfl, rfl⟩
    have e : sortL [] = [] := by unfold sortL; simp
    exact ⟨rfl, by rw [e]; exact World.ownsRow_nil _ _ _ _, ⟨rfl, rfl, rfl, Nat.le_refl _, fun _ _ _ => rfl⟩⟩
  · rw [Nat.mul_one] at ht
    refine (Tryd.slices_Sort_int g 0 cap xs w (holds_of_blockI hh ht) (lt_of_block hh) (by omega)).mono ?_
    rintro e w' ⟨rfl, n, os, rfl⟩
    refine ⟨rfl, ?_, grownBy_sortedI _⟩
    have h2 := ownsRow_sortedI (w := w) (base := B) (g := g) (cap := cap) (n := n) (e := 3) (os := os) (cur := cur) (ss := xs) (ts := sortL xs) (sortL_len xs) hg hh hn hm hs
    show World.ownsRow _ B 3 1 _ (sortL xs).length _
    rw [sortL_len]
    exact h2

end Go.Proofs.YtkbkgkmogbkabaaDoor

/-
  Contract of Spanning.
-/
namespace Go.Proofs.YtkbkgkmogbkabaaDoor
open Go.RowKit

theorem kl_nodup {rs : List RoadD} {f : Nat → Int} (ho : OutS rs rs.length rs.length f) : ∀ k, k ≤ rs.length → (kl rs f k).Nodup
  | 0, _ => List.nodup_nil
  | k + 1, hk => by
    by_cases h : Conn (edges rs (kl rs f k)) (roadAt rs (f k).toNat).a.toNat (roadAt rs (f k).toNat).b.toNat
    · rw [kl_no h]; exact kl_nodup ho k (by omega)
    · rw [kl_yes h, List.nodup_append]
      refine ⟨kl_nodup ho k (by omega), by simp, fun a ha b hb => ?_⟩
      simp at hb
      subst hb
      rintro rfl
      obtain ⟨m, hm, e⟩ := kl_mem k _ ha
      have := ho.inj (by omega) (by omega) e
      omega
theorem kl_len {rs : List RoadD} {f : Nat → Int} : ∀ k, (kl rs f k).length ≤ k
  | 0 => Nat.le_refl _
  | k + 1 => by
    have := kl_len (rs := rs) (f := f) k
    by_cases h : Conn (edges rs (kl rs f k)) (roadAt rs (f k).toNat).a.toNat (roadAt rs (f k).toNat).b.toNat
    · rw [kl_no h]; omega
    · rw [kl_yes h]; simp; omega
theorem kl_sorted {rs : List RoadD} {f : Nat → Int} (ho : OutS rs rs.length rs.length f) : sortL (kl rs f rs.length) = sel rs.length (inP (kl rs f rs.length)) := by
  refine pairwise_same _ _ (sortL_lt (kl_nodup ho _ (Nat.le_refl _))) (sel_lt _ _) (fun x => ?_)
  rw [sortL_mem, sel_mem]
  constructor
  · intro hx
    obtain ⟨h0, h1⟩ := kl_valid ho (Nat.le_refl _) x hx
    obtain ⟨m, rfl⟩ := Int.eq_ofNat_of_zero_le h0
    exact ⟨m, by omega, inP_iff.2 hx, rfl⟩
  · rintro ⟨i, -, h2, rfl⟩
    exact inP_iff.1 h2
theorem Only.grown {b : Nat} {w w' w2 : World} {u : Value} {xs : List Int} {o : Obj} (h : Only b w w') (hu : OwnI w.heap.size w' u xs) (hg : (w'.alloc o).grownBy w2 u.ownBlock) : Only b w w2 := by
  refine ⟨by rw [hg.os]; exact h.os, by rw [hg.tape]; exact h.tape, by rw [hg.output]; exact h.output, ?_, fun k hk hb => ?_⟩
  · have h1 := hg.size
    have h2 := h.size
    simp at h1
    omega
  · have h2 := h.size
    rw [hg.block k (by simp; omega) (fun e => by have := (hu.lt k e.symm).1; omega)]
    rw [Below.block (Below.alloc (Below.refl w'.heap.size w') (Nat.le_refl _) o) k (by omega)]
    exact h.block k hk hb
theorem rowL_succ (n : Nat) (f : Nat → Int) : rowL (n + 1) f = rowL n f ++ [f n] := by unfold rowL; rw [List.range_succ, List.map_append]; rfl

def allN (N : Nat) : Nat := 2 ^ N - 1
theorem allN_in {N : Nat} (h1 : 1 ≤ N) (h8 : N ≤ 8) : 0 < allN N ∧ allN N < 2 ^ N ∧ allN N < 256 := by
  have h2 : (2 : Nat) ^ 1 ≤ 2 ^ N := Nat.pow_le_pow_right (by decide) h1
  have h3 : (2 : Nat) ^ N ≤ 2 ^ 8 := Nat.pow_le_pow_right (by decide) h8
  have e : (2 : Nat) ^ 8 = 256 := by decide
  unfold allN
  omega
theorem cn_all {rs : List RoadD} {N : Nat} : Cn rs (allN N) ↔ ∀ x y, x < N → y < N → Conn rs x y := by
  unfold Cn allN
  constructor
  · intro h x y hx hy; exact h x y (all_bits.2 hx) (all_bits.2 hy)
  · intro h x y hx hy; exact h x y (all_bits.1 hx) (all_bits.1 hy)

set_option maxRecDepth 20000 in
set_option maxHeartbeats 4000000 in
theorem Spanning_bad (vr : Value) (m : MapD) (w : World) (hm : MapR w vr m) (hb : mapOk m = false) :
    Calls Tryd.prog 27 #[.agg #[.int .i64 m.n, vr]] w fun e w' => e = .returned (.tuple #[.slice none 0 0, .int .i64 2]) ∧ Ext w w' := by
  obtain ⟨ao, cap, rfl⟩ := hm.shape
  have HV := hid hm
  have HB := hid hb
  clear hm hb
  go_enter Tryd.func27, Tryd.ntmps27
  go_wp2_with (fail)
  refine (valid_any _ m _ (MapR.ext HV.out (Ext.ofAlloc _ _))).mono ?_
  rw [HB.out]
  rintro e w1 ⟨rfl, he⟩
  have HE := hid ((Ext.ofAlloc w _).trans he)
  clear he
  go_wp2
  go_ret2
  exact ⟨rfl, HE.out⟩

set_option maxRecDepth 20000 in
set_option maxHeartbeats 1600000 in
theorem Spanning_none (vr : Value) (N : Nat) (rs : List RoadD) (w : World) (hv : Roads w vr rs) (hok : mapOk ⟨N, rs⟩ = true) (hTZ : TZ w) (hn : ¬ Cn rs (allN N)) :
    Calls Tryd.prog 27 #[.agg #[.int .i64 N, vr]] w fun e w' => e = .returned (.tuple #[.slice none 0 0, .int .i64 4]) ∧ Ext w w' := by
  obtain ⟨ao, cap, rfl⟩ := hv.shape
  have HV := hid hv
  have HTZ := hid hTZ
  have HOk := hid hok
  have HCn := hid hn
  have hok2 := hok
  unfold mapOk at hok2
  rw [Bool.and_eq_true, decide_eq_true_iff, List.all_eq_true] at hok2
  obtain ⟨⟨h1, h8, h16⟩, hall⟩ := hok2
  dsimp only at h1 h8 h16 hall
  have hN1 : 1 ≤ N := by omega
  have hN8 : N ≤ 8 := by omega
  have HAll := hid hall
  obtain ⟨a0, aN, a256⟩ := allN_in hN1 hN8
  have HaN := hid aN
  obtain ⟨S, hS⟩ : ∃ S, S = allN N := ⟨_, rfl⟩
  have HSS := hid hS
  have hp : (2 : Int) ^ N = ((S + 1 : Nat) : Int) := by
    have e : ((2 : Int) ^ N) = ((2 ^ N : Nat) : Int) := by simp
    have e2 : 2 ^ N = S + 1 := by rw [hS]; unfold allN; have : 0 < 2 ^ N := Nat.pow_pos (by decide); omega
    rw [e, e2]
  rw [← hS] at a0 a256
  have hw1 : IntKind.i64.wrap (2 ^ N) = ((S + 1 : Nat) : Int) := by rw [hp]; exact wraps_i64_62 _ (by omega) (by omega)
  have hw2 : IntKind.i64.wrap (((S + 1 : Nat) : Int) - 1) = (S : Int) := by rw [show ((S + 1 : Nat) : Int) - 1 = (S : Int) by omega]; exact wraps_i64_62 _ (by omega) (by omega)
  have hw3 : IntKind.i64.wrap (S : Int) = (S : Int) := wraps_i64_62 _ (by omega) (by omega)
  have hw4 : IntKind.i64.wrap ((S : Int) + 1 - 1) = (S : Int) := by rw [show (S : Int) + 1 - 1 = (S : Int) by omega]; exact hw3
  have X0 := hid (Box2.alloc w 31 (.int .i64 N) (.slice ao rs.length cap))
  clear hv hok hTZ hn hall aN hS hp
  go_enter Tryd.func27, Tryd.ntmps27
  go_wp2_with (fail)
  refine (valid_any _ ⟨N, rs⟩ _ (Roads.ext HV.out (Ext.ofAlloc _ _))).mono ?_
  rw [HOk.out]
  rintro e w1 ⟨rfl, he⟩
  have HE := hid ((Ext.ofAlloc w _).trans he)
  obtain ⟨c0, c1⟩ := (X0.out.ext he).cells
  have HX := hid (X0.out.ext he)
  clear he
  go_wp2
  refine wp_region_held_drew (S := (fun w' => w'.cell? ⟨w.heap.size, 0, none⟩ = some (.int .i64 N) ∧ w'.cell? ⟨w.heap.size, 1, none⟩ = some (.slice ao rs.length cap))) (by kernel_rfl) ?hSa0 (fun hHeld => ?_)
  case hSa0 => (first | (exact ⟨c0, c1⟩) | ((try dsimp only); exact ⟨c0, c1⟩))
  refine wpAnyH_tk 0 (v := ?va0) rfl (by kernel_rfl) (by kernel_rfl) (by kernel_rfl) (fun _ _ _ h => h) (by rfl) ?hya0 (by assumption) ?_
  case hya0 => (intro w hSw; (try dsimp only at hSw); go_simp <;> with_reducible rfl)
  (try simp only [Act.put, List.setIfInBounds_toArray, List.set_cons_zero, List.set_cons_succ])
  refine wpAnyH_tk 1 (v := ?va1) rfl (by kernel_rfl) (by kernel_rfl) (by kernel_rfl) (fun _ _ _ h => h) (by rfl) ?hya1 (by assumption) ?_
  case hya1 => (intro w hSw; (try dsimp only at hSw); go_simp <;> with_reducible rfl)
  (try simp only [Act.put, List.setIfInBounds_toArray, List.set_cons_zero, List.set_cons_succ])
  refine wpAnyH_tk 2 (v := ?va2) rfl (by kernel_rfl) (by kernel_rfl) (by kernel_rfl) (fun _ _ _ h => h) (by rfl) ?hya2 (by assumption) ?_
  case hya2 => (intro w hSw; (try dsimp only at hSw); go_simp <;> with_reducible rfl)
  (try simp only [Act.put, List.setIfInBounds_toArray, List.set_cons_zero, List.set_cons_succ])
  refine wpAnyH_tk 3 (v := ?va3) rfl (by kernel_rfl) (by kernel_rfl) (by kernel_rfl) (fun _ _ _ h => h) (by rfl) ?hya3 (by assumption) ?_
  case hya3 => (intro w hSw; (try dsimp only at hSw); go_simp <;> with_reducible rfl)
  (try simp only [Act.put, List.setIfInBounds_toArray, List.set_cons_zero, List.set_cons_succ])
  refine wpAnyH_tk 4 (v := ?va4) rfl (by kernel_rfl) (by kernel_rfl) (by kernel_rfl) (fun _ _ _ h => h) (by rfl) ?hya4 (by assumption) ?_
  case hya4 => (intro w hSw; (try dsimp only at hSw); go_simp <;> with_reducible rfl)
  (try simp only [Act.put, List.setIfInBounds_toArray, List.set_cons_zero, List.set_cons_succ])
  refine wpAnyH_one 5 rfl (by kernel_rfl) (by rfl) (fun K hK => ?_)
  go_simp
  (refine (reachable_any _ N rs S _ (Roads.ext HV.out (HE.out.drew)) HAll.out (by omega) hN8 a0 (by rw [HSS.out]; exact HaN.out) (HTZ.out.ext (HE.out.drew))).mono ?_; rintro eR w2 ⟨haR, he2⟩; rw [HSS.out] at haR; have HE2 := hid (HE.out.drew.trans he2); have HX2 := hid (HX.out.ext ((Ext.refl w1).drew.trans he2)); clear he2; obtain rfl : eR = .returned (.bool false) := (by rcases haR with ⟨h, -⟩ | ⟨-, h⟩; exact absurd h HCn.out; exact h); clear haR)
  refine hK.out _ _ ?hSa6 (fun hHeld => ?_)
  case hSa6 => (first | (exact HX2.out.cells) | ((try dsimp only); exact HX2.out.cells))
  clear hK K
  (try simp only [Act.put, List.setIfInBounds_toArray, List.set_cons_zero, List.set_cons_succ])
  refine wpAnyH_tk 6 (v := ?va6) rfl (by kernel_rfl) (by kernel_rfl) (by kernel_rfl) (fun _ _ _ h => h) (by rfl) ?hya6 (by assumption) ?_
  case hya6 => (intro w hSw; (try dsimp only at hSw); go_simp <;> with_reducible rfl)
  (try simp only [Act.put, List.setIfInBounds_toArray, List.set_cons_zero, List.set_cons_succ])
  refine wpAnyH_done (by kernel_rfl) ?_ _
  clear hHeld c0 c1 hw1 hw2 hw3 hw4
  go_wp2
  go_ret2
  exact ⟨rfl, HE2.out⟩

set_option maxRecDepth 20000 in
set_option maxHeartbeats 1600000 in
theorem Spanning_ok (vr : Value) (N : Nat) (rs : List RoadD) (w : World) (hv : Roads w vr rs) (hok : mapOk ⟨N, rs⟩ = true) (hTZ : TZ w) (hn : Cn rs (allN N)) :
    Calls Tryd.prog 27 #[.agg #[.int .i64 N, vr]] w fun e w' => ∃ v l, e = .returned (.tuple #[v, .int .i64 0]) ∧ OwnI w.heap.size w' v l ∧ Hid (IsBest rs (allN N) l) ∧ Ext w w' := by
  obtain ⟨ao, cap, rfl⟩ := hv.shape
  have HV := hid hv
  have HTZ := hid hTZ
  have HOk := hid hok
  have HCn := hid hn
  have hok2 := hok
  unfold mapOk at hok2
  rw [Bool.and_eq_true, decide_eq_true_iff, List.all_eq_true] at hok2
  obtain ⟨⟨h1, h8, h16⟩, hall⟩ := hok2
  dsimp only at h1 h8 h16 hall
  have hN1 : 1 ≤ N := by omega
  have hN8 : N ≤ 8 := by omega
  have HAll := hid hall
  obtain ⟨a0, aN, a256⟩ := allN_in hN1 hN8
  have HaN := hid aN
  obtain ⟨S, hS⟩ : ∃ S, S = allN N := ⟨_, rfl⟩
  have HSS := hid hS
  have hp : (2 : Int) ^ N = ((S + 1 : Nat) : Int) := by
    have e : ((2 : Int) ^ N) = ((2 ^ N : Nat) : Int) := by simp
    have e2 : 2 ^ N = S + 1 := by rw [hS]; unfold allN; have : 0 < 2 ^ N := Nat.pow_pos (by decide); omega
    rw [e, e2]
  rw [← hS] at a0 a256
  have hw1 : IntKind.i64.wrap (2 ^ N) = ((S + 1 : Nat) : Int) := by rw [hp]; exact wraps_i64_62 _ (by omega) (by omega)
  have hw2 : IntKind.i64.wrap (((S + 1 : Nat) : Int) - 1) = (S : Int) := by rw [show ((S + 1 : Nat) : Int) - 1 = (S : Int) by omega]; exact wraps_i64_62 _ (by omega) (by omega)
  have hw3 : IntKind.i64.wrap (S : Int) = (S : Int) := wraps_i64_62 _ (by omega) (by omega)
  have hw4 : IntKind.i64.wrap ((S : Int) + 1 - 1) = (S : Int) := by rw [show (S : Int) + 1 - 1 = (S : Int) by omega]; exact hw3
  have X0 := hid (Box2.alloc w 31 (.int .i64 N) (.slice ao rs.length cap))
  clear hv hok hTZ hn hall aN hS hp
  go_enter Tryd.func27, Tryd.ntmps27
  go_wp2_with (fail)
  refine (valid_any _ ⟨N, rs⟩ _ (Roads.ext HV.out (Ext.ofAlloc _ _))).mono ?_
  rw [HOk.out]
  rintro e w1 ⟨rfl, he⟩
  have HE := hid ((Ext.ofAlloc w _).trans he)
  obtain ⟨c0, c1⟩ := (X0.out.ext he).cells
  have HX := hid (X0.out.ext he)
  clear he
  go_wp2
  refine wp_region_held_drew (S := (fun w' => w'.cell? ⟨w.heap.size, 0, none⟩ = some (.int .i64 N) ∧ w'.cell? ⟨w.heap.size, 1, none⟩ = some (.slice ao rs.length cap))) (by kernel_rfl) ?hSb0 (fun hHeld => ?_)
  case hSb0 => (first | (exact ⟨c0, c1⟩) | ((try dsimp only); exact ⟨c0, c1⟩))
  refine wpAnyH_tk 0 (v := ?vb0) rfl (by kernel_rfl) (by kernel_rfl) (by kernel_rfl) (fun _ _ _ h => h) (by rfl) ?hyb0 (by assumption) ?_
  case hyb0 => (intro w hSw; (try dsimp only at hSw); go_simp <;> with_reducible rfl)
  (try simp only [Act.put, List.setIfInBounds_toArray, List.set_cons_zero, List.set_cons_succ])
  refine wpAnyH_tk 1 (v := ?vb1) rfl (by kernel_rfl) (by kernel_rfl) (by kernel_rfl) (fun _ _ _ h => h) (by rfl) ?hyb1 (by assumption) ?_
  case hyb1 => (intro w hSw; (try dsimp only at hSw); go_simp <;> with_reducible rfl)
  (try simp only [Act.put, List.setIfInBounds_toArray, List.set_cons_zero, List.set_cons_succ])
  refine wpAnyH_tk 2 (v := ?vb2) rfl (by kernel_rfl) (by kernel_rfl) (by kernel_rfl) (fun _ _ _ h => h) (by rfl) ?hyb2 (by assumption) ?_
  case hyb2 => (intro w hSw; (try dsimp only at hSw); go_simp <;> with_reducible rfl)
  (try simp only [Act.put, List.setIfInBounds_toArray, List.set_cons_zero, List.set_cons_succ])
  refine wpAnyH_tk 3 (v := ?vb3) rfl (by kernel_rfl) (by kernel_rfl) (by kernel_rfl) (fun _ _ _ h => h) (by rfl) ?hyb3 (by assumption) ?_
  case hyb3 => (intro w hSw; (try dsimp only at hSw); go_simp <;> with_reducible rfl)
  (try simp only [Act.put, List.setIfInBounds_toArray, List.set_cons_zero, List.set_cons_succ])
  refine wpAnyH_tk 4 (v := ?vb4) rfl (by kernel_rfl) (by kernel_rfl) (by kernel_rfl) (fun _ _ _ h => h) (by rfl) ?hyb4 (by assumption) ?_
  case hyb4 => (intro w hSw; (try dsimp only at hSw); go_simp <;> with_reducible rfl)
  (try simp only [Act.put, List.setIfInBounds_toArray, List.set_cons_zero, List.set_cons_succ])
  refine wpAnyH_one 5 rfl (by kernel_rfl) (by rfl) (fun K hK => ?_)
  go_simp
  (refine (reachable_any _ N rs S _ (Roads.ext HV.out (HE.out.drew)) HAll.out (by omega) hN8 a0 (by rw [HSS.out]; exact HaN.out) (HTZ.out.ext (HE.out.drew))).mono ?_; rintro eR w2 ⟨haR, he2⟩; rw [HSS.out] at haR; have HE2 := hid (HE.out.drew.trans he2); have HX2 := hid (HX.out.ext ((Ext.refl w1).drew.trans he2)); clear he2; obtain rfl : eR = .returned (.bool true) := (by rcases haR with ⟨-, h⟩ | ⟨h, -⟩; exact h; exact absurd HCn.out h); clear haR)
  refine hK.out _ _ ?hSb6 (fun hHeld => ?_)
  case hSb6 => (first | (exact HX2.out.cells) | ((try dsimp only); exact HX2.out.cells))
  clear hK K
  (try simp only [Act.put, List.setIfInBounds_toArray, List.set_cons_zero, List.set_cons_succ])
  refine wpAnyH_tk 6 (v := ?vb6) rfl (by kernel_rfl) (by kernel_rfl) (by kernel_rfl) (fun _ _ _ h => h) (by rfl) ?hyb6 (by assumption) ?_
  case hyb6 => (intro w hSw; (try dsimp only at hSw); go_simp <;> with_reducible rfl)
  (try simp only [Act.put, List.setIfInBounds_toArray, List.set_cons_zero, List.set_cons_succ])
  refine wpAnyH_done (by kernel_rfl) ?_ _
  clear hHeld c0 c1 hw1 hw2 hw3 hw4
  obtain ⟨c0, c1⟩ := HX2.out.cells
  obtain ⟨n, hnn⟩ : ∃ n, n = rs.length := ⟨_, rfl⟩
  have HNN := hid hnn
  have hn16 : n ≤ 16 := by omega
  obtain ⟨i0, hi, hz0, hz1, hz2⟩ := info_parts info_int
  rw [← hnn] at c1
  clear hnn
  go_wp2
  clear c0 c1
  go_loopg [23, 4] n (fun g i v wr => ∃ (k : Nat) (z : Value), k + g = n ∧ i = .int .i64 k ∧ v = z ∧ Hid (OwnI w2.heap.size wr z (rowL k (fun x => (x : Int)))) ∧ Hid (k = 0 → z = .slice none 0 0) ∧ Hid (Ext w2 wr))
  case atStart => exact ⟨0, _, by omega, rfl, rfl, World.ownsRow_nil _ _ _ _, fun _ => rfl, Ext.refl _⟩
  case round =>
    obtain ⟨k, vS, hk, rfl, hvz, HO, HZ, E⟩ := hrel
    have hvz2 := hvz.symm
    subst hvz2
    have hkn : k ≤ n := by omega
    have Hk := hid hk
    clear hk
    by_cases hlt : k < n
    · have hki : (k : Int) < n := by omega
      obtain ⟨av, nv, cv, rfl⟩ := own_shape HO.out
      have hsz := E.out.size
      have hrl : (rowL k (fun x => (x : Int))).length = k := rowL_len _ _
      go_wp2_with (at_builtin; go_must (refine wpList_append_own_at _ rfl _ _ 25 rfl w2.heap.size 3 i0 (.int .i64 0) 1 8 Tryd.underlying25 hi hz0 hz1 hz2 rfl (by decide) _ _ _ rfl (HO.out.alloc _) ⟨wr.heap.size, 0, none⟩ 1 1 [.int .i64 k] rfl rfl (cell_one_new _ _ _) (by intro x hx; simp at hx; subst hx; rfl) ?c3 ?c4 ?c5 ?_))
      case c3 => unfold maxLen; omega
      case c4 => omega
      case c5 => simp; omega
      intro v' wA hown' hg _ _
      have hR := OwnI.push (xs := rowL k (fun x => (x : Int))) (by rw [rowL_len]) hown'
      rw [← rowL_succ] at hR
      have HR := hid hR
      have HE5 := hid (Ext.push E.out HO.out (Nat.le_refl _) hg)
      clear hown' hg hR hsz
      go_wp2
      go_roundg (gk - 1)
      case rel => exact ⟨k + 1, _, by have := Hk.out; omega, by go_num, rfl, HR, fun h => by omega, HE5⟩
      case measure => have := Hk.out; omega
    · have ek : k = n := by omega
      have HS : Hid (Calls Tryd.prog 47 #[vS, .func (.func 48) #[] #[.pointer (some ⟨w.heap.size, 0, none⟩)]] wr fun e w' => e = .returned (.tuple #[]) ∧ ∃ f', Hid (OutS rs n n f') ∧ OwnI w2.heap.size w' vS (rowL n f') ∧ Ext w2 w') := by
        rcases Nat.eq_zero_or_pos n with h0 | h0
        · have hv0 := HZ.out (by omega)
          subst hv0
          refine (SortStable_none wr w.heap.size).mono ?_
          rintro e w' ⟨rfl, he⟩
          refine ⟨rfl, fun x => (x : Int), ?_, ?_, E.out.trans he⟩
          · show OutS rs n n _
            rw [h0]; exact OutS.start
          · rw [h0]; exact World.ownsRow_nil _ _ _ _
        · have ho := HO.out
          rw [ek] at ho
          obtain ⟨-, ⟨-, h⟩ | ⟨g, cp, cur, rfl, hg, -⟩⟩ := id ho
          · rw [rowL_len] at h; omega
          · rw [rowL_len] at ho ⊢
            exact SortStable_any w2 wr w.heap.size ao cap rs g cp n _ (HX2.out.cells.2) (Roads.ext HV.out HE2.out) (fun r hr => by have := roadOk_iff.1 (HAll.out r hr); omega) HNN.out h0 hn16 E.out hg ho (by rw [HNN.out]; exact OutS.start)
      have hki : ¬ ((k : Int) < n) := by omega
      clear ek hlt HO HZ
      go_wp2_with (fail)
      refine HS.out.mono ?_
      rintro e w3 ⟨rfl, f, hf, ho3, he3⟩
      have HF := hid hf.out
      have HO3 := hid ho3
      have HE3 := hid he3
      obtain ⟨av, cv, rfl⟩ := own_len ho3
      have HLN : Hid ((rowL n f).length = n) := rowL_len n f
      clear HS hf ho3 he3 E
      go_wp2_with (fail)
      refine (apart_any _).mono ?_
      rintro e w4 ⟨rfl, he4⟩
      have HO4 := hid (ownsRow_ext HO3.out he4)
      have HE4 := hid (HE3.out.trans he4)
      have hb : PBox (w4.alloc (.cells #[.int .i64 0, .int .i64 1, .int .i64 2, .int .i64 3, .int .i64 4, .int .i64 5, .int .i64 6, .int .i64 7] 69)) w4.heap.size (fun i => (i : Int)) := heap_alloc_new w4 _
      have hE4 := Ext.ofAlloc w4 (.cells #[.int .i64 0, .int .i64 1, .int .i64 2, .int .i64 3, .int .i64 4, .int .i64 5, .int .i64 6, .int .i64 7] 69)
      obtain ⟨w5, hw5⟩ : ∃ x, x = w4.alloc (.cells #[.int .i64 0, .int .i64 1, .int .i64 2, .int .i64 3, .int .i64 4, .int .i64 5, .int .i64 6, .int .i64 7] 69) := ⟨_, rfl⟩
      have hw5s : w5.heap.size = w4.heap.size + 1 := by rw [hw5]; simp
      have hout : OwnI w5.heap.size (w5.alloc (.cells #[] 3)) (.slice (some ⟨w5.heap.size, 0, none⟩) 0 0) [] := World.ownsRow_lit w5 #[] 0 (Nat.le_refl _) (by decide) rfl
      have hE5 := Ext.ofAlloc w5 (.cells #[] 3)
      have hb5 : PBox (w5.alloc (.cells #[] 3)) w4.heap.size (fun i => (i : Int)) := by
        have := hb
        rw [← hw5] at this
        exact this.ext hE5
      have H45 : Hid (Ext w4 w5) := by show Ext w4 w5; rw [hw5]; exact hE4
      rw [hw5] at hout hE5 hb5
      have HOUT := hid hout
      have HE5' := hid hE5
      have HB5 := hid hb5
      clear he4 hb hE4 hout hE5 hb5
      go_wp2
      rw [← hw5] at HOUT HE5' HB5 ⊢
      rw [← hw5s]
      have H5S := hid hw5s
      generalize w5.alloc (.cells #[] 3) = W6 at HOUT HE5' HB5 ⊢
      obtain ⟨gp, hgp⟩ : ∃ g, g = w4.heap.size := ⟨_, rfl⟩
      rw [← hgp] at HB5 ⊢
      have HGP := hid hgp
      clear hw5 hw5s hgp
      go_loopg [38, 7] n (fun g i u wr => ∃ (k : Nat) (p : Nat → Int) (z : Value), k + g = n ∧ i = .int .i64 k ∧ u = z ∧ Hid (Lab (edges rs (kl rs f k)) p) ∧ Hid (PBox wr gp p) ∧ Hid (OwnI w5.heap.size wr z (kl rs f k)) ∧ Hid (Only gp w5 wr))
      case atStart => exact ⟨0, _, _, by omega, rfl, rfl, Lab.nil, HB5, HOUT, Only.ofExt HE5'.out⟩
      case round =>
        clear HOUT HE5' HB5
        obtain ⟨k, p, uS, hk, rfl, hvz, LAB, PB, OUT, ON⟩ := hrel
        have hvz2 := hvz.symm
        subst hvz2
        have hkn : k ≤ n := by omega
        have Hk := hid hk
        clear hk
        have EA : Hid (Ext w4 wr) := ON.out.ext H45.out (by rw [HGP.out]; exact Nat.le_refl _)
        by_cases hlt : k < n
        · have hki : (k : Int) < (rowL n f).length := by rw [HLN.out]; omega
          have hO := ownsRow_ext HO4.out EA.out
          obtain ⟨go, og, rfl, -, hcl⟩ := (OwnI.ints hO (by rw [HLN.out]; omega)).get k (by rw [HLN.out]; exact hlt)
          have dk := hcl _ (Ext.refl _)
          rw [rowL_fn hlt] at dk
          obtain ⟨r1, r2⟩ := HF.out.rng k hlt
          obtain ⟨x, hx⟩ := Int.eq_ofNat_of_zero_le r1
          rw [hx] at dk r2
          have HFX : Hid (f k = (x : Int)) := hx
          have hxl : x < rs.length := by have := HNN.out; omega
          have hxi : (x : Int) < rs.length := by omega
          obtain ⟨bb, off, rfl, -, hcc⟩ := Roads.get HV.out x hxl
          obtain ⟨d0, d1, d2⟩ := hcc _ (HE2.out.trans (HE4.out.trans EA.out))
          have c1 := (HX2.out.ext (HE4.out.trans EA.out)).cells.2
          obtain ⟨q1, q2, q3, q4, -, q6, q7⟩ := roadOk_iff.1 (HAll.out _ (roadAt_mem hxl))
          obtain ⟨r, hr⟩ : ∃ r, r = roadAt rs x := ⟨_, rfl⟩
          rw [← hr] at d0 d1 d2 q1 q2 q3 q4 q6 q7
          have HRR : Hid (roadAt rs (f k).toNat = r) := by show _ = _; rw [hx, hr]; rfl
          have ha8 : r.a < 8 := by omega
          have hb8 : r.b < 8 := by omega
          have hla : r.a.toNat < 8 := by omega
          have hlb : r.b.toNat < 8 := by omega
          clear hO hcl hcc r1 r2 hx hr
          go_wp2_with (fail)
          refine (join_any gp p r _ PB.out q1 ha8 q3 hb8).mono ?_
          rintro e w7 ⟨rfl, hpb, hon⟩
          have ON7 := hid (ON.out.trans hon)
          have PB7 := hid hpb
          have OUT7 : Hid (OwnI w5.heap.size w7 uS (kl rs f k)) := OwnI.heap OUT.out (fun j hj => hon.block j (OwnI.lt OUT.out j hj).2 (by have h1 := (OwnI.lt OUT.out j hj).1; have h2 := H5S.out; have h3 := HGP.out; omega))
          have HLI := hid (LAB.out r.a.toNat r.b.toNat hla hlb)
          have HLJ := hid (LAB.out.join hla hlb)
          clear hpb hon d0 d1 d2 c1 dk
          by_cases hj : p r.a.toNat = p r.b.toNat
          · have hjb : (p r.a.toNat != p r.b.toNat) = false := by rw [hj]; simp
            have hkno : kl rs f (k + 1) = kl rs f k := kl_no (by rw [HRR.out]; exact HLI.out.1 hj)
            have hsame := joinL_same hj
            have LAB7 : Hid (Lab (edges rs (kl rs f (k + 1))) p) := by show Lab _ _; rw [hkno]; exact LAB.out
            have OUT8 : Hid (OwnI w5.heap.size w7 uS (kl rs f (k + 1))) := by show OwnI _ _ _ _; rw [hkno]; exact OUT7.out
            rw [hsame] at PB7
            rw [hjb]
            clear hj hjb hkno hsame
            go_wp2
            go_roundg (gk - 1)
            case rel => exact ⟨k + 1, p, _, by have := Hk.out; omega, by go_num, rfl, LAB7, PB7, OUT8, ON7⟩
            case measure => have := Hk.out; omega
          · have hjb : (p r.a.toNat != p r.b.toNat) = true := by rw [bne_iff_ne]; exact hj
            have hkyes : kl rs f (k + 1) = kl rs f k ++ [f k] := kl_yes (by rw [HRR.out]; exact fun h => hj (HLI.out.2 h))
            have LAB7 : Hid (Lab (edges rs (kl rs f (k + 1))) (joinL p r.a.toNat r.b.toNat)) := by
              show Lab _ _
              rw [hkyes, edges_app]
              show Lab (edges rs (kl rs f k) ++ [roadAt rs (f k).toNat]) _
              rw [HRR.out]; exact HLJ.out
            have HKY := hid hkyes
            have hlen := kl_len (rs := rs) (f := f) k
            obtain ⟨au, nu, cu, rfl⟩ := own_shape OUT7.out
            have hsz := ON7.out.size
            rw [hjb]
            clear hj hjb hkyes
            go_wp2_with (at_builtin; go_must (refine wpList_append_own_at _ rfl _ _ 25 rfl w5.heap.size 3 i0 (.int .i64 0) 1 8 Tryd.underlying25 hi hz0 hz1 hz2 rfl (by decide) _ _ _ rfl (OUT7.out.alloc _) ⟨w7.heap.size, 0, none⟩ 1 1 [.int .i64 x] rfl rfl (cell_one_new _ _ _) (by intro y hy; simp at hy; subst hy; rfl) ?c3 ?c4 ?c5 ?_))
            case c3 => unfold maxLen; omega
            case c4 => omega
            case c5 => simp; omega
            intro v' wA hown' hg _ _
            have hR := OwnI.push rfl hown'
            rw [← HFX.out, ← HKY.out] at hR
            have HR := hid hR
            have ON8 := hid (ON7.out.grown OUT7.out hg)
            have PB8 : Hid (PBox wA gp (joinL p r.a.toNat r.b.toNat)) := by
              show wA.heap[gp]? = _
              rw [hg.block gp (by have := lt_of_block PB7.out; simp; omega) (fun e => by have h1 := (OwnI.lt OUT7.out gp e.symm).1; have h2 := H5S.out; have h3 := HGP.out; omega)]
              exact heap_ext PB7.out (Ext.ofAlloc _ _)
            clear hown' hg hR hsz hlen
            go_wp2
            go_roundg (gk - 1)
            case rel => exact ⟨k + 1, _, _, by have := Hk.out; omega, by go_num, rfl, LAB7, PB8, HR, ON8⟩
            case measure => have := Hk.out; omega
        · have ek : k = n := by omega
          have hO := OUT.out
          rw [ek] at hO
          have HOK := hid hO
          have hki : ¬ ((k : Int) < (rowL n f).length) := by rw [HLN.out]; omega
          have hlen := kl_len (rs := rs) (f := f) n
          clear ek hO hlt
          go_wp2_with (fail)
          refine (SortD_own w5.heap.size _ _ _ HOK.out (by omega)).mono ?_
          rintro e w8 ⟨rfl, ho8, hg8⟩
          have hso : OutS rs rs.length rs.length f := by have := HF.out; rw [HNN.out] at this; exact this
          rw [HNN.out, kl_sorted hso] at ho8
          have HO8 := hid ho8
          have HB8 : Hid (IsBest rs (allN N) (sel rs.length (inP (kl rs f rs.length)))) := kl_best HAll.out hso (cn_all.1 HCn.out)
          have hE8 : Ext w4 w8 := by
            refine ⟨by rw [hg8.os, EA.out.os], by rw [hg8.tape, EA.out.tape], by rw [hg8.output, EA.out.output], Nat.le_trans EA.out.size hg8.size, fun j hj => ?_⟩
            have h1 := EA.out.size
            have h2 := H5S.out
            rw [hg8.block j (by omega) (fun e => by have := (OwnI.lt HOK.out j e.symm).1; omega), EA.out.block j hj]
          have HW := hid (HE2.out.trans (HE4.out.trans hE8))
          have hsz : w.heap.size ≤ w5.heap.size := by have h1 := (HE2.out.trans HE4.out).size; have h2 := H5S.out; omega
          have HSZ := hid hsz
          obtain ⟨au, cu, rfl⟩ := own_len ho8
          clear ho8 hg8 hso hE8 hsz hlen
          go_wp2
          go_ret2
          exact ⟨_, _, rfl, ownsRow_base HO8.out HSZ.out, HB8.out, HW.out⟩

end Go.Proofs.YtkbkgkmogbkabaaDoor

/-
  The statement RouteTrees: its walk.
-/
namespace Go.Proofs.YtkbkgkmogbkabaaDoor
open Go.RowKit

theorem stops_of3 {N s : Nat} (h0 : 0 < s) (h : s < 2 ^ N) : stopsB N s = true := by
  unfold stopsB
  rw [decide_eq_true_iff, Int.toNat_natCast]
  exact ⟨by omega, by exact_mod_cast h⟩
theorem best_eq {rs : List RoadD} {s : Nat} {a b : List Int} (h1 : IsBest rs s a) (h2 : IsBest rs s b) : eqI a b = true := by
  rw [IsBest.one h1 h2]; unfold eqI; simp

set_option maxRecDepth 20000 in
set_option maxHeartbeats 16000000 in
theorem RouteTrees_any (vr : Value) (m : MapD) (st : Int) (w : World) (hm : MapR w vr m) (hTZ : TZ w) :
    Calls Tryd.prog 8 #[.agg #[.int .i64 m.n, vr], .int .i64 st] w fun e w' => e = .returned (.bool true) ∧ Ext w w' := by
  obtain ⟨ao, cap, rfl⟩ := hm.shape
  have HM := hid hm
  have HTZ := hid hTZ
  have X0 := Box2.alloc w 24 (.int .i64 m.n) (.slice ao m.roads.length cap)
  have EQ0 : Hid (eqI [] [] = true) := rfl
  clear hm hTZ
  by_cases hb : mapOk m = true
  · obtain ⟨n, rs⟩ := m
    have hok2 := hb
    unfold mapOk at hok2
    rw [Bool.and_eq_true, decide_eq_true_iff, List.all_eq_true] at hok2
    obtain ⟨⟨h1, h8, h16⟩, hall⟩ := hok2
    dsimp only at h1 h8 h16 hall
    obtain ⟨N, rfl⟩ := Int.eq_ofNat_of_zero_le (show 0 ≤ n by omega)
    have hN1 : 1 ≤ N := by omega
    have hN8 : N ≤ 8 := by omega
    have HB := hid hb
    have HAll := hid hall
    have HTK : Hid (rs.take 18 = rs) := congrArg MapD.roads (cutM_id hb)
    dsimp only at X0 HM
    clear hb hall
    obtain ⟨a0, aN, a256⟩ := allN_in hN1 hN8
    have HSA := hid (stops_of3 a0 aN)
    obtain ⟨S, hS⟩ : ∃ S, S = allN N := ⟨_, rfl⟩
    have HSS := hid hS
    have hp : (2 : Int) ^ N = ((S + 1 : Nat) : Int) := by
      have e : ((2 : Int) ^ N) = ((2 ^ N : Nat) : Int) := by simp
      have e2 : 2 ^ N = S + 1 := by rw [hS]; unfold allN; have : 0 < 2 ^ N := Nat.pow_pos (by decide); omega
      rw [e, e2]
    rw [← hS] at a0 a256 HSA
    have wS3 := hid (show IntKind.i64.wrap (S : Int) = (S : Int) from wraps_i64_62 _ (by omega) (by omega))
    have wS1 := hid (show IntKind.i64.wrap (2 ^ N) = ((S + 1 : Nat) : Int) by rw [hp]; exact wraps_i64_62 _ (by omega) (by omega))
    have wS4 : Hid (IntKind.i64.wrap ((S : Int) + 1 - 1) = (S : Int)) := by show _ = _; rw [show (S : Int) + 1 - 1 = (S : Int) by omega]; exact wS3.out
    clear aN hS hp a0 a256
    by_cases hst : stopsB N st = true
    · obtain ⟨s, rfl⟩ := Int.eq_ofNat_of_zero_le (show 0 ≤ st by unfold stopsB at hst; rw [decide_eq_true_iff] at hst; omega)
      have HST := hid hst
      obtain ⟨-, -, -, -, s0, sN⟩ := ok_parts HB.out hst
      by_cases hca : Cn rs (allN N)
      · have hcn : Cn rs s := fun x y hx hy => cn_all.1 hca x y (bit_lt sN hx) (bit_lt sN hy)
        have HCA := hid hca
        have HCN := hid hcn
        clear hca hcn hst sN
        go_enter Tryd.func8, Tryd.ntmps8
        go_wp2_with (fail)
        refine (Of_any _ ⟨N, rs⟩ _ (MapR.ext HM.out (Ext.ofAlloc w _))).mono ?_
        rintro e w1 ⟨uU, rfl, hu, he1⟩
        dsimp only at hu
        rw [HTK.out] at hu
        have X1 := hid (X0.ext he1)
        have E1 := hid ((Ext.ofAlloc w _).trans he1)
        clear he1
        obtain ⟨c0, c1⟩ := X1.out.cells
        have U_1 := hid (hu.roads (by omega))
        clear hu
        go_wp2_with (fail)
        refine (Tree_ok _ N rs s _ U_1.out HB.out HST.out (HTZ.out.ext E1.out) HCN.out).mono ?_
        rintro e w2 ⟨va, la, rfl, hoa, hba, he2⟩
        have HBA := hid hba.out
        obtain ⟨aa, ca, rfl⟩ := own_len hoa
        have HOA := hid (hoa.ints (by have := treeP_len HBA.out.1; omega))
        clear hoa hba
        clear c0 c1
        have X2 := hid (X1.out.ext he2)
        have U_2 := hid (U_1.out.ext he2)
        have E2 := hid (E1.out.trans he2)
        clear he2
        obtain ⟨c0, c1⟩ := X2.out.cells
        have OA_2 := hid (HOA.out)
        clear HOA
        go_wp2_with (fail)
        refine (Of_any _ ⟨N, rs⟩ _ (MapR.ext HM.out E2.out)).mono ?_
        rintro e w3 ⟨uU, rfl, hu, he3⟩
        dsimp only at hu
        rw [HTK.out] at hu
        clear c0 c1
        have X3 := hid (X2.out.ext he3)
        have OA_3 := hid (OA_2.out.ext he3)
        have E3 := hid (E2.out.trans he3)
        clear he3
        obtain ⟨c0, c1⟩ := X3.out.cells
        have U_3 := hid (hu.roads (by omega))
        clear hu
        go_wp2_with (fail)
        refine (Spanning_ok _ N rs _ U_3.out HB.out (HTZ.out.ext E3.out) HCA.out).mono ?_
        rintro e w4 ⟨vs, ls, rfl, hos, hbs, he4⟩
        have HBS := hid hbs.out
        obtain ⟨as_, cs, rfl⟩ := own_len hos
        have HOS := hid (hos.ints (by have := treeP_len HBS.out.1; omega))
        clear hos hbs
        clear c0 c1
        have X4 := hid (X3.out.ext he4)
        have OA_4 := hid (OA_3.out.ext he4)
        have U_4 := hid (U_3.out.ext he4)
        have E4 := hid (E3.out.trans he4)
        clear he4
        obtain ⟨c0, c1⟩ := X4.out.cells
        have OS_4 := hid (HOS.out)
        clear HOS
        go_wp2_with (fail)
        refine (RValid_any _ ⟨N, rs⟩ _ (MapR.ext HM.out E4.out)).mono ?_
        rw [HB.out]
        rintro e w5 ⟨rfl, he5⟩
        clear c0 c1
        have X5 := hid (X4.out.ext he5)
        have OA_5 := hid (OA_4.out.ext he5)
        have OS_5 := hid (OS_4.out.ext he5)
        have E5 := hid (E4.out.trans he5)
        clear he5
        obtain ⟨c0, c1⟩ := X5.out.cells
        have ws1 := wS1.out
        have ws3 := wS3.out
        have ws4 := wS4.out
        go_wp2
        refine wp_region_held_drew (S := (fun w' => w'.cell? ⟨w.heap.size, 0, none⟩ = some (.int .i64 N) ∧ w'.cell? ⟨w.heap.size, 1, none⟩ = some (.slice ao rs.length cap))) (by kernel_rfl) ?hSa0 (fun hHeld => ?_)
        case hSa0 => (first | (exact ⟨c0, c1⟩) | ((try dsimp only); exact ⟨c0, c1⟩))
        refine wpAnyH_tk 0 (v := ?va0) rfl (by kernel_rfl) (by kernel_rfl) (by kernel_rfl) (fun _ _ _ h => h) (by rfl) ?hya0 (by assumption) ?_
        case hya0 => (intro w hSw; (try dsimp only at hSw); go_simp <;> with_reducible rfl)
        (try simp only [Act.put, List.setIfInBounds_toArray, List.set_cons_zero, List.set_cons_succ])
        refine wpAnyH_tk 1 (v := ?va1) rfl (by kernel_rfl) (by kernel_rfl) (by kernel_rfl) (fun _ _ _ h => h) (by rfl) ?hya1 (by assumption) ?_
        case hya1 => (intro w hSw; (try dsimp only at hSw); go_simp <;> with_reducible rfl)
        (try simp only [Act.put, List.setIfInBounds_toArray, List.set_cons_zero, List.set_cons_succ])
        refine wpAnyH_tk 2 (v := ?va2) rfl (by kernel_rfl) (by kernel_rfl) (by kernel_rfl) (fun _ _ _ h => h) (by rfl) ?hya2 (by assumption) ?_
        case hya2 => (intro w hSw; (try dsimp only at hSw); go_simp <;> with_reducible rfl)
        (try simp only [Act.put, List.setIfInBounds_toArray, List.set_cons_zero, List.set_cons_succ])
        refine wpAnyH_tk 3 (v := ?va3) rfl (by kernel_rfl) (by kernel_rfl) (by kernel_rfl) (fun _ _ _ h => h) (by rfl) ?hya3 (by assumption) ?_
        case hya3 => (intro w hSw; (try dsimp only at hSw); go_simp <;> with_reducible rfl)
        (try simp only [Act.put, List.setIfInBounds_toArray, List.set_cons_zero, List.set_cons_succ])
        refine wpAnyH_tk 4 (v := ?va4) rfl (by kernel_rfl) (by kernel_rfl) (by kernel_rfl) (fun _ _ _ h => h) (by rfl) ?hya4 (by assumption) ?_
        case hya4 => (intro w hSw; (try dsimp only at hSw); go_simp <;> with_reducible rfl)
        (try simp only [Act.put, List.setIfInBounds_toArray, List.set_cons_zero, List.set_cons_succ])
        refine wpAnyH_one 5 rfl (by kernel_rfl) (by rfl) (fun K hK => ?_)
        go_simp
        (refine (Best_ok _ N rs S _ (MapR.ext HM.out (E5.out.trans (Ext.refl w5).drew)) HB.out HSA.out (by rw [HSS.out]; exact HCA.out)).mono ?_; rintro e wa0 ⟨vx, lx, rfl, hox, hbx, hea0⟩; have HBX := hid hbx.out; obtain ⟨ax, cx, rfl⟩ := own_len hox; have HOX := hid (hox.ints (by have := treeP_len HBX.out.1; omega)); clear hox hbx)
        refine hK.out _ _ ?hSa6 (fun hHeld => ?_)
        case hSa6 => (first | (exact ⟨((Ext.refl w5).drew.trans hea0).cell c0, ((Ext.refl w5).drew.trans hea0).cell c1⟩) | ((try dsimp only); exact ⟨((Ext.refl w5).drew.trans hea0).cell c0, ((Ext.refl w5).drew.trans hea0).cell c1⟩))
        clear hK K
        (try simp only [Act.put, List.setIfInBounds_toArray, List.set_cons_zero, List.set_cons_succ])
        refine wpAnyH_tk 6 (v := ?va6) rfl (by kernel_rfl) (by kernel_rfl) (by kernel_rfl) (fun _ _ _ h => h) (by rfl) ?hya6 (by assumption) ?_
        case hya6 => (intro w hSw; (try dsimp only at hSw); go_simp <;> with_reducible rfl)
        (try simp only [Act.put, List.setIfInBounds_toArray, List.set_cons_zero, List.set_cons_succ])
        refine wpAnyH_tk 7 (v := ?va7) rfl (by kernel_rfl) (by kernel_rfl) (by kernel_rfl) (fun _ _ _ h => h) (by rfl) ?hya7 (by assumption) ?_
        case hya7 => (intro w hSw; (try dsimp only at hSw); go_simp <;> with_reducible rfl)
        (try simp only [Act.put, List.setIfInBounds_toArray, List.set_cons_zero, List.set_cons_succ])
        refine wpAnyH_tk 8 (v := ?va8) rfl (by kernel_rfl) (by kernel_rfl) (by kernel_rfl) (fun _ _ _ h => h) (by rfl) ?hya8 (by assumption) ?_
        case hya8 => (intro w hSw; (try dsimp only at hSw); go_simp <;> with_reducible rfl)
        (try simp only [Act.put, List.setIfInBounds_toArray, List.set_cons_zero, List.set_cons_succ])
        refine wpAnyH_tk 9 (v := ?va9) rfl (by kernel_rfl) (by kernel_rfl) (by kernel_rfl) (fun _ _ _ h => h) (by rfl) ?hya9 (by assumption) ?_
        case hya9 => (intro w hSw; (try dsimp only at hSw); go_simp <;> with_reducible rfl)
        (try simp only [Act.put, List.setIfInBounds_toArray, List.set_cons_zero, List.set_cons_succ])
        refine wpAnyH_tk 10 (v := ?va10) rfl (by kernel_rfl) (by kernel_rfl) (by kernel_rfl) (fun _ _ _ h => h) (by rfl) ?hya10 (by assumption) ?_
        case hya10 => (intro w hSw; (try dsimp only at hSw); go_simp <;> with_reducible rfl)
        (try simp only [Act.put, List.setIfInBounds_toArray, List.set_cons_zero, List.set_cons_succ])
        refine wpAnyH_done (by kernel_rfl) ?_ _
        clear hHeld
        clear c0 c1
        have ea := hid (((Ext.refl w5).drew.trans hea0))
        have X6 := hid (X5.out.ext ea.out)
        have OA_6 := hid (OA_5.out.ext ea.out)
        have OS_6 := hid (OS_5.out.ext ea.out)
        have E6 := hid (E5.out.trans ea.out)
        clear hea0
        clear ea
        obtain ⟨c0, c1⟩ := X6.out.cells
        have HEQ := hid (best_eq HBS.out (by rw [← HSS.out]; exact HBX.out))
        clear ws1 ws3 ws4
        go_wp2_with (fail)
        refine (Equal_any _ _ ls lx _ OS_6.out HOX.out).mono ?_
        rw [HEQ.out]
        rintro e w7_ ⟨rfl, n1, rfl⟩
        clear c0 c1
        have X7 := hid (X6.out.ext ((Ext.refl _).drewN n1))
        have OA_7 := hid (OA_6.out.ext ((Ext.refl _).drewN n1))
        have OS_7 := hid (OS_6.out.ext ((Ext.refl _).drewN n1))
        have OX_7 := hid (HOX.out.ext ((Ext.refl _).drewN n1))
        have E7 := hid (E6.out.trans ((Ext.refl _).drewN n1))
        obtain ⟨c0, c1⟩ := X7.out.cells
        go_wp2_with (fail)
        refine (awake_any _).mono ?_
        rintro e w8 ⟨rfl, he8⟩
        clear c0 c1
        have X8 := hid (X7.out.ext he8)
        have OA_8 := hid (OA_7.out.ext he8)
        have E8 := hid (E7.out.trans he8)
        clear he8
        obtain ⟨c0, c1⟩ := X8.out.cells
        go_wp2_with (fail)
        refine (RStops_any _ ⟨N, rs⟩ s _ (MapR.ext HM.out E8.out) (by show (0 : Int) ≤ N; omega) (by show (N : Int) ≤ 8; omega)).mono ?_
        rw [HST.out]
        rintro e w9 ⟨rfl, he9⟩
        clear c0 c1
        have X9 := hid (X8.out.ext he9)
        have OA_9 := hid (OA_8.out.ext he9)
        have E9 := hid (E8.out.trans he9)
        clear he9
        obtain ⟨c0, c1⟩ := X9.out.cells
        go_wp2_with (fail)
        refine (Best_ok _ N rs s _ (MapR.ext HM.out E9.out) HB.out HST.out HCN.out).mono ?_
        rintro e w10 ⟨vy, ly, rfl, hoy, hby, he10⟩
        have HBY := hid hby.out
        obtain ⟨ay, cy, rfl⟩ := own_len hoy
        have HOY := hid (hoy.ints (by have := treeP_len HBY.out.1; omega))
        clear hoy hby
        clear c0 c1
        have X10 := hid (X9.out.ext he10)
        have OA_10 := hid (OA_9.out.ext he10)
        have E10 := hid (E9.out.trans he10)
        clear he10
        obtain ⟨c0, c1⟩ := X10.out.cells
        have OY_10 := hid (HOY.out)
        clear HOY
        have HEQ2 := hid (best_eq HBA.out HBY.out)
        go_wp2_with (fail)
        refine (Equal_any _ _ la ly _ OA_10.out OY_10.out).mono ?_
        rw [HEQ2.out]
        rintro e w11_ ⟨rfl, n2, rfl⟩
        clear c0 c1
        have X11 := hid (X10.out.ext ((Ext.refl _).drewN n2))
        have OA_11 := hid (OA_10.out.ext ((Ext.refl _).drewN n2))
        have OY_11 := hid (OY_10.out.ext ((Ext.refl _).drewN n2))
        have E11 := hid (E10.out.trans ((Ext.refl _).drewN n2))
        obtain ⟨c0, c1⟩ := X11.out.cells
        go_wp2
        go_ret
        exact ⟨rfl, E11.out⟩
      · have HCA := hid hca
        clear hca
        by_cases hcn : Cn rs s
        · have HCN := hid hcn
          clear hcn hst sN
          go_enter Tryd.func8, Tryd.ntmps8
          go_wp2_with (fail)
          refine (Of_any _ ⟨N, rs⟩ _ (MapR.ext HM.out (Ext.ofAlloc w _))).mono ?_
          rintro e w1 ⟨uU, rfl, hu, he1⟩
          dsimp only at hu
          rw [HTK.out] at hu
          have X1 := hid (X0.ext he1)
          have E1 := hid ((Ext.ofAlloc w _).trans he1)
          clear he1
          obtain ⟨c0, c1⟩ := X1.out.cells
          have U_1 := hid (hu.roads (by omega))
          clear hu
          go_wp2_with (fail)
          refine (Tree_ok _ N rs s _ U_1.out HB.out HST.out (HTZ.out.ext E1.out) HCN.out).mono ?_
          rintro e w2 ⟨va, la, rfl, hoa, hba, he2⟩
          have HBA := hid hba.out
          obtain ⟨aa, ca, rfl⟩ := own_len hoa
          have HOA := hid (hoa.ints (by have := treeP_len HBA.out.1; omega))
          clear hoa hba
          clear c0 c1
          have X2 := hid (X1.out.ext he2)
          have U_2 := hid (U_1.out.ext he2)
          have E2 := hid (E1.out.trans he2)
          clear he2
          obtain ⟨c0, c1⟩ := X2.out.cells
          have OA_2 := hid (HOA.out)
          clear HOA
          go_wp2_with (fail)
          refine (Of_any _ ⟨N, rs⟩ _ (MapR.ext HM.out E2.out)).mono ?_
          rintro e w3 ⟨uU, rfl, hu, he3⟩
          dsimp only at hu
          rw [HTK.out] at hu
          clear c0 c1
          have X3 := hid (X2.out.ext he3)
          have OA_3 := hid (OA_2.out.ext he3)
          have E3 := hid (E2.out.trans he3)
          clear he3
          obtain ⟨c0, c1⟩ := X3.out.cells
          have U_3 := hid (hu.roads (by omega))
          clear hu
          go_wp2_with (fail)
          refine (Spanning_none _ N rs _ U_3.out HB.out (HTZ.out.ext E3.out) HCA.out).mono ?_
          rintro e w4 ⟨rfl, he4⟩
          clear c0 c1
          have X4 := hid (X3.out.ext he4)
          have OA_4 := hid (OA_3.out.ext he4)
          have U_4 := hid (U_3.out.ext he4)
          have E4 := hid (E3.out.trans he4)
          clear he4
          obtain ⟨c0, c1⟩ := X4.out.cells
          go_wp2_with (fail)
          refine (RValid_any _ ⟨N, rs⟩ _ (MapR.ext HM.out E4.out)).mono ?_
          rw [HB.out]
          rintro e w5 ⟨rfl, he5⟩
          clear c0 c1
          have X5 := hid (X4.out.ext he5)
          have OA_5 := hid (OA_4.out.ext he5)
          have E5 := hid (E4.out.trans he5)
          clear he5
          obtain ⟨c0, c1⟩ := X5.out.cells
          have ws1 := wS1.out
          have ws3 := wS3.out
          have ws4 := wS4.out
          go_wp2
          refine wp_region_held_drew (S := (fun w' => w'.cell? ⟨w.heap.size, 0, none⟩ = some (.int .i64 N) ∧ w'.cell? ⟨w.heap.size, 1, none⟩ = some (.slice ao rs.length cap))) (by kernel_rfl) ?hSb0 (fun hHeld => ?_)
          case hSb0 => (first | (exact ⟨c0, c1⟩) | ((try dsimp only); exact ⟨c0, c1⟩))
          refine wpAnyH_tk 0 (v := ?vb0) rfl (by kernel_rfl) (by kernel_rfl) (by kernel_rfl) (fun _ _ _ h => h) (by rfl) ?hyb0 (by assumption) ?_
          case hyb0 => (intro w hSw; (try dsimp only at hSw); go_simp <;> with_reducible rfl)
          (try simp only [Act.put, List.setIfInBounds_toArray, List.set_cons_zero, List.set_cons_succ])
          refine wpAnyH_tk 1 (v := ?vb1) rfl (by kernel_rfl) (by kernel_rfl) (by kernel_rfl) (fun _ _ _ h => h) (by rfl) ?hyb1 (by assumption) ?_
          case hyb1 => (intro w hSw; (try dsimp only at hSw); go_simp <;> with_reducible rfl)
          (try simp only [Act.put, List.setIfInBounds_toArray, List.set_cons_zero, List.set_cons_succ])
          refine wpAnyH_tk 2 (v := ?vb2) rfl (by kernel_rfl) (by kernel_rfl) (by kernel_rfl) (fun _ _ _ h => h) (by rfl) ?hyb2 (by assumption) ?_
          case hyb2 => (intro w hSw; (try dsimp only at hSw); go_simp <;> with_reducible rfl)
          (try simp only [Act.put, List.setIfInBounds_toArray, List.set_cons_zero, List.set_cons_succ])
          refine wpAnyH_tk 3 (v := ?vb3) rfl (by kernel_rfl) (by kernel_rfl) (by kernel_rfl) (fun _ _ _ h => h) (by rfl) ?hyb3 (by assumption) ?_
          case hyb3 => (intro w hSw; (try dsimp only at hSw); go_simp <;> with_reducible rfl)
          (try simp only [Act.put, List.setIfInBounds_toArray, List.set_cons_zero, List.set_cons_succ])
          refine wpAnyH_tk 4 (v := ?vb4) rfl (by kernel_rfl) (by kernel_rfl) (by kernel_rfl) (fun _ _ _ h => h) (by rfl) ?hyb4 (by assumption) ?_
          case hyb4 => (intro w hSw; (try dsimp only at hSw); go_simp <;> with_reducible rfl)
          (try simp only [Act.put, List.setIfInBounds_toArray, List.set_cons_zero, List.set_cons_succ])
          refine wpAnyH_one 5 rfl (by kernel_rfl) (by rfl) (fun K hK => ?_)
          go_simp
          (refine (Best_none _ N rs S _ (MapR.ext HM.out (E5.out.trans (Ext.refl w5).drew)) HB.out HSA.out (by rw [HSS.out]; exact HCA.out)).mono ?_; rintro e wa0 ⟨rfl, hea0⟩)
          refine hK.out _ _ ?hSb6 (fun hHeld => ?_)
          case hSb6 => (first | (exact ⟨((Ext.refl w5).drew.trans hea0).cell c0, ((Ext.refl w5).drew.trans hea0).cell c1⟩) | ((try dsimp only); exact ⟨((Ext.refl w5).drew.trans hea0).cell c0, ((Ext.refl w5).drew.trans hea0).cell c1⟩))
          clear hK K
          (try simp only [Act.put, List.setIfInBounds_toArray, List.set_cons_zero, List.set_cons_succ])
          refine wpAnyH_tk 6 (v := ?vb6) rfl (by kernel_rfl) (by kernel_rfl) (by kernel_rfl) (fun _ _ _ h => h) (by rfl) ?hyb6 (by assumption) ?_
          case hyb6 => (intro w hSw; (try dsimp only at hSw); go_simp <;> with_reducible rfl)
          (try simp only [Act.put, List.setIfInBounds_toArray, List.set_cons_zero, List.set_cons_succ])
          refine wpAnyH_tk 7 (v := ?vb7) rfl (by kernel_rfl) (by kernel_rfl) (by kernel_rfl) (fun _ _ _ h => h) (by rfl) ?hyb7 (by assumption) ?_
          case hyb7 => (intro w hSw; (try dsimp only at hSw); go_simp <;> with_reducible rfl)
          (try simp only [Act.put, List.setIfInBounds_toArray, List.set_cons_zero, List.set_cons_succ])
          refine wpAnyH_tk 8 (v := ?vb8) rfl (by kernel_rfl) (by kernel_rfl) (by kernel_rfl) (fun _ _ _ h => h) (by rfl) ?hyb8 (by assumption) ?_
          case hyb8 => (intro w hSw; (try dsimp only at hSw); go_simp <;> with_reducible rfl)
          (try simp only [Act.put, List.setIfInBounds_toArray, List.set_cons_zero, List.set_cons_succ])
          refine wpAnyH_tk 9 (v := ?vb9) rfl (by kernel_rfl) (by kernel_rfl) (by kernel_rfl) (fun _ _ _ h => h) (by rfl) ?hyb9 (by assumption) ?_
          case hyb9 => (intro w hSw; (try dsimp only at hSw); go_simp <;> with_reducible rfl)
          (try simp only [Act.put, List.setIfInBounds_toArray, List.set_cons_zero, List.set_cons_succ])
          refine wpAnyH_tk 10 (v := ?vb10) rfl (by kernel_rfl) (by kernel_rfl) (by kernel_rfl) (fun _ _ _ h => h) (by rfl) ?hyb10 (by assumption) ?_
          case hyb10 => (intro w hSw; (try dsimp only at hSw); go_simp <;> with_reducible rfl)
          (try simp only [Act.put, List.setIfInBounds_toArray, List.set_cons_zero, List.set_cons_succ])
          refine wpAnyH_done (by kernel_rfl) ?_ _
          clear hHeld
          clear c0 c1
          have ea := hid (((Ext.refl w5).drew.trans hea0))
          have X6 := hid (X5.out.ext ea.out)
          have OA_6 := hid (OA_5.out.ext ea.out)
          have E6 := hid (E5.out.trans ea.out)
          clear hea0
          clear ea
          obtain ⟨c0, c1⟩ := X6.out.cells
          clear ws1 ws3 ws4
          go_wp2_with (fail)
          refine (Equal_any _ _ [] [] _ (Ints.nil _ _ _) (Ints.nil _ _ _)).mono ?_
          rw [EQ0.out]
          rintro e w7_ ⟨rfl, n1, rfl⟩
          clear c0 c1
          have X7 := hid (X6.out.ext ((Ext.refl _).drewN n1))
          have OA_7 := hid (OA_6.out.ext ((Ext.refl _).drewN n1))
          have E7 := hid (E6.out.trans ((Ext.refl _).drewN n1))
          obtain ⟨c0, c1⟩ := X7.out.cells
          go_wp2_with (fail)
          refine (awake_any _).mono ?_
          rintro e w8 ⟨rfl, he8⟩
          clear c0 c1
          have X8 := hid (X7.out.ext he8)
          have OA_8 := hid (OA_7.out.ext he8)
          have E8 := hid (E7.out.trans he8)
          clear he8
          obtain ⟨c0, c1⟩ := X8.out.cells
          go_wp2_with (fail)
          refine (RStops_any _ ⟨N, rs⟩ s _ (MapR.ext HM.out E8.out) (by show (0 : Int) ≤ N; omega) (by show (N : Int) ≤ 8; omega)).mono ?_
          rw [HST.out]
          rintro e w9 ⟨rfl, he9⟩
          clear c0 c1
          have X9 := hid (X8.out.ext he9)
          have OA_9 := hid (OA_8.out.ext he9)
          have E9 := hid (E8.out.trans he9)
          clear he9
          obtain ⟨c0, c1⟩ := X9.out.cells
          go_wp2_with (fail)
          refine (Best_ok _ N rs s _ (MapR.ext HM.out E9.out) HB.out HST.out HCN.out).mono ?_
          rintro e w10 ⟨vy, ly, rfl, hoy, hby, he10⟩
          have HBY := hid hby.out
          obtain ⟨ay, cy, rfl⟩ := own_len hoy
          have HOY := hid (hoy.ints (by have := treeP_len HBY.out.1; omega))
          clear hoy hby
          clear c0 c1
          have X10 := hid (X9.out.ext he10)
          have OA_10 := hid (OA_9.out.ext he10)
          have E10 := hid (E9.out.trans he10)
          clear he10
          obtain ⟨c0, c1⟩ := X10.out.cells
          have OY_10 := hid (HOY.out)
          clear HOY
          have HEQ2 := hid (best_eq HBA.out HBY.out)
          go_wp2_with (fail)
          refine (Equal_any _ _ la ly _ OA_10.out OY_10.out).mono ?_
          rw [HEQ2.out]
          rintro e w11_ ⟨rfl, n2, rfl⟩
          clear c0 c1
          have X11 := hid (X10.out.ext ((Ext.refl _).drewN n2))
          have OA_11 := hid (OA_10.out.ext ((Ext.refl _).drewN n2))
          have OY_11 := hid (OY_10.out.ext ((Ext.refl _).drewN n2))
          have E11 := hid (E10.out.trans ((Ext.refl _).drewN n2))
          obtain ⟨c0, c1⟩ := X11.out.cells
          go_wp2
          go_ret
          exact ⟨rfl, E11.out⟩
        · have HCN := hid hcn
          clear hcn hst sN
          go_enter Tryd.func8, Tryd.ntmps8
          go_wp2_with (fail)
          refine (Of_any _ ⟨N, rs⟩ _ (MapR.ext HM.out (Ext.ofAlloc w _))).mono ?_
          rintro e w1 ⟨uU, rfl, hu, he1⟩
          dsimp only at hu
          rw [HTK.out] at hu
          have X1 := hid (X0.ext he1)
          have E1 := hid ((Ext.ofAlloc w _).trans he1)
          clear he1
          obtain ⟨c0, c1⟩ := X1.out.cells
          have U_1 := hid (hu.roads (by omega))
          clear hu
          go_wp2_with (fail)
          refine (Tree_none _ N rs s _ U_1.out HB.out HST.out (HTZ.out.ext E1.out) HCN.out).mono ?_
          rintro e w2 ⟨rfl, he2⟩
          clear c0 c1
          have X2 := hid (X1.out.ext he2)
          have U_2 := hid (U_1.out.ext he2)
          have E2 := hid (E1.out.trans he2)
          clear he2
          obtain ⟨c0, c1⟩ := X2.out.cells
          go_wp2_with (fail)
          refine (Of_any _ ⟨N, rs⟩ _ (MapR.ext HM.out E2.out)).mono ?_
          rintro e w3 ⟨uU, rfl, hu, he3⟩
          dsimp only at hu
          rw [HTK.out] at hu
          clear c0 c1
          have X3 := hid (X2.out.ext he3)
          have E3 := hid (E2.out.trans he3)
          clear he3
          obtain ⟨c0, c1⟩ := X3.out.cells
          have U_3 := hid (hu.roads (by omega))
          clear hu
          go_wp2_with (fail)
          refine (Spanning_none _ N rs _ U_3.out HB.out (HTZ.out.ext E3.out) HCA.out).mono ?_
          rintro e w4 ⟨rfl, he4⟩
          clear c0 c1
          have X4 := hid (X3.out.ext he4)
          have U_4 := hid (U_3.out.ext he4)
          have E4 := hid (E3.out.trans he4)
          clear he4
          obtain ⟨c0, c1⟩ := X4.out.cells
          go_wp2_with (fail)
          refine (RValid_any _ ⟨N, rs⟩ _ (MapR.ext HM.out E4.out)).mono ?_
          rw [HB.out]
          rintro e w5 ⟨rfl, he5⟩
          clear c0 c1
          have X5 := hid (X4.out.ext he5)
          have E5 := hid (E4.out.trans he5)
          clear he5
          obtain ⟨c0, c1⟩ := X5.out.cells
          have ws1 := wS1.out
          have ws3 := wS3.out
          have ws4 := wS4.out
          go_wp2
          refine wp_region_held_drew (S := (fun w' => w'.cell? ⟨w.heap.size, 0, none⟩ = some (.int .i64 N) ∧ w'.cell? ⟨w.heap.size, 1, none⟩ = some (.slice ao rs.length cap))) (by kernel_rfl) ?hSc0 (fun hHeld => ?_)
          case hSc0 => (first | (exact ⟨c0, c1⟩) | ((try dsimp only); exact ⟨c0, c1⟩))
          refine wpAnyH_tk 0 (v := ?vc0) rfl (by kernel_rfl) (by kernel_rfl) (by kernel_rfl) (fun _ _ _ h => h) (by rfl) ?hyc0 (by assumption) ?_
          case hyc0 => (intro w hSw; (try dsimp only at hSw); go_simp <;> with_reducible rfl)
          (try simp only [Act.put, List.setIfInBounds_toArray, List.set_cons_zero, List.set_cons_succ])
          refine wpAnyH_tk 1 (v := ?vc1) rfl (by kernel_rfl) (by kernel_rfl) (by kernel_rfl) (fun _ _ _ h => h) (by rfl) ?hyc1 (by assumption) ?_
          case hyc1 => (intro w hSw; (try dsimp only at hSw); go_simp <;> with_reducible rfl)
          (try simp only [Act.put, List.setIfInBounds_toArray, List.set_cons_zero, List.set_cons_succ])
          refine wpAnyH_tk 2 (v := ?vc2) rfl (by kernel_rfl) (by kernel_rfl) (by kernel_rfl) (fun _ _ _ h => h) (by rfl) ?hyc2 (by assumption) ?_
          case hyc2 => (intro w hSw; (try dsimp only at hSw); go_simp <;> with_reducible rfl)
          (try simp only [Act.put, List.setIfInBounds_toArray, List.set_cons_zero, List.set_cons_succ])
          refine wpAnyH_tk 3 (v := ?vc3) rfl (by kernel_rfl) (by kernel_rfl) (by kernel_rfl) (fun _ _ _ h => h) (by rfl) ?hyc3 (by assumption) ?_
          case hyc3 => (intro w hSw; (try dsimp only at hSw); go_simp <;> with_reducible rfl)
          (try simp only [Act.put, List.setIfInBounds_toArray, List.set_cons_zero, List.set_cons_succ])
          refine wpAnyH_tk 4 (v := ?vc4) rfl (by kernel_rfl) (by kernel_rfl) (by kernel_rfl) (fun _ _ _ h => h) (by rfl) ?hyc4 (by assumption) ?_
          case hyc4 => (intro w hSw; (try dsimp only at hSw); go_simp <;> with_reducible rfl)
          (try simp only [Act.put, List.setIfInBounds_toArray, List.set_cons_zero, List.set_cons_succ])
          refine wpAnyH_one 5 rfl (by kernel_rfl) (by rfl) (fun K hK => ?_)
          go_simp
          (refine (Best_none _ N rs S _ (MapR.ext HM.out (E5.out.trans (Ext.refl w5).drew)) HB.out HSA.out (by rw [HSS.out]; exact HCA.out)).mono ?_; rintro e wa0 ⟨rfl, hea0⟩)
          refine hK.out _ _ ?hSc6 (fun hHeld => ?_)
          case hSc6 => (first | (exact ⟨((Ext.refl w5).drew.trans hea0).cell c0, ((Ext.refl w5).drew.trans hea0).cell c1⟩) | ((try dsimp only); exact ⟨((Ext.refl w5).drew.trans hea0).cell c0, ((Ext.refl w5).drew.trans hea0).cell c1⟩))
          clear hK K
          (try simp only [Act.put, List.setIfInBounds_toArray, List.set_cons_zero, List.set_cons_succ])
          refine wpAnyH_tk 6 (v := ?vc6) rfl (by kernel_rfl) (by kernel_rfl) (by kernel_rfl) (fun _ _ _ h => h) (by rfl) ?hyc6 (by assumption) ?_
          case hyc6 => (intro w hSw; (try dsimp only at hSw); go_simp <;> with_reducible rfl)
          (try simp only [Act.put, List.setIfInBounds_toArray, List.set_cons_zero, List.set_cons_succ])
          refine wpAnyH_tk 7 (v := ?vc7) rfl (by kernel_rfl) (by kernel_rfl) (by kernel_rfl) (fun _ _ _ h => h) (by rfl) ?hyc7 (by assumption) ?_
          case hyc7 => (intro w hSw; (try dsimp only at hSw); go_simp <;> with_reducible rfl)
          (try simp only [Act.put, List.setIfInBounds_toArray, List.set_cons_zero, List.set_cons_succ])
          refine wpAnyH_tk 8 (v := ?vc8) rfl (by kernel_rfl) (by kernel_rfl) (by kernel_rfl) (fun _ _ _ h => h) (by rfl) ?hyc8 (by assumption) ?_
          case hyc8 => (intro w hSw; (try dsimp only at hSw); go_simp <;> with_reducible rfl)
          (try simp only [Act.put, List.setIfInBounds_toArray, List.set_cons_zero, List.set_cons_succ])
          refine wpAnyH_tk 9 (v := ?vc9) rfl (by kernel_rfl) (by kernel_rfl) (by kernel_rfl) (fun _ _ _ h => h) (by rfl) ?hyc9 (by assumption) ?_
          case hyc9 => (intro w hSw; (try dsimp only at hSw); go_simp <;> with_reducible rfl)
          (try simp only [Act.put, List.setIfInBounds_toArray, List.set_cons_zero, List.set_cons_succ])
          refine wpAnyH_tk 10 (v := ?vc10) rfl (by kernel_rfl) (by kernel_rfl) (by kernel_rfl) (fun _ _ _ h => h) (by rfl) ?hyc10 (by assumption) ?_
          case hyc10 => (intro w hSw; (try dsimp only at hSw); go_simp <;> with_reducible rfl)
          (try simp only [Act.put, List.setIfInBounds_toArray, List.set_cons_zero, List.set_cons_succ])
          refine wpAnyH_done (by kernel_rfl) ?_ _
          clear hHeld
          clear c0 c1
          have ea := hid (((Ext.refl w5).drew.trans hea0))
          have X6 := hid (X5.out.ext ea.out)
          have E6 := hid (E5.out.trans ea.out)
          clear hea0
          clear ea
          obtain ⟨c0, c1⟩ := X6.out.cells
          clear ws1 ws3 ws4
          go_wp2_with (fail)
          refine (Equal_any _ _ [] [] _ (Ints.nil _ _ _) (Ints.nil _ _ _)).mono ?_
          rw [EQ0.out]
          rintro e w7_ ⟨rfl, n1, rfl⟩
          clear c0 c1
          have X7 := hid (X6.out.ext ((Ext.refl _).drewN n1))
          have E7 := hid (E6.out.trans ((Ext.refl _).drewN n1))
          obtain ⟨c0, c1⟩ := X7.out.cells
          go_wp2_with (fail)
          refine (awake_any _).mono ?_
          rintro e w8 ⟨rfl, he8⟩
          clear c0 c1
          have X8 := hid (X7.out.ext he8)
          have E8 := hid (E7.out.trans he8)
          clear he8
          obtain ⟨c0, c1⟩ := X8.out.cells
          go_wp2_with (fail)
          refine (RStops_any _ ⟨N, rs⟩ s _ (MapR.ext HM.out E8.out) (by show (0 : Int) ≤ N; omega) (by show (N : Int) ≤ 8; omega)).mono ?_
          rw [HST.out]
          rintro e w9 ⟨rfl, he9⟩
          clear c0 c1
          have X9 := hid (X8.out.ext he9)
          have E9 := hid (E8.out.trans he9)
          clear he9
          obtain ⟨c0, c1⟩ := X9.out.cells
          go_wp2_with (fail)
          refine (Best_none _ N rs s _ (MapR.ext HM.out E9.out) HB.out HST.out HCN.out).mono ?_
          rintro e w10 ⟨rfl, he10⟩
          clear c0 c1
          have X10 := hid (X9.out.ext he10)
          have E10 := hid (E9.out.trans he10)
          clear he10
          obtain ⟨c0, c1⟩ := X10.out.cells
          go_wp2_with (fail)
          refine (Equal_any _ _ [] [] _ (Ints.nil _ _ _) (Ints.nil _ _ _)).mono ?_
          rw [EQ0.out]
          rintro e w11_ ⟨rfl, n2, rfl⟩
          clear c0 c1
          have X11 := hid (X10.out.ext ((Ext.refl _).drewN n2))
          have E11 := hid (E10.out.trans ((Ext.refl _).drewN n2))
          obtain ⟨c0, c1⟩ := X11.out.cells
          go_wp2
          go_ret
          exact ⟨rfl, E11.out⟩
    · have hsf : stopsB N st = false := by rw [Bool.eq_false_iff]; exact hst
      have HST := hid hsf
      clear hst hsf
      by_cases hca : Cn rs (allN N)
      · have HCA := hid hca
        clear hca
        go_enter Tryd.func8, Tryd.ntmps8
        go_wp2_with (fail)
        refine (Of_any _ ⟨N, rs⟩ _ (MapR.ext HM.out (Ext.ofAlloc w _))).mono ?_
        rintro e w1 ⟨uU, rfl, hu, he1⟩
        dsimp only at hu
        rw [HTK.out] at hu
        have X1 := hid (X0.ext he1)
        have E1 := hid ((Ext.ofAlloc w _).trans he1)
        clear he1
        obtain ⟨c0, c1⟩ := X1.out.cells
        have U_1 := hid (hu.roads (by omega))
        clear hu
        go_wp2_with (fail)
        refine (Tree_bad _ ⟨N, rs⟩ st _ U_1.out (.inr ⟨HB.out, HST.out⟩)).mono ?_
        rintro e w2 ⟨rfl, he2⟩
        clear c0 c1
        have X2 := hid (X1.out.ext he2)
        have U_2 := hid (U_1.out.ext he2)
        have E2 := hid (E1.out.trans he2)
        clear he2
        obtain ⟨c0, c1⟩ := X2.out.cells
        go_wp2_with (fail)
        refine (Of_any _ ⟨N, rs⟩ _ (MapR.ext HM.out E2.out)).mono ?_
        rintro e w3 ⟨uU, rfl, hu, he3⟩
        dsimp only at hu
        rw [HTK.out] at hu
        clear c0 c1
        have X3 := hid (X2.out.ext he3)
        have E3 := hid (E2.out.trans he3)
        clear he3
        obtain ⟨c0, c1⟩ := X3.out.cells
        have U_3 := hid (hu.roads (by omega))
        clear hu
        go_wp2_with (fail)
        refine (Spanning_ok _ N rs _ U_3.out HB.out (HTZ.out.ext E3.out) HCA.out).mono ?_
        rintro e w4 ⟨vs, ls, rfl, hos, hbs, he4⟩
        have HBS := hid hbs.out
        obtain ⟨as_, cs, rfl⟩ := own_len hos
        have HOS := hid (hos.ints (by have := treeP_len HBS.out.1; omega))
        clear hos hbs
        clear c0 c1
        have X4 := hid (X3.out.ext he4)
        have U_4 := hid (U_3.out.ext he4)
        have E4 := hid (E3.out.trans he4)
        clear he4
        obtain ⟨c0, c1⟩ := X4.out.cells
        have OS_4 := hid (HOS.out)
        clear HOS
        go_wp2_with (fail)
        refine (RValid_any _ ⟨N, rs⟩ _ (MapR.ext HM.out E4.out)).mono ?_
        rw [HB.out]
        rintro e w5 ⟨rfl, he5⟩
        clear c0 c1
        have X5 := hid (X4.out.ext he5)
        have OS_5 := hid (OS_4.out.ext he5)
        have E5 := hid (E4.out.trans he5)
        clear he5
        obtain ⟨c0, c1⟩ := X5.out.cells
        have ws1 := wS1.out
        have ws3 := wS3.out
        have ws4 := wS4.out
        go_wp2
        refine wp_region_held_drew (S := (fun w' => w'.cell? ⟨w.heap.size, 0, none⟩ = some (.int .i64 N) ∧ w'.cell? ⟨w.heap.size, 1, none⟩ = some (.slice ao rs.length cap))) (by kernel_rfl) ?hSd0 (fun hHeld => ?_)
        case hSd0 => (first | (exact ⟨c0, c1⟩) | ((try dsimp only); exact ⟨c0, c1⟩))
        refine wpAnyH_tk 0 (v := ?vd0) rfl (by kernel_rfl) (by kernel_rfl) (by kernel_rfl) (fun _ _ _ h => h) (by rfl) ?hyd0 (by assumption) ?_
        case hyd0 => (intro w hSw; (try dsimp only at hSw); go_simp <;> with_reducible rfl)
        (try simp only [Act.put, List.setIfInBounds_toArray, List.set_cons_zero, List.set_cons_succ])
        refine wpAnyH_tk 1 (v := ?vd1) rfl (by kernel_rfl) (by kernel_rfl) (by kernel_rfl) (fun _ _ _ h => h) (by rfl) ?hyd1 (by assumption) ?_
        case hyd1 => (intro w hSw; (try dsimp only at hSw); go_simp <;> with_reducible rfl)
        (try simp only [Act.put, List.setIfInBounds_toArray, List.set_cons_zero, List.set_cons_succ])
        refine wpAnyH_tk 2 (v := ?vd2) rfl (by kernel_rfl) (by kernel_rfl) (by kernel_rfl) (fun _ _ _ h => h) (by rfl) ?hyd2 (by assumption) ?_
        case hyd2 => (intro w hSw; (try dsimp only at hSw); go_simp <;> with_reducible rfl)
        (try simp only [Act.put, List.setIfInBounds_toArray, List.set_cons_zero, List.set_cons_succ])
        refine wpAnyH_tk 3 (v := ?vd3) rfl (by kernel_rfl) (by kernel_rfl) (by kernel_rfl) (fun _ _ _ h => h) (by rfl) ?hyd3 (by assumption) ?_
        case hyd3 => (intro w hSw; (try dsimp only at hSw); go_simp <;> with_reducible rfl)
        (try simp only [Act.put, List.setIfInBounds_toArray, List.set_cons_zero, List.set_cons_succ])
        refine wpAnyH_tk 4 (v := ?vd4) rfl (by kernel_rfl) (by kernel_rfl) (by kernel_rfl) (fun _ _ _ h => h) (by rfl) ?hyd4 (by assumption) ?_
        case hyd4 => (intro w hSw; (try dsimp only at hSw); go_simp <;> with_reducible rfl)
        (try simp only [Act.put, List.setIfInBounds_toArray, List.set_cons_zero, List.set_cons_succ])
        refine wpAnyH_one 5 rfl (by kernel_rfl) (by rfl) (fun K hK => ?_)
        go_simp
        (refine (Best_ok _ N rs S _ (MapR.ext HM.out (E5.out.trans (Ext.refl w5).drew)) HB.out HSA.out (by rw [HSS.out]; exact HCA.out)).mono ?_; rintro e wa0 ⟨vx, lx, rfl, hox, hbx, hea0⟩; have HBX := hid hbx.out; obtain ⟨ax, cx, rfl⟩ := own_len hox; have HOX := hid (hox.ints (by have := treeP_len HBX.out.1; omega)); clear hox hbx)
        refine hK.out _ _ ?hSd6 (fun hHeld => ?_)
        case hSd6 => (first | (exact ⟨((Ext.refl w5).drew.trans hea0).cell c0, ((Ext.refl w5).drew.trans hea0).cell c1⟩) | ((try dsimp only); exact ⟨((Ext.refl w5).drew.trans hea0).cell c0, ((Ext.refl w5).drew.trans hea0).cell c1⟩))
        clear hK K
        (try simp only [Act.put, List.setIfInBounds_toArray, List.set_cons_zero, List.set_cons_succ])
        refine wpAnyH_tk 6 (v := ?vd6) rfl (by kernel_rfl) (by kernel_rfl) (by kernel_rfl) (fun _ _ _ h => h) (by rfl) ?hyd6 (by assumption) ?_
        case hyd6 => (intro w hSw; (try dsimp only at hSw); go_simp <;> with_reducible rfl)
        (try simp only [Act.put, List.setIfInBounds_toArray, List.set_cons_zero, List.set_cons_succ])
        refine wpAnyH_tk 7 (v := ?vd7) rfl (by kernel_rfl) (by kernel_rfl) (by kernel_rfl) (fun _ _ _ h => h) (by rfl) ?hyd7 (by assumption) ?_
        case hyd7 => (intro w hSw; (try dsimp only at hSw); go_simp <;> with_reducible rfl)
        (try simp only [Act.put, List.setIfInBounds_toArray, List.set_cons_zero, List.set_cons_succ])
        refine wpAnyH_tk 8 (v := ?vd8) rfl (by kernel_rfl) (by kernel_rfl) (by kernel_rfl) (fun _ _ _ h => h) (by rfl) ?hyd8 (by assumption) ?_
        case hyd8 => (intro w hSw; (try dsimp only at hSw); go_simp <;> with_reducible rfl)
        (try simp only [Act.put, List.setIfInBounds_toArray, List.set_cons_zero, List.set_cons_succ])
        refine wpAnyH_tk 9 (v := ?vd9) rfl (by kernel_rfl) (by kernel_rfl) (by kernel_rfl) (fun _ _ _ h => h) (by rfl) ?hyd9 (by assumption) ?_
        case hyd9 => (intro w hSw; (try dsimp only at hSw); go_simp <;> with_reducible rfl)
        (try simp only [Act.put, List.setIfInBounds_toArray, List.set_cons_zero, List.set_cons_succ])
        refine wpAnyH_tk 10 (v := ?vd10) rfl (by kernel_rfl) (by kernel_rfl) (by kernel_rfl) (fun _ _ _ h => h) (by rfl) ?hyd10 (by assumption) ?_
        case hyd10 => (intro w hSw; (try dsimp only at hSw); go_simp <;> with_reducible rfl)
        (try simp only [Act.put, List.setIfInBounds_toArray, List.set_cons_zero, List.set_cons_succ])
        refine wpAnyH_done (by kernel_rfl) ?_ _
        clear hHeld
        clear c0 c1
        have ea := hid (((Ext.refl w5).drew.trans hea0))
        have X6 := hid (X5.out.ext ea.out)
        have OS_6 := hid (OS_5.out.ext ea.out)
        have E6 := hid (E5.out.trans ea.out)
        clear hea0
        clear ea
        obtain ⟨c0, c1⟩ := X6.out.cells
        have HEQ := hid (best_eq HBS.out (by rw [← HSS.out]; exact HBX.out))
        clear ws1 ws3 ws4
        go_wp2_with (fail)
        refine (Equal_any _ _ ls lx _ OS_6.out HOX.out).mono ?_
        rw [HEQ.out]
        rintro e w7_ ⟨rfl, n1, rfl⟩
        clear c0 c1
        have X7 := hid (X6.out.ext ((Ext.refl _).drewN n1))
        have OS_7 := hid (OS_6.out.ext ((Ext.refl _).drewN n1))
        have OX_7 := hid (HOX.out.ext ((Ext.refl _).drewN n1))
        have E7 := hid (E6.out.trans ((Ext.refl _).drewN n1))
        obtain ⟨c0, c1⟩ := X7.out.cells
        go_wp2_with (fail)
        refine (awake_any _).mono ?_
        rintro e w8 ⟨rfl, he8⟩
        clear c0 c1
        have X8 := hid (X7.out.ext he8)
        have E8 := hid (E7.out.trans he8)
        clear he8
        obtain ⟨c0, c1⟩ := X8.out.cells
        go_wp2_with (fail)
        refine (RStops_any _ ⟨N, rs⟩ st _ (MapR.ext HM.out E8.out) (by show (0 : Int) ≤ N; omega) (by show (N : Int) ≤ 8; omega)).mono ?_
        rw [HST.out]
        rintro e w9 ⟨rfl, he9⟩
        clear c0 c1
        have X9 := hid (X8.out.ext he9)
        have E9 := hid (E8.out.trans he9)
        clear he9
        obtain ⟨c0, c1⟩ := X9.out.cells
        go_wp2
        go_ret
        exact ⟨rfl, E9.out⟩
      · have HCA := hid hca
        clear hca
        go_enter Tryd.func8, Tryd.ntmps8
        go_wp2_with (fail)
        refine (Of_any _ ⟨N, rs⟩ _ (MapR.ext HM.out (Ext.ofAlloc w _))).mono ?_
        rintro e w1 ⟨uU, rfl, hu, he1⟩
        dsimp only at hu
        rw [HTK.out] at hu
        have X1 := hid (X0.ext he1)
        have E1 := hid ((Ext.ofAlloc w _).trans he1)
        clear he1
        obtain ⟨c0, c1⟩ := X1.out.cells
        have U_1 := hid (hu.roads (by omega))
        clear hu
        go_wp2_with (fail)
        refine (Tree_bad _ ⟨N, rs⟩ st _ U_1.out (.inr ⟨HB.out, HST.out⟩)).mono ?_
        rintro e w2 ⟨rfl, he2⟩
        clear c0 c1
        have X2 := hid (X1.out.ext he2)
        have U_2 := hid (U_1.out.ext he2)
        have E2 := hid (E1.out.trans he2)
        clear he2
        obtain ⟨c0, c1⟩ := X2.out.cells
        go_wp2_with (fail)
        refine (Of_any _ ⟨N, rs⟩ _ (MapR.ext HM.out E2.out)).mono ?_
        rintro e w3 ⟨uU, rfl, hu, he3⟩
        dsimp only at hu
        rw [HTK.out] at hu
        clear c0 c1
        have X3 := hid (X2.out.ext he3)
        have E3 := hid (E2.out.trans he3)
        clear he3
        obtain ⟨c0, c1⟩ := X3.out.cells
        have U_3 := hid (hu.roads (by omega))
        clear hu
        go_wp2_with (fail)
        refine (Spanning_none _ N rs _ U_3.out HB.out (HTZ.out.ext E3.out) HCA.out).mono ?_
        rintro e w4 ⟨rfl, he4⟩
        clear c0 c1
        have X4 := hid (X3.out.ext he4)
        have U_4 := hid (U_3.out.ext he4)
        have E4 := hid (E3.out.trans he4)
        clear he4
        obtain ⟨c0, c1⟩ := X4.out.cells
        go_wp2_with (fail)
        refine (RValid_any _ ⟨N, rs⟩ _ (MapR.ext HM.out E4.out)).mono ?_
        rw [HB.out]
        rintro e w5 ⟨rfl, he5⟩
        clear c0 c1
        have X5 := hid (X4.out.ext he5)
        have E5 := hid (E4.out.trans he5)
        clear he5
        obtain ⟨c0, c1⟩ := X5.out.cells
        have ws1 := wS1.out
        have ws3 := wS3.out
        have ws4 := wS4.out
        go_wp2
        refine wp_region_held_drew (S := (fun w' => w'.cell? ⟨w.heap.size, 0, none⟩ = some (.int .i64 N) ∧ w'.cell? ⟨w.heap.size, 1, none⟩ = some (.slice ao rs.length cap))) (by kernel_rfl) ?hSe0 (fun hHeld => ?_)
        case hSe0 => (first | (exact ⟨c0, c1⟩) | ((try dsimp only); exact ⟨c0, c1⟩))
        refine wpAnyH_tk 0 (v := ?ve0) rfl (by kernel_rfl) (by kernel_rfl) (by kernel_rfl) (fun _ _ _ h => h) (by rfl) ?hye0 (by assumption) ?_
        case hye0 => (intro w hSw; (try dsimp only at hSw); go_simp <;> with_reducible rfl)
        (try simp only [Act.put, List.setIfInBounds_toArray, List.set_cons_zero, List.set_cons_succ])
        refine wpAnyH_tk 1 (v := ?ve1) rfl (by kernel_rfl) (by kernel_rfl) (by kernel_rfl) (fun _ _ _ h => h) (by rfl) ?hye1 (by assumption) ?_
        case hye1 => (intro w hSw; (try dsimp only at hSw); go_simp <;> with_reducible rfl)
        (try simp only [Act.put, List.setIfInBounds_toArray, List.set_cons_zero, List.set_cons_succ])
        refine wpAnyH_tk 2 (v := ?ve2) rfl (by kernel_rfl) (by kernel_rfl) (by kernel_rfl) (fun _ _ _ h => h) (by rfl) ?hye2 (by assumption) ?_
        case hye2 => (intro w hSw; (try dsimp only at hSw); go_simp <;> with_reducible rfl)
        (try simp only [Act.put, List.setIfInBounds_toArray, List.set_cons_zero, List.set_cons_succ])
        refine wpAnyH_tk 3 (v := ?ve3) rfl (by kernel_rfl) (by kernel_rfl) (by kernel_rfl) (fun _ _ _ h => h) (by rfl) ?hye3 (by assumption) ?_
        case hye3 => (intro w hSw; (try dsimp only at hSw); go_simp <;> with_reducible rfl)
        (try simp only [Act.put, List.setIfInBounds_toArray, List.set_cons_zero, List.set_cons_succ])
        refine wpAnyH_tk 4 (v := ?ve4) rfl (by kernel_rfl) (by kernel_rfl) (by kernel_rfl) (fun _ _ _ h => h) (by rfl) ?hye4 (by assumption) ?_
        case hye4 => (intro w hSw; (try dsimp only at hSw); go_simp <;> with_reducible rfl)
        (try simp only [Act.put, List.setIfInBounds_toArray, List.set_cons_zero, List.set_cons_succ])
        refine wpAnyH_one 5 rfl (by kernel_rfl) (by rfl) (fun K hK => ?_)
        go_simp
        (refine (Best_none _ N rs S _ (MapR.ext HM.out (E5.out.trans (Ext.refl w5).drew)) HB.out HSA.out (by rw [HSS.out]; exact HCA.out)).mono ?_; rintro e wa0 ⟨rfl, hea0⟩)
        refine hK.out _ _ ?hSe6 (fun hHeld => ?_)
        case hSe6 => (first | (exact ⟨((Ext.refl w5).drew.trans hea0).cell c0, ((Ext.refl w5).drew.trans hea0).cell c1⟩) | ((try dsimp only); exact ⟨((Ext.refl w5).drew.trans hea0).cell c0, ((Ext.refl w5).drew.trans hea0).cell c1⟩))
        clear hK K
        (try simp only [Act.put, List.setIfInBounds_toArray, List.set_cons_zero, List.set_cons_succ])
        refine wpAnyH_tk 6 (v := ?ve6) rfl (by kernel_rfl) (by kernel_rfl) (by kernel_rfl) (fun _ _ _ h => h) (by rfl) ?hye6 (by assumption) ?_
        case hye6 => (intro w hSw; (try dsimp only at hSw); go_simp <;> with_reducible rfl)
        (try simp only [Act.put, List.setIfInBounds_toArray, List.set_cons_zero, List.set_cons_succ])
        refine wpAnyH_tk 7 (v := ?ve7) rfl (by kernel_rfl) (by kernel_rfl) (by kernel_rfl) (fun _ _ _ h => h) (by rfl) ?hye7 (by assumption) ?_
        case hye7 => (intro w hSw; (try dsimp only at hSw); go_simp <;> with_reducible rfl)
        (try simp only [Act.put, List.setIfInBounds_toArray, List.set_cons_zero, List.set_cons_succ])
        refine wpAnyH_tk 8 (v := ?ve8) rfl (by kernel_rfl) (by kernel_rfl) (by kernel_rfl) (fun _ _ _ h => h) (by rfl) ?hye8 (by assumption) ?_
        case hye8 => (intro w hSw; (try dsimp only at hSw); go_simp <;> with_reducible rfl)
        (try simp only [Act.put, List.setIfInBounds_toArray, List.set_cons_zero, List.set_cons_succ])
        refine wpAnyH_tk 9 (v := ?ve9) rfl (by kernel_rfl) (by kernel_rfl) (by kernel_rfl) (fun _ _ _ h => h) (by rfl) ?hye9 (by assumption) ?_
        case hye9 => (intro w hSw; (try dsimp only at hSw); go_simp <;> with_reducible rfl)
        (try simp only [Act.put, List.setIfInBounds_toArray, List.set_cons_zero, List.set_cons_succ])
        refine wpAnyH_tk 10 (v := ?ve10) rfl (by kernel_rfl) (by kernel_rfl) (by kernel_rfl) (fun _ _ _ h => h) (by rfl) ?hye10 (by assumption) ?_
        case hye10 => (intro w hSw; (try dsimp only at hSw); go_simp <;> with_reducible rfl)
        (try simp only [Act.put, List.setIfInBounds_toArray, List.set_cons_zero, List.set_cons_succ])
        refine wpAnyH_done (by kernel_rfl) ?_ _
        clear hHeld
        clear c0 c1
        have ea := hid (((Ext.refl w5).drew.trans hea0))
        have X6 := hid (X5.out.ext ea.out)
        have E6 := hid (E5.out.trans ea.out)
        clear hea0
        clear ea
        obtain ⟨c0, c1⟩ := X6.out.cells
        clear ws1 ws3 ws4
        go_wp2_with (fail)
        refine (Equal_any _ _ [] [] _ (Ints.nil _ _ _) (Ints.nil _ _ _)).mono ?_
        rw [EQ0.out]
        rintro e w7_ ⟨rfl, n1, rfl⟩
        clear c0 c1
        have X7 := hid (X6.out.ext ((Ext.refl _).drewN n1))
        have E7 := hid (E6.out.trans ((Ext.refl _).drewN n1))
        obtain ⟨c0, c1⟩ := X7.out.cells
        go_wp2_with (fail)
        refine (awake_any _).mono ?_
        rintro e w8 ⟨rfl, he8⟩
        clear c0 c1
        have X8 := hid (X7.out.ext he8)
        have E8 := hid (E7.out.trans he8)
        clear he8
        obtain ⟨c0, c1⟩ := X8.out.cells
        go_wp2_with (fail)
        refine (RStops_any _ ⟨N, rs⟩ st _ (MapR.ext HM.out E8.out) (by show (0 : Int) ≤ N; omega) (by show (N : Int) ≤ 8; omega)).mono ?_
        rw [HST.out]
        rintro e w9 ⟨rfl, he9⟩
        clear c0 c1
        have X9 := hid (X8.out.ext he9)
        have E9 := hid (E8.out.trans he9)
        clear he9
        obtain ⟨c0, c1⟩ := X9.out.cells
        go_wp2
        go_ret
        exact ⟨rfl, E9.out⟩
  · have hbf : mapOk m = false := by rw [Bool.eq_false_iff]; exact hb
    have HVal := hid hbf
    have HBC : Hid (mapOk (cutM m) = false) := by show _ = _; rw [mapOk_cut, hbf]
    clear hb hbf
    go_enter Tryd.func8, Tryd.ntmps8
    go_wp2_with (fail)
    refine (Of_any _ m _ (MapR.ext HM.out (Ext.ofAlloc w _))).mono ?_
    rintro e w1 ⟨uU, rfl, hu, he1⟩
    have X1 := hid (X0.ext he1)
    have E1 := hid ((Ext.ofAlloc w _).trans he1)
    clear he1
    obtain ⟨c0, c1⟩ := X1.out.cells
    have U_1 := hid (hu.roads (by rw [List.length_take]; omega))
    clear hu
    go_wp2_with (fail)
    refine (Tree_bad _ (cutM m) st _ U_1.out (.inl HBC.out)).mono ?_
    rintro e w2 ⟨rfl, he2⟩
    clear c0 c1
    have X2 := hid (X1.out.ext he2)
    have U_2 := hid (U_1.out.ext he2)
    have E2 := hid (E1.out.trans he2)
    clear he2
    obtain ⟨c0, c1⟩ := X2.out.cells
    go_wp2_with (fail)
    refine (Of_any _ m _ (MapR.ext HM.out E2.out)).mono ?_
    rintro e w3 ⟨uU, rfl, hu, he3⟩
    clear c0 c1
    have X3 := hid (X2.out.ext he3)
    have E3 := hid (E2.out.trans he3)
    clear he3
    obtain ⟨c0, c1⟩ := X3.out.cells
    have U_3 := hid (hu.roads (by rw [List.length_take]; omega))
    clear hu
    go_wp2_with (fail)
    refine (Spanning_bad _ (cutM m) _ U_3.out HBC.out).mono ?_
    rintro e w4 ⟨rfl, he4⟩
    clear c0 c1
    have X4 := hid (X3.out.ext he4)
    have U_4 := hid (U_3.out.ext he4)
    have E4 := hid (E3.out.trans he4)
    clear he4
    obtain ⟨c0, c1⟩ := X4.out.cells
    go_wp2_with (fail)
    refine (RValid_any _ m _ (MapR.ext HM.out E4.out)).mono ?_
    rw [HVal.out]
    rintro e w5 ⟨rfl, he5⟩
    clear c0 c1
    have X5 := hid (X4.out.ext he5)
    have E5 := hid (E4.out.trans he5)
    clear he5
    obtain ⟨c0, c1⟩ := X5.out.cells
    go_wp2_with (fail)
    refine (awake_any _).mono ?_
    rintro e w6 ⟨rfl, he6⟩
    clear c0 c1
    have E6 := hid (E5.out.trans he6)
    clear he6
    go_wp2
    go_ret
    exact ⟨rfl, E6.out⟩

end Go.Proofs.YtkbkgkmogbkabaaDoor

/-
  RouteTrees: Tree returns the first of the trees with the least cost, and of these the fewest roads, and Spanning that for all stops, or the documented error. Conditions: those of the card.
-/
namespace Go.Proofs.YtkbkgkmogbkabaaDoor
open Go.ChangeShapes Go.WideShapes Go.ChangeAt Go.RowKit

set_option maxRecDepth 100000 in
theorem routeTrees_lifted (os : Os) (started : os.Started) (H : Type) (enc : TypeId × Value → H) :
    ReturnsInHanded {} Tryd.checked os 8 .any (fun w args => (Rows.routeTreesSpec.pre enc Tryd.prog Tryd.f8 [] false w args ∧ laidMetH Tryd.prog laid2 w) ∧ sizedMet enc Tryd.prog Tryd.f8 (OpenSpec.ofChange Rows.routeTreesSpec) false w args) (Rows.routeTreesSpec.post enc Tryd.prog Tryd.f8 false true false false) := by
  refine returnsInHanded_of_change_and (C := Tryd.checked) (X := fun w _ => laidMetH Tryd.prog laid2 w) (fun _ _ _ hh h => h.of_heap hh) own started (by kernel_rfl) Tryd.func8
    (ChangeSpec.witness_shaped (enc := enc) (C := Tryd.checked) (os := os) (X := fun w _ => laidMetH Tryd.prog laid2 w) false (World.doorLaid Tryd.prog 400 os) #[.agg #[.int .i64 0, .slice none 0 0], .int .i64 0] 8 rfl (World.shaped_of_RefB (by kernel_rfl) (by kernel_rfl)) (by kernel_rfl) (by kernel_rfl) (by kernel_rfl) (door_met os _)) ?_
  intro W base args ds gs before hval0 hW _ hsz0 hLd _
  have hTZ := TZ.of (tab_of_laid hLd)
  have hsz : (DataW.weightsEach Tryd.prog (Tryd.f8.params.toList ++ Rows.routeTreesSpec.plain.varTypes Tryd.prog) (ds ++ gs)).all (· ≤ reachBytes) = true := hsz0
  clear hsz0
  have hval : ∀ (j : Nat) t v, Tryd.f8.params[j]? = some t → args[j]? = some v → Value.okWide Tryd.prog W .any base t v := hval0
  have hW' := hW
  obtain ⟨p, q, hA0, hV, rfl, _, _⟩ := hW
  have hA : DataW.TrodAll enc Tryd.prog W 0 (fun _ => true) true Tryd.f8.params.toList args.toList ds p := hA0
  rw [Tryd.params8] at hA hval hsz
  obtain ⟨v0, vs0, d0, ds0, p0, q0, hargs, rfl, rfl, h0, r0⟩ := trodAll_cons hA
  obtain ⟨v1, vs1, d1, ds1, p1, q1, rfl, rfl, rfl, h1, r1⟩ := trodAll_cons r0
  obtain ⟨rfl, rfl, rfl⟩ := trodAll_nil r1
  obtain rfl : args = #[v0, v1] := by cases args; simp_all
  obtain ⟨rfl, rfl⟩ := trodVars_none hV
  have k0 := h0
  have lt0 : ∀ x ∈ p0, x.block < W.heap.size := by obtain ⟨m, hm⟩ := k0; exact DataW.trod_lt m _ _ _ hm
  obtain ⟨vr, mp, rfl, hm⟩ := map_of_trod (hval 0 _ v0 rfl rfl) h0 (weights_at hsz (j := 0) rfl rfl)
  obtain ⟨a1, rfl, rfl, rfl, w1⟩ := open_int Tryd.underlying3 (hval 1 _ v1 rfl rfl) h1
  clear hA0 hval0
  refine (RouteTrees_any vr mp a1 W hm hTZ).mono fun e W' ⟨he, bel⟩ => ?_
  subst he
  exact ⟨_, rfl, _, _, _, [], _, [], hW', trodAll_mk1 (shut_bool Tryd.underlying4 _),
    (trodAll_cons_mk (Below.trod laidOut (by kernel_rfl) (of_decide_eq_true (by kernel_rfl)) k0 bel lt0) (trodAll_cons_mk (shut_int Tryd.underlying3 w1) trodAll_mk0)), rfl, bel.frame _, fun h => by cases h⟩

theorem routeTrees_row : Rows.RouteTreesSaid :=
  OpenClaim.holds_of_wide 8 Tryd.f8 rfl rfl rfl rfl rfl rfl rfl ⟨rfl, rfl, rfl, rfl, rfl⟩ rfl rfl rfl rfl rfl (by kernel_rfl) Tryd.func8 (by kernel_rfl)
    (of_decide_eq_true (by kernel_rfl)) (by unfold Func.isWrapper; first | (rw [if_pos (by decide +kernel)]; kernel_rfl) | (rw [if_neg (by decide +kernel)]; exact ⟨rfl, rfl⟩))
    (fun os started H enc _ => routeTrees_lifted os started H enc)

theorem routeTrees_holds : Rows.RouteTreesCardSaid :=
  Claim7.holds_tied_plain_at .later [] [.data, .data] true (true, "21947a5a87ddc905c2c0e4241b411cf4012465f53c335e9effae5daa1c3095b2") false
    routeTrees_row (fun _ h => by cases h) (by kernel_rfl) (fun _ h => by cases h) routeTrees_row_tie rfl ⟨rfl, rfl⟩ (by kernel_rfl) rfl
    (fun f fn hf hfn => by
      obtain rfl : f = 8 := Option.some.inj ((show Tryd.prog.funcNamed "corrody/corrodylaw05.RouteTrees" = some 8 by kernel_rfl).symm.trans hf) |>.symm
      obtain rfl : fn = Tryd.f8 := (Option.some.inj (Tryd.func8.symm.trans hfn)).symm
      exact ⟨by kernel_rfl, fun j t ht => by
        rw [Tryd.params8] at ht
        have hm : t ∈ [24, 3] := by simpa using Array.mem_of_getElem? ht
        have hall : ([24, 3].all fun u => !Tryd.prog.wantsStandIn u) = true := by kernel_rfl
        exact (show Tryd.prog.wantsStandIn t = false by simpa using List.all_eq_true.1 hall t hm)⟩)
    (by kernel_rfl)

end Go.Proofs.YtkbkgkmogbkabaaDoor

#print axioms Go.Proofs.YtkbkgkmogbkabaaDoor.routeTrees_holds
