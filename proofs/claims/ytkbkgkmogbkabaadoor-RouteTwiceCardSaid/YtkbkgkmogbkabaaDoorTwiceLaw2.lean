/-
  Texts of this claim, part 2: SnShelf, SnKrPlain, SnKruskal, SnSpan, SnTwiceLaw, SnPairs.
-/
import Derived.Shelf.Sort.Plain
import Derived.Shelf.Slices.In.SortNone
import Derived.Sort.OwnSortedInts
import Derived.Test.YtkbkgkmogbkabaaDoorK4
import Derived.Test.YtkbkgkmogbkabaaDoorK12
import Derived.Test.YtkbkgkmogbkabaaDoorK11
import Derived.Test.YtkbkgkmogbkabaaDoorK7
import Derived.Test.YtkbkgkmogbkabaaDoorK9
import Derived.Test.YtkbkgkmogbkabaaDoorTwiceLaw1
/-
  The shelf contract of slices.Sort at this program (its second seat), as the plain mode of the shelf writes it; what it says of a row of the call of its own.
-/
namespace Go.Proofs
open Go.Shelf
def Tryd.lays189_ren : Go.Shelf.Ren := ⟨fun | 189 => 49 | 125 => 62 | 257 => 61 | 128 => 79 | 129 => 80 | 294 => 70 | 295 => 71 | 296 => 72 | 297 => 73 | 298 => 74 | 299 => 75 | 216 => 76 | 300 => 77 | 301 => 78 | 328 => 84 | 329 => 85 | 330 => 86 | 331 => 87 | 332 => 88 | 215 => 89 | 343 => 91 | n => n, fun | 28 => 25 | 3 => 3 | 46 => 63 | 0 => 0 | 51 => 96 | 53 => 98 | 4 => 4 | 183 => 105 | 182 => 104 | 131 => 37 | 5 => 5 | 9 => 9 | 218 => 116 | 222 => 120 | 228 => 122 | 229 => 123 | n => n, fun | n => n⟩
theorem Tryd.lays189 : Go.Proofs.Lays.n189 Tryd.prog Tryd.lays189_ren := {
  mixed := by kernel_rfl
  f125 := Tryd.func62.trans (congrArg some (by kernel_rfl))
  f128 := Tryd.func79.trans (congrArg some (by kernel_rfl))
  f129 := Tryd.func80.trans (congrArg some (by kernel_rfl))
  f189 := Tryd.func49.trans (congrArg some (by kernel_rfl))
  f215 := Tryd.func89.trans (congrArg some (by kernel_rfl))
  f216 := Tryd.func76.trans (congrArg some (by kernel_rfl))
  f257 := Tryd.func61.trans (congrArg some (by kernel_rfl))
  f294 := Tryd.func70.trans (congrArg some (by kernel_rfl))
  f295 := Tryd.func71.trans (congrArg some (by kernel_rfl))
  f296 := Tryd.func72.trans (congrArg some (by kernel_rfl))
  f297 := Tryd.func73.trans (congrArg some (by kernel_rfl))
  f298 := Tryd.func74.trans (congrArg some (by kernel_rfl))
  f299 := Tryd.func75.trans (congrArg some (by kernel_rfl))
  f300 := Tryd.func77.trans (congrArg some (by kernel_rfl))
  f301 := Tryd.func78.trans (congrArg some (by kernel_rfl))
  f328 := Tryd.func84.trans (congrArg some (by kernel_rfl))
  f329 := Tryd.func85.trans (congrArg some (by kernel_rfl))
  f330 := Tryd.func86.trans (congrArg some (by kernel_rfl))
  f331 := Tryd.func87.trans (congrArg some (by kernel_rfl))
  f332 := Tryd.func88.trans (congrArg some (by kernel_rfl))
  f343 := Tryd.func91.trans (congrArg some (by kernel_rfl))
  t0 := Tryd.underlying0
  a0 := Tryd.isAgg0
  z0 := Tryd.sizeOf0
  v0 := Tryd.zeroValue0
  t3 := Tryd.underlying3
  a3 := Tryd.isAgg3
  z3 := Tryd.sizeOf3
  v3 := Tryd.zeroValue3
  t4 := Tryd.underlying4
  a4 := Tryd.isAgg4
  z4 := Tryd.sizeOf4
  v4 := Tryd.zeroValue4
  t5 := Tryd.underlying5
  a5 := Tryd.isAgg5
  z5 := Tryd.sizeOf5
  v5 := Tryd.zeroValue5
  t9 := Tryd.underlying9
  a9 := Tryd.isAgg9
  z9 := Tryd.sizeOf9
  v9 := Tryd.zeroValue9
  t28 := Tryd.underlying25
  a28 := Tryd.isAgg25
  z28 := Tryd.sizeOf25
  v28 := Tryd.zeroValue25
  t46 := Tryd.underlying63
  a46 := Tryd.isAgg63
  z46 := Tryd.sizeOf63
  v46 := Tryd.zeroValue63
  t51 := Tryd.underlying96
  a51 := Tryd.isAgg96
  z51 := Tryd.sizeOf96
  v51 := Tryd.zeroValue96
  t53 := Tryd.underlying98
  a53 := Tryd.isAgg98
  z53 := Tryd.sizeOf98
  v53 := Tryd.zeroValue98
  t131 := Tryd.underlying37
  a131 := Tryd.isAgg37
  z131 := Tryd.sizeOf37
  v131 := Tryd.zeroValue37
  t182 := Tryd.underlying104
  a182 := Tryd.isAgg104
  z182 := Tryd.sizeOf104
  v182 := Tryd.zeroValue104
  t183 := Tryd.underlying105
  a183 := Tryd.isAgg105
  z183 := Tryd.sizeOf105
  v183 := Tryd.zeroValue105
  t218 := Tryd.underlying116
  a218 := Tryd.isAgg116
  z218 := Tryd.sizeOf116
  v218 := Tryd.zeroValue116
  t222 := Tryd.underlying120
  a222 := Tryd.isAgg120
  z222 := Tryd.sizeOf120
  v222 := Tryd.zeroValue120
  t228 := Tryd.underlying122
  a228 := Tryd.isAgg122
  z228 := Tryd.sizeOf122
  v228 := Tryd.zeroValue122
  t229 := Tryd.underlying123
  a229 := Tryd.isAgg123
  z229 := Tryd.sizeOf123
  v229 := Tryd.zeroValue123 }
open Go.Sort Go.RowKit in
theorem Tryd.slices_Sort_int (blk off cap : Nat) (zs : List Int) (w : World) (hH : Holds (Value.int .i64) w blk off zs.toArray) (hblk : blk < w.heap.size) (hsz : zs.length < 4611686018427387904) :
    Calls Tryd.prog 49 #[.slice (some ⟨blk, off, none⟩) zs.length cap] w fun e w' =>
      e = .returned (.tuple #[]) ∧ ∃ n os, w' = grow (putRow (Value.int .i64) (Sort.ahead w n) blk off (zs.mergeSort fun x y => decide (x ≤ y)).toArray) os := Any.slices_Sort_int Tryd.lays189 blk off cap zs w hH hblk hsz
open Go.RowKit Go.Sort in
theorem Tryd.slices_Sort_int_none (p : Option Addr) (cap : Nat) (w : World) :
    Calls Tryd.prog 49 #[.slice p 0 cap] w fun e w' => e = .returned (.tuple #[]) ∧ w' = w := Any.slices_Sort_int_none Tryd.lays189 p cap w
end Go.Proofs
namespace Go.Proofs.YtkbkgkmogbkabaaDoor
open Go.RowKit Go.Sort

/-- A list sorted. -/
def sortL (xs : List Int) : List Int := xs.mergeSort fun x y => decide (x ≤ y)
theorem sortL_len (xs : List Int) : (sortL xs).length = xs.length := List.length_mergeSort xs
theorem sortL_mem {xs : List Int} {x : Int} : x ∈ sortL xs ↔ x ∈ xs := List.mem_mergeSort
theorem sortL_le (xs : List Int) : (sortL xs).Pairwise (· ≤ ·) := by
  have h := List.pairwise_mergeSort (le := fun x y : Int => decide (x ≤ y)) (fun a b c h1 h2 => by simp at *; omega) (fun a b => by simp; omega) xs
  exact h.imp (fun h => by simpa using h)
theorem sortL_lt {xs : List Int} (hn : xs.Nodup) : (sortL xs).Pairwise (· < ·) := by
  have h1 := sortL_le xs
  have h2 : (sortL xs).Nodup := (List.mergeSort_perm xs _).nodup_iff.2 hn
  have h3 : (sortL xs).Pairwise (fun a b => a ≤ b ∧ a ≠ b) := List.Pairwise.and h1 h2
  exact h3.imp (fun h => by omega)

theorem SortD_own (B : Nat) (v : Value) (xs : List Int) (w : World) (h : OwnI B w v xs) (hl : xs.length ≤ 17592186044416) :
    Calls Tryd.prog 49 #[v] w fun e w' => e = .returned (.tuple #[]) ∧ OwnI B w' v (sortL xs) ∧ w.grownBy w' v.ownBlock := by
  obtain ⟨hlen, h | ⟨g, cap, cur, rfl, hg, hh, hn, hm, hs, ht⟩⟩ := id h
  · obtain ⟨rfl, hn⟩ := h
    have hx : xs = [] := List.eq_nil_of_length_eq_zero hn
    subst hx
    refine (Tryd.slices_Sort_int_none none 0 w).mono ?_
    rintro e w' ⟨rfl, rfl⟩
    have e : sortL [] = [] := by unfold sortL; simp
    exact ⟨rfl, by rw [e]; exact World.ownsRow_nil _ _ _ _, ⟨rfl, rfl, rfl, Nat.le_refl _, fun _ _ _ => rfl⟩⟩
  · rw [Nat.mul_one] at ht
    refine (Tryd.slices_Sort_int g 0 cap xs w (holds_of_blockI hh ht) (lt_of_block hh) (by omega)).mono ?_
    rintro e w' ⟨rfl, n, os, rfl⟩
    refine ⟨rfl, ?_, grownBy_sortedI _⟩
    have h2 := ownsRow_sortedI (w := w) (base := B) (g := g) (cap := cap) (n := n) (e := 3) (os := os) (cur := cur) (ss := xs) (ts := sortL xs) (sortL_len xs) hg hh hn hm hs
    show World.ownsRow _ B 3 1 _ (sortL xs).length _
    rw [sortL_len]
    exact h2

end Go.Proofs.YtkbkgkmogbkabaaDoor

/-
  The cheapest roads first give the best tree, in plain Lean.
-/
namespace Go.Proofs.YtkbkgkmogbkabaaDoor
open Go.RowKit

theorem pairwise_same : ∀ (a b : List Int), a.Pairwise (· < ·) → b.Pairwise (· < ·) → (∀ x, x ∈ a ↔ x ∈ b) → a = b
  | [], [], _, _, _ => rfl
  | [], y :: b, _, _, h => absurd ((h y).2 (List.mem_cons_self ..)) (by simp)
  | x :: a, [], _, _, h => absurd ((h x).1 (List.mem_cons_self ..)) (by simp)
  | x :: a, y :: b, ha, hb, h => by
    rw [List.pairwise_cons] at ha hb
    have hxy : x = y := by
      rcases List.mem_cons.1 ((h x).1 (List.mem_cons_self ..)) with e | e
      · exact e
      · have h1 := hb.1 x e
        rcases List.mem_cons.1 ((h y).2 (List.mem_cons_self ..)) with g | g
        · exact g.symm
        · have := ha.1 y g; omega
    subst hxy
    congr 1
    refine pairwise_same a b ha.2 hb.2 (fun z => ?_)
    constructor
    · intro hz
      rcases List.mem_cons.1 ((h z).1 (List.mem_cons_of_mem _ hz)) with e | e
      · have := ha.1 z hz; omega
      · exact e
    · intro hz
      rcases List.mem_cons.1 ((h z).2 (List.mem_cons_of_mem _ hz)) with e | e
      · have := hb.1 z hz; omega
      · exact e
theorem incr_pairwise {rs : List RoadD} {l : List Int} (h : ∀ k, k < l.length → okAt rs l k) : l.Pairwise (· < ·) := by
  rw [List.pairwise_iff_getElem]
  intro i j hi hj hij
  have key : ∀ d, i + (d + 1) < l.length → fn l i < fn l (i + (d + 1)) := by
    intro d
    induction d with
    | zero =>
      intro hd
      have := (h (i + 1) hd).1.2.2 (by omega)
      rwa [Nat.add_sub_cancel] at this
    | succ d ih =>
      intro hd
      have h1 := ih (by omega)
      have h2 := (h (i + (d + 1 + 1)) hd).1.2.2 (by omega)
      rw [show i + (d + 1 + 1) - 1 = i + (d + 1) by omega] at h2
      omega
  have := key (j - i - 1) (by omega)
  rw [show i + (j - i - 1 + 1) = j by omega] at this
  rwa [fn_get hi, fn_get hj] at this
/-- A tree is the list of its indices, rising. -/
theorem tree_sel {rs : List RoadD} {s : Nat} {l : List Int} (h : treeP rs s l) : l = sel rs.length (fun i => decide ((i : Int) ∈ l)) := by
  refine pairwise_same _ _ (incr_pairwise h.1) (sel_lt _ _) (fun x => ?_)
  rw [sel_mem]
  constructor
  · intro hx
    obtain ⟨k, hk, rfl⟩ := List.getElem_of_mem hx
    have := (h.1 k hk).1
    rw [fn_get hk] at this
    obtain ⟨m, hm⟩ := Int.eq_ofNat_of_zero_le this.1
    exact ⟨m, by omega, by rw [← hm]; exact decide_eq_true hx, hm⟩
  · rintro ⟨i, -, h2, rfl⟩
    exact of_decide_eq_true h2

/-- The roads that are chosen. -/
def roadsP (rs : List RoadD) (P : Nat → Bool) : List RoadD := edges rs (sel rs.length P)
theorem roadsP_mem {rs : List RoadD} {P : Nat → Bool} {r : RoadD} : r ∈ roadsP rs P ↔ ∃ i, i < rs.length ∧ P i = true ∧ roadAt rs i = r := sel_edge
def addP (P : Nat → Bool) (j : Nat) : Nat → Bool := fun i => P i || (i == j)
/-- A tree for all stops, as a choice: each of its roads is a bridge, and all stops are connected. -/
structure Span (rs : List RoadD) (N : Nat) (P : Nat → Bool) : Prop where
  all : ∀ x y, x < N → y < N → Conn (roadsP rs P) x y
  br : ∀ j, j < rs.length → P j = true → ¬ Conn (roadsP rs (dropP P j)) (roadAt rs j).a.toNat (roadAt rs j).b.toNat

theorem conn_add {rs : List RoadD} {P : Nat → Bool} {j : Nat} (hj : j < rs.length) {a b : Nat} : Conn (roadsP rs (addP P j)) a b ↔ Conn (roadsP rs P ++ [roadAt rs j]) a b := by
  refine conn_congr (fun r => ?_)
  rw [roadsP_mem, List.mem_append, roadsP_mem, List.mem_singleton]
  constructor
  · rintro ⟨i, h1, h2, rfl⟩
    unfold addP at h2
    rw [Bool.or_eq_true, beq_iff_eq] at h2
    rcases h2 with h2 | rfl
    · exact .inl ⟨i, h1, h2, rfl⟩
    · exact .inr rfl
  · rintro (⟨i, h1, h2, rfl⟩ | rfl)
    · exact ⟨i, h1, by unfold addP; rw [h2]; rfl, rfl⟩
    · exact ⟨j, hj, by unfold addP; simp, rfl⟩
theorem conn_split {rs : List RoadD} {P : Nat → Bool} {j : Nat} (hj : j < rs.length) (hP : P j = true) {a b : Nat} : Conn (roadsP rs P) a b ↔ Conn (roadsP rs (dropP P j) ++ [roadAt rs j]) a b := by
  rw [← conn_add hj]
  have e : addP (dropP P j) j = P := by
    funext i
    show (P i && !(i == j) || (i == j)) = P i
    by_cases e : i = j
    · have g : (i == j) = true := beq_iff_eq.2 e
      rw [g, e, hP]; rfl
    · have g : (i == j) = false := beq_eq_false_iff_ne.2 e
      rw [g]; cases P i <;> rfl
  rw [e]
theorem roadsP_mono {rs : List RoadD} {P Q : Nat → Bool} (h : ∀ i, i < rs.length → P i = true → Q i = true) {a b : Nat} (hc : Conn (roadsP rs P) a b) : Conn (roadsP rs Q) a b :=
  hc.mono (fun r hr => by
    obtain ⟨i, h1, h2, h3⟩ := roadsP_mem.1 hr
    exact roadsP_mem.2 ⟨i, h1, h i h1 h2, h3⟩)
/-- A way that must leave a part uses a road of its border. -/
theorem cross {E F : List RoadD} {a b : Nat} (h : Conn E a b) (hn : ¬ Conn F a b) : ∃ r ∈ E, ¬ Conn F r.a.toNat r.b.toNat := by
  induction h with
  | refl => exact absurd .refl hn
  | @step b c h1 e ih =>
    by_cases g : Conn F a b
    · obtain ⟨r, hr, hh⟩ := e
      refine ⟨r, hr, fun k => hn (g.trans ?_)⟩
      rcases hh with ⟨rfl, rfl⟩ | ⟨rfl, rfl⟩
      · exact k
      · exact k.symm
    · exact ih g
/-- Of roads that connect two stops a least choice. -/
theorem least_choice {rs : List RoadD} {P : Nat → Bool} {a b : Nat} (h : Conn (roadsP rs P) a b) :
    ∃ Q : Nat → Bool, (∀ i, Q i = true → P i = true) ∧ Conn (roadsP rs Q) a b ∧ ∀ j, j < rs.length → Q j = true → ¬ Conn (roadsP rs (dropP Q j)) a b := by
  obtain ⟨Q, ⟨h1, h2⟩, hm⟩ := least_ex (fun Q : Nat → Bool => (∀ i, Q i = true → P i = true) ∧ Conn (roadsP rs Q) a b) (fun Q => ((sel rs.length Q).length : Int)) (fun Q _ => by show (0 : Int) ≤ ((sel rs.length Q).length : Int); omega) ⟨P, fun _ h => h, h⟩
  refine ⟨Q, h1, h2, fun j hj hQ hc => ?_⟩
  have h3 := hm (dropP Q j) ⟨fun i hi => h1 i (by unfold dropP at hi; rw [Bool.and_eq_true] at hi; exact hi.1), hc⟩
  have h4 : ∀ n, ((sel n (dropP Q j)).length : Int) + (if j < n then 1 else 0) = (sel n Q).length := by
    intro n
    induction n with
    | zero => simp [sel]
    | succ n ih =>
      rw [sel_succ, sel_succ, List.length_append, List.length_append]
      by_cases e : n = j
      · subst e
        have d : dropP Q n n = false := by unfold dropP; simp
        rw [d, hQ]
        rw [if_neg (show ¬ n < n by omega)] at ih
        rw [if_pos (show n < n + 1 by omega)]
        simp
        omega
      · have d : dropP Q j n = Q n := by unfold dropP; simp [e]
        rw [d]
        have e2 : (j < n + 1) ↔ (j < n) := by omega
        simp only [e2]
        omega
  have h5 := h4 rs.length
  rw [if_pos hj] at h5
  omega
/-- A road for a dearer one: again a tree for all stops. -/
theorem Span.swap {rs : List RoadD} {N : Nat} {P : Nat → Bool} (h : Span rs N P) (hok : ∀ r ∈ rs, roadOk N r = true) {i : Nat} (hi : i < rs.length) (hPi : ¬ P i = true) {R : Nat → Bool} (hR : ¬ Conn (roadsP rs R) (roadAt rs i).a.toNat (roadAt rs i).b.toNat) :
    ∃ j, j < rs.length ∧ P j = true ∧ ¬ R j = true ∧ Span rs N (addP (dropP P j) i) := by
  obtain ⟨p1, p2, p3, p4, -, -, -⟩ := roadOk_iff.1 (hok _ (roadAt_mem hi))
  obtain ⟨Q, q1, q2, q3⟩ := least_choice (h.all (roadAt rs i).a.toNat (roadAt rs i).b.toNat (by omega) (by omega))
  obtain ⟨r, hr, hn⟩ := cross q2 hR
  obtain ⟨j, j1, j2, rfl⟩ := roadsP_mem.1 hr
  have hPj := q1 j j2
  have hij : i ≠ j := fun e => hPi (by rw [e]; exact hPj)
  have hRj : ¬ R j = true := fun g => hn (Conn.step .refl ⟨_, roadsP_mem.2 ⟨j, j1, g, rfl⟩, .inl ⟨rfl, rfl⟩⟩)
  have sub : ∀ k, dropP Q j k = true → dropP P j k = true := fun k hk => by
    unfold dropP at hk ⊢
    rw [Bool.and_eq_true] at hk ⊢
    exact ⟨q1 k hk.1, hk.2⟩
  -- the ends of i and j in what is left of Q
  have hends : (Conn (roadsP rs (dropP P j)) (roadAt rs i).a.toNat (roadAt rs j).a.toNat ∧ Conn (roadsP rs (dropP P j)) (roadAt rs i).b.toNat (roadAt rs j).b.toNat) ∨ (Conn (roadsP rs (dropP P j)) (roadAt rs i).a.toNat (roadAt rs j).b.toNat ∧ Conn (roadsP rs (dropP P j)) (roadAt rs i).b.toNat (roadAt rs j).a.toNat) := by
    have h1 := (conn_split j1 j2).1 q2
    have up : ∀ {a b : Nat}, Conn (roadsP rs (dropP Q j)) a b → Conn (roadsP rs (dropP P j)) a b := fun h => roadsP_mono (fun k _ hk => sub k hk) h
    rcases conn_push.1 h1 with g | ⟨g1, g2⟩
    · exact absurd g (q3 j j1 j2)
    · rcases g1 with g1 | g1 <;> rcases g2 with g2 | g2
      · exact absurd (g1.trans g2.symm) (q3 j j1 j2)
      · exact .inl ⟨up g1, up g2⟩
      · exact .inr ⟨up g1, up g2⟩
      · exact absurd (g1.trans g2.symm) (q3 j j1 j2)
  have hnij : ¬ Conn (roadsP rs (dropP P j)) (roadAt rs i).a.toNat (roadAt rs i).b.toNat := by
    intro g
    refine h.br j j1 hPj ?_
    rcases hends with ⟨a, b⟩ | ⟨a, b⟩
    · exact (a.symm.trans g).trans b
    · exact (b.symm.trans g.symm).trans a
  refine ⟨j, j1, hPj, hRj, ⟨fun x y hx hy => ?_, fun k hk hkP hc => ?_⟩⟩
  · refine conn_drop (fun r hr => ?_) (h.all x y hx hy)
    obtain ⟨m, m1, m2, rfl⟩ := roadsP_mem.1 hr
    by_cases e : m = j
    · subst e
      right
      have k1 : ∀ {a b : Nat}, Conn (roadsP rs (dropP P m)) a b → Conn (roadsP rs (addP (dropP P m) i)) a b := fun h => roadsP_mono (fun k _ hk => by unfold addP; rw [hk]; rfl) h
      have k2 : Conn (roadsP rs (addP (dropP P m) i)) (roadAt rs i).a.toNat (roadAt rs i).b.toNat := Conn.step .refl ⟨_, roadsP_mem.2 ⟨i, hi, by unfold addP; simp, rfl⟩, .inl ⟨rfl, rfl⟩⟩
      rcases hends with ⟨a, b⟩ | ⟨a, b⟩
      · exact ((k1 a).symm.trans k2).trans (k1 b)
      · exact ((k1 b).symm.trans k2.symm).trans (k1 a)
    · left
      exact roadsP_mem.2 ⟨m, m1, by unfold addP dropP; simp [m2, e], rfl⟩
  · by_cases e : k = i
    · subst e
      refine hnij (roadsP_mono (fun m _ hm => ?_) hc)
      unfold dropP addP at hm
      unfold dropP
      simp only [Bool.and_eq_true, Bool.or_eq_true, Bool.not_eq_true', beq_eq_false_iff_ne, beq_iff_eq] at hm ⊢
      rcases hm with ⟨h1 | h1, h2⟩
      · exact h1
      · exact absurd h1 h2
    · have hkP2 : P k = true ∧ k ≠ j := by
        unfold addP dropP at hkP
        simp only [Bool.and_eq_true, Bool.or_eq_true, Bool.not_eq_true', beq_eq_false_iff_ne, beq_iff_eq] at hkP
        rcases hkP with h1 | h1
        · exact h1
        · exact absurd h1 e
      -- without k: what is left of P, and i
      have hc2 : Conn (roadsP rs (dropP (dropP P j) k) ++ [roadAt rs i]) (roadAt rs k).a.toNat (roadAt rs k).b.toNat := by
        rw [← conn_add hi]
        refine roadsP_mono (fun m _ hm => ?_) hc
        unfold dropP addP at hm ⊢
        simp only [Bool.and_eq_true, Bool.or_eq_true, Bool.not_eq_true', beq_eq_false_iff_ne, beq_iff_eq] at hm ⊢
        rcases hm with ⟨h1 | h1, h2⟩
        · exact .inl ⟨h1, h2⟩
        · exact .inr h1
      have low : ∀ {a b : Nat}, Conn (roadsP rs (dropP (dropP P j) k)) a b → Conn (roadsP rs (dropP P j)) a b := fun h => roadsP_mono (fun m _ hm => by unfold dropP at hm ⊢; simp only [Bool.and_eq_true] at hm ⊢; exact hm.1) h
      have low2 : ∀ {a b : Nat}, Conn (roadsP rs (dropP (dropP P j) k)) a b → Conn (roadsP rs (dropP P k)) a b := fun h => roadsP_mono (fun m _ hm => by unfold dropP at hm ⊢; simp only [Bool.and_eq_true] at hm ⊢; exact ⟨hm.1.1, hm.2⟩) h
      have hkc : Conn (roadsP rs (dropP P j)) (roadAt rs k).a.toNat (roadAt rs k).b.toNat := Conn.step .refl ⟨_, roadsP_mem.2 ⟨k, hk, by unfold dropP; simp [hkP2.1, hkP2.2], rfl⟩, .inl ⟨rfl, rfl⟩⟩
      rcases conn_push.1 hc2 with g | ⟨g1, g2⟩
      · exact h.br k hk hkP2.1 (low2 g)
      · rcases g1 with g1 | g1 <;> rcases g2 with g2 | g2
        · exact h.br k hk hkP2.1 (low2 (g1.trans g2.symm))
        · exact hnij ((low g1).symm.trans (hkc.trans (low g2)))
        · exact hnij (((low g1).symm.trans (hkc.trans (low g2))).symm)
        · exact h.br k hk hkP2.1 (low2 (g1.trans g2.symm))

end Go.Proofs.YtkbkgkmogbkabaaDoor

/-
  The cheapest roads first, of equal ones those with the least index: the best tree for all stops. Plain Lean.
-/
namespace Go.Proofs.YtkbkgkmogbkabaaDoor
open Go.RowKit

/-- In order, no road closes a cycle. -/
def Forest (rs : List RoadD) (l : List Int) : Prop := ∀ k, k < l.length → ¬ Conn (edges rs (l.take k)) (roadAt rs (fn l k).toNat).a.toNat (roadAt rs (fn l k).toNat).b.toNat
def inP (l : List Int) : Nat → Bool := fun i => decide ((i : Int) ∈ l)
theorem inP_iff {l : List Int} {i : Nat} : inP l i = true ↔ (i : Int) ∈ l := by unfold inP; rw [decide_eq_true_iff]
def Valid (rs : List RoadD) (l : List Int) : Prop := ∀ x ∈ l, 0 ≤ x ∧ x < rs.length
theorem edges_inP {rs : List RoadD} {l : List Int} (hv : Valid rs l) {r : RoadD} : r ∈ edges rs l ↔ r ∈ roadsP rs (inP l) := by
  rw [edges_mem, roadsP_mem]
  constructor
  · rintro ⟨x, hx, rfl⟩
    obtain ⟨h1, h2⟩ := hv x hx
    obtain ⟨m, rfl⟩ := Int.eq_ofNat_of_zero_le h1
    exact ⟨m, by omega, inP_iff.2 hx, rfl⟩
  · rintro ⟨i, h1, h2, rfl⟩
    exact ⟨i, inP_iff.1 h2, rfl⟩
theorem conn_inP {rs : List RoadD} {l : List Int} (hv : Valid rs l) {a b : Nat} : Conn (edges rs l) a b ↔ Conn (roadsP rs (inP l)) a b := conn_congr (fun _ => edges_inP hv)
theorem fn_last (l : List Int) (x : Int) : fn (l ++ [x]) l.length = x := by rw [fn_get (by simp)]; simp
theorem fn_left {l m : List Int} {k : Nat} (h : k < l.length) : fn (l ++ m) k = fn l k := by rw [fn_get (by simp; omega), fn_get h, List.getElem_append_left h]
theorem Forest.push {rs : List RoadD} {l : List Int} {x : Int} (h : Forest rs l) (hx : ¬ Conn (edges rs l) (roadAt rs x.toNat).a.toNat (roadAt rs x.toNat).b.toNat) : Forest rs (l ++ [x]) := by
  intro k hk
  rw [List.length_append, List.length_singleton] at hk
  by_cases e : k = l.length
  · subst e
    rw [fn_last, List.take_left' rfl]
    exact hx
  · rw [fn_left (by omega), List.take_append_of_le_length (by omega)]
    exact h k (by omega)
theorem Forest.init {rs : List RoadD} {l : List Int} {x : Int} (h : Forest rs (l ++ [x])) : Forest rs l ∧ ¬ Conn (edges rs l) (roadAt rs x.toNat).a.toNat (roadAt rs x.toNat).b.toNat := by
  constructor
  · intro k hk
    have := h k (by simp; omega)
    rwa [fn_left hk, List.take_append_of_le_length (by omega)] at this
  · have := h l.length (by simp)
    rwa [fn_last, List.take_left' rfl] at this
/-- Each road of a forest is a bridge. -/
theorem forest_br {rs : List RoadD} : ∀ (n : Nat) (l : List Int), l.length = n → Valid rs l → Forest rs l → ∀ j, j < rs.length → inP l j = true → ¬ Conn (roadsP rs (dropP (inP l) j)) (roadAt rs j).a.toNat (roadAt rs j).b.toNat
  | 0, l, hl, _, _, j, _, hj => by
    have e := List.eq_nil_of_length_eq_zero hl
    subst e
    simp [inP] at hj
  | n + 1, l, hl, hv, hf, j, hjn, hj => by
    obtain ⟨l', x, rfl⟩ : ∃ l' x, l = l' ++ [x] := by
      have hne : l ≠ [] := by intro e; subst e; simp at hl
      exact ⟨l.dropLast, l.getLast hne, (List.dropLast_concat_getLast hne).symm⟩
    obtain ⟨f1, f2⟩ := hf.init
    have hv' : Valid rs l' := fun y hy => hv y (List.mem_append_left _ hy)
    obtain ⟨x0, x1⟩ := hv x (by simp)
    obtain ⟨i, rfl⟩ := Int.eq_ofNat_of_zero_le x0
    have hi : i < rs.length := by omega
    rw [Int.toNat_natCast, conn_inP hv'] at f2
    have ih := forest_br n l' (by simpa using hl) hv' f1
    by_cases e : j = i
    · subst e
      intro hc
      refine f2 (roadsP_mono (fun k _ hk => ?_) hc)
      unfold dropP at hk
      rw [Bool.and_eq_true, Bool.not_eq_true', beq_eq_false_iff_ne, inP_iff] at hk
      rw [inP_iff]
      rcases List.mem_append.1 hk.1 with g | g
      · exact g
      · simp at g; exact absurd (show k = j by omega) hk.2
    · have hjl : inP l' j = true := by
        rw [inP_iff] at hj ⊢
        rcases List.mem_append.1 hj with g | g
        · exact g
        · simp at g; exact absurd (show j = i by omega) e
      intro hc
      have hc2 : Conn (roadsP rs (dropP (inP l') j) ++ [roadAt rs i]) (roadAt rs j).a.toNat (roadAt rs j).b.toNat := by
        rw [← conn_add hi]
        refine roadsP_mono (fun k _ hk => ?_) hc
        unfold dropP at hk
        rw [Bool.and_eq_true, Bool.not_eq_true', beq_eq_false_iff_ne, inP_iff] at hk
        unfold addP dropP
        rw [Bool.or_eq_true, Bool.and_eq_true, Bool.not_eq_true', beq_eq_false_iff_ne, inP_iff, beq_iff_eq]
        rcases List.mem_append.1 hk.1 with g | g
        · exact .inl ⟨g, hk.2⟩
        · simp at g; exact .inr (show k = i by omega)
      have up : ∀ {a b : Nat}, Conn (roadsP rs (dropP (inP l') j)) a b → Conn (roadsP rs (inP l')) a b := fun h => roadsP_mono (fun k _ hk => by unfold dropP at hk; rw [Bool.and_eq_true] at hk; exact hk.1) h
      have hjc : Conn (roadsP rs (inP l')) (roadAt rs j).a.toNat (roadAt rs j).b.toNat := Conn.step .refl ⟨_, roadsP_mem.2 ⟨j, hjn, hjl, rfl⟩, .inl ⟨rfl, rfl⟩⟩
      rcases conn_push.1 hc2 with g | ⟨g1, g2⟩
      · exact ih j hjn hjl g
      · rcases g1 with g1 | g1 <;> rcases g2 with g2 | g2
        · exact ih j hjn hjl (g1.trans g2.symm)
        · exact f2 ((up g1).symm.trans (hjc.trans (up g2)))
        · exact f2 ((up g1).symm.trans (hjc.trans (up g2))).symm
        · exact ih j hjn hjl (g1.trans g2.symm)

theorem all_bits {N x : Nat} : (2 ^ N - 1).testBit x = true ↔ x < N := by rw [Nat.testBit_two_pow_sub_one, decide_eq_true_iff]
theorem treeP_valid {rs : List RoadD} {s : Nat} {l : List Int} (h : treeP rs s l) : Valid rs l := fun x hx => by
  obtain ⟨k, hk, rfl⟩ := List.getElem_of_mem hx
  have := (h.1 k hk).1
  rw [fn_get hk] at this
  exact ⟨this.1, this.2.1⟩
theorem tree_span {rs : List RoadD} {N : Nat} {l : List Int} (h : treeP rs (2 ^ N - 1) l) : Span rs N (inP l) := by
  have hv := treeP_valid h
  refine ⟨fun x y hx hy => ?_, forest_br l.length l rfl hv (fun k hk => (h.1 k hk).2)⟩
  rw [← conn_inP hv]
  exact treeP_cn h x y (all_bits.2 hx) (all_bits.2 hy)
theorem span_tree {rs : List RoadD} {N : Nat} {P : Nat → Bool} (hok : ∀ r ∈ rs, roadOk N r = true) (h : Span rs N P) : treeP rs (2 ^ N - 1) (sel rs.length P) := by
  have inn : ∀ k, k < (sel rs.length P).length → ∃ j : Nat, j < rs.length ∧ P j = true ∧ fn (sel rs.length P) k = j := by
    intro k hk
    obtain ⟨j, h1, h2, h3⟩ := sel_mem.1 (List.getElem_mem hk)
    exact ⟨j, h1, h2, by rw [fn_get hk]; exact h3⟩
  constructor
  · intro k hk
    obtain ⟨j, h1, h2, h3⟩ := inn k hk
    refine ⟨⟨by omega, by omega, fun h0 => fn_pair (sel_lt _ _) (by omega) hk⟩, fun hcyc => ?_⟩
    rw [h3] at hcyc
    refine h.br j h1 h2 (Conn.mono (fun q hq => ?_) hcyc)
    obtain ⟨x, hx, rfl⟩ := edges_mem.1 hq
    obtain ⟨m, hm2, rfl⟩ := List.getElem_of_mem hx
    rw [List.length_take] at hm2
    rw [List.getElem_take]
    obtain ⟨j', j1, j2, j3⟩ := inn m (by omega)
    have hlt := fn_pair (sel_lt rs.length P) (show m < k by omega) hk
    rw [j3, h3] at hlt
    rw [fn_get (by omega)] at j3
    rw [j3]
    refine roadsP_mem.2 ⟨j', j1, ?_, rfl⟩
    unfold dropP
    rw [j2, Bool.true_and, Bool.not_eq_true', beq_eq_false_iff_ne]
    omega
  · have ht : ∀ x, touch (2 ^ N - 1) (edges rs (sel rs.length P)) x → x < N := by
      rintro x (hx | ⟨r, hr, hx⟩)
      · exact all_bits.1 hx
      · obtain ⟨i, h1, -, rfl⟩ := sel_edge.1 hr
        have := roadOk_iff.1 (hok _ (roadAt_mem h1))
        rcases hx with rfl | rfl <;> omega
    exact fun x y hx hy => h.all x y (ht x hx) (ht y hy)

/-- The order of choices: by cost, then as lists. -/
def LeP (rs : List RoadD) (P Q : Nat → Bool) : Prop := costL rs (sel rs.length P) < costL rs (sel rs.length Q) ∨ (costL rs (sel rs.length P) = costL rs (sel rs.length Q) ∧ (sel rs.length P).length = (sel rs.length Q).length ∧ lexLe (sel rs.length P) (sel rs.length Q))
theorem lexLe.trans {a b c : List Int} (hab : a.length = b.length) (hbc : b.length = c.length) (h1 : lexLe a b) (h2 : lexLe b c) : lexLe a c := by
  obtain ⟨i, i1, i2, i3⟩ := h1
  obtain ⟨j, j1, j2, j3⟩ := h2
  rcases Nat.lt_trichotomy i j with g | g | g
  · refine ⟨i, i1, fun x hx => (i2 x hx).trans (j2 x (by omega)), ?_⟩
    rcases i3 with e | e
    · omega
    · right; rw [← j2 i g]; exact e
  · subst g
    refine ⟨i, i1, fun x hx => (i2 x hx).trans (j2 x hx), ?_⟩
    rcases i3 with e | e
    · exact .inl e
    · rcases j3 with e2 | e2
      · omega
      · right; omega
  · refine ⟨j, by omega, fun x hx => (i2 x (by omega)).trans (j2 x hx), ?_⟩
    rcases j3 with e | e
    · omega
    · right; rw [i2 j g]; exact e
theorem LeP.trans {rs : List RoadD} {P Q R : Nat → Bool} (h1 : LeP rs P Q) (h2 : LeP rs Q R) : LeP rs P R := by
  rcases h1 with h1 | ⟨h1, l1, x1⟩ <;> rcases h2 with h2 | ⟨h2, l2, x2⟩
  · exact .inl (by omega)
  · exact .inl (by omega)
  · exact .inl (by omega)
  · exact .inr ⟨by omega, by omega, x1.trans l1 l2 x2⟩
theorem sel_congr {n : Nat} {P Q : Nat → Bool} (h : ∀ i, i < n → P i = Q i) : sel n P = sel n Q := by
  unfold sel
  congr 1
  exact List.filter_congr (fun i hi => h i (List.mem_range.1 hi))
theorem sel_take (P : Nat → Bool) : ∀ (d m : Nat), ∃ t, sel (m + d) P = sel m P ++ t ∧ ∀ x ∈ t, (m : Int) ≤ x ∧ ∃ i : Nat, x = i ∧ P i = true
  | 0, m => ⟨[], by simp, fun x hx => by simp at hx⟩
  | d + 1, m => by
    obtain ⟨t, h1, h2⟩ := sel_take P d m
    refine ⟨t ++ (if P (m + d) then [((m + d : Nat) : Int)] else []), ?_, fun x hx => ?_⟩
    · rw [show m + (d + 1) = m + d + 1 by omega, sel_succ, h1, List.append_assoc]
    · rcases List.mem_append.1 hx with g | g
      · exact h2 x g
      · split at g
        · rename_i hp
          simp at g
          exact ⟨by omega, m + d, by omega, hp⟩
        · simp at g
/-- One index for a greater one: ahead of it. -/
theorem lex_swap {n i : Nat} {P Q : Nat → Bool} (hi : i < n) (hag : ∀ k, k < i → P k = Q k) (hP : P i = true) (hQ : ¬ Q i = true) (hl : (sel n P).length = (sel n Q).length) : lexLe (sel n P) (sel n Q) := by
  obtain ⟨t, t1, t2⟩ := sel_take P (n - i - 1) (i + 1)
  obtain ⟨u, u1, u2⟩ := sel_take Q (n - i) i
  rw [show i + 1 + (n - i - 1) = n by omega, sel_succ, hP, if_pos rfl] at t1
  rw [show i + (n - i) = n by omega, ← sel_congr hag] at u1
  have lt : (sel n P).length = (sel i P).length + 1 + t.length := by rw [t1]; simp; omega
  have lu : (sel n Q).length = (sel i P).length + u.length := by rw [u1]; simp
  refine ⟨(sel i P).length, by omega, fun j hj => ?_, .inr ?_⟩
  · rw [t1, u1, List.append_assoc, fn_left hj, fn_left hj]
  · have h1 : fn (sel n P) (sel i P).length = i := by
      rw [t1, fn_left (by simp), fn_last]
    have hu : 0 < u.length := by omega
    have h2 : fn (sel n Q) (sel i P).length = u[0] := by
      rw [fn_get (by omega)]
      simp only [u1]
      rw [List.getElem_append_right (Nat.le_refl _)]
      simp
    rw [h1, h2]
    obtain ⟨a, k, b, c⟩ := u2 u[0] (List.getElem_mem hu)
    by_cases e : k = i
    · subst e; exact absurd c hQ
    · omega
theorem sel_len_drop (P : Nat → Bool) (j : Nat) : ∀ n, ((sel n (dropP P j)).length : Int) + (if j < n ∧ P j = true then 1 else 0) = (sel n P).length
  | 0 => by simp [sel]
  | n + 1 => by
    have ih := sel_len_drop P j n
    rw [sel_succ, sel_succ, List.length_append, List.length_append]
    by_cases e : n = j
    · subst e
      have d : dropP P n n = false := by unfold dropP; simp
      rw [if_neg (show ¬ (n < n ∧ P n = true) by omega)] at ih
      rw [d]
      cases h : P n
      · simp; simpa using ih
      · simp; omega
    · have d : dropP P j n = P n := by unfold dropP; simp [e]
      have e2 : (j < n + 1 ∧ P j = true) ↔ (j < n ∧ P j = true) := by
        constructor
        · rintro ⟨a, b⟩; exact ⟨by omega, b⟩
        · rintro ⟨a, b⟩; exact ⟨by omega, b⟩
      rw [d]
      simp only [e2]
      push_cast
      omega
theorem swap_le {rs : List RoadD} {P : Nat → Bool} {i j : Nat} (hi : i < rs.length) (hj : j < rs.length) (hPi : ¬ P i = true) (hPj : P j = true) (hlt : ltC rs i j) : LeP rs (addP (dropP P j) i) P := by
  have hij : i ≠ j := fun e => hPi (by rw [e]; exact hPj)
  have hd : dropP (addP (dropP P j) i) i = dropP P j := by
    funext k
    show ((P k && !(k == j) || (k == i)) && !(k == i)) = (P k && !(k == j))
    by_cases e : k = i
    · subst e
      have : P k = false := by cases h : P k; rfl; exact absurd h hPi
      rw [this]; simp
    · have g : (k == i) = false := beq_eq_false_iff_ne.2 e
      rw [g]; simp
  have hai : addP (dropP P j) i i = true := by unfold addP; simp
  have c1 := sel_drop rs P j rs.length
  have c2 := sel_drop rs (addP (dropP P j) i) i rs.length
  have l1 := sel_len_drop P j rs.length
  have l2 := sel_len_drop (addP (dropP P j) i) i rs.length
  rw [if_pos ⟨hj, hPj⟩] at c1 l1
  rw [if_pos ⟨hi, hai⟩, hd] at c2 l2
  have hl : (sel rs.length (addP (dropP P j) i)).length = (sel rs.length P).length := by omega
  unfold ltC costAt at hlt
  rw [Int.toNat_natCast, Int.toNat_natCast] at hlt
  rcases hlt with h | ⟨h, h2⟩
  · exact .inl (by omega)
  · refine .inr ⟨by omega, hl, lex_swap hi (fun k hk => ?_) hai hPi hl⟩
    show (P k && !(k == j) || (k == i)) = P k
    have g1 : (k == i) = false := beq_eq_false_iff_ne.2 (by omega)
    have g2 : (k == j) = false := beq_eq_false_iff_ne.2 (by omega)
    rw [g1, g2]; simp

/-- The roads that are taken, in the order of their costs. -/
noncomputable def kl (rs : List RoadD) (f : Nat → Int) : Nat → List Int
  | 0 => []
  | k + 1 => @ite _ (Conn (edges rs (kl rs f k)) (roadAt rs (f k).toNat).a.toNat (roadAt rs (f k).toNat).b.toNat) (Classical.propDecidable _) (kl rs f k) (kl rs f k ++ [f k])
theorem kl_no {rs : List RoadD} {f : Nat → Int} {k : Nat} (h : Conn (edges rs (kl rs f k)) (roadAt rs (f k).toNat).a.toNat (roadAt rs (f k).toNat).b.toNat) : kl rs f (k + 1) = kl rs f k := by
  exact @if_pos _ (Classical.propDecidable _) h _ _ _
theorem kl_yes {rs : List RoadD} {f : Nat → Int} {k : Nat} (h : ¬ Conn (edges rs (kl rs f k)) (roadAt rs (f k).toNat).a.toNat (roadAt rs (f k).toNat).b.toNat) : kl rs f (k + 1) = kl rs f k ++ [f k] := by
  exact @if_neg _ (Classical.propDecidable _) h _ _ _
theorem kl_mem {rs : List RoadD} {f : Nat → Int} : ∀ k, ∀ x ∈ kl rs f k, ∃ m, m < k ∧ x = f m
  | 0, x, hx => by simp [kl] at hx
  | k + 1, x, hx => by
    by_cases h : Conn (edges rs (kl rs f k)) (roadAt rs (f k).toNat).a.toNat (roadAt rs (f k).toNat).b.toNat
    · rw [kl_no h] at hx
      obtain ⟨m, h1, h2⟩ := kl_mem k x hx
      exact ⟨m, by omega, h2⟩
    · rw [kl_yes h] at hx
      rcases List.mem_append.1 hx with g | g
      · obtain ⟨m, h1, h2⟩ := kl_mem k x g
        exact ⟨m, by omega, h2⟩
      · simp at g
        exact ⟨k, by omega, g⟩
theorem kl_up {rs : List RoadD} {f : Nat → Int} {k : Nat} : ∀ d, ∀ x ∈ kl rs f k, x ∈ kl rs f (k + d)
  | 0, x, hx => hx
  | d + 1, x, hx => by
    have h1 := kl_up d x hx
    show x ∈ kl rs f (k + d + 1)
    by_cases h : Conn (edges rs (kl rs f (k + d))) (roadAt rs (f (k + d)).toNat).a.toNat (roadAt rs (f (k + d)).toNat).b.toNat
    · rw [kl_no h]; exact h1
    · rw [kl_yes h]; exact List.mem_append_left _ h1
theorem kl_forest {rs : List RoadD} {f : Nat → Int} : ∀ k, Forest rs (kl rs f k)
  | 0 => fun k hk => by simp [kl] at hk
  | k + 1 => by
    by_cases h : Conn (edges rs (kl rs f k)) (roadAt rs (f k).toNat).a.toNat (roadAt rs (f k).toNat).b.toNat
    · rw [kl_no h]; exact kl_forest k
    · rw [kl_yes h]; exact (kl_forest k).push h

section
variable {rs : List RoadD} {N : Nat} {f : Nat → Int} (hok : ∀ r ∈ rs, roadOk N r = true) (ho : OutS rs rs.length rs.length f)
include ho
theorem OutS.inj {a b : Nat} (ha : a < rs.length) (hb : b < rs.length) (h : f a = f b) : a = b := by
  rcases Nat.lt_trichotomy a b with g | g | g
  · have := ho.srt a b g hb; rw [h] at this; exact absurd this (fun h => h.irr)
  · exact g
  · have := ho.srt b a g ha; rw [h] at this; exact absurd this (fun h => h.irr)
theorem kl_valid {k : Nat} (hk : k ≤ rs.length) : Valid rs (kl rs f k) := fun x hx => by
  obtain ⟨m, h1, rfl⟩ := kl_mem k x hx
  exact ho.rng m (by omega)
theorem kl_back {k m : Nat} (hk : k ≤ rs.length) (hm : m < k) (h : f m ∈ kl rs f k) : ∀ d, k ≤ m + 1 + d → f m ∈ kl rs f (m + 1)
  | 0, hd => by rw [show m + 1 = k by omega]; exact h
  | d + 1, hd => by
    by_cases e : k = m + 1
    · rw [← e]; exact h
    · obtain ⟨k', rfl⟩ : ∃ k', k = k' + 1 := ⟨k - 1, by omega⟩
      have h2 : f m ∈ kl rs f k' := by
        by_cases g : Conn (edges rs (kl rs f k')) (roadAt rs (f k').toNat).a.toNat (roadAt rs (f k').toNat).b.toNat
        · rw [kl_no g] at h; exact h
        · rw [kl_yes g] at h
          rcases List.mem_append.1 h with q | q
          · exact q
          · simp at q
            have := ho.inj (by omega) (by omega) q
            omega
      exact kl_back (by omega) (by omega) h2 d (by omega)
theorem kl_span (hall : ∀ x y, x < N → y < N → Conn rs x y) : Span rs N (inP (kl rs f rs.length)) := by
  have hv := kl_valid ho (Nat.le_refl rs.length)
  refine ⟨fun x y hx hy => ?_, forest_br _ _ rfl hv (kl_forest _)⟩
  rw [← conn_inP hv]
  refine conn_drop (fun r hr => ?_) (hall x y hx hy)
  obtain ⟨v, hvl, e⟩ := List.getElem_of_mem hr
  obtain ⟨k, hk, hfk⟩ := ho.sur v hvl
  have er : roadAt rs (f k).toNat = r := by rw [hfk, Int.toNat_natCast, roadAt_get hvl]; exact e
  by_cases h : Conn (edges rs (kl rs f k)) (roadAt rs (f k).toNat).a.toNat (roadAt rs (f k).toNat).b.toNat
  · right
    rw [er] at h
    refine h.mono (fun q hq => ?_)
    obtain ⟨z, hz, rfl⟩ := edges_mem.1 hq
    have := kl_up (rs.length - k) z hz
    rw [show k + (rs.length - k) = rs.length by omega] at this
    exact edges_mem.2 ⟨z, this, rfl⟩
  · left
    have h2 : f k ∈ kl rs f (k + 1) := by rw [kl_yes h]; simp
    have := kl_up (rs.length - (k + 1)) (f k) h2
    rw [show k + 1 + (rs.length - (k + 1)) = rs.length by omega] at this
    exact edges_mem.2 ⟨f k, this, er⟩
include hok
/-- What is taken is at most every tree for all stops. -/
theorem kl_le : ∀ (d m : Nat), m + d = rs.length → ∀ P, Span rs N P → (∀ k, k < m → inP (kl rs f rs.length) (f k).toNat = P (f k).toNat) → LeP rs (inP (kl rs f rs.length)) P
  | 0, m, hm, P, _, hag => by
    have e : sel rs.length (inP (kl rs f rs.length)) = sel rs.length P := sel_congr (fun i hi => by
      obtain ⟨k, hk, hfk⟩ := ho.sur i hi
      have := hag k (by omega)
      rwa [hfk, Int.toNat_natCast] at this)
    exact .inr ⟨by rw [e], by rw [e], by rw [e]; exact lexLe.refl _⟩
  | d + 1, m, hm, P, hP, hag => by
    have hmn : m < rs.length := by omega
    obtain ⟨f0, f1⟩ := ho.rng m hmn
    obtain ⟨i, hfi⟩ := Int.eq_ofNat_of_zero_le f0
    have hi : i < rs.length := by omega
    by_cases e : inP (kl rs f rs.length) i = P i
    · refine kl_le d (m + 1) (by omega) P hP (fun k hk => ?_)
      by_cases g : k = m
      · subst g; rw [hfi, Int.toNat_natCast]; exact e
      · exact hag k (by omega)
    · cases hT : inP (kl rs f rs.length) i
      · -- not taken: P has a cycle
        exfalso
        have hPi : P i = true := by cases h : P i; rw [hT, h] at e; exact absurd rfl e; rfl
        have hrej : Conn (edges rs (kl rs f m)) (roadAt rs i).a.toNat (roadAt rs i).b.toNat := by
          refine Classical.byContradiction fun h => ?_
          have h2 : f m ∈ kl rs f (m + 1) := by rw [kl_yes (by rw [hfi, Int.toNat_natCast]; exact h)]; simp
          have := kl_up (rs.length - (m + 1)) (f m) h2
          rw [show m + 1 + (rs.length - (m + 1)) = rs.length by omega, hfi] at this
          rw [inP_iff.2 this] at hT
          simp at hT
        refine hP.br i hi hPi (hrej.mono (fun q hq => ?_))
        obtain ⟨x, hx, rfl⟩ := edges_mem.1 hq
        obtain ⟨k, hk, rfl⟩ := kl_mem m x hx
        obtain ⟨g0, g1⟩ := ho.rng k (by omega)
        obtain ⟨z, hz⟩ := Int.eq_ofNat_of_zero_le g0
        have h3 := kl_up (rs.length - m) _ hx
        rw [show m + (rs.length - m) = rs.length by omega, hz] at h3
        have h4 := hag k hk
        rw [hz, Int.toNat_natCast, inP_iff.2 h3] at h4
        rw [hz, Int.toNat_natCast]
        refine roadsP_mem.2 ⟨z, by omega, ?_, rfl⟩
        unfold dropP
        rw [← h4, Bool.true_and, Bool.not_eq_true', beq_eq_false_iff_ne]
        intro e2
        have := ho.inj (a := k) (b := m) (by omega) hmn (by rw [hz, hfi, e2])
        omega
      · have hPi : ¬ P i = true := fun h => e (by rw [hT, h])
        have hv := kl_valid ho (Nat.le_refl rs.length)
        have hR := forest_br _ _ rfl hv (kl_forest rs.length) i hi hT
        obtain ⟨j, j1, j2, j3, hsp⟩ := hP.swap hok hi hPi hR
        have hij : j ≠ i := fun g => hPi (by rw [← g]; exact j2)
        have hTj : inP (kl rs f rs.length) j = false := by
          rw [Bool.eq_false_iff]
          intro g
          exact j3 (by unfold dropP; rw [g, Bool.true_and, Bool.not_eq_true', beq_eq_false_iff_ne]; exact hij)
        obtain ⟨q, hq, hfq⟩ := ho.sur j j1
        have hqm : m < q := by
          rcases Nat.lt_trichotomy m q with g | g | g
          · exact g
          · subst g; rw [hfi] at hfq; omega
          · have := hag q g
            rw [hfq, Int.toNat_natCast, hTj, j2] at this
            simp at this
        have hlt := ho.srt m q hqm hq
        rw [hfi, hfq] at hlt
        have h1 := swap_le hi j1 hPi j2 hlt
        refine LeP.trans (kl_le d (m + 1) (by omega) _ hsp (fun k hk => ?_)) h1
        by_cases g : k = m
        · subst g
          rw [hfi, Int.toNat_natCast, hT]
          unfold addP
          simp
        · have h2 := hag k (by omega)
          rw [h2]
          obtain ⟨g0, g1⟩ := ho.rng k (by omega)
          obtain ⟨z, hz⟩ := Int.eq_ofNat_of_zero_le g0
          rw [hz, Int.toNat_natCast]
          show P z = (P z && !(z == j) || (z == i))
          have n1 : (z == i) = false := beq_eq_false_iff_ne.2 (fun e2 => by
            have := ho.inj (a := k) (b := m) (by omega) hmn (by rw [hz, hfi, e2])
            omega)
          have n2 : (z == j) = false := beq_eq_false_iff_ne.2 (fun e2 => by
            have := ho.inj (a := k) (b := q) (by omega) hq (by rw [hz, hfq, e2])
            omega)
          rw [n1, n2]; simp
theorem kl_best (hall : ∀ x y, x < N → y < N → Conn rs x y) : IsBest rs (2 ^ N - 1) (sel rs.length (inP (kl rs f rs.length))) := by
  refine ⟨span_tree hok (kl_span ho hall), fun l' ht => ?_⟩
  have h := kl_le hok ho rs.length 0 (by omega) _ (tree_span ht) (fun k hk => by omega)
  have e : l' = sel rs.length (inP l') := tree_sel ht
  unfold LeP at h
  rw [← e] at h
  rcases h with h | ⟨h1, h2, h3⟩
  · exact .inl h
  · exact .inr ⟨h1, .inr ⟨h2, h3⟩⟩
end

end Go.Proofs.YtkbkgkmogbkabaaDoor

/-
  Contract of Spanning.
-/
namespace Go.Proofs.YtkbkgkmogbkabaaDoor
open Go.RowKit

theorem kl_nodup {rs : List RoadD} {f : Nat → Int} (ho : OutS rs rs.length rs.length f) : ∀ k, k ≤ rs.length → (kl rs f k).Nodup
  | 0, _ => List.nodup_nil
  | k + 1, hk => by
    by_cases h : Conn (edges rs (kl rs f k)) (roadAt rs (f k).toNat).a.toNat (roadAt rs (f k).toNat).b.toNat
    · rw [kl_no h]; exact kl_nodup ho k (by omega)
    · rw [kl_yes h, List.nodup_append]
      refine ⟨kl_nodup ho k (by omega), by simp, fun a ha b hb => ?_⟩
      simp at hb
      subst hb
      rintro rfl
      obtain ⟨m, hm, e⟩ := kl_mem k _ ha
      have := ho.inj (by omega) (by omega) e
      omega
theorem kl_len {rs : List RoadD} {f : Nat → Int} : ∀ k, (kl rs f k).length ≤ k
  | 0 => Nat.le_refl _
  | k + 1 => by
    have := kl_len (rs := rs) (f := f) k
    by_cases h : Conn (edges rs (kl rs f k)) (roadAt rs (f k).toNat).a.toNat (roadAt rs (f k).toNat).b.toNat
    · rw [kl_no h]; omega
    · rw [kl_yes h]; simp; omega
theorem kl_sorted {rs : List RoadD} {f : Nat → Int} (ho : OutS rs rs.length rs.length f) : sortL (kl rs f rs.length) = sel rs.length (inP (kl rs f rs.length)) := by
  refine pairwise_same _ _ (sortL_lt (kl_nodup ho _ (Nat.le_refl _))) (sel_lt _ _) (fun x => ?_)
  rw [sortL_mem, sel_mem]
  constructor
  · intro hx
    obtain ⟨h0, h1⟩ := kl_valid ho (Nat.le_refl _) x hx
    obtain ⟨m, rfl⟩ := Int.eq_ofNat_of_zero_le h0
    exact ⟨m, by omega, inP_iff.2 hx, rfl⟩
  · rintro ⟨i, -, h2, rfl⟩
    exact inP_iff.1 h2
theorem Only.grown {b : Nat} {w w' w2 : World} {u : Value} {xs : List Int} {o : Obj} (h : Only b w w') (hu : OwnI w.heap.size w' u xs) (hg : (w'.alloc o).grownBy w2 u.ownBlock) : Only b w w2 := by
  refine ⟨by rw [hg.os]; exact h.os, by rw [hg.tape]; exact h.tape, by rw [hg.output]; exact h.output, ?_, fun k hk hb => ?_⟩
  · have h1 := hg.size
    have h2 := h.size
    simp at h1
    omega
  · have h2 := h.size
    rw [hg.block k (by simp; omega) (fun e => by have := (hu.lt k e.symm).1; omega)]
    rw [Below.block (Below.alloc (Below.refl w'.heap.size w') (Nat.le_refl _) o) k (by omega)]
    exact h.block k hk hb
theorem rowL_succ (n : Nat) (f : Nat → Int) : rowL (n + 1) f = rowL n f ++ [f n] := by unfold rowL; rw [List.range_succ, List.map_append]; rfl

def allN (N : Nat) : Nat := 2 ^ N - 1
theorem allN_in {N : Nat} (h1 : 1 ≤ N) (h8 : N ≤ 8) : 0 < allN N ∧ allN N < 2 ^ N ∧ allN N < 256 := by
  have h2 : (2 : Nat) ^ 1 ≤ 2 ^ N := Nat.pow_le_pow_right (by decide) h1
  have h3 : (2 : Nat) ^ N ≤ 2 ^ 8 := Nat.pow_le_pow_right (by decide) h8
  have e : (2 : Nat) ^ 8 = 256 := by decide
  unfold allN
  omega
theorem cn_all {rs : List RoadD} {N : Nat} : Cn rs (allN N) ↔ ∀ x y, x < N → y < N → Conn rs x y := by
  unfold Cn allN
  constructor
  · intro h x y hx hy; exact h x y (all_bits.2 hx) (all_bits.2 hy)
  · intro h x y hx hy; exact h x y (all_bits.1 hx) (all_bits.1 hy)

set_option maxRecDepth 20000 in
set_option maxHeartbeats 4000000 in
theorem Spanning_bad (vr : Value) (m : MapD) (w : World) (hm : MapR w vr m) (hb : mapOk m = false) :
    Calls Tryd.prog 27 #[.agg #[.int .i64 m.n, vr]] w fun e w' => e = .returned (.tuple #[.slice none 0 0, .int .i64 2]) ∧ Ext w w' := by
  obtain ⟨ao, cap, rfl⟩ := hm.shape
  have HV := hid hm
  have HB := hid hb
  clear hm hb
  go_enter Tryd.func27, Tryd.ntmps27
  go_wp2_with (fail)
  refine (valid_any _ m _ (MapR.ext HV.out (Ext.ofAlloc _ _))).mono ?_
  rw [HB.out]
  rintro e w1 ⟨rfl, he⟩
  have HE := hid ((Ext.ofAlloc w _).trans he)
  clear he
  go_wp2
  go_ret2
  exact ⟨rfl, HE.out⟩

set_option maxRecDepth 20000 in
set_option maxHeartbeats 1600000 in
theorem Spanning_none (vr : Value) (N : Nat) (rs : List RoadD) (w : World) (hv : Roads w vr rs) (hok : mapOk ⟨N, rs⟩ = true) (hTZ : TZ w) (hn : ¬ Cn rs (allN N)) :
    Calls Tryd.prog 27 #[.agg #[.int .i64 N, vr]] w fun e w' => e = .returned (.tuple #[.slice none 0 0, .int .i64 4]) ∧ Ext w w' := by
  obtain ⟨ao, cap, rfl⟩ := hv.shape
  have HV := hid hv
  have HTZ := hid hTZ
  have HOk := hid hok
  have HCn := hid hn
  have hok2 := hok
  unfold mapOk at hok2
  rw [Bool.and_eq_true, decide_eq_true_iff, List.all_eq_true] at hok2
  obtain ⟨⟨h1, h8, h16⟩, hall⟩ := hok2
  dsimp only at h1 h8 h16 hall
  have hN1 : 1 ≤ N := by omega
  have hN8 : N ≤ 8 := by omega
  have HAll := hid hall
  obtain ⟨a0, aN, a256⟩ := allN_in hN1 hN8
  have HaN := hid aN
  obtain ⟨S, hS⟩ : ∃ S, S = allN N := ⟨_, rfl⟩
  have HSS := hid hS
  have hp : (2 : Int) ^ N = ((S + 1 : Nat) : Int) := by
    have e : ((2 : Int) ^ N) = ((2 ^ N : Nat) : Int) := by simp
    have e2 : 2 ^ N = S + 1 := by rw [hS]; unfold allN; have : 0 < 2 ^ N := Nat.pow_pos (by decide); omega
    rw [e, e2]
  rw [← hS] at a0 a256
  have hw1 : IntKind.i64.wrap (2 ^ N) = ((S + 1 : Nat) : Int) := by rw [hp]; exact wraps_i64_62 _ (by omega) (by omega)
  have hw2 : IntKind.i64.wrap (((S + 1 : Nat) : Int) - 1) = (S : Int) := by rw [show ((S + 1 : Nat) : Int) - 1 = (S : Int) by omega]; exact wraps_i64_62 _ (by omega) (by omega)
  have hw3 : IntKind.i64.wrap (S : Int) = (S : Int) := wraps_i64_62 _ (by omega) (by omega)
  have hw4 : IntKind.i64.wrap ((S : Int) + 1 - 1) = (S : Int) := by rw [show (S : Int) + 1 - 1 = (S : Int) by omega]; exact hw3
  have X0 := hid (Box2.alloc w 31 (.int .i64 N) (.slice ao rs.length cap))
  clear hv hok hTZ hn hall aN hS hp
  go_enter Tryd.func27, Tryd.ntmps27
  go_wp2_with (fail)
  refine (valid_any _ ⟨N, rs⟩ _ (Roads.ext HV.out (Ext.ofAlloc _ _))).mono ?_
  rw [HOk.out]
  rintro e w1 ⟨rfl, he⟩
  have HE := hid ((Ext.ofAlloc w _).trans he)
  obtain ⟨c0, c1⟩ := (X0.out.ext he).cells
  have HX := hid (X0.out.ext he)
  clear he
  go_wp2
  refine wp_region_held_drew (S := (fun w' => w'.cell? ⟨w.heap.size, 0, none⟩ = some (.int .i64 N) ∧ w'.cell? ⟨w.heap.size, 1, none⟩ = some (.slice ao rs.length cap))) (by kernel_rfl) ?hSa0 (fun hHeld => ?_)
  case hSa0 => (first | (exact ⟨c0, c1⟩) | ((try dsimp only); exact ⟨c0, c1⟩))
  refine wpAnyH_tk 0 (v := ?va0) rfl (by kernel_rfl) (by kernel_rfl) (by kernel_rfl) (fun _ _ _ h => h) (by rfl) ?hya0 (by assumption) ?_
  case hya0 => (intro w hSw; (try dsimp only at hSw); go_simp <;> with_reducible rfl)
  (try simp only [Act.put, List.setIfInBounds_toArray, List.set_cons_zero, List.set_cons_succ])
  refine wpAnyH_tk 1 (v := ?va1) rfl (by kernel_rfl) (by kernel_rfl) (by kernel_rfl) (fun _ _ _ h => h) (by rfl) ?hya1 (by assumption) ?_
  case hya1 => (intro w hSw; (try dsimp only at hSw); go_simp <;> with_reducible rfl)
  (try simp only [Act.put, List.setIfInBounds_toArray, List.set_cons_zero, List.set_cons_succ])
  refine wpAnyH_tk 2 (v := ?va2) rfl (by kernel_rfl) (by kernel_rfl) (by kernel_rfl) (fun _ _ _ h => h) (by rfl) ?hya2 (by assumption) ?_
  case hya2 => (intro w hSw; (try dsimp only at hSw); go_simp <;> with_reducible rfl)
  (try simp only [Act.put, List.setIfInBounds_toArray, List.set_cons_zero, List.set_cons_succ])
  refine wpAnyH_tk 3 (v := ?va3) rfl (by kernel_rfl) (by kernel_rfl) (by kernel_rfl) (fun _ _ _ h => h) (by rfl) ?hya3 (by assumption) ?_
  case hya3 => (intro w hSw; (try dsimp only at hSw); go_simp <;> with_reducible rfl)
  (try simp only [Act.put, List.setIfInBounds_toArray, List.set_cons_zero, List.set_cons_succ])
  refine wpAnyH_tk 4 (v := ?va4) rfl (by kernel_rfl) (by kernel_rfl) (by kernel_rfl) (fun _ _ _ h => h) (by rfl) ?hya4 (by assumption) ?_
  case hya4 => (intro w hSw; (try dsimp only at hSw); go_simp <;> with_reducible rfl)
  (try simp only [Act.put, List.setIfInBounds_toArray, List.set_cons_zero, List.set_cons_succ])
  refine wpAnyH_one 5 rfl (by kernel_rfl) (by rfl) (fun K hK => ?_)
  go_simp
  (refine (reachable_any _ N rs S _ (Roads.ext HV.out (HE.out.drew)) HAll.out (by omega) hN8 a0 (by rw [HSS.out]; exact HaN.out) (HTZ.out.ext (HE.out.drew))).mono ?_; rintro eR w2 ⟨haR, he2⟩; rw [HSS.out] at haR; have HE2 := hid (HE.out.drew.trans he2); have HX2 := hid (HX.out.ext ((Ext.refl w1).drew.trans he2)); clear he2; obtain rfl : eR = .returned (.bool false) := (by rcases haR with ⟨h, -⟩ | ⟨-, h⟩; exact absurd h HCn.out; exact h); clear haR)
  refine hK.out _ _ ?hSa6 (fun hHeld => ?_)
  case hSa6 => (first | (exact HX2.out.cells) | ((try dsimp only); exact HX2.out.cells))
  clear hK K
  (try simp only [Act.put, List.setIfInBounds_toArray, List.set_cons_zero, List.set_cons_succ])
  refine wpAnyH_tk 6 (v := ?va6) rfl (by kernel_rfl) (by kernel_rfl) (by kernel_rfl) (fun _ _ _ h => h) (by rfl) ?hya6 (by assumption) ?_
  case hya6 => (intro w hSw; (try dsimp only at hSw); go_simp <;> with_reducible rfl)
  (try simp only [Act.put, List.setIfInBounds_toArray, List.set_cons_zero, List.set_cons_succ])
  refine wpAnyH_done (by kernel_rfl) ?_ _
  clear hHeld c0 c1 hw1 hw2 hw3 hw4
  go_wp2
  go_ret2
  exact ⟨rfl, HE2.out⟩

set_option maxRecDepth 20000 in
set_option maxHeartbeats 1600000 in
theorem Spanning_ok (vr : Value) (N : Nat) (rs : List RoadD) (w : World) (hv : Roads w vr rs) (hok : mapOk ⟨N, rs⟩ = true) (hTZ : TZ w) (hn : Cn rs (allN N)) :
    Calls Tryd.prog 27 #[.agg #[.int .i64 N, vr]] w fun e w' => ∃ v l, e = .returned (.tuple #[v, .int .i64 0]) ∧ OwnI w.heap.size w' v l ∧ Hid (IsBest rs (allN N) l) ∧ Ext w w' := by
  obtain ⟨ao, cap, rfl⟩ := hv.shape
  have HV := hid hv
  have HTZ := hid hTZ
  have HOk := hid hok
  have HCn := hid hn
  have hok2 := hok
  unfold mapOk at hok2
  rw [Bool.and_eq_true, decide_eq_true_iff, List.all_eq_true] at hok2
  obtain ⟨⟨h1, h8, h16⟩, hall⟩ := hok2
  dsimp only at h1 h8 h16 hall
  have hN1 : 1 ≤ N := by omega
  have hN8 : N ≤ 8 := by omega
  have HAll := hid hall
  obtain ⟨a0, aN, a256⟩ := allN_in hN1 hN8
  have HaN := hid aN
  obtain ⟨S, hS⟩ : ∃ S, S = allN N := ⟨_, rfl⟩
  have HSS := hid hS
  have hp : (2 : Int) ^ N = ((S + 1 : Nat) : Int) := by
    have e : ((2 : Int) ^ N) = ((2 ^ N : Nat) : Int) := by simp
    have e2 : 2 ^ N = S + 1 := by rw [hS]; unfold allN; have : 0 < 2 ^ N := Nat.pow_pos (by decide); omega
    rw [e, e2]
  rw [← hS] at a0 a256
  have hw1 : IntKind.i64.wrap (2 ^ N) = ((S + 1 : Nat) : Int) := by rw [hp]; exact wraps_i64_62 _ (by omega) (by omega)
  have hw2 : IntKind.i64.wrap (((S + 1 : Nat) : Int) - 1) = (S : Int) := by rw [show ((S + 1 : Nat) : Int) - 1 = (S : Int) by omega]; exact wraps_i64_62 _ (by omega) (by omega)
  have hw3 : IntKind.i64.wrap (S : Int) = (S : Int) := wraps_i64_62 _ (by omega) (by omega)
  have hw4 : IntKind.i64.wrap ((S : Int) + 1 - 1) = (S : Int) := by rw [show (S : Int) + 1 - 1 = (S : Int) by omega]; exact hw3
  have X0 := hid (Box2.alloc w 31 (.int .i64 N) (.slice ao rs.length cap))
  clear hv hok hTZ hn hall aN hS hp
  go_enter Tryd.func27, Tryd.ntmps27
  go_wp2_with (fail)
  refine (valid_any _ ⟨N, rs⟩ _ (Roads.ext HV.out (Ext.ofAlloc _ _))).mono ?_
  rw [HOk.out]
  rintro e w1 ⟨rfl, he⟩
  have HE := hid ((Ext.ofAlloc w _).trans he)
  obtain ⟨c0, c1⟩ := (X0.out.ext he).cells
  have HX := hid (X0.out.ext he)
  clear he
  go_wp2
  refine wp_region_held_drew (S := (fun w' => w'.cell? ⟨w.heap.size, 0, none⟩ = some (.int .i64 N) ∧ w'.cell? ⟨w.heap.size, 1, none⟩ = some (.slice ao rs.length cap))) (by kernel_rfl) ?hSb0 (fun hHeld => ?_)
  case hSb0 => (first | (exact ⟨c0, c1⟩) | ((try dsimp only); exact ⟨c0, c1⟩))
  refine wpAnyH_tk 0 (v := ?vb0) rfl (by kernel_rfl) (by kernel_rfl) (by kernel_rfl) (fun _ _ _ h => h) (by rfl) ?hyb0 (by assumption) ?_
  case hyb0 => (intro w hSw; (try dsimp only at hSw); go_simp <;> with_reducible rfl)
  (try simp only [Act.put, List.setIfInBounds_toArray, List.set_cons_zero, List.set_cons_succ])
  refine wpAnyH_tk 1 (v := ?vb1) rfl (by kernel_rfl) (by kernel_rfl) (by kernel_rfl) (fun _ _ _ h => h) (by rfl) ?hyb1 (by assumption) ?_
  case hyb1 => (intro w hSw; (try dsimp only at hSw); go_simp <;> with_reducible rfl)
  (try simp only [Act.put, List.setIfInBounds_toArray, List.set_cons_zero, List.set_cons_succ])
  refine wpAnyH_tk 2 (v := ?vb2) rfl (by kernel_rfl) (by kernel_rfl) (by kernel_rfl) (fun _ _ _ h => h) (by rfl) ?hyb2 (by assumption) ?_
  case hyb2 => (intro w hSw; (try dsimp only at hSw); go_simp <;> with_reducible rfl)
  (try simp only [Act.put, List.setIfInBounds_toArray, List.set_cons_zero, List.set_cons_succ])
  refine wpAnyH_tk 3 (v := ?vb3) rfl (by kernel_rfl) (by kernel_rfl) (by kernel_rfl) (fun _ _ _ h => h) (by rfl) ?hyb3 (by assumption) ?_
  case hyb3 => (intro w hSw; (try dsimp only at hSw); go_simp <;> with_reducible rfl)
  (try simp only [Act.put, List.setIfInBounds_toArray, List.set_cons_zero, List.set_cons_succ])
  refine wpAnyH_tk 4 (v := ?vb4) rfl (by kernel_rfl) (by kernel_rfl) (by kernel_rfl) (fun _ _ _ h => h) (by rfl) ?hyb4 (by assumption) ?_
  case hyb4 => (intro w hSw; (try dsimp only at hSw); go_simp <;> with_reducible rfl)
  (try simp only [Act.put, List.setIfInBounds_toArray, List.set_cons_zero, List.set_cons_succ])
  refine wpAnyH_one 5 rfl (by kernel_rfl) (by rfl) (fun K hK => ?_)
  go_simp
  (refine (reachable_any _ N rs S _ (Roads.ext HV.out (HE.out.drew)) HAll.out (by omega) hN8 a0 (by rw [HSS.out]; exact HaN.out) (HTZ.out.ext (HE.out.drew))).mono ?_; rintro eR w2 ⟨haR, he2⟩; rw [HSS.out] at haR; have HE2 := hid (HE.out.drew.trans he2); have HX2 := hid (HX.out.ext ((Ext.refl w1).drew.trans he2)); clear he2; obtain rfl : eR = .returned (.bool true) := (by rcases haR with ⟨-, h⟩ | ⟨h, -⟩; exact h; exact absurd HCn.out h); clear haR)
  refine hK.out _ _ ?hSb6 (fun hHeld => ?_)
  case hSb6 => (first | (exact HX2.out.cells) | ((try dsimp only); exact HX2.out.cells))
  clear hK K
  (try simp only [Act.put, List.setIfInBounds_toArray, List.set_cons_zero, List.set_cons_succ])
  refine wpAnyH_tk 6 (v := ?vb6) rfl (by kernel_rfl) (by kernel_rfl) (by kernel_rfl) (fun _ _ _ h => h) (by rfl) ?hyb6 (by assumption) ?_
  case hyb6 => (intro w hSw; (try dsimp only at hSw); go_simp <;> with_reducible rfl)
  (try simp only [Act.put, List.setIfInBounds_toArray, List.set_cons_zero, List.set_cons_succ])
  refine wpAnyH_done (by kernel_rfl) ?_ _
  clear hHeld c0 c1 hw1 hw2 hw3 hw4
  obtain ⟨c0, c1⟩ := HX2.out.cells
  obtain ⟨n, hnn⟩ : ∃ n, n = rs.length := ⟨_, rfl⟩
  have HNN := hid hnn
  have hn16 : n ≤ 16 := by omega
  obtain ⟨i0, hi, hz0, hz1, hz2⟩ := info_parts info_int
  rw [← hnn] at c1
  clear hnn
  go_wp2
  clear c0 c1
  go_loopg [23, 4] n (fun g i v wr => ∃ (k : Nat) (z : Value), k + g = n ∧ i = .int .i64 k ∧ v = z ∧ Hid (OwnI w2.heap.size wr z (rowL k (fun x => (x : Int)))) ∧ Hid (k = 0 → z = .slice none 0 0) ∧ Hid (Ext w2 wr))
  case atStart => exact ⟨0, _, by omega, rfl, rfl, World.ownsRow_nil _ _ _ _, fun _ => rfl, Ext.refl _⟩
  case round =>
    obtain ⟨k, vS, hk, rfl, hvz, HO, HZ, E⟩ := hrel
    have hvz2 := hvz.symm
    subst hvz2
    have hkn : k ≤ n := by omega
    have Hk := hid hk
    clear hk
    by_cases hlt : k < n
    · have hki : (k : Int) < n := by omega
      obtain ⟨av, nv, cv, rfl⟩ := own_shape HO.out
      have hsz := E.out.size
      have hrl : (rowL k (fun x => (x : Int))).length = k := rowL_len _ _
      go_wp2_with (at_builtin; go_must (refine wpList_append_own_at _ rfl _ _ 25 rfl w2.heap.size 3 i0 (.int .i64 0) 1 8 Tryd.underlying25 hi hz0 hz1 hz2 rfl (by decide) _ _ _ rfl (HO.out.alloc _) ⟨wr.heap.size, 0, none⟩ 1 1 [.int .i64 k] rfl rfl (cell_one_new _ _ _) (by intro x hx; simp at hx; subst hx; rfl) ?c3 ?c4 ?c5 ?_))
      case c3 => unfold maxLen; omega
      case c4 => omega
      case c5 => simp; omega
      intro v' wA hown' hg _ _
      have hR := OwnI.push (xs := rowL k (fun x => (x : Int))) (by rw [rowL_len]) hown'
      rw [← rowL_succ] at hR
      have HR := hid hR
      have HE5 := hid (Ext.push E.out HO.out (Nat.le_refl _) hg)
      clear hown' hg hR hsz
      go_wp2
      go_roundg (gk - 1)
      case rel => exact ⟨k + 1, _, by have := Hk.out; omega, by go_num, rfl, HR, fun h => by omega, HE5⟩
      case measure => have := Hk.out; omega
    · have ek : k = n := by omega
      have HS : Hid (Calls Tryd.prog 47 #[vS, .func (.func 48) #[] #[.pointer (some ⟨w.heap.size, 0, none⟩)]] wr fun e w' => e = .returned (.tuple #[]) ∧ ∃ f', Hid (OutS rs n n f') ∧ OwnI w2.heap.size w' vS (rowL n f') ∧ Ext w2 w') := by
        rcases Nat.eq_zero_or_pos n with h0 | h0
        · have hv0 := HZ.out (by omega)
          subst hv0
          refine (SortStable_none wr w.heap.size).mono ?_
          rintro e w' ⟨rfl, he⟩
          refine ⟨rfl, fun x => (x : Int), ?_, ?_, E.out.trans he⟩
          · show OutS rs n n _
            rw [h0]; exact OutS.start
          · rw [h0]; exact World.ownsRow_nil _ _ _ _
        · have ho := HO.out
          rw [ek] at ho
          obtain ⟨-, ⟨-, h⟩ | ⟨g, cp, cur, rfl, hg, -⟩⟩ := id ho
          · rw [rowL_len] at h; omega
          · rw [rowL_len] at ho ⊢
            exact SortStable_any w2 wr w.heap.size ao cap rs g cp n _ (HX2.out.cells.2) (Roads.ext HV.out HE2.out) (fun r hr => by have := roadOk_iff.1 (HAll.out r hr); omega) HNN.out h0 hn16 E.out hg ho (by rw [HNN.out]; exact OutS.start)
      have hki : ¬ ((k : Int) < n) := by omega
      clear ek hlt HO HZ
      go_wp2_with (fail)
      refine HS.out.mono ?_
      rintro e w3 ⟨rfl, f, hf, ho3, he3⟩
      have HF := hid hf.out
      have HO3 := hid ho3
      have HE3 := hid he3
      obtain ⟨av, cv, rfl⟩ := own_len ho3
      have HLN : Hid ((rowL n f).length = n) := rowL_len n f
      clear HS hf ho3 he3 E
      go_wp2_with (fail)
      refine (apart_any _).mono ?_
      rintro e w4 ⟨rfl, he4⟩
      have HO4 := hid (ownsRow_ext HO3.out he4)
      have HE4 := hid (HE3.out.trans he4)
      have hb : PBox (w4.alloc (.cells #[.int .i64 0, .int .i64 1, .int .i64 2, .int .i64 3, .int .i64 4, .int .i64 5, .int .i64 6, .int .i64 7] 69)) w4.heap.size (fun i => (i : Int)) := heap_alloc_new w4 _
      have hE4 := Ext.ofAlloc w4 (.cells #[.int .i64 0, .int .i64 1, .int .i64 2, .int .i64 3, .int .i64 4, .int .i64 5, .int .i64 6, .int .i64 7] 69)
      obtain ⟨w5, hw5⟩ : ∃ x, x = w4.alloc (.cells #[.int .i64 0, .int .i64 1, .int .i64 2, .int .i64 3, .int .i64 4, .int .i64 5, .int .i64 6, .int .i64 7] 69) := ⟨_, rfl⟩
      have hw5s : w5.heap.size = w4.heap.size + 1 := by rw [hw5]; simp
      have hout : OwnI w5.heap.size (w5.alloc (.cells #[] 3)) (.slice (some ⟨w5.heap.size, 0, none⟩) 0 0) [] := World.ownsRow_lit w5 #[] 0 (Nat.le_refl _) (by decide) rfl
      have hE5 := Ext.ofAlloc w5 (.cells #[] 3)
      have hb5 : PBox (w5.alloc (.cells #[] 3)) w4.heap.size (fun i => (i : Int)) := by
        have := hb
        rw [← hw5] at this
        exact this.ext hE5
      have H45 : Hid (Ext w4 w5) := by show Ext w4 w5; rw [hw5]; exact hE4
      rw [hw5] at hout hE5 hb5
      have HOUT := hid hout
      have HE5' := hid hE5
      have HB5 := hid hb5
      clear he4 hb hE4 hout hE5 hb5
      go_wp2
      rw [← hw5] at HOUT HE5' HB5 ⊢
      rw [← hw5s]
      have H5S := hid hw5s
      generalize w5.alloc (.cells #[] 3) = W6 at HOUT HE5' HB5 ⊢
      obtain ⟨gp, hgp⟩ : ∃ g, g = w4.heap.size := ⟨_, rfl⟩
      rw [← hgp] at HB5 ⊢
      have HGP := hid hgp
      clear hw5 hw5s hgp
      go_loopg [38, 7] n (fun g i u wr => ∃ (k : Nat) (p : Nat → Int) (z : Value), k + g = n ∧ i = .int .i64 k ∧ u = z ∧ Hid (Lab (edges rs (kl rs f k)) p) ∧ Hid (PBox wr gp p) ∧ Hid (OwnI w5.heap.size wr z (kl rs f k)) ∧ Hid (Only gp w5 wr))
      case atStart => exact ⟨0, _, _, by omega, rfl, rfl, Lab.nil, HB5, HOUT, Only.ofExt HE5'.out⟩
      case round =>
        clear HOUT HE5' HB5
        obtain ⟨k, p, uS, hk, rfl, hvz, LAB, PB, OUT, ON⟩ := hrel
        have hvz2 := hvz.symm
        subst hvz2
        have hkn : k ≤ n := by omega
        have Hk := hid hk
        clear hk
        have EA : Hid (Ext w4 wr) := ON.out.ext H45.out (by rw [HGP.out]; exact Nat.le_refl _)
        by_cases hlt : k < n
        · have hki : (k : Int) < (rowL n f).length := by rw [HLN.out]; omega
          have hO := ownsRow_ext HO4.out EA.out
          obtain ⟨go, og, rfl, -, hcl⟩ := (OwnI.ints hO (by rw [HLN.out]; omega)).get k (by rw [HLN.out]; exact hlt)
          have dk := hcl _ (Ext.refl _)
          rw [rowL_fn hlt] at dk
          obtain ⟨r1, r2⟩ := HF.out.rng k hlt
          obtain ⟨x, hx⟩ := Int.eq_ofNat_of_zero_le r1
          rw [hx] at dk r2
          have HFX : Hid (f k = (x : Int)) := hx
          have hxl : x < rs.length := by have := HNN.out; omega
          have hxi : (x : Int) < rs.length := by omega
          obtain ⟨bb, off, rfl, -, hcc⟩ := Roads.get HV.out x hxl
          obtain ⟨d0, d1, d2⟩ := hcc _ (HE2.out.trans (HE4.out.trans EA.out))
          have c1 := (HX2.out.ext (HE4.out.trans EA.out)).cells.2
          obtain ⟨q1, q2, q3, q4, -, q6, q7⟩ := roadOk_iff.1 (HAll.out _ (roadAt_mem hxl))
          obtain ⟨r, hr⟩ : ∃ r, r = roadAt rs x := ⟨_, rfl⟩
          rw [← hr] at d0 d1 d2 q1 q2 q3 q4 q6 q7
          have HRR : Hid (roadAt rs (f k).toNat = r) := by show _ = _; rw [hx, hr]; rfl
          have ha8 : r.a < 8 := by omega
          have hb8 : r.b < 8 := by omega
          have hla : r.a.toNat < 8 := by omega
          have hlb : r.b.toNat < 8 := by omega
          clear hO hcl hcc r1 r2 hx hr
          go_wp2_with (fail)
          refine (join_any gp p r _ PB.out q1 ha8 q3 hb8).mono ?_
          rintro e w7 ⟨rfl, hpb, hon⟩
          have ON7 := hid (ON.out.trans hon)
          have PB7 := hid hpb
          have OUT7 : Hid (OwnI w5.heap.size w7 uS (kl rs f k)) := OwnI.heap OUT.out (fun j hj => hon.block j (OwnI.lt OUT.out j hj).2 (by have h1 := (OwnI.lt OUT.out j hj).1; have h2 := H5S.out; have h3 := HGP.out; omega))
          have HLI := hid (LAB.out r.a.toNat r.b.toNat hla hlb)
          have HLJ := hid (LAB.out.join hla hlb)
          clear hpb hon d0 d1 d2 c1 dk
          by_cases hj : p r.a.toNat = p r.b.toNat
          · have hjb : (p r.a.toNat != p r.b.toNat) = false := by rw [hj]; simp
            have hkno : kl rs f (k + 1) = kl rs f k := kl_no (by rw [HRR.out]; exact HLI.out.1 hj)
            have hsame := joinL_same hj
            have LAB7 : Hid (Lab (edges rs (kl rs f (k + 1))) p) := by show Lab _ _; rw [hkno]; exact LAB.out
            have OUT8 : Hid (OwnI w5.heap.size w7 uS (kl rs f (k + 1))) := by show OwnI _ _ _ _; rw [hkno]; exact OUT7.out
            rw [hsame] at PB7
            rw [hjb]
            clear hj hjb hkno hsame
            go_wp2
            go_roundg (gk - 1)
            case rel => exact ⟨k + 1, p, _, by have := Hk.out; omega, by go_num, rfl, LAB7, PB7, OUT8, ON7⟩
            case measure => have := Hk.out; omega
          · have hjb : (p r.a.toNat != p r.b.toNat) = true := by rw [bne_iff_ne]; exact hj
            have hkyes : kl rs f (k + 1) = kl rs f k ++ [f k] := kl_yes (by rw [HRR.out]; exact fun h => hj (HLI.out.2 h))
            have LAB7 : Hid (Lab (edges rs (kl rs f (k + 1))) (joinL p r.a.toNat r.b.toNat)) := by
              show Lab _ _
              rw [hkyes, edges_app]
              show Lab (edges rs (kl rs f k) ++ [roadAt rs (f k).toNat]) _
              rw [HRR.out]; exact HLJ.out
            have HKY := hid hkyes
            have hlen := kl_len (rs := rs) (f := f) k
            obtain ⟨au, nu, cu, rfl⟩ := own_shape OUT7.out
            have hsz := ON7.out.size
            rw [hjb]
            clear hj hjb hkyes
            go_wp2_with (at_builtin; go_must (refine wpList_append_own_at _ rfl _ _ 25 rfl w5.heap.size 3 i0 (.int .i64 0) 1 8 Tryd.underlying25 hi hz0 hz1 hz2 rfl (by decide) _ _ _ rfl (OUT7.out.alloc _) ⟨w7.heap.size, 0, none⟩ 1 1 [.int .i64 x] rfl rfl (cell_one_new _ _ _) (by intro y hy; simp at hy; subst hy; rfl) ?c3 ?c4 ?c5 ?_))
            case c3 => unfold maxLen; omega
            case c4 => omega
            case c5 => simp; omega
            intro v' wA hown' hg _ _
            have hR := OwnI.push rfl hown'
            rw [← HFX.out, ← HKY.out] at hR
            have HR := hid hR
            have ON8 := hid (ON7.out.grown OUT7.out hg)
            have PB8 : Hid (PBox wA gp (joinL p r.a.toNat r.b.toNat)) := by
              show wA.heap[gp]? = _
              rw [hg.block gp (by have := lt_of_block PB7.out; simp; omega) (fun e => by have h1 := (OwnI.lt OUT7.out gp e.symm).1; have h2 := H5S.out; have h3 := HGP.out; omega)]
              exact heap_ext PB7.out (Ext.ofAlloc _ _)
            clear hown' hg hR hsz hlen
            go_wp2
            go_roundg (gk - 1)
            case rel => exact ⟨k + 1, _, _, by have := Hk.out; omega, by go_num, rfl, LAB7, PB8, HR, ON8⟩
            case measure => have := Hk.out; omega
        · have ek : k = n := by omega
          have hO := OUT.out
          rw [ek] at hO
          have HOK := hid hO
          have hki : ¬ ((k : Int) < (rowL n f).length) := by rw [HLN.out]; omega
          have hlen := kl_len (rs := rs) (f := f) n
          clear ek hO hlt
          go_wp2_with (fail)
          refine (SortD_own w5.heap.size _ _ _ HOK.out (by omega)).mono ?_
          rintro e w8 ⟨rfl, ho8, hg8⟩
          have hso : OutS rs rs.length rs.length f := by have := HF.out; rw [HNN.out] at this; exact this
          rw [HNN.out, kl_sorted hso] at ho8
          have HO8 := hid ho8
          have HB8 : Hid (IsBest rs (allN N) (sel rs.length (inP (kl rs f rs.length)))) := kl_best HAll.out hso (cn_all.1 HCn.out)
          have hE8 : Ext w4 w8 := by
            refine ⟨by rw [hg8.os, EA.out.os], by rw [hg8.tape, EA.out.tape], by rw [hg8.output, EA.out.output], Nat.le_trans EA.out.size hg8.size, fun j hj => ?_⟩
            have h1 := EA.out.size
            have h2 := H5S.out
            rw [hg8.block j (by omega) (fun e => by have := (OwnI.lt HOK.out j e.symm).1; omega), EA.out.block j hj]
          have HW := hid (HE2.out.trans (HE4.out.trans hE8))
          have hsz : w.heap.size ≤ w5.heap.size := by have h1 := (HE2.out.trans HE4.out).size; have h2 := H5S.out; omega
          have HSZ := hid hsz
          obtain ⟨au, cu, rfl⟩ := own_len ho8
          clear ho8 hg8 hso hE8 hsz hlen
          go_wp2
          go_ret2
          exact ⟨_, _, rfl, ownsRow_base HO8.out HSZ.out, HB8.out, HW.out⟩

end Go.Proofs.YtkbkgkmogbkabaaDoor

/-
  The map of a set's stops with their distances as roads: its least tree costs at least as much as that of the set, and at most twice as much. Plain Lean.
-/
namespace Go.Proofs.YtkbkgkmogbkabaaDoor
open Go.RowKit

/-- The stops of a set, in order. -/
def atL (N s : Nat) : List Nat := (List.range N).filter (fun x => s.testBit x)
theorem atL_mem {N s x : Nat} : x ∈ atL N s ↔ x < N ∧ s.testBit x = true := by
  unfold atL; rw [List.mem_filter, List.mem_range]
theorem atL_succ (n s : Nat) : atL (n + 1) s = atL n s ++ (if s.testBit n then [n] else []) := by
  unfold atL
  rw [List.range_succ, List.filter_append]
  congr 1
  cases h : s.testBit n <;> simp [h]
theorem atL_nodup (N s : Nat) : (atL N s).Nodup := List.Pairwise.sublist List.filter_sublist List.nodup_range
def atN (l : List Nat) (i : Nat) : Nat := l.getD i 0
theorem atN_get {l : List Nat} {i : Nat} (h : i < l.length) : atN l i = l[i] := by
  unfold atN; rw [List.getD_eq_getElem?_getD, List.getElem?_eq_getElem h]; rfl
theorem atN_mem {l : List Nat} {i : Nat} (h : i < l.length) : atN l i ∈ l := by rw [atN_get h]; exact List.getElem_mem h
theorem atN_ex {l : List Nat} {x : Nat} (h : x ∈ l) : ∃ i, i < l.length ∧ atN l i = x := by
  obtain ⟨i, hi, e⟩ := List.getElem_of_mem h
  exact ⟨i, hi, by rw [atN_get hi, e]⟩
theorem atN_inj {l : List Nat} (hn : l.Nodup) {i j : Nat} (hi : i < l.length) (hj : j < l.length) (h : atN l i = atN l j) : i = j := by
  rw [atN_get hi, atN_get hj] at h
  rcases Nat.lt_trichotomy i j with g | g | g
  · exact absurd h (List.pairwise_iff_getElem.1 hn i j hi hj g)
  · exact g
  · exact absurd h.symm (List.pairwise_iff_getElem.1 hn j i hj hi g)
/-- A road between two of the stops. -/
def smallAt (d : Nat → Nat → Int) (l : List Nat) (i j : Nat) : RoadD := ⟨i, j, d (atN l i) (atN l j)⟩
/-- Those of one stop to the first ones; those of all stops. -/
def smallRow (d : Nat → Nat → Int) (l : List Nat) (i j : Nat) : List RoadD := (List.range j).map (smallAt d l i)
def smallR (d : Nat → Nat → Int) (l : List Nat) : Nat → List RoadD
  | 0 => []
  | i + 1 => smallR d l i ++ smallRow d l i i
theorem smallRow_succ (d : Nat → Nat → Int) (l : List Nat) (i j : Nat) : smallRow d l i (j + 1) = smallRow d l i j ++ [smallAt d l i j] := by
  unfold smallRow; rw [List.range_succ, List.map_append]; rfl
theorem smallRow_len (d : Nat → Nat → Int) (l : List Nat) (i j : Nat) : (smallRow d l i j).length = j := by unfold smallRow; simp
theorem smallR_len (d : Nat → Nat → Int) (l : List Nat) : ∀ i, i ≤ 6 → (smallR d l i).length ≤ 15 ∧ ∀ j, j ≤ i → i < 6 → (smallR d l i).length + j ≤ 15 := by
  have e : ∀ i, (smallR d l (i + 1)).length = (smallR d l i).length + i := fun i => by
    show (smallR d l i ++ smallRow d l i i).length = _
    rw [List.length_append, smallRow_len]
  have h0 : (smallR d l 0).length = 0 := rfl
  have h1 : (smallR d l 1).length = (smallR d l 0).length + 0 := e 0
  have h2 : (smallR d l 2).length = (smallR d l 1).length + 1 := e 1
  have h3 : (smallR d l 3).length = (smallR d l 2).length + 2 := e 2
  have h4 : (smallR d l 4).length = (smallR d l 3).length + 3 := e 3
  have h5 : (smallR d l 5).length = (smallR d l 4).length + 4 := e 4
  have h6 : (smallR d l 6).length = (smallR d l 5).length + 5 := e 5
  intro i hi
  obtain rfl | rfl | rfl | rfl | rfl | rfl | rfl : i = 0 ∨ i = 1 ∨ i = 2 ∨ i = 3 ∨ i = 4 ∨ i = 5 ∨ i = 6 := by omega
  all_goals exact ⟨by omega, fun j hj hlt => by omega⟩
theorem smallR_mem {d : Nat → Nat → Int} {l : List Nat} {r : RoadD} : ∀ {k : Nat}, r ∈ smallR d l k ↔ ∃ i j, j < i ∧ i < k ∧ r = smallAt d l i j
  | 0 => ⟨fun h => by simp [smallR] at h, fun ⟨i, j, h1, h2, _⟩ => by omega⟩
  | k + 1 => by
    show r ∈ smallR d l k ++ smallRow d l k k ↔ _
    rw [List.mem_append, smallR_mem (k := k)]
    unfold smallRow
    rw [List.mem_map]
    constructor
    · rintro (⟨i, j, h1, h2, h3⟩ | ⟨j, hj, rfl⟩)
      · exact ⟨i, j, h1, by omega, h3⟩
      · exact ⟨k, j, List.mem_range.1 hj, by omega, rfl⟩
    · rintro ⟨i, j, h1, h2, h3⟩
      rcases Nat.lt_or_ge i k with g | g
      · exact .inl ⟨i, j, h1, g, h3⟩
      · obtain rfl : i = k := by omega
        exact .inr ⟨j, List.mem_range.2 h1, h3.symm⟩

section
variable {rs : List RoadD} {N s : Nat}

/-- The stops of the set are connected: their distances are real ones, of at least 1. -/
theorem at_dist (hr : ∀ r ∈ rs, roadOk N r = true) (hN1 : 1 ≤ N) (hN : N ≤ 8) (hl : rs.length ≤ 16) (hn : Cn rs s) {x y : Nat} (hx : x ∈ atL N s) (hy : y ∈ atL N s) :
    fw (costTo rs) N x y < far ∧ (x ≠ y → 1 ≤ fw (costTo rs) N x y) := by
  obtain ⟨x1, x2⟩ := atL_mem.1 hx
  obtain ⟨y1, y2⟩ := atL_mem.1 hy
  exact ⟨(pair_val hr hN1 hN hl x1 y1).1.1 (pair_cn.2 (hn x y x2 y2)), fun hne => by
    have := ((costs_tab hr).fw N (Nat.le_refl _)).pos x y x1 y1 hne
    omega⟩
/-- A tour over the stops of the set, as roads of the small map. -/
theorem tour_small (hr : ∀ r ∈ rs, roadOk N r = true) {w : Nat} (hw : w < N) : ∀ (ys : List Nat) (u : Nat), u ∈ atL N s → (∀ y ∈ ys, y ∈ atL N s) →
    ∃ G : List RoadD, (∀ r ∈ G, r ∈ smallR (fw (costTo rs) N) (atL N s) (atL N s).length) ∧ sumC G ≤ tourC (fw (costTo rs) N) u ys w ∧
      ∀ i j, i < (atL N s).length → j < (atL N s).length → atN (atL N s) i = u → atN (atL N s) j ∈ ys → Conn G i j
  | [], u, hu, _ => ⟨[], fun r h => by simp at h, (dist_good (N := N) hr).lo u w (atL_mem.1 hu).1 hw, fun i j _ _ _ h => by simp at h⟩
  | y :: ys, u, hu, hys => by
    have hy := hys y (List.mem_cons_self ..)
    obtain ⟨G, g1, g2, g3⟩ := tour_small hr hw ys y hy (fun z hz => hys z (List.mem_cons_of_mem _ hz))
    have hd : tourC (fw (costTo rs) N) u (y :: ys) w = fw (costTo rs) N u y + tourC (fw (costTo rs) N) y ys w := rfl
    have lo := (dist_good (N := N) hr).lo u y (atL_mem.1 hu).1 (atL_mem.1 hy).1
    obtain ⟨a, ha, ea⟩ := atN_ex hu
    obtain ⟨b, hb, eb⟩ := atN_ex hy
    have hnd := atL_nodup N s
    have sym : fw (costTo rs) N u y = fw (costTo rs) N y u := ((costs_tab hr).fw N (Nat.le_refl _)).sym u y (atL_mem.1 hu).1 (atL_mem.1 hy).1
    by_cases e : u = y
    · subst e
      refine ⟨G, g1, by rw [hd]; omega, fun i j hi hj ei ej => ?_⟩
      rcases List.mem_cons.1 ej with h | h
      · have : i = j := atN_inj hnd hi hj (by rw [ei, h])
        rw [this]; exact .refl
      · exact g3 i j hi hj ei h
    · have hab : a ≠ b := fun h => e (by rw [← ea, ← eb, h])
      obtain ⟨r, hr1, hr2, hr3⟩ : ∃ r, r ∈ smallR (fw (costTo rs) N) (atL N s) (atL N s).length ∧ r.cost = fw (costTo rs) N u y ∧ ((r.a.toNat = a ∧ r.b.toNat = b) ∨ (r.a.toNat = b ∧ r.b.toNat = a)) := by
        rcases Nat.lt_or_ge b a with h | h
        · refine ⟨smallAt (fw (costTo rs) N) (atL N s) a b, smallR_mem.2 ⟨a, b, h, ha, rfl⟩, ?_, .inl ⟨?_, ?_⟩⟩
          · show fw (costTo rs) N (atN _ a) (atN _ b) = _
            rw [ea, eb]
          · exact Int.toNat_natCast _
          · exact Int.toNat_natCast _
        · refine ⟨smallAt (fw (costTo rs) N) (atL N s) b a, smallR_mem.2 ⟨b, a, by omega, hb, rfl⟩, ?_, .inr ⟨?_, ?_⟩⟩
          · show fw (costTo rs) N (atN _ b) (atN _ a) = _
            rw [ea, eb, sym]
          · exact Int.toNat_natCast _
          · exact Int.toNat_natCast _
      refine ⟨G ++ [r], fun q hq => ?_, ?_, fun i j hi hj ei ej => ?_⟩
      · rcases List.mem_append.1 hq with h | h
        · exact g1 q h
        · simp at h; rw [h]; exact hr1
      · rw [sumC_app, hd]
        show sumC G + (r.cost + 0) ≤ _
        omega
      · have ia : i = a := atN_inj hnd hi ha (by rw [ei, ea])
        have step : Conn (G ++ [r]) i b := by
          rw [ia]
          exact Conn.step .refl ⟨r, by simp, by rcases hr3 with ⟨p, q⟩ | ⟨p, q⟩; exact .inl ⟨p, q⟩; exact .inr ⟨p, q⟩⟩
        rcases List.mem_cons.1 ej with h | h
        · have : j = b := atN_inj hnd hj hb (by rw [h, eb])
          rw [this]; exact step
        · exact step.trans (g3 b j hb hj eb h).left

/-- The small map. -/
def smallM (rs : List RoadD) (N s : Nat) : List RoadD := smallR (fw (costTo rs) N) (atL N s) (atL N s).length

theorem small_ok (hr : ∀ r ∈ rs, roadOk N r = true) (hN1 : 1 ≤ N) (hN : N ≤ 8) (hl : rs.length ≤ 16) (h0 : 0 < s) (hs : s < 2 ^ N) (hn : Cn rs s) (hK : (atL N s).length ≤ 6)
    (hd : ∀ i j, j < i → i < (atL N s).length → fw (costTo rs) N (atN (atL N s) i) (atN (atL N s) j) ≤ 50) :
    1 ≤ (atL N s).length ∧ (smallM rs N s).length ≤ 15 ∧ (∀ r ∈ smallM rs N s, roadOk (atL N s).length r = true) := by
  obtain ⟨v, hv⟩ := Nat.exists_testBit_of_ne_zero (show s ≠ 0 by omega)
  have hvm : v ∈ atL N s := atL_mem.2 ⟨bit_lt hs hv, hv⟩
  refine ⟨List.length_pos_of_mem hvm, (smallR_len _ _ _ hK).1, fun r hm => ?_⟩
  obtain ⟨i, j, h1, h2, rfl⟩ := smallR_mem.1 hm
  have hlo := (at_dist hr hN1 hN hl hn (atN_mem h2) (atN_mem (show j < (atL N s).length by omega))).2 (fun e => by
    have := atN_inj (atL_nodup N s) h2 (by omega) e
    omega)
  have hhi := hd i j h1 h2
  rw [roadOk_iff]
  refine ⟨?_, ?_, ?_, ?_, ?_, hlo, hhi⟩
  · show (0 : Int) ≤ (i : Int); omega
  · show (i : Int) < _; omega
  · show (0 : Int) ≤ (j : Int); omega
  · show (j : Int) < _; omega
  · show (i : Int) ≠ (j : Int); omega

theorem small_cn : Cn (smallM rs N s) (allN (atL N s).length) := by
  rw [cn_all]
  intro x y hx hy
  have key : ∀ i j, j < i → i < (atL N s).length → Conn (smallM rs N s) i j := fun i j h1 h2 => by
    refine Conn.step .refl ⟨smallAt (fw (costTo rs) N) (atL N s) i j, smallR_mem.2 ⟨i, j, h1, h2, rfl⟩, .inl ⟨?_, ?_⟩⟩
    · exact Int.toNat_natCast _
    · exact Int.toNat_natCast _
  rcases Nat.lt_trichotomy x y with h | h | h
  · exact (key y x h hy).symm
  · rw [h]; exact .refl
  · exact key x y h hx

/-- Roads of the small map, as roads of the map. -/
theorem small_real (hr : ∀ r ∈ rs, roadOk N r = true) (hN1 : 1 ≤ N) (hN : N ≤ 8) (hl : rs.length ≤ 16) (hn : Cn rs s) : ∀ G : List RoadD, (∀ r ∈ G, r ∈ smallM rs N s) →
    ∃ F : List RoadD, (∀ r ∈ F, r ∈ rs) ∧ sumC F ≤ sumC G ∧ ∀ r ∈ G, Conn F (atN (atL N s) r.a.toNat) (atN (atL N s) r.b.toNat)
  | [], _ => ⟨[], fun r h => by simp at h, Int.le_refl _, fun r h => by simp at h⟩
  | r :: G, hG => by
    obtain ⟨F, f1, f2, f3⟩ := small_real hr hN1 hN hl hn G (fun q hq => hG q (List.mem_cons_of_mem _ hq))
    obtain ⟨i, j, h1, h2, rfl⟩ := smallR_mem.1 (hG r (List.mem_cons_self ..))
    have hi := atN_mem h2
    have hj := atN_mem (show j < (atL N s).length by omega)
    obtain ⟨F2, k1, k2, k3⟩ := fw_real hr N (Nat.le_refl _) _ _ (atL_mem.1 hi).1 (atL_mem.1 hj).1 (at_dist hr hN1 hN hl hn hi hj).1
    refine ⟨F ++ F2, fun q hq => ?_, ?_, fun q hq => ?_⟩
    · rcases List.mem_append.1 hq with g | g
      · exact f1 q g
      · exact k1 q g
    · rw [sumC_app]
      show _ ≤ fw (costTo rs) N (atN (atL N s) i) (atN (atL N s) j) + sumC G
      omega
    · rcases List.mem_cons.1 hq with rfl | g
      · have ei : (smallAt (fw (costTo rs) N) (atL N s) i j).a.toNat = i := Int.toNat_natCast _
        have ej : (smallAt (fw (costTo rs) N) (atL N s) i j).b.toNat = j := Int.toNat_natCast _
        rw [ei, ej]
        exact k3.right
      · exact (f3 q g).left

theorem conn_map {G F : List RoadD} {f : Nat → Nat} (h : ∀ r ∈ G, Conn F (f r.a.toNat) (f r.b.toNat)) {a b : Nat} (hc : Conn G a b) : Conn F (f a) (f b) := by
  induction hc with
  | refl => exact .refl
  | step _ e ih =>
    obtain ⟨r, hr, ⟨e1, e2⟩ | ⟨e1, e2⟩⟩ := e
    · have := h r hr; rw [e1, e2] at this; exact ih.trans this
    · have := h r hr; rw [e1, e2] at this; exact ih.trans this.symm

/-- The law: twice. -/
theorem twice_plain (hr : ∀ r ∈ rs, roadOk N r = true) (hN1 : 1 ≤ N) (hN : N ≤ 8) (hl : rs.length ≤ 16) (h0 : 0 < s) (hs : s < 2 ^ N) (hn : Cn rs s) (hK : (atL N s).length ≤ 6)
    (hd : ∀ i j, j < i → i < (atL N s).length → fw (costTo rs) N (atN (atL N s) i) (atN (atL N s) j) ≤ 50) :
    steinerV rs N s ≤ steinerV (smallM rs N s) (atL N s).length (allN (atL N s).length) ∧ steinerV (smallM rs N s) (atL N s).length (allN (atL N s).length) ≤ 2 * steinerV rs N s := by
  obtain ⟨k1, k2, k3⟩ := small_ok hr hN1 hN hl h0 hs hn hK hd
  have hc := small_cn (rs := rs) (N := N) (s := s)
  obtain ⟨a0, aN, a256⟩ := allN_in k1 (show (atL N s).length ≤ 8 by omega)
  constructor
  · obtain ⟨l, ⟨t1, t2⟩, -, -, -⟩ := steiner_opt k3 k1 (by omega) (by omega) a0 aN hc
    obtain ⟨F, f1, f2, f3⟩ := small_real hr hN1 hN hl hn (edges (smallM rs N s) l) (treeP_in t1)
    have h1 := steiner_le hr hN1 hN h0 hs f1 (fun x y hx hy => by
      obtain ⟨i, hi, ei⟩ := atN_ex (atL_mem.2 ⟨bit_lt hs hx, hx⟩)
      obtain ⟨j, hj, ej⟩ := atN_ex (atL_mem.2 ⟨bit_lt hs hy, hy⟩)
      have := conn_map (f := atN (atL N s)) f3 ((treeP_cn t1) i j (all_bits.2 hi) (all_bits.2 hj))
      rwa [ei, ej] at this)
    rw [← costL_sum, t2] at f2
    omega
  · obtain ⟨l, ⟨t1, t2⟩, -, -, -⟩ := steiner_opt hr hN1 hN hl h0 hs hn
    obtain ⟨v, hv⟩ := Nat.exists_testBit_of_ne_zero (show s ≠ 0 by omega)
    have hvN := bit_lt hs hv
    obtain ⟨xs, x1, x2, x3⟩ := tour_ex hr (treeP_in t1) (S := fun x => s.testBit x = true) hvN ⟨v, hv⟩ (fun x hx => bit_lt hs hx) (fun x hx => treeP_cn t1 v x hv hx)
    have x4 := (tour_filter hr (fun x => s.testBit x) xs v v hvN hvN x2).1
    obtain ⟨G, g1, g2, g3⟩ := tour_small (s := s) hr hvN (xs.filter (fun x => s.testBit x)) v (atL_mem.2 ⟨hvN, hv⟩) (fun y hy => by
      obtain ⟨y1, y2⟩ := List.mem_filter.1 hy
      exact atL_mem.2 ⟨x2 y y1, y2⟩)
    obtain ⟨i, hi, ei⟩ := atN_ex (atL_mem.2 ⟨hvN, hv⟩)
    have fromI : ∀ j, j < (atL N s).length → Conn G i j := fun j hj => by
      have hjm := atL_mem.1 (atN_mem hj)
      rcases x1 (atN (atL N s) j) hjm.2 with g | g
      · exact g3 i j hi hj ei (List.mem_filter.2 ⟨g, hjm.2⟩)
      · rw [atN_inj (atL_nodup N s) hi hj (by rw [ei, g])]; exact .refl
    have h1 := steiner_le k3 k1 (by omega) a0 aN g1 (cn_all.2 (fun x y hx hy => (fromI x hx).symm.trans (fromI y hy)))
    rw [← costL_sum, t2] at x3
    omega
end

end Go.Proofs.YtkbkgkmogbkabaaDoor

/-
  The statement RoutePairs: its walk.
-/
namespace Go.Proofs.YtkbkgkmogbkabaaDoor
open Go.RowKit

theorem hmod2 (h : Int) (n : Nat) (h1 : 1 ≤ n) (h6 : n ≤ 15625) : ∃ x : Nat, IntKind.i64.wrap ((IntKind.u64.wrap h).tmod n) = x ∧ x < n := by
  have e : IntKind.u64.wrap h = h % 18446744073709551616 := IntKind.wrap_u64 h
  have a0 : 0 ≤ IntKind.u64.wrap h := by rw [e]; exact Int.emod_nonneg _ (by decide)
  have b0 := Int.tmod_nonneg (n : Int) a0
  have b1 := Int.tmod_lt_of_pos (IntKind.u64.wrap h) (show (0 : Int) < n by omega)
  obtain ⟨x, hx⟩ := Int.eq_ofNat_of_zero_le b0
  refine ⟨x, ?_, by omega⟩
  rw [hx]
  rw [IntWalk.i64_left]
  exact IntWalk.wrap64_in _ (by omega)
theorem stops_of {N s : Nat} (h0 : 0 < s) (h : s < 2 ^ N) : stopsB N s = true := by
  unfold stopsB
  rw [decide_eq_true_iff, Int.toNat_natCast]
  exact ⟨by omega, by exact_mod_cast h⟩

set_option maxRecDepth 20000 in
set_option maxHeartbeats 2000000 in
theorem RoutePairs_any (vr : Value) (m : MapD) (a b : Int) (w : World) (hm : MapR w vr m) (hTZ : TZ w) :
    Calls Tryd.prog 9 #[.agg #[.int .i64 m.n, vr], .int .i64 a, .int .i64 b] w fun e w' => e = .returned (.bool true) ∧ Ext w w' := by
  obtain ⟨ao, cap, rfl⟩ := hm.shape
  have HM := hid hm
  have HTZ := hid hTZ
  have X0 := Box2.alloc w 24 (.int .i64 m.n) (.slice ao m.roads.length cap)
  clear hm hTZ
  by_cases hb : mapOk m = true
  · obtain ⟨n, rs⟩ := m
    have hok2 := hb
    unfold mapOk at hok2
    rw [Bool.and_eq_true, decide_eq_true_iff, List.all_eq_true] at hok2
    obtain ⟨⟨h1, h8, h16⟩, hall⟩ := hok2
    dsimp only at h1 h8 h16 hall
    obtain ⟨N, rfl⟩ := Int.eq_ofNat_of_zero_le (show 0 ≤ n by omega)
    have hN1 : 1 ≤ N := by omega
    have hN8 : N ≤ 8 := by omega
    have HB := hid hb
    have HAll := hid hall
    have HTK : Hid (rs.take 18 = rs) := congrArg MapD.roads (cutM_id hb)
    dsimp only at X0 HM
    clear hb hall
    go_enter Tryd.func9, Tryd.ntmps9
    go_wp2_with (fail)
    refine (Of_any _ ⟨N, rs⟩ _ (MapR.ext HM.out (Ext.ofAlloc w _))).mono ?_
    rintro e w1 ⟨uU, rfl, hu, he1⟩
    dsimp only at hu
    rw [HTK.out] at hu
    have X1 := hid (X0.ext he1)
    have E1 := hid ((Ext.ofAlloc w _).trans he1)
    clear he1
    obtain ⟨c0, c1⟩ := X1.out.cells
    have U_1 := hid (hu.roads (by omega))
    clear hu
    go_wp2_with (fail)
    refine (Distances_ok _ N rs _ U_1.out HB.out).mono ?_
    rintro e w2 ⟨vd, rfl, hmat, he2⟩
    obtain ⟨gb, kb, rfl, -⟩ := hmat.head (by omega)
    clear c0 c1
    have X2 := hid (X1.out.ext he2)
    have U_2 := hid (U_1.out.ext he2)
    have E2 := hid (E1.out.trans he2)
    clear he2
    obtain ⟨c0, c1⟩ := X2.out.cells
    have T_2 := hid (hmat)
    clear hmat
    go_wp2_with (fail)
    refine (RValid_any _ ⟨N, rs⟩ _ (MapR.ext HM.out E2.out)).mono ?_
    rw [HB.out]
    rintro e w3 ⟨rfl, he3⟩
    clear c0 c1
    have X3 := hid (X2.out.ext he3)
    have T_3 := hid (T_2.out.ext he3)
    have E3 := hid (E2.out.trans he3)
    clear he3
    obtain ⟨c0, c1⟩ := X3.out.cells
    obtain ⟨A, hA0, hA⟩ := hmod2 a N hN1 (by omega)
    obtain ⟨B, hB0, hB2⟩ := hmod2 b N hN1 (by omega)
    have hwr : IntKind.u64.wrap (N : Int) = (N : Int) := by rw [IntKind.wrap_u64]; omega
    have hN0 : ¬ (N : Int) = 0 := by omega
    have hN0n : ¬ N = 0 := by omega
    have hN0b : ((N : Int) == 0) = false := beq_eq_false_iff_ne.2 hN0
    go_wp2
    refine wp_region_held_drew (S := (fun w' => w'.cell? ⟨w.heap.size, 0, none⟩ = some (.int .i64 N))) (by kernel_rfl) ?hSa0 (fun hHeld => ?_)
    case hSa0 => (first | (exact c0) | ((try dsimp only); exact c0))
    refine wpAnyH_tk 0 (v := ?va0) rfl (by kernel_rfl) (by kernel_rfl) (by kernel_rfl) (fun _ _ _ h => h) (by rfl) ?hya0 (by assumption) ?_
    case hya0 => (intro w hSw; (try dsimp only at hSw); go_simp <;> with_reducible rfl)
    (try simp only [Act.put, List.setIfInBounds_toArray, List.set_cons_zero, List.set_cons_succ])
    refine wpAnyH_tk 1 (v := ?va1) rfl (by kernel_rfl) (by kernel_rfl) (by kernel_rfl) (fun _ _ _ h => h) (by rfl) ?hya1 (by assumption) ?_
    case hya1 => (intro w hSw; (try dsimp only at hSw); go_simp <;> with_reducible rfl)
    (try simp only [Act.put, List.setIfInBounds_toArray, List.set_cons_zero, List.set_cons_succ])
    refine wpAnyH_tk 2 (v := ?va2) rfl (by kernel_rfl) (by kernel_rfl) (by kernel_rfl) (fun _ _ _ h => h) (by rfl) ?hya2 (by assumption) ?_
    case hya2 => (intro w hSw; (try dsimp only at hSw); go_simp <;> with_reducible rfl)
    (try simp only [Act.put, List.setIfInBounds_toArray, List.set_cons_zero, List.set_cons_succ])
    refine wpAnyH_tk 3 (v := ?va3) rfl (by kernel_rfl) (by kernel_rfl) (by kernel_rfl) (fun _ _ _ h => h) (by rfl) ?hya3 (by assumption) ?_
    case hya3 => (intro w hSw; (try dsimp only at hSw); go_simp <;> with_reducible rfl)
    (try simp only [Act.put, List.setIfInBounds_toArray, List.set_cons_zero, List.set_cons_succ])
    refine wpAnyH_tk 4 (v := ?va4) rfl (by kernel_rfl) (by kernel_rfl) (by kernel_rfl) (fun _ _ _ h => h) (by rfl) ?hya4 (by assumption) ?_
    case hya4 => (intro w hSw; (try dsimp only at hSw); go_simp <;> with_reducible rfl)
    (try simp only [Act.put, List.setIfInBounds_toArray, List.set_cons_zero, List.set_cons_succ])
    refine wpAnyH_tk 5 (v := ?va5) rfl (by kernel_rfl) (by kernel_rfl) (by kernel_rfl) (fun _ _ _ h => h) (by rfl) ?hya5 (by assumption) ?_
    case hya5 => (intro w hSw; (try dsimp only at hSw); go_simp <;> with_reducible rfl)
    (try simp only [Act.put, List.setIfInBounds_toArray, List.set_cons_zero, List.set_cons_succ])
    refine wpAnyH_tk 6 (v := ?va6) rfl (by kernel_rfl) (by kernel_rfl) (by kernel_rfl) (fun _ _ _ h => h) (by rfl) ?hya6 (by assumption) ?_
    case hya6 => (intro w hSw; (try dsimp only at hSw); go_simp <;> with_reducible rfl)
    (try simp only [Act.put, List.setIfInBounds_toArray, List.set_cons_zero, List.set_cons_succ])
    refine wpAnyH_tk 7 (v := ?va7) rfl (by kernel_rfl) (by kernel_rfl) (by kernel_rfl) (fun _ _ _ h => h) (by rfl) ?hya7 (by assumption) ?_
    case hya7 => (intro w hSw; (try dsimp only at hSw); go_simp <;> with_reducible rfl)
    (try simp only [Act.put, List.setIfInBounds_toArray, List.set_cons_zero, List.set_cons_succ])
    refine wpAnyH_tk 8 (v := ?va8) rfl (by kernel_rfl) (by kernel_rfl) (by kernel_rfl) (fun _ _ _ h => h) (by rfl) ?hya8 (by assumption) ?_
    case hya8 => (intro w hSw; (try dsimp only at hSw); go_simp <;> with_reducible rfl)
    (try simp only [Act.put, List.setIfInBounds_toArray, List.set_cons_zero, List.set_cons_succ])
    refine wpAnyH_tk 9 (v := ?va9) rfl (by kernel_rfl) (by kernel_rfl) (by kernel_rfl) (fun _ _ _ h => h) (by rfl) ?hya9 (by assumption) ?_
    case hya9 => (intro w hSw; (try dsimp only at hSw); go_simp <;> with_reducible rfl)
    (try simp only [Act.put, List.setIfInBounds_toArray, List.set_cons_zero, List.set_cons_succ])
    refine wpAnyH_tk 10 (v := ?va10) rfl (by kernel_rfl) (by kernel_rfl) (by kernel_rfl) (fun _ _ _ h => h) (by rfl) ?hya10 (by assumption) ?_
    case hya10 => (intro w hSw; (try dsimp only at hSw); go_simp <;> with_reducible rfl)
    (try simp only [Act.put, List.setIfInBounds_toArray, List.set_cons_zero, List.set_cons_succ])
    refine wpAnyH_tk 11 (v := ?va11) rfl (by kernel_rfl) (by kernel_rfl) (by kernel_rfl) (fun _ _ _ h => h) (by rfl) ?hya11 (by assumption) ?_
    case hya11 => (intro w hSw; (try dsimp only at hSw); go_simp <;> with_reducible rfl)
    (try simp only [Act.put, List.setIfInBounds_toArray, List.set_cons_zero, List.set_cons_succ])
    refine wpAnyH_tk 12 (v := ?va12) rfl (by kernel_rfl) (by kernel_rfl) (by kernel_rfl) (fun _ _ _ h => h) (by rfl) ?hya12 (by assumption) ?_
    case hya12 => (intro w hSw; (try dsimp only at hSw); go_simp <;> with_reducible rfl)
    (try simp only [Act.put, List.setIfInBounds_toArray, List.set_cons_zero, List.set_cons_succ])
    refine wpAnyH_tk 13 (v := ?va13) rfl (by kernel_rfl) (by kernel_rfl) (by kernel_rfl) (fun _ _ _ h => h) (by rfl) ?hya13 (by assumption) ?_
    case hya13 => (intro w hSw; (try dsimp only at hSw); go_simp <;> with_reducible rfl)
    (try simp only [Act.put, List.setIfInBounds_toArray, List.set_cons_zero, List.set_cons_succ])
    refine wpAnyH_tk 14 (v := ?va14) rfl (by kernel_rfl) (by kernel_rfl) (by kernel_rfl) (fun _ _ _ h => h) (by rfl) ?hya14 (by assumption) ?_
    case hya14 => (intro w hSw; (try dsimp only at hSw); go_simp <;> with_reducible rfl)
    (try simp only [Act.put, List.setIfInBounds_toArray, List.set_cons_zero, List.set_cons_succ])
    refine wpAnyH_tk 15 (v := ?va15) rfl (by kernel_rfl) (by kernel_rfl) (by kernel_rfl) (fun _ _ _ h => h) (by rfl) ?hya15 (by assumption) ?_
    case hya15 => (intro w hSw; (try dsimp only at hSw); go_simp <;> with_reducible rfl)
    (try simp only [Act.put, List.setIfInBounds_toArray, List.set_cons_zero, List.set_cons_succ])
    refine wpAnyH_done (by kernel_rfl) ?_ _
    clear hA0 hB0 hwr hN0 hN0n hN0b hHeld
    clear c0 c1
    have ed := hid ((Ext.refl w3).drew)
    have X4 := hid (X3.out.ext ed.out)
    have T_4 := hid (T_3.out.ext ed.out)
    have E4 := hid (E3.out.trans ed.out)
    obtain ⟨c0, c1⟩ := X4.out.cells
    clear ed
    obtain ⟨p0, p1⟩ := pair_in hA hB2
    obtain ⟨P, hP⟩ : ∃ P, P = pairN A B := ⟨_, rfl⟩
    have HP := hid hP
    have p8 : (2 : Nat) ^ N ≤ 2 ^ 8 := Nat.pow_le_pow_right (by decide) hN8
    have e8 : (2 : Nat) ^ 8 = 256 := by decide
    rw [← hP] at p0 p1
    have HSP := hid (stops_of p0 p1)
    have pa : 2 ^ A < 2 ^ N := Nat.pow_lt_pow_right (by decide) hA
    have pb : 2 ^ B < 2 ^ N := Nat.pow_lt_pow_right (by decide) hB2
    obtain ⟨xa, hxa⟩ : ∃ x, x = 2 ^ A := ⟨_, rfl⟩
    obtain ⟨xb, hxb⟩ : ∃ x, x = 2 ^ B := ⟨_, rfl⟩
    have ea : ((2 : Int) ^ A) = (xa : Int) := by rw [hxa]; simp
    have eb : ((2 : Int) ^ B) = (xb : Int) := by rw [hxb]; simp
    have wa : IntKind.i64.wrap (2 ^ A) = (xa : Int) := by rw [ea]; exact wraps_i64_62 _ (by omega) (by omega)
    have wb : IntKind.i64.wrap (2 ^ B) = (xb : Int) := by rw [eb]; exact wraps_i64_62 _ (by omega) (by omega)
    have wo : bits .or .i64 xa xb = (P : Int) := by rw [bits_or_nat xa xb (by omega) (by omega), hxa, hxb, hP]; rfl
    obtain ⟨a0, aN, a256⟩ := allN_in hN1 hN8
    have HSA := hid (stops_of a0 aN)
    obtain ⟨S, hS⟩ : ∃ S, S = allN N := ⟨_, rfl⟩
    have HSS := hid hS
    have hp : (2 : Int) ^ N = ((S + 1 : Nat) : Int) := by
      have e : ((2 : Int) ^ N) = ((2 ^ N : Nat) : Int) := by simp
      have e2 : 2 ^ N = S + 1 := by rw [hS]; unfold allN; have : 0 < 2 ^ N := Nat.pow_pos (by decide); omega
      rw [e, e2]
    rw [← hS] at a0 a256 HSA
    have wS3 := hid (show IntKind.i64.wrap (S : Int) = (S : Int) from wraps_i64_62 _ (by omega) (by omega))
    have wS1 := hid (show IntKind.i64.wrap (2 ^ N) = ((S + 1 : Nat) : Int) by rw [hp]; exact wraps_i64_62 _ (by omega) (by omega))
    obtain ⟨hv1, hv2⟩ := pair_val HAll.out hN1 hN8 h16 hA hB2
    obtain ⟨dv, hdv⟩ : ∃ d, d = nn (fw (costTo rs) N A B) := ⟨_, rfl⟩
    have hV : Hid ((Cn rs P → dv = steinerV rs N P ∧ 0 ≤ dv) ∧ (¬ Cn rs P → dv = -1)) := by
      rw [hP]
      refine ⟨fun h => ?_, fun h => ?_⟩
      · have h3 := hv1.1 h
        have h4 := hv2 h
        have h5 := (dist_good (N := N) HAll.out).lo A B hA hB2
        rw [hdv]; unfold nn; rw [if_neg (by omega)]; omega
      · have h3 : far ≤ fw (costTo rs) N A B := by
          rcases Int.lt_or_le (fw (costTo rs) N A B) far with g | g
          · exact absurd (hv1.2 g) h
          · exact g
        rw [hdv]; unfold nn; rw [if_pos h3]
    have HDV := hid hdv
    have WA := hid wa
    have WB := hid wb
    have WO := hid wo
    have hAi : (A : Int) < N := by omega
    have hBi : (B : Int) < N := by omega
    clear hP p8 e8 pa pb hxa hxb ea eb aN hS hp hv1 hv2 hdv a0 a256 p0 p1 wa wb wo
    have wS4 : Hid (IntKind.i64.wrap ((S : Int) + 1 - 1) = (S : Int)) := by show _ = _; rw [show (S : Int) + 1 - 1 = (S : Int) by omega]; exact wS3.out
    by_cases hca : Cn rs (allN N)
    · have hcp : Cn rs P := by
        rw [HP.out, pair_cn]
        exact cn_all.1 hca A B hA hB2
      have HCA := hid hca
      have HCP := hid hcp
      clear hca hcp
      have wa := WA.out
      have wb := WB.out
      have wo := WO.out
      go_wp2
      refine wp_region_held_drew (S := (fun w' => w'.cell? ⟨w.heap.size, 0, none⟩ = some (.int .i64 N) ∧ w'.cell? ⟨w.heap.size, 1, none⟩ = some (.slice ao rs.length cap))) (by kernel_rfl) ?hSb0 (fun hHeld => ?_)
      case hSb0 => (first | (exact ⟨c0, c1⟩) | ((try dsimp only); exact ⟨c0, c1⟩))
      refine wpAnyH_tk 0 (v := ?vb0) rfl (by kernel_rfl) (by kernel_rfl) (by kernel_rfl) (fun _ _ _ h => h) (by rfl) ?hyb0 (by assumption) ?_
      case hyb0 => (intro w hSw; (try dsimp only at hSw); go_simp <;> with_reducible rfl)
      (try simp only [Act.put, List.setIfInBounds_toArray, List.set_cons_zero, List.set_cons_succ])
      refine wpAnyH_tk 2 (v := ?vb2) rfl (by kernel_rfl) (by kernel_rfl) (by kernel_rfl) (fun _ _ _ h => h) (by rfl) ?hyb2 (by assumption) ?_
      case hyb2 => (intro w hSw; (try dsimp only at hSw); go_simp <;> with_reducible rfl)
      (try simp only [Act.put, List.setIfInBounds_toArray, List.set_cons_zero, List.set_cons_succ])
      refine wpAnyH_tk 3 (v := ?vb3) rfl (by kernel_rfl) (by kernel_rfl) (by kernel_rfl) (fun _ _ _ h => h) (by rfl) ?hyb3 (by assumption) ?_
      case hyb3 => (intro w hSw; (try dsimp only at hSw); go_simp <;> with_reducible rfl)
      (try simp only [Act.put, List.setIfInBounds_toArray, List.set_cons_zero, List.set_cons_succ])
      refine wpAnyH_tk 4 (v := ?vb4) rfl (by kernel_rfl) (by kernel_rfl) (by kernel_rfl) (fun _ _ _ h => h) (by rfl) ?hyb4 (by assumption) ?_
      case hyb4 => (intro w hSw; (try dsimp only at hSw); go_simp <;> with_reducible rfl)
      (try simp only [Act.put, List.setIfInBounds_toArray, List.set_cons_zero, List.set_cons_succ])
      refine wpAnyH_tk 5 (v := ?vb5) rfl (by kernel_rfl) (by kernel_rfl) (by kernel_rfl) (fun _ _ _ h => h) (by rfl) ?hyb5 (by assumption) ?_
      case hyb5 => (intro w hSw; (try dsimp only at hSw); go_simp <;> with_reducible rfl)
      (try simp only [Act.put, List.setIfInBounds_toArray, List.set_cons_zero, List.set_cons_succ])
      refine wpAnyH_tk 6 (v := ?vb6) rfl (by kernel_rfl) (by kernel_rfl) (by kernel_rfl) (fun _ _ _ h => h) (by rfl) ?hyb6 (by assumption) ?_
      case hyb6 => (intro w hSw; (try dsimp only at hSw); go_simp <;> with_reducible rfl)
      (try simp only [Act.put, List.setIfInBounds_toArray, List.set_cons_zero, List.set_cons_succ])
      refine wpAnyH_one 1 rfl (by kernel_rfl) (by rfl) (fun K hK => ?_)
      go_simp
      (refine (Of_any _ ⟨N, rs⟩ _ (MapR.ext HM.out (E4.out.trans (Ext.refl w3.drew).drew))).mono ?_; rintro e wa0 ⟨uM, rfl, huM, hea0⟩; dsimp only at huM; rw [HTK.out] at huM; have HU := hid (huM.roads (by omega)); clear huM)
      refine hK.out _ _ ?hSb2 (fun hHeld => ?_)
      case hSb2 => (first | (exact ⟨((Ext.refl w3.drew).drew.trans hea0).cell c0, ((Ext.refl w3.drew).drew.trans hea0).cell c1⟩) | ((try dsimp only); exact ⟨((Ext.refl w3.drew).drew.trans hea0).cell c0, ((Ext.refl w3.drew).drew.trans hea0).cell c1⟩))
      clear hK K
      (try dsimp only)
      refine wpAnyH_one 7 rfl (by kernel_rfl) (by rfl) (fun K hK => ?_)
      go_simp
      (refine (Tree_ok _ N rs P _ HU.out HB.out HSP.out (HTZ.out.ext (E4.out.trans ((Ext.refl w3.drew).drew.trans hea0))) HCP.out).mono ?_; rintro e wa1 ⟨vt, lt, rfl, hot, hbt, hea1⟩; have HBT := hid hbt.out; obtain ⟨at_, ct, rfl⟩ := own_len hot; have HOT := hid (hot.ints (by have := treeP_len HBT.out.1; omega)); clear hot hbt)
      refine hK.out _ _ ?hSb8 (fun hHeld => ?_)
      case hSb8 => (first | (exact ⟨(((Ext.refl w3.drew).drew.trans hea0).trans hea1).cell c0, (((Ext.refl w3.drew).drew.trans hea0).trans hea1).cell c1⟩) | ((try dsimp only); exact ⟨(((Ext.refl w3.drew).drew.trans hea0).trans hea1).cell c0, (((Ext.refl w3.drew).drew.trans hea0).trans hea1).cell c1⟩))
      clear hK K
      (try simp only [Act.put, List.setIfInBounds_toArray, List.set_cons_zero, List.set_cons_succ])
      refine wpAnyH_tk 8 (v := ?vb8) rfl (by kernel_rfl) (by kernel_rfl) (by kernel_rfl) (fun _ _ _ h => h) (by rfl) ?hyb8 (by assumption) ?_
      case hyb8 => (intro w hSw; (try dsimp only at hSw); go_simp <;> with_reducible rfl)
      (try simp only [Act.put, List.setIfInBounds_toArray, List.set_cons_zero, List.set_cons_succ])
      refine wpAnyH_tk 9 (v := ?vb9) rfl (by kernel_rfl) (by kernel_rfl) (by kernel_rfl) (fun _ _ _ h => h) (by rfl) ?hyb9 (by assumption) ?_
      case hyb9 => (intro w hSw; (try dsimp only at hSw); go_simp <;> with_reducible rfl)
      (try simp only [Act.put, List.setIfInBounds_toArray, List.set_cons_zero, List.set_cons_succ])
      refine wpAnyH_tk 10 (v := ?vb10) rfl (by kernel_rfl) (by kernel_rfl) (by kernel_rfl) (fun _ _ _ h => h) (by rfl) ?hyb10 (by assumption) ?_
      case hyb10 => (intro w hSw; (try dsimp only at hSw); go_simp <;> with_reducible rfl)
      (try simp only [Act.put, List.setIfInBounds_toArray, List.set_cons_zero, List.set_cons_succ])
      refine wpAnyH_tk 11 (v := ?vb11) rfl (by kernel_rfl) (by kernel_rfl) (by kernel_rfl) (fun _ _ _ h => h) (by rfl) ?hyb11 (by assumption) ?_
      case hyb11 => (intro w hSw; (try dsimp only at hSw); go_simp <;> with_reducible rfl)
      (try simp only [Act.put, List.setIfInBounds_toArray, List.set_cons_zero, List.set_cons_succ])
      refine wpAnyH_tk 12 (v := ?vb12) rfl (by kernel_rfl) (by kernel_rfl) (by kernel_rfl) (fun _ _ _ h => h) (by rfl) ?hyb12 (by assumption) ?_
      case hyb12 => (intro w hSw; (try dsimp only at hSw); go_simp <;> with_reducible rfl)
      (try simp only [Act.put, List.setIfInBounds_toArray, List.set_cons_zero, List.set_cons_succ])
      refine wpAnyH_done (by kernel_rfl) ?_ _
      clear hHeld
      clear c0 c1
      have ea := hid ((((Ext.refl w3.drew).drew.trans hea0).trans hea1))
      have X5 := hid (X4.out.ext ea.out)
      have T_5 := hid (T_4.out.ext ea.out)
      have E5 := hid (E4.out.trans ea.out)
      clear hea0 hea1
      clear ea
      obtain ⟨c0, c1⟩ := X5.out.cells
      clear wa wb wo HU
      obtain ⟨gr, ca, ia, -⟩ := T_5.out.row hA
      have ca' : World.cell? wa1 ⟨gb, A, none⟩ = some (.slice (some ⟨gr, 0, none⟩) N N) := ca
      have dpq := ia.cell (i := B) (by rw [rowL_len]; exact hB2)
      rw [rowL_fn hB2, ← HDV.out] at dpq
      clear ca ia
      have hd0b : decide (dv ≥ 0) = true := decide_eq_true (hV.out.1 HCP.out).2
      go_wp2
      refine wp_region_held_drew (S := (fun w' => w'.cell? ⟨w.heap.size, 0, none⟩ = some (.int .i64 N) ∧ w'.cell? ⟨gb, A, none⟩ = some (.slice (some ⟨gr, 0, none⟩) N N) ∧ w'.cell? ⟨gr, B, none⟩ = some (.int .i64 dv))) (by kernel_rfl) ?hSc0 (fun hHeld => ?_)
      case hSc0 => (first | (exact ⟨c0, ca', dpq⟩) | ((try dsimp only); exact ⟨c0, ca', dpq⟩))
      refine wpAnyH_tk 0 (v := ?vc0) rfl (by kernel_rfl) (by kernel_rfl) (by kernel_rfl) (fun _ _ _ h => h) (by rfl) ?hyc0 (by assumption) ?_
      case hyc0 => (intro w hSw; (try dsimp only at hSw); go_simp <;> with_reducible rfl)
      (try simp only [Act.put, List.setIfInBounds_toArray, List.set_cons_zero, List.set_cons_succ])
      refine wpAnyH_tk 1 (v := ?vc1) rfl (by kernel_rfl) (by kernel_rfl) (by kernel_rfl) (fun _ _ _ h => h) (by rfl) ?hyc1 (by assumption) ?_
      case hyc1 => (intro w hSw; (try dsimp only at hSw); go_simp <;> with_reducible rfl)
      (try simp only [Act.put, List.setIfInBounds_toArray, List.set_cons_zero, List.set_cons_succ])
      refine wpAnyH_tk 2 (v := ?vc2) rfl (by kernel_rfl) (by kernel_rfl) (by kernel_rfl) (fun _ _ _ h => h) (by rfl) ?hyc2 (by assumption) ?_
      case hyc2 => (intro w hSw; (try dsimp only at hSw); go_simp <;> with_reducible rfl)
      (try simp only [Act.put, List.setIfInBounds_toArray, List.set_cons_zero, List.set_cons_succ])
      refine wpAnyH_tk 3 (v := ?vc3) rfl (by kernel_rfl) (by kernel_rfl) (by kernel_rfl) (fun _ _ _ h => h) (by rfl) ?hyc3 (by assumption) ?_
      case hyc3 => (intro w hSw; (try dsimp only at hSw); go_simp <;> with_reducible rfl)
      (try simp only [Act.put, List.setIfInBounds_toArray, List.set_cons_zero, List.set_cons_succ])
      refine wpAnyH_tk 4 (v := ?vc4) rfl (by kernel_rfl) (by kernel_rfl) (by kernel_rfl) (fun _ _ _ h => h) (by rfl) ?hyc4 (by assumption) ?_
      case hyc4 => (intro w hSw; (try dsimp only at hSw); go_simp <;> with_reducible rfl)
      (try simp only [Act.put, List.setIfInBounds_toArray, List.set_cons_zero, List.set_cons_succ])
      refine wpAnyH_tk 5 (v := ?vc5) rfl (by kernel_rfl) (by kernel_rfl) (by kernel_rfl) (fun _ _ _ h => h) (by rfl) ?hyc5 (by assumption) ?_
      case hyc5 => (intro w hSw; (try dsimp only at hSw); go_simp <;> with_reducible rfl)
      (try simp only [Act.put, List.setIfInBounds_toArray, List.set_cons_zero, List.set_cons_succ])
      refine wpAnyH_tk 6 (v := ?vc6) rfl (by kernel_rfl) (by kernel_rfl) (by kernel_rfl) (fun _ _ _ h => h) (by rfl) ?hyc6 (by assumption) ?_
      case hyc6 => (intro w hSw; (try dsimp only at hSw); go_simp <;> with_reducible rfl)
      (try simp only [Act.put, List.setIfInBounds_toArray, List.set_cons_zero, List.set_cons_succ])
      refine wpAnyH_tk 7 (v := ?vc7) rfl (by kernel_rfl) (by kernel_rfl) (by kernel_rfl) (fun _ _ _ h => h) (by rfl) ?hyc7 (by assumption) ?_
      case hyc7 => (intro w hSw; (try dsimp only at hSw); go_simp <;> with_reducible rfl)
      (try simp only [Act.put, List.setIfInBounds_toArray, List.set_cons_zero, List.set_cons_succ])
      refine wpAnyH_tk 8 (v := ?vc8) rfl (by kernel_rfl) (by kernel_rfl) (by kernel_rfl) (fun _ _ _ h => h) (by rfl) ?hyc8 (by assumption) ?_
      case hyc8 => (intro w hSw; (try dsimp only at hSw); go_simp <;> with_reducible rfl)
      (try simp only [Act.put, List.setIfInBounds_toArray, List.set_cons_zero, List.set_cons_succ])
      refine wpAnyH_tk 9 (v := ?vc9) rfl (by kernel_rfl) (by kernel_rfl) (by kernel_rfl) (fun _ _ _ h => h) (by rfl) ?hyc9 (by assumption) ?_
      case hyc9 => (intro w hSw; (try dsimp only at hSw); go_simp <;> with_reducible rfl)
      (try simp only [Act.put, List.setIfInBounds_toArray, List.set_cons_zero, List.set_cons_succ])
      refine wpAnyH_tk 10 (v := ?vc10) rfl (by kernel_rfl) (by kernel_rfl) (by kernel_rfl) (fun _ _ _ h => h) (by rfl) ?hyc10 (by assumption) ?_
      case hyc10 => (intro w hSw; (try dsimp only at hSw); go_simp <;> with_reducible rfl)
      (try simp only [Act.put, List.setIfInBounds_toArray, List.set_cons_zero, List.set_cons_succ])
      refine wpAnyH_tk 11 (v := ?vc11) rfl (by kernel_rfl) (by kernel_rfl) (by kernel_rfl) (fun _ _ _ h => h) (by rfl) ?hyc11 (by assumption) ?_
      case hyc11 => (intro w hSw; (try dsimp only at hSw); go_simp <;> with_reducible rfl)
      (try simp only [Act.put, List.setIfInBounds_toArray, List.set_cons_zero, List.set_cons_succ])
      refine wpAnyH_tk 12 (v := ?vc12) rfl (by kernel_rfl) (by kernel_rfl) (by kernel_rfl) (fun _ _ _ h => h) (by rfl) ?hyc12 (by assumption) ?_
      case hyc12 => (intro w hSw; (try dsimp only at hSw); go_simp <;> with_reducible rfl)
      (try simp only [Act.put, List.setIfInBounds_toArray, List.set_cons_zero, List.set_cons_succ])
      refine wpAnyH_tk 13 (v := ?vc13) rfl (by kernel_rfl) (by kernel_rfl) (by kernel_rfl) (fun _ _ _ h => h) (by rfl) ?hyc13 (by assumption) ?_
      case hyc13 => (intro w hSw; (try dsimp only at hSw); go_simp <;> with_reducible rfl)
      (try simp only [Act.put, List.setIfInBounds_toArray, List.set_cons_zero, List.set_cons_succ])
      refine wpAnyH_tk 14 (v := ?vc14) rfl (by kernel_rfl) (by kernel_rfl) (by kernel_rfl) (fun _ _ _ h => h) (by rfl) ?hyc14 (by assumption) ?_
      case hyc14 => (intro w hSw; (try dsimp only at hSw); go_simp <;> with_reducible rfl)
      (try simp only [Act.put, List.setIfInBounds_toArray, List.set_cons_zero, List.set_cons_succ])
      refine wpAnyH_tk 15 (v := ?vc15) rfl (by kernel_rfl) (by kernel_rfl) (by kernel_rfl) (fun _ _ _ h => h) (by rfl) ?hyc15 (by assumption) ?_
      case hyc15 => (intro w hSw; (try dsimp only at hSw); go_simp <;> with_reducible rfl)
      (try simp only [Act.put, List.setIfInBounds_toArray, List.set_cons_zero, List.set_cons_succ])
      refine wpAnyH_tk 16 (v := ?vc16) rfl (by kernel_rfl) (by kernel_rfl) (by kernel_rfl) (fun _ _ _ h => h) (by rfl) ?hyc16 (by assumption) ?_
      case hyc16 => (intro w hSw; (try dsimp only at hSw); go_simp <;> with_reducible rfl)
      (try simp only [Act.put, List.setIfInBounds_toArray, List.set_cons_zero, List.set_cons_succ])
      refine wpAnyH_tk 17 (v := ?vc17) rfl (by kernel_rfl) (by kernel_rfl) (by kernel_rfl) (fun _ _ _ h => h) (by rfl) ?hyc17 (by assumption) ?_
      case hyc17 => (intro w hSw; (try dsimp only at hSw); go_simp <;> with_reducible rfl)
      (try simp only [Act.put, List.setIfInBounds_toArray, List.set_cons_zero, List.set_cons_succ])
      refine wpAnyH_tk 18 (v := ?vc18) rfl (by kernel_rfl) (by kernel_rfl) (by kernel_rfl) (fun _ _ _ h => h) (by rfl) ?hyc18 (by assumption) ?_
      case hyc18 => (intro w hSw; (try dsimp only at hSw); go_simp <;> with_reducible rfl)
      (try simp only [Act.put, List.setIfInBounds_toArray, List.set_cons_zero, List.set_cons_succ])
      refine wpAnyH_tk 19 (v := ?vc19) rfl (by kernel_rfl) (by kernel_rfl) (by kernel_rfl) (fun _ _ _ h => h) (by rfl) ?hyc19 (by assumption) ?_
      case hyc19 => (intro w hSw; (try dsimp only at hSw); go_simp <;> with_reducible rfl)
      (try simp only [Act.put, List.setIfInBounds_toArray, List.set_cons_zero, List.set_cons_succ])
      refine wpAnyH_tk 20 (v := ?vc20) rfl (by kernel_rfl) (by kernel_rfl) (by kernel_rfl) (fun _ _ _ h => h) (by rfl) ?hyc20 (by assumption) ?_
      case hyc20 => (intro w hSw; (try dsimp only at hSw); go_simp <;> with_reducible rfl)
      (try simp only [Act.put, List.setIfInBounds_toArray, List.set_cons_zero, List.set_cons_succ])
      refine wpAnyH_tk 21 (v := ?vc21) rfl (by kernel_rfl) (by kernel_rfl) (by kernel_rfl) (fun _ _ _ h => h) (by rfl) ?hyc21 (by assumption) ?_
      case hyc21 => (intro w hSw; (try dsimp only at hSw); go_simp <;> with_reducible rfl)
      (try simp only [Act.put, List.setIfInBounds_toArray, List.set_cons_zero, List.set_cons_succ])
      refine wpAnyH_tk 22 (v := ?vc22) rfl (by kernel_rfl) (by kernel_rfl) (by kernel_rfl) (fun _ _ _ h => h) (by rfl) ?hyc22 (by assumption) ?_
      case hyc22 => (intro w hSw; (try dsimp only at hSw); go_simp <;> with_reducible rfl)
      (try simp only [Act.put, List.setIfInBounds_toArray, List.set_cons_zero, List.set_cons_succ])
      refine wpAnyH_tk 23 (v := ?vc23) rfl (by kernel_rfl) (by kernel_rfl) (by kernel_rfl) (fun _ _ _ h => h) (by rfl) ?hyc23 (by assumption) ?_
      case hyc23 => (intro w hSw; (try dsimp only at hSw); go_simp <;> with_reducible rfl)
      (try simp only [Act.put, List.setIfInBounds_toArray, List.set_cons_zero, List.set_cons_succ])
      refine wpAnyH_tk 24 (v := ?vc24) rfl (by kernel_rfl) (by kernel_rfl) (by kernel_rfl) (fun _ _ _ h => h) (by rfl) ?hyc24 (by assumption) ?_
      case hyc24 => (intro w hSw; (try dsimp only at hSw); go_simp <;> with_reducible rfl)
      (try simp only [Act.put, List.setIfInBounds_toArray, List.set_cons_zero, List.set_cons_succ])
      refine wpAnyH_tk 25 (v := ?vc25) rfl (by kernel_rfl) (by kernel_rfl) (by kernel_rfl) (fun _ _ _ h => h) (by rfl) ?hyc25 (by assumption) ?_
      case hyc25 => (intro w hSw; (try dsimp only at hSw); go_simp <;> with_reducible rfl)
      (try simp only [Act.put, List.setIfInBounds_toArray, List.set_cons_zero, List.set_cons_succ])
      refine wpAnyH_tk 26 (v := ?vc26) rfl (by kernel_rfl) (by kernel_rfl) (by kernel_rfl) (fun _ _ _ h => h) (by rfl) ?hyc26 (by assumption) ?_
      case hyc26 => (intro w hSw; (try dsimp only at hSw); go_simp <;> with_reducible rfl)
      (try simp only [Act.put, List.setIfInBounds_toArray, List.set_cons_zero, List.set_cons_succ])
      refine wpAnyH_tk 27 (v := ?vc27) rfl (by kernel_rfl) (by kernel_rfl) (by kernel_rfl) (fun _ _ _ h => h) (by rfl) ?hyc27 (by assumption) ?_
      case hyc27 => (intro w hSw; (try dsimp only at hSw); go_simp <;> with_reducible rfl)
      (try simp only [Act.put, List.setIfInBounds_toArray, List.set_cons_zero, List.set_cons_succ])
      refine wpAnyH_tk 28 (v := ?vc28) rfl (by kernel_rfl) (by kernel_rfl) (by kernel_rfl) (fun _ _ _ h => h) (by rfl) ?hyc28 (by assumption) ?_
      case hyc28 => (intro w hSw; (try dsimp only at hSw); go_simp <;> with_reducible rfl)
      (try simp only [Act.put, List.setIfInBounds_toArray, List.set_cons_zero, List.set_cons_succ])
      refine wpAnyH_tk 29 (v := ?vc29) rfl (by kernel_rfl) (by kernel_rfl) (by kernel_rfl) (fun _ _ _ h => h) (by rfl) ?hyc29 (by assumption) ?_
      case hyc29 => (intro w hSw; (try dsimp only at hSw); go_simp <;> with_reducible rfl)
      (try simp only [Act.put, List.setIfInBounds_toArray, List.set_cons_zero, List.set_cons_succ])
      refine wpAnyH_tk 30 (v := ?vc30) rfl (by kernel_rfl) (by kernel_rfl) (by kernel_rfl) (fun _ _ _ h => h) (by rfl) ?hyc30 (by assumption) ?_
      case hyc30 => (intro w hSw; (try dsimp only at hSw); go_simp <;> with_reducible rfl)
      (try simp only [Act.put, List.setIfInBounds_toArray, List.set_cons_zero, List.set_cons_succ])
      refine wpAnyH_tk 31 (v := ?vc31) rfl (by kernel_rfl) (by kernel_rfl) (by kernel_rfl) (fun _ _ _ h => h) (by rfl) ?hyc31 (by assumption) ?_
      case hyc31 => (intro w hSw; (try dsimp only at hSw); go_simp <;> with_reducible rfl)
      (try simp only [Act.put, List.setIfInBounds_toArray, List.set_cons_zero, List.set_cons_succ])
      refine wpAnyH_skips 31 true 94 2 (by kernel_rfl) rfl (fun _ _ _ _ _ h => h) [32, 33] [95, 96] _ _ _ rfl (by kernel_rfl) (by rfl) (by assumption) ?_
      (try simp only [putsAll, List.foldl, Act.put, List.setIfInBounds_toArray, List.set_cons_zero, List.set_cons_succ])
      refine wpAnyH_tk 34 (v := ?vc34) rfl (by kernel_rfl) (by kernel_rfl) (by kernel_rfl) (fun _ _ _ h => h) (by rfl) ?hyc34 (by assumption) ?_
      case hyc34 => (intro w hSw; (try dsimp only at hSw); go_simp <;> with_reducible rfl)
      (try simp only [Act.put, List.setIfInBounds_toArray, List.set_cons_zero, List.set_cons_succ])
      refine wpAnyH_tk 35 (v := ?vc35) rfl (by kernel_rfl) (by kernel_rfl) (by kernel_rfl) (fun _ _ _ h => h) (by rfl) ?hyc35 (by assumption) ?_
      case hyc35 => (intro w hSw; (try dsimp only at hSw); go_simp <;> with_reducible rfl)
      (try simp only [Act.put, List.setIfInBounds_toArray, List.set_cons_zero, List.set_cons_succ])
      refine wpAnyH_done (by kernel_rfl) ?_ _
      clear hHeld ca' dpq hd0b
      clear c0 c1
      have eb := hid ((Ext.refl wa1).drew)
      have X6 := hid (X5.out.ext eb.out)
      have T_6 := hid (T_5.out.ext eb.out)
      have OT_6 := hid (HOT.out.ext eb.out)
      have E6 := hid (E5.out.trans eb.out)
      obtain ⟨c0, c1⟩ := X6.out.cells
      clear eb
      have wa := WA.out
      have wb := WB.out
      have wo := WO.out
      go_wp2
      refine wp_region_held_drew (S := (fun w' => w'.cell? ⟨w.heap.size, 0, none⟩ = some (.int .i64 N) ∧ w'.cell? ⟨w.heap.size, 1, none⟩ = some (.slice ao rs.length cap))) (by kernel_rfl) ?hSd0 (fun hHeld => ?_)
      case hSd0 => (first | (exact ⟨c0, c1⟩) | ((try dsimp only); exact ⟨c0, c1⟩))
      refine wpAnyH_tk 0 (v := ?vd0) rfl (by kernel_rfl) (by kernel_rfl) (by kernel_rfl) (fun _ _ _ h => h) (by rfl) ?hyd0 (by assumption) ?_
      case hyd0 => (intro w hSw; (try dsimp only at hSw); go_simp <;> with_reducible rfl)
      (try simp only [Act.put, List.setIfInBounds_toArray, List.set_cons_zero, List.set_cons_succ])
      refine wpAnyH_tk 2 (v := ?vd2) rfl (by kernel_rfl) (by kernel_rfl) (by kernel_rfl) (fun _ _ _ h => h) (by rfl) ?hyd2 (by assumption) ?_
      case hyd2 => (intro w hSw; (try dsimp only at hSw); go_simp <;> with_reducible rfl)
      (try simp only [Act.put, List.setIfInBounds_toArray, List.set_cons_zero, List.set_cons_succ])
      refine wpAnyH_tk 3 (v := ?vd3) rfl (by kernel_rfl) (by kernel_rfl) (by kernel_rfl) (fun _ _ _ h => h) (by rfl) ?hyd3 (by assumption) ?_
      case hyd3 => (intro w hSw; (try dsimp only at hSw); go_simp <;> with_reducible rfl)
      (try simp only [Act.put, List.setIfInBounds_toArray, List.set_cons_zero, List.set_cons_succ])
      refine wpAnyH_tk 4 (v := ?vd4) rfl (by kernel_rfl) (by kernel_rfl) (by kernel_rfl) (fun _ _ _ h => h) (by rfl) ?hyd4 (by assumption) ?_
      case hyd4 => (intro w hSw; (try dsimp only at hSw); go_simp <;> with_reducible rfl)
      (try simp only [Act.put, List.setIfInBounds_toArray, List.set_cons_zero, List.set_cons_succ])
      refine wpAnyH_tk 5 (v := ?vd5) rfl (by kernel_rfl) (by kernel_rfl) (by kernel_rfl) (fun _ _ _ h => h) (by rfl) ?hyd5 (by assumption) ?_
      case hyd5 => (intro w hSw; (try dsimp only at hSw); go_simp <;> with_reducible rfl)
      (try simp only [Act.put, List.setIfInBounds_toArray, List.set_cons_zero, List.set_cons_succ])
      refine wpAnyH_tk 6 (v := ?vd6) rfl (by kernel_rfl) (by kernel_rfl) (by kernel_rfl) (fun _ _ _ h => h) (by rfl) ?hyd6 (by assumption) ?_
      case hyd6 => (intro w hSw; (try dsimp only at hSw); go_simp <;> with_reducible rfl)
      (try simp only [Act.put, List.setIfInBounds_toArray, List.set_cons_zero, List.set_cons_succ])
      refine wpAnyH_tk 7 (v := ?vd7) rfl (by kernel_rfl) (by kernel_rfl) (by kernel_rfl) (fun _ _ _ h => h) (by rfl) ?hyd7 (by assumption) ?_
      case hyd7 => (intro w hSw; (try dsimp only at hSw); go_simp <;> with_reducible rfl)
      (try simp only [Act.put, List.setIfInBounds_toArray, List.set_cons_zero, List.set_cons_succ])
      refine wpAnyH_one 1 rfl (by kernel_rfl) (by rfl) (fun K hK => ?_)
      go_simp
      (refine (Of_any _ ⟨N, rs⟩ _ (MapR.ext HM.out (E6.out.trans (Ext.refl wa1.drew).drew))).mono ?_; rintro e wc0 ⟨uM, rfl, huM, hec0⟩; dsimp only at huM; rw [HTK.out] at huM; have HU := hid (huM.roads (by omega)); clear huM)
      refine hK.out _ _ ?hSd2 (fun hHeld => ?_)
      case hSd2 => (first | (exact ⟨((Ext.refl wa1.drew).drew.trans hec0).cell c0, ((Ext.refl wa1.drew).drew.trans hec0).cell c1⟩) | ((try dsimp only); exact ⟨((Ext.refl wa1.drew).drew.trans hec0).cell c0, ((Ext.refl wa1.drew).drew.trans hec0).cell c1⟩))
      clear hK K
      (try dsimp only)
      refine wpAnyH_one 8 rfl (by kernel_rfl) (by rfl) (fun K hK => ?_)
      go_simp
      (refine (CheckTree_ok _ _ N rs P _ _ HU.out (OT_6.out.ext ((Ext.refl wa1.drew).drew.trans hec0)) HB.out HSP.out (HTZ.out.ext (E6.out.trans ((Ext.refl wa1.drew).drew.trans hec0))) (.inl ⟨HBT.out.1, rfl, rfl⟩)).mono ?_; rw [best_cost HB.out HSP.out HCP.out HBT.out, ← (hV.out.1 HCP.out).1]; rintro e wc1 ⟨rfl, hec1⟩)
      refine hK.out _ _ ?hSd9 (fun hHeld => ?_)
      case hSd9 => (first | (exact ⟨(((Ext.refl wa1.drew).drew.trans hec0).trans hec1).cell c0, (((Ext.refl wa1.drew).drew.trans hec0).trans hec1).cell c1⟩) | ((try dsimp only); exact ⟨(((Ext.refl wa1.drew).drew.trans hec0).trans hec1).cell c0, (((Ext.refl wa1.drew).drew.trans hec0).trans hec1).cell c1⟩))
      clear hK K
      (try simp only [Act.put, List.setIfInBounds_toArray, List.set_cons_zero, List.set_cons_succ])
      refine wpAnyH_tk 9 (v := ?vd9) rfl (by kernel_rfl) (by kernel_rfl) (by kernel_rfl) (fun _ _ _ h => h) (by rfl) ?hyd9 (by assumption) ?_
      case hyd9 => (intro w hSw; (try dsimp only at hSw); go_simp <;> with_reducible rfl)
      (try simp only [Act.put, List.setIfInBounds_toArray, List.set_cons_zero, List.set_cons_succ])
      refine wpAnyH_tk 10 (v := ?vd10) rfl (by kernel_rfl) (by kernel_rfl) (by kernel_rfl) (fun _ _ _ h => h) (by rfl) ?hyd10 (by assumption) ?_
      case hyd10 => (intro w hSw; (try dsimp only at hSw); go_simp <;> with_reducible rfl)
      (try simp only [Act.put, List.setIfInBounds_toArray, List.set_cons_zero, List.set_cons_succ])
      refine wpAnyH_tk 11 (v := ?vd11) rfl (by kernel_rfl) (by kernel_rfl) (by kernel_rfl) (fun _ _ _ h => h) (by rfl) ?hyd11 (by assumption) ?_
      case hyd11 => (intro w hSw; (try dsimp only at hSw); go_simp <;> with_reducible rfl)
      (try simp only [Act.put, List.setIfInBounds_toArray, List.set_cons_zero, List.set_cons_succ])
      refine wpAnyH_tk 12 (v := ?vd12) rfl (by kernel_rfl) (by kernel_rfl) (by kernel_rfl) (fun _ _ _ h => h) (by rfl) ?hyd12 (by assumption) ?_
      case hyd12 => (intro w hSw; (try dsimp only at hSw); go_simp <;> with_reducible rfl)
      (try simp only [Act.put, List.setIfInBounds_toArray, List.set_cons_zero, List.set_cons_succ])
      refine wpAnyH_tk 13 (v := ?vd13) rfl (by kernel_rfl) (by kernel_rfl) (by kernel_rfl) (fun _ _ _ h => h) (by rfl) ?hyd13 (by assumption) ?_
      case hyd13 => (intro w hSw; (try dsimp only at hSw); go_simp <;> with_reducible rfl)
      (try simp only [Act.put, List.setIfInBounds_toArray, List.set_cons_zero, List.set_cons_succ])
      refine wpAnyH_tk 14 (v := ?vd14) rfl (by kernel_rfl) (by kernel_rfl) (by kernel_rfl) (fun _ _ _ h => h) (by rfl) ?hyd14 (by assumption) ?_
      case hyd14 => (intro w hSw; (try dsimp only at hSw); go_simp <;> with_reducible rfl)
      (try simp only [Act.put, List.setIfInBounds_toArray, List.set_cons_zero, List.set_cons_succ])
      refine wpAnyH_tk 15 (v := ?vd15) rfl (by kernel_rfl) (by kernel_rfl) (by kernel_rfl) (fun _ _ _ h => h) (by rfl) ?hyd15 (by assumption) ?_
      case hyd15 => (intro w hSw; (try dsimp only at hSw); go_simp <;> with_reducible rfl)
      (try simp only [Act.put, List.setIfInBounds_toArray, List.set_cons_zero, List.set_cons_succ])
      refine wpAnyH_done (by kernel_rfl) ?_ _
      clear hHeld
      clear c0 c1
      have ec := hid ((((Ext.refl wa1.drew).drew.trans hec0).trans hec1))
      have X7 := hid (X6.out.ext ec.out)
      have T_7 := hid (T_6.out.ext ec.out)
      have OT_7 := hid (OT_6.out.ext ec.out)
      have E7 := hid (E6.out.trans ec.out)
      clear hec0 hec1
      clear ec
      obtain ⟨c0, c1⟩ := X7.out.cells
      clear wa wb wo HU
      obtain ⟨gr, ca, ia, -⟩ := T_7.out.row hA
      have ca' : World.cell? wc1 ⟨gb, A, none⟩ = some (.slice (some ⟨gr, 0, none⟩) N N) := ca
      have dpq := ia.cell (i := B) (by rw [rowL_len]; exact hB2)
      rw [rowL_fn hB2, ← HDV.out] at dpq
      clear ca ia
      have hdd : (dv != dv) = false := by simp
      go_wp2_with (fail)
      refine (Of_any _ ⟨N, rs⟩ _ (MapR.ext HM.out E7.out)).mono ?_
      rintro e w8 ⟨uU, rfl, hu, he8⟩
      dsimp only at hu
      rw [HTK.out] at hu
      clear c0 c1
      have X8 := hid (X7.out.ext he8)
      have T_8 := hid (T_7.out.ext he8)
      have E8 := hid (E7.out.trans he8)
      clear he8
      obtain ⟨c0, c1⟩ := X8.out.cells
      have U_8 := hid (hu.roads (by omega))
      clear hu
      go_wp2_with (fail)
      refine (Spanning_ok _ N rs _ U_8.out HB.out (HTZ.out.ext E8.out) HCA.out).mono ?_
      rintro e w9 ⟨vs, ls, rfl, hos, hbs, he9⟩
      have HBS := hid hbs.out
      obtain ⟨as_, cs, rfl⟩ := own_len hos
      have HOS := hid (hos.ints (by have := treeP_len HBS.out.1; omega))
      clear hos hbs
      clear c0 c1
      have X9 := hid (X8.out.ext he9)
      have T_9 := hid (T_8.out.ext he9)
      have U_9 := hid (U_8.out.ext he9)
      have E9 := hid (E8.out.trans he9)
      clear he9
      obtain ⟨c0, c1⟩ := X9.out.cells
      have OS_9 := hid (HOS.out)
      clear HOS
      clear ca' dpq hdd
      have ws1 := wS1.out
      have ws3 := wS3.out
      have ws4 := wS4.out
      go_wp2
      refine wp_region_held_drew (S := (fun w' => w'.cell? ⟨w.heap.size, 0, none⟩ = some (.int .i64 N) ∧ w'.cell? ⟨w.heap.size, 1, none⟩ = some (.slice ao rs.length cap))) (by kernel_rfl) ?hSe0 (fun hHeld => ?_)
      case hSe0 => (first | (exact ⟨c0, c1⟩) | ((try dsimp only); exact ⟨c0, c1⟩))
      refine wpAnyH_tk 0 (v := ?ve0) rfl (by kernel_rfl) (by kernel_rfl) (by kernel_rfl) (fun _ _ _ h => h) (by rfl) ?hye0 (by assumption) ?_
      case hye0 => (intro w hSw; (try dsimp only at hSw); go_simp <;> with_reducible rfl)
      (try simp only [Act.put, List.setIfInBounds_toArray, List.set_cons_zero, List.set_cons_succ])
      refine wpAnyH_tk 2 (v := ?ve2) rfl (by kernel_rfl) (by kernel_rfl) (by kernel_rfl) (fun _ _ _ h => h) (by rfl) ?hye2 (by assumption) ?_
      case hye2 => (intro w hSw; (try dsimp only at hSw); go_simp <;> with_reducible rfl)
      (try simp only [Act.put, List.setIfInBounds_toArray, List.set_cons_zero, List.set_cons_succ])
      refine wpAnyH_tk 3 (v := ?ve3) rfl (by kernel_rfl) (by kernel_rfl) (by kernel_rfl) (fun _ _ _ h => h) (by rfl) ?hye3 (by assumption) ?_
      case hye3 => (intro w hSw; (try dsimp only at hSw); go_simp <;> with_reducible rfl)
      (try simp only [Act.put, List.setIfInBounds_toArray, List.set_cons_zero, List.set_cons_succ])
      refine wpAnyH_tk 4 (v := ?ve4) rfl (by kernel_rfl) (by kernel_rfl) (by kernel_rfl) (fun _ _ _ h => h) (by rfl) ?hye4 (by assumption) ?_
      case hye4 => (intro w hSw; (try dsimp only at hSw); go_simp <;> with_reducible rfl)
      (try simp only [Act.put, List.setIfInBounds_toArray, List.set_cons_zero, List.set_cons_succ])
      refine wpAnyH_tk 5 (v := ?ve5) rfl (by kernel_rfl) (by kernel_rfl) (by kernel_rfl) (fun _ _ _ h => h) (by rfl) ?hye5 (by assumption) ?_
      case hye5 => (intro w hSw; (try dsimp only at hSw); go_simp <;> with_reducible rfl)
      (try simp only [Act.put, List.setIfInBounds_toArray, List.set_cons_zero, List.set_cons_succ])
      refine wpAnyH_one 1 rfl (by kernel_rfl) (by rfl) (fun K hK => ?_)
      go_simp
      (refine (Of_any _ ⟨N, rs⟩ _ (MapR.ext HM.out (E9.out.trans (Ext.refl w9).drew))).mono ?_; rintro e we0 ⟨uM, rfl, huM, hee0⟩; dsimp only at huM; rw [HTK.out] at huM; have HU := hid (huM.roads (by omega)); clear huM)
      refine hK.out _ _ ?hSe2 (fun hHeld => ?_)
      case hSe2 => (first | (exact ⟨((Ext.refl w9).drew.trans hee0).cell c0, ((Ext.refl w9).drew.trans hee0).cell c1⟩) | ((try dsimp only); exact ⟨((Ext.refl w9).drew.trans hee0).cell c0, ((Ext.refl w9).drew.trans hee0).cell c1⟩))
      clear hK K
      (try dsimp only)
      refine wpAnyH_one 6 rfl (by kernel_rfl) (by rfl) (fun K hK => ?_)
      go_simp
      (refine (Tree_ok _ N rs S _ HU.out HB.out HSA.out (HTZ.out.ext (E9.out.trans ((Ext.refl w9).drew.trans hee0))) (by rw [HSS.out]; exact HCA.out)).mono ?_; rintro e we1 ⟨vu, lu, rfl, hou, hbu, hee1⟩; have HBU := hid hbu.out; obtain ⟨au, cu, rfl⟩ := own_len hou; have HOU := hid (hou.ints (by have := treeP_len HBU.out.1; omega)); clear hou hbu)
      refine hK.out _ _ ?hSe7 (fun hHeld => ?_)
      case hSe7 => (first | (exact ⟨(((Ext.refl w9).drew.trans hee0).trans hee1).cell c0, (((Ext.refl w9).drew.trans hee0).trans hee1).cell c1⟩) | ((try dsimp only); exact ⟨(((Ext.refl w9).drew.trans hee0).trans hee1).cell c0, (((Ext.refl w9).drew.trans hee0).trans hee1).cell c1⟩))
      clear hK K
      (try simp only [Act.put, List.setIfInBounds_toArray, List.set_cons_zero, List.set_cons_succ])
      refine wpAnyH_tk 7 (v := ?ve7) rfl (by kernel_rfl) (by kernel_rfl) (by kernel_rfl) (fun _ _ _ h => h) (by rfl) ?hye7 (by assumption) ?_
      case hye7 => (intro w hSw; (try dsimp only at hSw); go_simp <;> with_reducible rfl)
      (try simp only [Act.put, List.setIfInBounds_toArray, List.set_cons_zero, List.set_cons_succ])
      refine wpAnyH_tk 8 (v := ?ve8) rfl (by kernel_rfl) (by kernel_rfl) (by kernel_rfl) (fun _ _ _ h => h) (by rfl) ?hye8 (by assumption) ?_
      case hye8 => (intro w hSw; (try dsimp only at hSw); go_simp <;> with_reducible rfl)
      (try simp only [Act.put, List.setIfInBounds_toArray, List.set_cons_zero, List.set_cons_succ])
      refine wpAnyH_tk 9 (v := ?ve9) rfl (by kernel_rfl) (by kernel_rfl) (by kernel_rfl) (fun _ _ _ h => h) (by rfl) ?hye9 (by assumption) ?_
      case hye9 => (intro w hSw; (try dsimp only at hSw); go_simp <;> with_reducible rfl)
      (try simp only [Act.put, List.setIfInBounds_toArray, List.set_cons_zero, List.set_cons_succ])
      refine wpAnyH_tk 10 (v := ?ve10) rfl (by kernel_rfl) (by kernel_rfl) (by kernel_rfl) (fun _ _ _ h => h) (by rfl) ?hye10 (by assumption) ?_
      case hye10 => (intro w hSw; (try dsimp only at hSw); go_simp <;> with_reducible rfl)
      (try simp only [Act.put, List.setIfInBounds_toArray, List.set_cons_zero, List.set_cons_succ])
      refine wpAnyH_tk 11 (v := ?ve11) rfl (by kernel_rfl) (by kernel_rfl) (by kernel_rfl) (fun _ _ _ h => h) (by rfl) ?hye11 (by assumption) ?_
      case hye11 => (intro w hSw; (try dsimp only at hSw); go_simp <;> with_reducible rfl)
      (try simp only [Act.put, List.setIfInBounds_toArray, List.set_cons_zero, List.set_cons_succ])
      refine wpAnyH_done (by kernel_rfl) ?_ _
      clear hHeld
      clear c0 c1
      have ee := hid ((((Ext.refl w9).drew.trans hee0).trans hee1))
      have X10 := hid (X9.out.ext ee.out)
      have T_10 := hid (T_9.out.ext ee.out)
      have OS_10 := hid (OS_9.out.ext ee.out)
      have E10 := hid (E9.out.trans ee.out)
      clear hee0 hee1
      clear ee
      obtain ⟨c0, c1⟩ := X10.out.cells
      clear HU
      go_wp2
      refine wp_region_held_drew (S := (fun w' => w'.cell? ⟨w.heap.size, 0, none⟩ = some (.int .i64 N) ∧ w'.cell? ⟨w.heap.size, 1, none⟩ = some (.slice ao rs.length cap))) (by kernel_rfl) ?hSf0 (fun hHeld => ?_)
      case hSf0 => (first | (exact ⟨c0, c1⟩) | ((try dsimp only); exact ⟨c0, c1⟩))
      refine wpAnyH_tk 0 (v := ?vf0) rfl (by kernel_rfl) (by kernel_rfl) (by kernel_rfl) (fun _ _ _ h => h) (by rfl) ?hyf0 (by assumption) ?_
      case hyf0 => (intro w hSw; (try dsimp only at hSw); go_simp <;> with_reducible rfl)
      (try simp only [Act.put, List.setIfInBounds_toArray, List.set_cons_zero, List.set_cons_succ])
      refine wpAnyH_tk 2 (v := ?vf2) rfl (by kernel_rfl) (by kernel_rfl) (by kernel_rfl) (fun _ _ _ h => h) (by rfl) ?hyf2 (by assumption) ?_
      case hyf2 => (intro w hSw; (try dsimp only at hSw); go_simp <;> with_reducible rfl)
      (try simp only [Act.put, List.setIfInBounds_toArray, List.set_cons_zero, List.set_cons_succ])
      refine wpAnyH_tk 3 (v := ?vf3) rfl (by kernel_rfl) (by kernel_rfl) (by kernel_rfl) (fun _ _ _ h => h) (by rfl) ?hyf3 (by assumption) ?_
      case hyf3 => (intro w hSw; (try dsimp only at hSw); go_simp <;> with_reducible rfl)
      (try simp only [Act.put, List.setIfInBounds_toArray, List.set_cons_zero, List.set_cons_succ])
      refine wpAnyH_tk 4 (v := ?vf4) rfl (by kernel_rfl) (by kernel_rfl) (by kernel_rfl) (fun _ _ _ h => h) (by rfl) ?hyf4 (by assumption) ?_
      case hyf4 => (intro w hSw; (try dsimp only at hSw); go_simp <;> with_reducible rfl)
      (try simp only [Act.put, List.setIfInBounds_toArray, List.set_cons_zero, List.set_cons_succ])
      refine wpAnyH_tk 5 (v := ?vf5) rfl (by kernel_rfl) (by kernel_rfl) (by kernel_rfl) (fun _ _ _ h => h) (by rfl) ?hyf5 (by assumption) ?_
      case hyf5 => (intro w hSw; (try dsimp only at hSw); go_simp <;> with_reducible rfl)
      (try simp only [Act.put, List.setIfInBounds_toArray, List.set_cons_zero, List.set_cons_succ])
      refine wpAnyH_tk 6 (v := ?vf6) rfl (by kernel_rfl) (by kernel_rfl) (by kernel_rfl) (fun _ _ _ h => h) (by rfl) ?hyf6 (by assumption) ?_
      case hyf6 => (intro w hSw; (try dsimp only at hSw); go_simp <;> with_reducible rfl)
      (try simp only [Act.put, List.setIfInBounds_toArray, List.set_cons_zero, List.set_cons_succ])
      refine wpAnyH_one 1 rfl (by kernel_rfl) (by rfl) (fun K hK => ?_)
      go_simp
      (refine (Of_any _ ⟨N, rs⟩ _ (MapR.ext HM.out (E10.out.trans (Ext.refl we1).drew))).mono ?_; rintro e wf0 ⟨uM, rfl, huM, hef0⟩; dsimp only at huM; rw [HTK.out] at huM; have HU := hid (huM.roads (by omega)); clear huM)
      refine hK.out _ _ ?hSf2 (fun hHeld => ?_)
      case hSf2 => (first | (exact ⟨((Ext.refl we1).drew.trans hef0).cell c0, ((Ext.refl we1).drew.trans hef0).cell c1⟩) | ((try dsimp only); exact ⟨((Ext.refl we1).drew.trans hef0).cell c0, ((Ext.refl we1).drew.trans hef0).cell c1⟩))
      clear hK K
      (try dsimp only)
      refine wpAnyH_one 7 rfl (by kernel_rfl) (by rfl) (fun K hK => ?_)
      go_simp
      (refine (CheckTree_ok _ _ N rs S _ _ HU.out (OS_10.out.ext ((Ext.refl we1).drew.trans hef0)) HB.out HSA.out (HTZ.out.ext (E10.out.trans ((Ext.refl we1).drew.trans hef0))) (.inl ⟨by rw [HSS.out]; exact HBS.out.1, rfl, rfl⟩)).mono ?_; rw [best_cost HB.out HSA.out (by rw [HSS.out]; exact HCA.out) (by rw [HSS.out]; exact HBS.out)]; rintro e wf1 ⟨rfl, hef1⟩)
      refine hK.out _ _ ?hSf8 (fun hHeld => ?_)
      case hSf8 => (first | (exact ⟨(((Ext.refl we1).drew.trans hef0).trans hef1).cell c0, (((Ext.refl we1).drew.trans hef0).trans hef1).cell c1⟩) | ((try dsimp only); exact ⟨(((Ext.refl we1).drew.trans hef0).trans hef1).cell c0, (((Ext.refl we1).drew.trans hef0).trans hef1).cell c1⟩))
      clear hK K
      (try simp only [Act.put, List.setIfInBounds_toArray, List.set_cons_zero, List.set_cons_succ])
      refine wpAnyH_tk 8 (v := ?vf8) rfl (by kernel_rfl) (by kernel_rfl) (by kernel_rfl) (fun _ _ _ h => h) (by rfl) ?hyf8 (by assumption) ?_
      case hyf8 => (intro w hSw; (try dsimp only at hSw); go_simp <;> with_reducible rfl)
      (try simp only [Act.put, List.setIfInBounds_toArray, List.set_cons_zero, List.set_cons_succ])
      refine wpAnyH_tk 9 (v := ?vf9) rfl (by kernel_rfl) (by kernel_rfl) (by kernel_rfl) (fun _ _ _ h => h) (by rfl) ?hyf9 (by assumption) ?_
      case hyf9 => (intro w hSw; (try dsimp only at hSw); go_simp <;> with_reducible rfl)
      (try simp only [Act.put, List.setIfInBounds_toArray, List.set_cons_zero, List.set_cons_succ])
      refine wpAnyH_tk 10 (v := ?vf10) rfl (by kernel_rfl) (by kernel_rfl) (by kernel_rfl) (fun _ _ _ h => h) (by rfl) ?hyf10 (by assumption) ?_
      case hyf10 => (intro w hSw; (try dsimp only at hSw); go_simp <;> with_reducible rfl)
      (try simp only [Act.put, List.setIfInBounds_toArray, List.set_cons_zero, List.set_cons_succ])
      refine wpAnyH_tk 11 (v := ?vf11) rfl (by kernel_rfl) (by kernel_rfl) (by kernel_rfl) (fun _ _ _ h => h) (by rfl) ?hyf11 (by assumption) ?_
      case hyf11 => (intro w hSw; (try dsimp only at hSw); go_simp <;> with_reducible rfl)
      (try simp only [Act.put, List.setIfInBounds_toArray, List.set_cons_zero, List.set_cons_succ])
      refine wpAnyH_tk 12 (v := ?vf12) rfl (by kernel_rfl) (by kernel_rfl) (by kernel_rfl) (fun _ _ _ h => h) (by rfl) ?hyf12 (by assumption) ?_
      case hyf12 => (intro w hSw; (try dsimp only at hSw); go_simp <;> with_reducible rfl)
      (try simp only [Act.put, List.setIfInBounds_toArray, List.set_cons_zero, List.set_cons_succ])
      refine wpAnyH_tk 13 (v := ?vf13) rfl (by kernel_rfl) (by kernel_rfl) (by kernel_rfl) (fun _ _ _ h => h) (by rfl) ?hyf13 (by assumption) ?_
      case hyf13 => (intro w hSw; (try dsimp only at hSw); go_simp <;> with_reducible rfl)
      (try simp only [Act.put, List.setIfInBounds_toArray, List.set_cons_zero, List.set_cons_succ])
      refine wpAnyH_tk 14 (v := ?vf14) rfl (by kernel_rfl) (by kernel_rfl) (by kernel_rfl) (fun _ _ _ h => h) (by rfl) ?hyf14 (by assumption) ?_
      case hyf14 => (intro w hSw; (try dsimp only at hSw); go_simp <;> with_reducible rfl)
      (try simp only [Act.put, List.setIfInBounds_toArray, List.set_cons_zero, List.set_cons_succ])
      refine wpAnyH_done (by kernel_rfl) ?_ _
      clear hHeld
      clear c0 c1
      have ef := hid ((((Ext.refl we1).drew.trans hef0).trans hef1))
      have X11 := hid (X10.out.ext ef.out)
      have T_11 := hid (T_10.out.ext ef.out)
      have OS_11 := hid (OS_10.out.ext ef.out)
      have OU_11 := hid (HOU.out.ext ef.out)
      have E11 := hid (E10.out.trans ef.out)
      clear hef0 hef1
      clear ef
      obtain ⟨c0, c1⟩ := X11.out.cells
      clear HU
      go_wp2
      refine wp_region_held_drew (S := (fun w' => w'.cell? ⟨w.heap.size, 0, none⟩ = some (.int .i64 N) ∧ w'.cell? ⟨w.heap.size, 1, none⟩ = some (.slice ao rs.length cap))) (by kernel_rfl) ?hSg0 (fun hHeld => ?_)
      case hSg0 => (first | (exact ⟨c0, c1⟩) | ((try dsimp only); exact ⟨c0, c1⟩))
      refine wpAnyH_tk 0 (v := ?vg0) rfl (by kernel_rfl) (by kernel_rfl) (by kernel_rfl) (fun _ _ _ h => h) (by rfl) ?hyg0 (by assumption) ?_
      case hyg0 => (intro w hSw; (try dsimp only at hSw); go_simp <;> with_reducible rfl)
      (try simp only [Act.put, List.setIfInBounds_toArray, List.set_cons_zero, List.set_cons_succ])
      refine wpAnyH_tk 2 (v := ?vg2) rfl (by kernel_rfl) (by kernel_rfl) (by kernel_rfl) (fun _ _ _ h => h) (by rfl) ?hyg2 (by assumption) ?_
      case hyg2 => (intro w hSw; (try dsimp only at hSw); go_simp <;> with_reducible rfl)
      (try simp only [Act.put, List.setIfInBounds_toArray, List.set_cons_zero, List.set_cons_succ])
      refine wpAnyH_tk 3 (v := ?vg3) rfl (by kernel_rfl) (by kernel_rfl) (by kernel_rfl) (fun _ _ _ h => h) (by rfl) ?hyg3 (by assumption) ?_
      case hyg3 => (intro w hSw; (try dsimp only at hSw); go_simp <;> with_reducible rfl)
      (try simp only [Act.put, List.setIfInBounds_toArray, List.set_cons_zero, List.set_cons_succ])
      refine wpAnyH_tk 4 (v := ?vg4) rfl (by kernel_rfl) (by kernel_rfl) (by kernel_rfl) (fun _ _ _ h => h) (by rfl) ?hyg4 (by assumption) ?_
      case hyg4 => (intro w hSw; (try dsimp only at hSw); go_simp <;> with_reducible rfl)
      (try simp only [Act.put, List.setIfInBounds_toArray, List.set_cons_zero, List.set_cons_succ])
      refine wpAnyH_tk 5 (v := ?vg5) rfl (by kernel_rfl) (by kernel_rfl) (by kernel_rfl) (fun _ _ _ h => h) (by rfl) ?hyg5 (by assumption) ?_
      case hyg5 => (intro w hSw; (try dsimp only at hSw); go_simp <;> with_reducible rfl)
      (try simp only [Act.put, List.setIfInBounds_toArray, List.set_cons_zero, List.set_cons_succ])
      refine wpAnyH_tk 6 (v := ?vg6) rfl (by kernel_rfl) (by kernel_rfl) (by kernel_rfl) (fun _ _ _ h => h) (by rfl) ?hyg6 (by assumption) ?_
      case hyg6 => (intro w hSw; (try dsimp only at hSw); go_simp <;> with_reducible rfl)
      (try simp only [Act.put, List.setIfInBounds_toArray, List.set_cons_zero, List.set_cons_succ])
      refine wpAnyH_one 1 rfl (by kernel_rfl) (by rfl) (fun K hK => ?_)
      go_simp
      (refine (Of_any _ ⟨N, rs⟩ _ (MapR.ext HM.out (E11.out.trans (Ext.refl wf1).drew))).mono ?_; rintro e wg0 ⟨uM, rfl, huM, heg0⟩; dsimp only at huM; rw [HTK.out] at huM; have HU := hid (huM.roads (by omega)); clear huM)
      refine hK.out _ _ ?hSg2 (fun hHeld => ?_)
      case hSg2 => (first | (exact ⟨((Ext.refl wf1).drew.trans heg0).cell c0, ((Ext.refl wf1).drew.trans heg0).cell c1⟩) | ((try dsimp only); exact ⟨((Ext.refl wf1).drew.trans heg0).cell c0, ((Ext.refl wf1).drew.trans heg0).cell c1⟩))
      clear hK K
      (try dsimp only)
      refine wpAnyH_one 7 rfl (by kernel_rfl) (by rfl) (fun K hK => ?_)
      go_simp
      (refine (CheckTree_ok _ _ N rs S _ _ HU.out (OU_11.out.ext ((Ext.refl wf1).drew.trans heg0)) HB.out HSA.out (HTZ.out.ext (E11.out.trans ((Ext.refl wf1).drew.trans heg0))) (.inl ⟨HBU.out.1, rfl, rfl⟩)).mono ?_; rw [best_cost HB.out HSA.out (by rw [HSS.out]; exact HCA.out) HBU.out]; rintro e wg1 ⟨rfl, heg1⟩)
      refine hK.out _ _ ?hSg8 (fun hHeld => ?_)
      case hSg8 => (first | (exact ⟨(((Ext.refl wf1).drew.trans heg0).trans heg1).cell c0, (((Ext.refl wf1).drew.trans heg0).trans heg1).cell c1⟩) | ((try dsimp only); exact ⟨(((Ext.refl wf1).drew.trans heg0).trans heg1).cell c0, (((Ext.refl wf1).drew.trans heg0).trans heg1).cell c1⟩))
      clear hK K
      (try simp only [Act.put, List.setIfInBounds_toArray, List.set_cons_zero, List.set_cons_succ])
      refine wpAnyH_tk 8 (v := ?vg8) rfl (by kernel_rfl) (by kernel_rfl) (by kernel_rfl) (fun _ _ _ h => h) (by rfl) ?hyg8 (by assumption) ?_
      case hyg8 => (intro w hSw; (try dsimp only at hSw); go_simp <;> with_reducible rfl)
      (try simp only [Act.put, List.setIfInBounds_toArray, List.set_cons_zero, List.set_cons_succ])
      refine wpAnyH_tk 9 (v := ?vg9) rfl (by kernel_rfl) (by kernel_rfl) (by kernel_rfl) (fun _ _ _ h => h) (by rfl) ?hyg9 (by assumption) ?_
      case hyg9 => (intro w hSw; (try dsimp only at hSw); go_simp <;> with_reducible rfl)
      (try simp only [Act.put, List.setIfInBounds_toArray, List.set_cons_zero, List.set_cons_succ])
      refine wpAnyH_tk 10 (v := ?vg10) rfl (by kernel_rfl) (by kernel_rfl) (by kernel_rfl) (fun _ _ _ h => h) (by rfl) ?hyg10 (by assumption) ?_
      case hyg10 => (intro w hSw; (try dsimp only at hSw); go_simp <;> with_reducible rfl)
      (try simp only [Act.put, List.setIfInBounds_toArray, List.set_cons_zero, List.set_cons_succ])
      refine wpAnyH_tk 11 (v := ?vg11) rfl (by kernel_rfl) (by kernel_rfl) (by kernel_rfl) (fun _ _ _ h => h) (by rfl) ?hyg11 (by assumption) ?_
      case hyg11 => (intro w hSw; (try dsimp only at hSw); go_simp <;> with_reducible rfl)
      (try simp only [Act.put, List.setIfInBounds_toArray, List.set_cons_zero, List.set_cons_succ])
      refine wpAnyH_tk 12 (v := ?vg12) rfl (by kernel_rfl) (by kernel_rfl) (by kernel_rfl) (fun _ _ _ h => h) (by rfl) ?hyg12 (by assumption) ?_
      case hyg12 => (intro w hSw; (try dsimp only at hSw); go_simp <;> with_reducible rfl)
      (try simp only [Act.put, List.setIfInBounds_toArray, List.set_cons_zero, List.set_cons_succ])
      refine wpAnyH_tk 13 (v := ?vg13) rfl (by kernel_rfl) (by kernel_rfl) (by kernel_rfl) (fun _ _ _ h => h) (by rfl) ?hyg13 (by assumption) ?_
      case hyg13 => (intro w hSw; (try dsimp only at hSw); go_simp <;> with_reducible rfl)
      (try simp only [Act.put, List.setIfInBounds_toArray, List.set_cons_zero, List.set_cons_succ])
      refine wpAnyH_tk 14 (v := ?vg14) rfl (by kernel_rfl) (by kernel_rfl) (by kernel_rfl) (fun _ _ _ h => h) (by rfl) ?hyg14 (by assumption) ?_
      case hyg14 => (intro w hSw; (try dsimp only at hSw); go_simp <;> with_reducible rfl)
      (try simp only [Act.put, List.setIfInBounds_toArray, List.set_cons_zero, List.set_cons_succ])
      refine wpAnyH_done (by kernel_rfl) ?_ _
      clear hHeld
      clear c0 c1
      have eg := hid ((((Ext.refl wf1).drew.trans heg0).trans heg1))
      have X12 := hid (X11.out.ext eg.out)
      have T_12 := hid (T_11.out.ext eg.out)
      have OS_12 := hid (OS_11.out.ext eg.out)
      have OU_12 := hid (OU_11.out.ext eg.out)
      have E12 := hid (E11.out.trans eg.out)
      clear heg0 heg1
      clear eg
      obtain ⟨c0, c1⟩ := X12.out.cells
      clear HU
      clear ws1 ws3 ws4
      go_wp2_with (fail)
      refine (awake_any _).mono ?_
      rintro e w13 ⟨rfl, he13⟩
      clear c0 c1
      have E13 := hid (E12.out.trans he13)
      clear he13
      go_wp2
      go_ret
      exact ⟨rfl, E13.out⟩
    · have HCA := hid hca
      clear hca
      by_cases hcp : Cn rs P
      · have HCP := hid hcp
        clear hcp
        have wa := WA.out
        have wb := WB.out
        have wo := WO.out
        go_wp2
        refine wp_region_held_drew (S := (fun w' => w'.cell? ⟨w.heap.size, 0, none⟩ = some (.int .i64 N) ∧ w'.cell? ⟨w.heap.size, 1, none⟩ = some (.slice ao rs.length cap))) (by kernel_rfl) ?hSh0 (fun hHeld => ?_)
        case hSh0 => (first | (exact ⟨c0, c1⟩) | ((try dsimp only); exact ⟨c0, c1⟩))
        refine wpAnyH_tk 0 (v := ?vh0) rfl (by kernel_rfl) (by kernel_rfl) (by kernel_rfl) (fun _ _ _ h => h) (by rfl) ?hyh0 (by assumption) ?_
        case hyh0 => (intro w hSw; (try dsimp only at hSw); go_simp <;> with_reducible rfl)
        (try simp only [Act.put, List.setIfInBounds_toArray, List.set_cons_zero, List.set_cons_succ])
        refine wpAnyH_tk 2 (v := ?vh2) rfl (by kernel_rfl) (by kernel_rfl) (by kernel_rfl) (fun _ _ _ h => h) (by rfl) ?hyh2 (by assumption) ?_
        case hyh2 => (intro w hSw; (try dsimp only at hSw); go_simp <;> with_reducible rfl)
        (try simp only [Act.put, List.setIfInBounds_toArray, List.set_cons_zero, List.set_cons_succ])
        refine wpAnyH_tk 3 (v := ?vh3) rfl (by kernel_rfl) (by kernel_rfl) (by kernel_rfl) (fun _ _ _ h => h) (by rfl) ?hyh3 (by assumption) ?_
        case hyh3 => (intro w hSw; (try dsimp only at hSw); go_simp <;> with_reducible rfl)
        (try simp only [Act.put, List.setIfInBounds_toArray, List.set_cons_zero, List.set_cons_succ])
        refine wpAnyH_tk 4 (v := ?vh4) rfl (by kernel_rfl) (by kernel_rfl) (by kernel_rfl) (fun _ _ _ h => h) (by rfl) ?hyh4 (by assumption) ?_
        case hyh4 => (intro w hSw; (try dsimp only at hSw); go_simp <;> with_reducible rfl)
        (try simp only [Act.put, List.setIfInBounds_toArray, List.set_cons_zero, List.set_cons_succ])
        refine wpAnyH_tk 5 (v := ?vh5) rfl (by kernel_rfl) (by kernel_rfl) (by kernel_rfl) (fun _ _ _ h => h) (by rfl) ?hyh5 (by assumption) ?_
        case hyh5 => (intro w hSw; (try dsimp only at hSw); go_simp <;> with_reducible rfl)
        (try simp only [Act.put, List.setIfInBounds_toArray, List.set_cons_zero, List.set_cons_succ])
        refine wpAnyH_tk 6 (v := ?vh6) rfl (by kernel_rfl) (by kernel_rfl) (by kernel_rfl) (fun _ _ _ h => h) (by rfl) ?hyh6 (by assumption) ?_
        case hyh6 => (intro w hSw; (try dsimp only at hSw); go_simp <;> with_reducible rfl)
        (try simp only [Act.put, List.setIfInBounds_toArray, List.set_cons_zero, List.set_cons_succ])
        refine wpAnyH_one 1 rfl (by kernel_rfl) (by rfl) (fun K hK => ?_)
        go_simp
        (refine (Of_any _ ⟨N, rs⟩ _ (MapR.ext HM.out (E4.out.trans (Ext.refl w3.drew).drew))).mono ?_; rintro e wa0 ⟨uM, rfl, huM, hea0⟩; dsimp only at huM; rw [HTK.out] at huM; have HU := hid (huM.roads (by omega)); clear huM)
        refine hK.out _ _ ?hSh2 (fun hHeld => ?_)
        case hSh2 => (first | (exact ⟨((Ext.refl w3.drew).drew.trans hea0).cell c0, ((Ext.refl w3.drew).drew.trans hea0).cell c1⟩) | ((try dsimp only); exact ⟨((Ext.refl w3.drew).drew.trans hea0).cell c0, ((Ext.refl w3.drew).drew.trans hea0).cell c1⟩))
        clear hK K
        (try dsimp only)
        refine wpAnyH_one 7 rfl (by kernel_rfl) (by rfl) (fun K hK => ?_)
        go_simp
        (refine (Tree_ok _ N rs P _ HU.out HB.out HSP.out (HTZ.out.ext (E4.out.trans ((Ext.refl w3.drew).drew.trans hea0))) HCP.out).mono ?_; rintro e wa1 ⟨vt, lt, rfl, hot, hbt, hea1⟩; have HBT := hid hbt.out; obtain ⟨at_, ct, rfl⟩ := own_len hot; have HOT := hid (hot.ints (by have := treeP_len HBT.out.1; omega)); clear hot hbt)
        refine hK.out _ _ ?hSh8 (fun hHeld => ?_)
        case hSh8 => (first | (exact ⟨(((Ext.refl w3.drew).drew.trans hea0).trans hea1).cell c0, (((Ext.refl w3.drew).drew.trans hea0).trans hea1).cell c1⟩) | ((try dsimp only); exact ⟨(((Ext.refl w3.drew).drew.trans hea0).trans hea1).cell c0, (((Ext.refl w3.drew).drew.trans hea0).trans hea1).cell c1⟩))
        clear hK K
        (try simp only [Act.put, List.setIfInBounds_toArray, List.set_cons_zero, List.set_cons_succ])
        refine wpAnyH_tk 8 (v := ?vh8) rfl (by kernel_rfl) (by kernel_rfl) (by kernel_rfl) (fun _ _ _ h => h) (by rfl) ?hyh8 (by assumption) ?_
        case hyh8 => (intro w hSw; (try dsimp only at hSw); go_simp <;> with_reducible rfl)
        (try simp only [Act.put, List.setIfInBounds_toArray, List.set_cons_zero, List.set_cons_succ])
        refine wpAnyH_tk 9 (v := ?vh9) rfl (by kernel_rfl) (by kernel_rfl) (by kernel_rfl) (fun _ _ _ h => h) (by rfl) ?hyh9 (by assumption) ?_
        case hyh9 => (intro w hSw; (try dsimp only at hSw); go_simp <;> with_reducible rfl)
        (try simp only [Act.put, List.setIfInBounds_toArray, List.set_cons_zero, List.set_cons_succ])
        refine wpAnyH_tk 10 (v := ?vh10) rfl (by kernel_rfl) (by kernel_rfl) (by kernel_rfl) (fun _ _ _ h => h) (by rfl) ?hyh10 (by assumption) ?_
        case hyh10 => (intro w hSw; (try dsimp only at hSw); go_simp <;> with_reducible rfl)
        (try simp only [Act.put, List.setIfInBounds_toArray, List.set_cons_zero, List.set_cons_succ])
        refine wpAnyH_tk 11 (v := ?vh11) rfl (by kernel_rfl) (by kernel_rfl) (by kernel_rfl) (fun _ _ _ h => h) (by rfl) ?hyh11 (by assumption) ?_
        case hyh11 => (intro w hSw; (try dsimp only at hSw); go_simp <;> with_reducible rfl)
        (try simp only [Act.put, List.setIfInBounds_toArray, List.set_cons_zero, List.set_cons_succ])
        refine wpAnyH_tk 12 (v := ?vh12) rfl (by kernel_rfl) (by kernel_rfl) (by kernel_rfl) (fun _ _ _ h => h) (by rfl) ?hyh12 (by assumption) ?_
        case hyh12 => (intro w hSw; (try dsimp only at hSw); go_simp <;> with_reducible rfl)
        (try simp only [Act.put, List.setIfInBounds_toArray, List.set_cons_zero, List.set_cons_succ])
        refine wpAnyH_done (by kernel_rfl) ?_ _
        clear hHeld
        clear c0 c1
        have ea := hid ((((Ext.refl w3.drew).drew.trans hea0).trans hea1))
        have X5 := hid (X4.out.ext ea.out)
        have T_5 := hid (T_4.out.ext ea.out)
        have E5 := hid (E4.out.trans ea.out)
        clear hea0 hea1
        clear ea
        obtain ⟨c0, c1⟩ := X5.out.cells
        clear wa wb wo HU
        obtain ⟨gr, ca, ia, -⟩ := T_5.out.row hA
        have ca' : World.cell? wa1 ⟨gb, A, none⟩ = some (.slice (some ⟨gr, 0, none⟩) N N) := ca
        have dpq := ia.cell (i := B) (by rw [rowL_len]; exact hB2)
        rw [rowL_fn hB2, ← HDV.out] at dpq
        clear ca ia
        have hd0b : decide (dv ≥ 0) = true := decide_eq_true (hV.out.1 HCP.out).2
        go_wp2
        refine wp_region_held_drew (S := (fun w' => w'.cell? ⟨w.heap.size, 0, none⟩ = some (.int .i64 N) ∧ w'.cell? ⟨gb, A, none⟩ = some (.slice (some ⟨gr, 0, none⟩) N N) ∧ w'.cell? ⟨gr, B, none⟩ = some (.int .i64 dv))) (by kernel_rfl) ?hSi0 (fun hHeld => ?_)
        case hSi0 => (first | (exact ⟨c0, ca', dpq⟩) | ((try dsimp only); exact ⟨c0, ca', dpq⟩))
        refine wpAnyH_tk 0 (v := ?vi0) rfl (by kernel_rfl) (by kernel_rfl) (by kernel_rfl) (fun _ _ _ h => h) (by rfl) ?hyi0 (by assumption) ?_
        case hyi0 => (intro w hSw; (try dsimp only at hSw); go_simp <;> with_reducible rfl)
        (try simp only [Act.put, List.setIfInBounds_toArray, List.set_cons_zero, List.set_cons_succ])
        refine wpAnyH_tk 1 (v := ?vi1) rfl (by kernel_rfl) (by kernel_rfl) (by kernel_rfl) (fun _ _ _ h => h) (by rfl) ?hyi1 (by assumption) ?_
        case hyi1 => (intro w hSw; (try dsimp only at hSw); go_simp <;> with_reducible rfl)
        (try simp only [Act.put, List.setIfInBounds_toArray, List.set_cons_zero, List.set_cons_succ])
        refine wpAnyH_tk 2 (v := ?vi2) rfl (by kernel_rfl) (by kernel_rfl) (by kernel_rfl) (fun _ _ _ h => h) (by rfl) ?hyi2 (by assumption) ?_
        case hyi2 => (intro w hSw; (try dsimp only at hSw); go_simp <;> with_reducible rfl)
        (try simp only [Act.put, List.setIfInBounds_toArray, List.set_cons_zero, List.set_cons_succ])
        refine wpAnyH_tk 3 (v := ?vi3) rfl (by kernel_rfl) (by kernel_rfl) (by kernel_rfl) (fun _ _ _ h => h) (by rfl) ?hyi3 (by assumption) ?_
        case hyi3 => (intro w hSw; (try dsimp only at hSw); go_simp <;> with_reducible rfl)
        (try simp only [Act.put, List.setIfInBounds_toArray, List.set_cons_zero, List.set_cons_succ])
        refine wpAnyH_tk 4 (v := ?vi4) rfl (by kernel_rfl) (by kernel_rfl) (by kernel_rfl) (fun _ _ _ h => h) (by rfl) ?hyi4 (by assumption) ?_
        case hyi4 => (intro w hSw; (try dsimp only at hSw); go_simp <;> with_reducible rfl)
        (try simp only [Act.put, List.setIfInBounds_toArray, List.set_cons_zero, List.set_cons_succ])
        refine wpAnyH_tk 5 (v := ?vi5) rfl (by kernel_rfl) (by kernel_rfl) (by kernel_rfl) (fun _ _ _ h => h) (by rfl) ?hyi5 (by assumption) ?_
        case hyi5 => (intro w hSw; (try dsimp only at hSw); go_simp <;> with_reducible rfl)
        (try simp only [Act.put, List.setIfInBounds_toArray, List.set_cons_zero, List.set_cons_succ])
        refine wpAnyH_tk 6 (v := ?vi6) rfl (by kernel_rfl) (by kernel_rfl) (by kernel_rfl) (fun _ _ _ h => h) (by rfl) ?hyi6 (by assumption) ?_
        case hyi6 => (intro w hSw; (try dsimp only at hSw); go_simp <;> with_reducible rfl)
        (try simp only [Act.put, List.setIfInBounds_toArray, List.set_cons_zero, List.set_cons_succ])
        refine wpAnyH_tk 7 (v := ?vi7) rfl (by kernel_rfl) (by kernel_rfl) (by kernel_rfl) (fun _ _ _ h => h) (by rfl) ?hyi7 (by assumption) ?_
        case hyi7 => (intro w hSw; (try dsimp only at hSw); go_simp <;> with_reducible rfl)
        (try simp only [Act.put, List.setIfInBounds_toArray, List.set_cons_zero, List.set_cons_succ])
        refine wpAnyH_tk 8 (v := ?vi8) rfl (by kernel_rfl) (by kernel_rfl) (by kernel_rfl) (fun _ _ _ h => h) (by rfl) ?hyi8 (by assumption) ?_
        case hyi8 => (intro w hSw; (try dsimp only at hSw); go_simp <;> with_reducible rfl)
        (try simp only [Act.put, List.setIfInBounds_toArray, List.set_cons_zero, List.set_cons_succ])
        refine wpAnyH_tk 9 (v := ?vi9) rfl (by kernel_rfl) (by kernel_rfl) (by kernel_rfl) (fun _ _ _ h => h) (by rfl) ?hyi9 (by assumption) ?_
        case hyi9 => (intro w hSw; (try dsimp only at hSw); go_simp <;> with_reducible rfl)
        (try simp only [Act.put, List.setIfInBounds_toArray, List.set_cons_zero, List.set_cons_succ])
        refine wpAnyH_tk 10 (v := ?vi10) rfl (by kernel_rfl) (by kernel_rfl) (by kernel_rfl) (fun _ _ _ h => h) (by rfl) ?hyi10 (by assumption) ?_
        case hyi10 => (intro w hSw; (try dsimp only at hSw); go_simp <;> with_reducible rfl)
        (try simp only [Act.put, List.setIfInBounds_toArray, List.set_cons_zero, List.set_cons_succ])
        refine wpAnyH_tk 11 (v := ?vi11) rfl (by kernel_rfl) (by kernel_rfl) (by kernel_rfl) (fun _ _ _ h => h) (by rfl) ?hyi11 (by assumption) ?_
        case hyi11 => (intro w hSw; (try dsimp only at hSw); go_simp <;> with_reducible rfl)
        (try simp only [Act.put, List.setIfInBounds_toArray, List.set_cons_zero, List.set_cons_succ])
        refine wpAnyH_tk 12 (v := ?vi12) rfl (by kernel_rfl) (by kernel_rfl) (by kernel_rfl) (fun _ _ _ h => h) (by rfl) ?hyi12 (by assumption) ?_
        case hyi12 => (intro w hSw; (try dsimp only at hSw); go_simp <;> with_reducible rfl)
        (try simp only [Act.put, List.setIfInBounds_toArray, List.set_cons_zero, List.set_cons_succ])
        refine wpAnyH_tk 13 (v := ?vi13) rfl (by kernel_rfl) (by kernel_rfl) (by kernel_rfl) (fun _ _ _ h => h) (by rfl) ?hyi13 (by assumption) ?_
        case hyi13 => (intro w hSw; (try dsimp only at hSw); go_simp <;> with_reducible rfl)
        (try simp only [Act.put, List.setIfInBounds_toArray, List.set_cons_zero, List.set_cons_succ])
        refine wpAnyH_tk 14 (v := ?vi14) rfl (by kernel_rfl) (by kernel_rfl) (by kernel_rfl) (fun _ _ _ h => h) (by rfl) ?hyi14 (by assumption) ?_
        case hyi14 => (intro w hSw; (try dsimp only at hSw); go_simp <;> with_reducible rfl)
        (try simp only [Act.put, List.setIfInBounds_toArray, List.set_cons_zero, List.set_cons_succ])
        refine wpAnyH_tk 15 (v := ?vi15) rfl (by kernel_rfl) (by kernel_rfl) (by kernel_rfl) (fun _ _ _ h => h) (by rfl) ?hyi15 (by assumption) ?_
        case hyi15 => (intro w hSw; (try dsimp only at hSw); go_simp <;> with_reducible rfl)
        (try simp only [Act.put, List.setIfInBounds_toArray, List.set_cons_zero, List.set_cons_succ])
        refine wpAnyH_tk 16 (v := ?vi16) rfl (by kernel_rfl) (by kernel_rfl) (by kernel_rfl) (fun _ _ _ h => h) (by rfl) ?hyi16 (by assumption) ?_
        case hyi16 => (intro w hSw; (try dsimp only at hSw); go_simp <;> with_reducible rfl)
        (try simp only [Act.put, List.setIfInBounds_toArray, List.set_cons_zero, List.set_cons_succ])
        refine wpAnyH_tk 17 (v := ?vi17) rfl (by kernel_rfl) (by kernel_rfl) (by kernel_rfl) (fun _ _ _ h => h) (by rfl) ?hyi17 (by assumption) ?_
        case hyi17 => (intro w hSw; (try dsimp only at hSw); go_simp <;> with_reducible rfl)
        (try simp only [Act.put, List.setIfInBounds_toArray, List.set_cons_zero, List.set_cons_succ])
        refine wpAnyH_tk 18 (v := ?vi18) rfl (by kernel_rfl) (by kernel_rfl) (by kernel_rfl) (fun _ _ _ h => h) (by rfl) ?hyi18 (by assumption) ?_
        case hyi18 => (intro w hSw; (try dsimp only at hSw); go_simp <;> with_reducible rfl)
        (try simp only [Act.put, List.setIfInBounds_toArray, List.set_cons_zero, List.set_cons_succ])
        refine wpAnyH_tk 19 (v := ?vi19) rfl (by kernel_rfl) (by kernel_rfl) (by kernel_rfl) (fun _ _ _ h => h) (by rfl) ?hyi19 (by assumption) ?_
        case hyi19 => (intro w hSw; (try dsimp only at hSw); go_simp <;> with_reducible rfl)
        (try simp only [Act.put, List.setIfInBounds_toArray, List.set_cons_zero, List.set_cons_succ])
        refine wpAnyH_tk 20 (v := ?vi20) rfl (by kernel_rfl) (by kernel_rfl) (by kernel_rfl) (fun _ _ _ h => h) (by rfl) ?hyi20 (by assumption) ?_
        case hyi20 => (intro w hSw; (try dsimp only at hSw); go_simp <;> with_reducible rfl)
        (try simp only [Act.put, List.setIfInBounds_toArray, List.set_cons_zero, List.set_cons_succ])
        refine wpAnyH_tk 21 (v := ?vi21) rfl (by kernel_rfl) (by kernel_rfl) (by kernel_rfl) (fun _ _ _ h => h) (by rfl) ?hyi21 (by assumption) ?_
        case hyi21 => (intro w hSw; (try dsimp only at hSw); go_simp <;> with_reducible rfl)
        (try simp only [Act.put, List.setIfInBounds_toArray, List.set_cons_zero, List.set_cons_succ])
        refine wpAnyH_tk 22 (v := ?vi22) rfl (by kernel_rfl) (by kernel_rfl) (by kernel_rfl) (fun _ _ _ h => h) (by rfl) ?hyi22 (by assumption) ?_
        case hyi22 => (intro w hSw; (try dsimp only at hSw); go_simp <;> with_reducible rfl)
        (try simp only [Act.put, List.setIfInBounds_toArray, List.set_cons_zero, List.set_cons_succ])
        refine wpAnyH_tk 23 (v := ?vi23) rfl (by kernel_rfl) (by kernel_rfl) (by kernel_rfl) (fun _ _ _ h => h) (by rfl) ?hyi23 (by assumption) ?_
        case hyi23 => (intro w hSw; (try dsimp only at hSw); go_simp <;> with_reducible rfl)
        (try simp only [Act.put, List.setIfInBounds_toArray, List.set_cons_zero, List.set_cons_succ])
        refine wpAnyH_tk 24 (v := ?vi24) rfl (by kernel_rfl) (by kernel_rfl) (by kernel_rfl) (fun _ _ _ h => h) (by rfl) ?hyi24 (by assumption) ?_
        case hyi24 => (intro w hSw; (try dsimp only at hSw); go_simp <;> with_reducible rfl)
        (try simp only [Act.put, List.setIfInBounds_toArray, List.set_cons_zero, List.set_cons_succ])
        refine wpAnyH_tk 25 (v := ?vi25) rfl (by kernel_rfl) (by kernel_rfl) (by kernel_rfl) (fun _ _ _ h => h) (by rfl) ?hyi25 (by assumption) ?_
        case hyi25 => (intro w hSw; (try dsimp only at hSw); go_simp <;> with_reducible rfl)
        (try simp only [Act.put, List.setIfInBounds_toArray, List.set_cons_zero, List.set_cons_succ])
        refine wpAnyH_tk 26 (v := ?vi26) rfl (by kernel_rfl) (by kernel_rfl) (by kernel_rfl) (fun _ _ _ h => h) (by rfl) ?hyi26 (by assumption) ?_
        case hyi26 => (intro w hSw; (try dsimp only at hSw); go_simp <;> with_reducible rfl)
        (try simp only [Act.put, List.setIfInBounds_toArray, List.set_cons_zero, List.set_cons_succ])
        refine wpAnyH_tk 27 (v := ?vi27) rfl (by kernel_rfl) (by kernel_rfl) (by kernel_rfl) (fun _ _ _ h => h) (by rfl) ?hyi27 (by assumption) ?_
        case hyi27 => (intro w hSw; (try dsimp only at hSw); go_simp <;> with_reducible rfl)
        (try simp only [Act.put, List.setIfInBounds_toArray, List.set_cons_zero, List.set_cons_succ])
        refine wpAnyH_tk 28 (v := ?vi28) rfl (by kernel_rfl) (by kernel_rfl) (by kernel_rfl) (fun _ _ _ h => h) (by rfl) ?hyi28 (by assumption) ?_
        case hyi28 => (intro w hSw; (try dsimp only at hSw); go_simp <;> with_reducible rfl)
        (try simp only [Act.put, List.setIfInBounds_toArray, List.set_cons_zero, List.set_cons_succ])
        refine wpAnyH_tk 29 (v := ?vi29) rfl (by kernel_rfl) (by kernel_rfl) (by kernel_rfl) (fun _ _ _ h => h) (by rfl) ?hyi29 (by assumption) ?_
        case hyi29 => (intro w hSw; (try dsimp only at hSw); go_simp <;> with_reducible rfl)
        (try simp only [Act.put, List.setIfInBounds_toArray, List.set_cons_zero, List.set_cons_succ])
        refine wpAnyH_tk 30 (v := ?vi30) rfl (by kernel_rfl) (by kernel_rfl) (by kernel_rfl) (fun _ _ _ h => h) (by rfl) ?hyi30 (by assumption) ?_
        case hyi30 => (intro w hSw; (try dsimp only at hSw); go_simp <;> with_reducible rfl)
        (try simp only [Act.put, List.setIfInBounds_toArray, List.set_cons_zero, List.set_cons_succ])
        refine wpAnyH_tk 31 (v := ?vi31) rfl (by kernel_rfl) (by kernel_rfl) (by kernel_rfl) (fun _ _ _ h => h) (by rfl) ?hyi31 (by assumption) ?_
        case hyi31 => (intro w hSw; (try dsimp only at hSw); go_simp <;> with_reducible rfl)
        (try simp only [Act.put, List.setIfInBounds_toArray, List.set_cons_zero, List.set_cons_succ])
        refine wpAnyH_skips 31 true 94 2 (by kernel_rfl) rfl (fun _ _ _ _ _ h => h) [32, 33] [95, 96] _ _ _ rfl (by kernel_rfl) (by rfl) (by assumption) ?_
        (try simp only [putsAll, List.foldl, Act.put, List.setIfInBounds_toArray, List.set_cons_zero, List.set_cons_succ])
        refine wpAnyH_tk 34 (v := ?vi34) rfl (by kernel_rfl) (by kernel_rfl) (by kernel_rfl) (fun _ _ _ h => h) (by rfl) ?hyi34 (by assumption) ?_
        case hyi34 => (intro w hSw; (try dsimp only at hSw); go_simp <;> with_reducible rfl)
        (try simp only [Act.put, List.setIfInBounds_toArray, List.set_cons_zero, List.set_cons_succ])
        refine wpAnyH_tk 35 (v := ?vi35) rfl (by kernel_rfl) (by kernel_rfl) (by kernel_rfl) (fun _ _ _ h => h) (by rfl) ?hyi35 (by assumption) ?_
        case hyi35 => (intro w hSw; (try dsimp only at hSw); go_simp <;> with_reducible rfl)
        (try simp only [Act.put, List.setIfInBounds_toArray, List.set_cons_zero, List.set_cons_succ])
        refine wpAnyH_done (by kernel_rfl) ?_ _
        clear hHeld ca' dpq hd0b
        clear c0 c1
        have eb := hid ((Ext.refl wa1).drew)
        have X6 := hid (X5.out.ext eb.out)
        have T_6 := hid (T_5.out.ext eb.out)
        have OT_6 := hid (HOT.out.ext eb.out)
        have E6 := hid (E5.out.trans eb.out)
        obtain ⟨c0, c1⟩ := X6.out.cells
        clear eb
        have wa := WA.out
        have wb := WB.out
        have wo := WO.out
        go_wp2
        refine wp_region_held_drew (S := (fun w' => w'.cell? ⟨w.heap.size, 0, none⟩ = some (.int .i64 N) ∧ w'.cell? ⟨w.heap.size, 1, none⟩ = some (.slice ao rs.length cap))) (by kernel_rfl) ?hSj0 (fun hHeld => ?_)
        case hSj0 => (first | (exact ⟨c0, c1⟩) | ((try dsimp only); exact ⟨c0, c1⟩))
        refine wpAnyH_tk 0 (v := ?vj0) rfl (by kernel_rfl) (by kernel_rfl) (by kernel_rfl) (fun _ _ _ h => h) (by rfl) ?hyj0 (by assumption) ?_
        case hyj0 => (intro w hSw; (try dsimp only at hSw); go_simp <;> with_reducible rfl)
        (try simp only [Act.put, List.setIfInBounds_toArray, List.set_cons_zero, List.set_cons_succ])
        refine wpAnyH_tk 2 (v := ?vj2) rfl (by kernel_rfl) (by kernel_rfl) (by kernel_rfl) (fun _ _ _ h => h) (by rfl) ?hyj2 (by assumption) ?_
        case hyj2 => (intro w hSw; (try dsimp only at hSw); go_simp <;> with_reducible rfl)
        (try simp only [Act.put, List.setIfInBounds_toArray, List.set_cons_zero, List.set_cons_succ])
        refine wpAnyH_tk 3 (v := ?vj3) rfl (by kernel_rfl) (by kernel_rfl) (by kernel_rfl) (fun _ _ _ h => h) (by rfl) ?hyj3 (by assumption) ?_
        case hyj3 => (intro w hSw; (try dsimp only at hSw); go_simp <;> with_reducible rfl)
        (try simp only [Act.put, List.setIfInBounds_toArray, List.set_cons_zero, List.set_cons_succ])
        refine wpAnyH_tk 4 (v := ?vj4) rfl (by kernel_rfl) (by kernel_rfl) (by kernel_rfl) (fun _ _ _ h => h) (by rfl) ?hyj4 (by assumption) ?_
        case hyj4 => (intro w hSw; (try dsimp only at hSw); go_simp <;> with_reducible rfl)
        (try simp only [Act.put, List.setIfInBounds_toArray, List.set_cons_zero, List.set_cons_succ])
        refine wpAnyH_tk 5 (v := ?vj5) rfl (by kernel_rfl) (by kernel_rfl) (by kernel_rfl) (fun _ _ _ h => h) (by rfl) ?hyj5 (by assumption) ?_
        case hyj5 => (intro w hSw; (try dsimp only at hSw); go_simp <;> with_reducible rfl)
        (try simp only [Act.put, List.setIfInBounds_toArray, List.set_cons_zero, List.set_cons_succ])
        refine wpAnyH_tk 6 (v := ?vj6) rfl (by kernel_rfl) (by kernel_rfl) (by kernel_rfl) (fun _ _ _ h => h) (by rfl) ?hyj6 (by assumption) ?_
        case hyj6 => (intro w hSw; (try dsimp only at hSw); go_simp <;> with_reducible rfl)
        (try simp only [Act.put, List.setIfInBounds_toArray, List.set_cons_zero, List.set_cons_succ])
        refine wpAnyH_tk 7 (v := ?vj7) rfl (by kernel_rfl) (by kernel_rfl) (by kernel_rfl) (fun _ _ _ h => h) (by rfl) ?hyj7 (by assumption) ?_
        case hyj7 => (intro w hSw; (try dsimp only at hSw); go_simp <;> with_reducible rfl)
        (try simp only [Act.put, List.setIfInBounds_toArray, List.set_cons_zero, List.set_cons_succ])
        refine wpAnyH_one 1 rfl (by kernel_rfl) (by rfl) (fun K hK => ?_)
        go_simp
        (refine (Of_any _ ⟨N, rs⟩ _ (MapR.ext HM.out (E6.out.trans (Ext.refl wa1.drew).drew))).mono ?_; rintro e wc0 ⟨uM, rfl, huM, hec0⟩; dsimp only at huM; rw [HTK.out] at huM; have HU := hid (huM.roads (by omega)); clear huM)
        refine hK.out _ _ ?hSj2 (fun hHeld => ?_)
        case hSj2 => (first | (exact ⟨((Ext.refl wa1.drew).drew.trans hec0).cell c0, ((Ext.refl wa1.drew).drew.trans hec0).cell c1⟩) | ((try dsimp only); exact ⟨((Ext.refl wa1.drew).drew.trans hec0).cell c0, ((Ext.refl wa1.drew).drew.trans hec0).cell c1⟩))
        clear hK K
        (try dsimp only)
        refine wpAnyH_one 8 rfl (by kernel_rfl) (by rfl) (fun K hK => ?_)
        go_simp
        (refine (CheckTree_ok _ _ N rs P _ _ HU.out (OT_6.out.ext ((Ext.refl wa1.drew).drew.trans hec0)) HB.out HSP.out (HTZ.out.ext (E6.out.trans ((Ext.refl wa1.drew).drew.trans hec0))) (.inl ⟨HBT.out.1, rfl, rfl⟩)).mono ?_; rw [best_cost HB.out HSP.out HCP.out HBT.out, ← (hV.out.1 HCP.out).1]; rintro e wc1 ⟨rfl, hec1⟩)
        refine hK.out _ _ ?hSj9 (fun hHeld => ?_)
        case hSj9 => (first | (exact ⟨(((Ext.refl wa1.drew).drew.trans hec0).trans hec1).cell c0, (((Ext.refl wa1.drew).drew.trans hec0).trans hec1).cell c1⟩) | ((try dsimp only); exact ⟨(((Ext.refl wa1.drew).drew.trans hec0).trans hec1).cell c0, (((Ext.refl wa1.drew).drew.trans hec0).trans hec1).cell c1⟩))
        clear hK K
        (try simp only [Act.put, List.setIfInBounds_toArray, List.set_cons_zero, List.set_cons_succ])
        refine wpAnyH_tk 9 (v := ?vj9) rfl (by kernel_rfl) (by kernel_rfl) (by kernel_rfl) (fun _ _ _ h => h) (by rfl) ?hyj9 (by assumption) ?_
        case hyj9 => (intro w hSw; (try dsimp only at hSw); go_simp <;> with_reducible rfl)
        (try simp only [Act.put, List.setIfInBounds_toArray, List.set_cons_zero, List.set_cons_succ])
        refine wpAnyH_tk 10 (v := ?vj10) rfl (by kernel_rfl) (by kernel_rfl) (by kernel_rfl) (fun _ _ _ h => h) (by rfl) ?hyj10 (by assumption) ?_
        case hyj10 => (intro w hSw; (try dsimp only at hSw); go_simp <;> with_reducible rfl)
        (try simp only [Act.put, List.setIfInBounds_toArray, List.set_cons_zero, List.set_cons_succ])
        refine wpAnyH_tk 11 (v := ?vj11) rfl (by kernel_rfl) (by kernel_rfl) (by kernel_rfl) (fun _ _ _ h => h) (by rfl) ?hyj11 (by assumption) ?_
        case hyj11 => (intro w hSw; (try dsimp only at hSw); go_simp <;> with_reducible rfl)
        (try simp only [Act.put, List.setIfInBounds_toArray, List.set_cons_zero, List.set_cons_succ])
        refine wpAnyH_tk 12 (v := ?vj12) rfl (by kernel_rfl) (by kernel_rfl) (by kernel_rfl) (fun _ _ _ h => h) (by rfl) ?hyj12 (by assumption) ?_
        case hyj12 => (intro w hSw; (try dsimp only at hSw); go_simp <;> with_reducible rfl)
        (try simp only [Act.put, List.setIfInBounds_toArray, List.set_cons_zero, List.set_cons_succ])
        refine wpAnyH_tk 13 (v := ?vj13) rfl (by kernel_rfl) (by kernel_rfl) (by kernel_rfl) (fun _ _ _ h => h) (by rfl) ?hyj13 (by assumption) ?_
        case hyj13 => (intro w hSw; (try dsimp only at hSw); go_simp <;> with_reducible rfl)
        (try simp only [Act.put, List.setIfInBounds_toArray, List.set_cons_zero, List.set_cons_succ])
        refine wpAnyH_tk 14 (v := ?vj14) rfl (by kernel_rfl) (by kernel_rfl) (by kernel_rfl) (fun _ _ _ h => h) (by rfl) ?hyj14 (by assumption) ?_
        case hyj14 => (intro w hSw; (try dsimp only at hSw); go_simp <;> with_reducible rfl)
        (try simp only [Act.put, List.setIfInBounds_toArray, List.set_cons_zero, List.set_cons_succ])
        refine wpAnyH_tk 15 (v := ?vj15) rfl (by kernel_rfl) (by kernel_rfl) (by kernel_rfl) (fun _ _ _ h => h) (by rfl) ?hyj15 (by assumption) ?_
        case hyj15 => (intro w hSw; (try dsimp only at hSw); go_simp <;> with_reducible rfl)
        (try simp only [Act.put, List.setIfInBounds_toArray, List.set_cons_zero, List.set_cons_succ])
        refine wpAnyH_done (by kernel_rfl) ?_ _
        clear hHeld
        clear c0 c1
        have ec := hid ((((Ext.refl wa1.drew).drew.trans hec0).trans hec1))
        have X7 := hid (X6.out.ext ec.out)
        have T_7 := hid (T_6.out.ext ec.out)
        have OT_7 := hid (OT_6.out.ext ec.out)
        have E7 := hid (E6.out.trans ec.out)
        clear hec0 hec1
        clear ec
        obtain ⟨c0, c1⟩ := X7.out.cells
        clear wa wb wo HU
        obtain ⟨gr, ca, ia, -⟩ := T_7.out.row hA
        have ca' : World.cell? wc1 ⟨gb, A, none⟩ = some (.slice (some ⟨gr, 0, none⟩) N N) := ca
        have dpq := ia.cell (i := B) (by rw [rowL_len]; exact hB2)
        rw [rowL_fn hB2, ← HDV.out] at dpq
        clear ca ia
        have hdd : (dv != dv) = false := by simp
        go_wp2_with (fail)
        refine (Of_any _ ⟨N, rs⟩ _ (MapR.ext HM.out E7.out)).mono ?_
        rintro e w8 ⟨uU, rfl, hu, he8⟩
        dsimp only at hu
        rw [HTK.out] at hu
        clear c0 c1
        have X8 := hid (X7.out.ext he8)
        have T_8 := hid (T_7.out.ext he8)
        have E8 := hid (E7.out.trans he8)
        clear he8
        obtain ⟨c0, c1⟩ := X8.out.cells
        have U_8 := hid (hu.roads (by omega))
        clear hu
        go_wp2_with (fail)
        refine (Spanning_none _ N rs _ U_8.out HB.out (HTZ.out.ext E8.out) HCA.out).mono ?_
        rintro e w9 ⟨rfl, he9⟩
        clear c0 c1
        have X9 := hid (X8.out.ext he9)
        have T_9 := hid (T_8.out.ext he9)
        have U_9 := hid (U_8.out.ext he9)
        have E9 := hid (E8.out.trans he9)
        clear he9
        obtain ⟨c0, c1⟩ := X9.out.cells
        clear ca' dpq hdd
        have ws1 := wS1.out
        have ws3 := wS3.out
        have ws4 := wS4.out
        go_wp2
        refine wp_region_held_drew (S := (fun w' => w'.cell? ⟨w.heap.size, 0, none⟩ = some (.int .i64 N) ∧ w'.cell? ⟨w.heap.size, 1, none⟩ = some (.slice ao rs.length cap))) (by kernel_rfl) ?hSk0 (fun hHeld => ?_)
        case hSk0 => (first | (exact ⟨c0, c1⟩) | ((try dsimp only); exact ⟨c0, c1⟩))
        refine wpAnyH_tk 0 (v := ?vk0) rfl (by kernel_rfl) (by kernel_rfl) (by kernel_rfl) (fun _ _ _ h => h) (by rfl) ?hyk0 (by assumption) ?_
        case hyk0 => (intro w hSw; (try dsimp only at hSw); go_simp <;> with_reducible rfl)
        (try simp only [Act.put, List.setIfInBounds_toArray, List.set_cons_zero, List.set_cons_succ])
        refine wpAnyH_tk 2 (v := ?vk2) rfl (by kernel_rfl) (by kernel_rfl) (by kernel_rfl) (fun _ _ _ h => h) (by rfl) ?hyk2 (by assumption) ?_
        case hyk2 => (intro w hSw; (try dsimp only at hSw); go_simp <;> with_reducible rfl)
        (try simp only [Act.put, List.setIfInBounds_toArray, List.set_cons_zero, List.set_cons_succ])
        refine wpAnyH_tk 3 (v := ?vk3) rfl (by kernel_rfl) (by kernel_rfl) (by kernel_rfl) (fun _ _ _ h => h) (by rfl) ?hyk3 (by assumption) ?_
        case hyk3 => (intro w hSw; (try dsimp only at hSw); go_simp <;> with_reducible rfl)
        (try simp only [Act.put, List.setIfInBounds_toArray, List.set_cons_zero, List.set_cons_succ])
        refine wpAnyH_tk 4 (v := ?vk4) rfl (by kernel_rfl) (by kernel_rfl) (by kernel_rfl) (fun _ _ _ h => h) (by rfl) ?hyk4 (by assumption) ?_
        case hyk4 => (intro w hSw; (try dsimp only at hSw); go_simp <;> with_reducible rfl)
        (try simp only [Act.put, List.setIfInBounds_toArray, List.set_cons_zero, List.set_cons_succ])
        refine wpAnyH_tk 5 (v := ?vk5) rfl (by kernel_rfl) (by kernel_rfl) (by kernel_rfl) (fun _ _ _ h => h) (by rfl) ?hyk5 (by assumption) ?_
        case hyk5 => (intro w hSw; (try dsimp only at hSw); go_simp <;> with_reducible rfl)
        (try simp only [Act.put, List.setIfInBounds_toArray, List.set_cons_zero, List.set_cons_succ])
        refine wpAnyH_one 1 rfl (by kernel_rfl) (by rfl) (fun K hK => ?_)
        go_simp
        (refine (Of_any _ ⟨N, rs⟩ _ (MapR.ext HM.out (E9.out.trans (Ext.refl w9).drew))).mono ?_; rintro e we0 ⟨uM, rfl, huM, hee0⟩; dsimp only at huM; rw [HTK.out] at huM; have HU := hid (huM.roads (by omega)); clear huM)
        refine hK.out _ _ ?hSk2 (fun hHeld => ?_)
        case hSk2 => (first | (exact ⟨((Ext.refl w9).drew.trans hee0).cell c0, ((Ext.refl w9).drew.trans hee0).cell c1⟩) | ((try dsimp only); exact ⟨((Ext.refl w9).drew.trans hee0).cell c0, ((Ext.refl w9).drew.trans hee0).cell c1⟩))
        clear hK K
        (try dsimp only)
        refine wpAnyH_one 6 rfl (by kernel_rfl) (by rfl) (fun K hK => ?_)
        go_simp
        (refine (Tree_none _ N rs S _ HU.out HB.out HSA.out (HTZ.out.ext (E9.out.trans ((Ext.refl w9).drew.trans hee0))) (by rw [HSS.out]; exact HCA.out)).mono ?_; rintro e we1 ⟨rfl, hee1⟩)
        refine hK.out _ _ ?hSk7 (fun hHeld => ?_)
        case hSk7 => (first | (exact ⟨(((Ext.refl w9).drew.trans hee0).trans hee1).cell c0, (((Ext.refl w9).drew.trans hee0).trans hee1).cell c1⟩) | ((try dsimp only); exact ⟨(((Ext.refl w9).drew.trans hee0).trans hee1).cell c0, (((Ext.refl w9).drew.trans hee0).trans hee1).cell c1⟩))
        clear hK K
        (try simp only [Act.put, List.setIfInBounds_toArray, List.set_cons_zero, List.set_cons_succ])
        refine wpAnyH_tk 7 (v := ?vk7) rfl (by kernel_rfl) (by kernel_rfl) (by kernel_rfl) (fun _ _ _ h => h) (by rfl) ?hyk7 (by assumption) ?_
        case hyk7 => (intro w hSw; (try dsimp only at hSw); go_simp <;> with_reducible rfl)
        (try simp only [Act.put, List.setIfInBounds_toArray, List.set_cons_zero, List.set_cons_succ])
        refine wpAnyH_tk 8 (v := ?vk8) rfl (by kernel_rfl) (by kernel_rfl) (by kernel_rfl) (fun _ _ _ h => h) (by rfl) ?hyk8 (by assumption) ?_
        case hyk8 => (intro w hSw; (try dsimp only at hSw); go_simp <;> with_reducible rfl)
        (try simp only [Act.put, List.setIfInBounds_toArray, List.set_cons_zero, List.set_cons_succ])
        refine wpAnyH_tk 9 (v := ?vk9) rfl (by kernel_rfl) (by kernel_rfl) (by kernel_rfl) (fun _ _ _ h => h) (by rfl) ?hyk9 (by assumption) ?_
        case hyk9 => (intro w hSw; (try dsimp only at hSw); go_simp <;> with_reducible rfl)
        (try simp only [Act.put, List.setIfInBounds_toArray, List.set_cons_zero, List.set_cons_succ])
        refine wpAnyH_tk 10 (v := ?vk10) rfl (by kernel_rfl) (by kernel_rfl) (by kernel_rfl) (fun _ _ _ h => h) (by rfl) ?hyk10 (by assumption) ?_
        case hyk10 => (intro w hSw; (try dsimp only at hSw); go_simp <;> with_reducible rfl)
        (try simp only [Act.put, List.setIfInBounds_toArray, List.set_cons_zero, List.set_cons_succ])
        refine wpAnyH_tk 11 (v := ?vk11) rfl (by kernel_rfl) (by kernel_rfl) (by kernel_rfl) (fun _ _ _ h => h) (by rfl) ?hyk11 (by assumption) ?_
        case hyk11 => (intro w hSw; (try dsimp only at hSw); go_simp <;> with_reducible rfl)
        (try simp only [Act.put, List.setIfInBounds_toArray, List.set_cons_zero, List.set_cons_succ])
        refine wpAnyH_done (by kernel_rfl) ?_ _
        clear hHeld
        clear c0 c1
        have ee := hid ((((Ext.refl w9).drew.trans hee0).trans hee1))
        have X10 := hid (X9.out.ext ee.out)
        have T_10 := hid (T_9.out.ext ee.out)
        have E10 := hid (E9.out.trans ee.out)
        clear hee0 hee1
        clear ee
        obtain ⟨c0, c1⟩ := X10.out.cells
        clear HU
        clear ws1 ws3 ws4
        go_wp2_with (fail)
        refine (awake_any _).mono ?_
        rintro e w11 ⟨rfl, he11⟩
        clear c0 c1
        have E11 := hid (E10.out.trans he11)
        clear he11
        go_wp2
        go_ret
        exact ⟨rfl, E11.out⟩
      · have HCP := hid hcp
        clear hcp
        have wa := WA.out
        have wb := WB.out
        have wo := WO.out
        go_wp2
        refine wp_region_held_drew (S := (fun w' => w'.cell? ⟨w.heap.size, 0, none⟩ = some (.int .i64 N) ∧ w'.cell? ⟨w.heap.size, 1, none⟩ = some (.slice ao rs.length cap))) (by kernel_rfl) ?hSl0 (fun hHeld => ?_)
        case hSl0 => (first | (exact ⟨c0, c1⟩) | ((try dsimp only); exact ⟨c0, c1⟩))
        refine wpAnyH_tk 0 (v := ?vl0) rfl (by kernel_rfl) (by kernel_rfl) (by kernel_rfl) (fun _ _ _ h => h) (by rfl) ?hyl0 (by assumption) ?_
        case hyl0 => (intro w hSw; (try dsimp only at hSw); go_simp <;> with_reducible rfl)
        (try simp only [Act.put, List.setIfInBounds_toArray, List.set_cons_zero, List.set_cons_succ])
        refine wpAnyH_tk 2 (v := ?vl2) rfl (by kernel_rfl) (by kernel_rfl) (by kernel_rfl) (fun _ _ _ h => h) (by rfl) ?hyl2 (by assumption) ?_
        case hyl2 => (intro w hSw; (try dsimp only at hSw); go_simp <;> with_reducible rfl)
        (try simp only [Act.put, List.setIfInBounds_toArray, List.set_cons_zero, List.set_cons_succ])
        refine wpAnyH_tk 3 (v := ?vl3) rfl (by kernel_rfl) (by kernel_rfl) (by kernel_rfl) (fun _ _ _ h => h) (by rfl) ?hyl3 (by assumption) ?_
        case hyl3 => (intro w hSw; (try dsimp only at hSw); go_simp <;> with_reducible rfl)
        (try simp only [Act.put, List.setIfInBounds_toArray, List.set_cons_zero, List.set_cons_succ])
        refine wpAnyH_tk 4 (v := ?vl4) rfl (by kernel_rfl) (by kernel_rfl) (by kernel_rfl) (fun _ _ _ h => h) (by rfl) ?hyl4 (by assumption) ?_
        case hyl4 => (intro w hSw; (try dsimp only at hSw); go_simp <;> with_reducible rfl)
        (try simp only [Act.put, List.setIfInBounds_toArray, List.set_cons_zero, List.set_cons_succ])
        refine wpAnyH_tk 5 (v := ?vl5) rfl (by kernel_rfl) (by kernel_rfl) (by kernel_rfl) (fun _ _ _ h => h) (by rfl) ?hyl5 (by assumption) ?_
        case hyl5 => (intro w hSw; (try dsimp only at hSw); go_simp <;> with_reducible rfl)
        (try simp only [Act.put, List.setIfInBounds_toArray, List.set_cons_zero, List.set_cons_succ])
        refine wpAnyH_tk 6 (v := ?vl6) rfl (by kernel_rfl) (by kernel_rfl) (by kernel_rfl) (fun _ _ _ h => h) (by rfl) ?hyl6 (by assumption) ?_
        case hyl6 => (intro w hSw; (try dsimp only at hSw); go_simp <;> with_reducible rfl)
        (try simp only [Act.put, List.setIfInBounds_toArray, List.set_cons_zero, List.set_cons_succ])
        refine wpAnyH_one 1 rfl (by kernel_rfl) (by rfl) (fun K hK => ?_)
        go_simp
        (refine (Of_any _ ⟨N, rs⟩ _ (MapR.ext HM.out (E4.out.trans (Ext.refl w3.drew).drew))).mono ?_; rintro e wa0 ⟨uM, rfl, huM, hea0⟩; dsimp only at huM; rw [HTK.out] at huM; have HU := hid (huM.roads (by omega)); clear huM)
        refine hK.out _ _ ?hSl2 (fun hHeld => ?_)
        case hSl2 => (first | (exact ⟨((Ext.refl w3.drew).drew.trans hea0).cell c0, ((Ext.refl w3.drew).drew.trans hea0).cell c1⟩) | ((try dsimp only); exact ⟨((Ext.refl w3.drew).drew.trans hea0).cell c0, ((Ext.refl w3.drew).drew.trans hea0).cell c1⟩))
        clear hK K
        (try dsimp only)
        refine wpAnyH_one 7 rfl (by kernel_rfl) (by rfl) (fun K hK => ?_)
        go_simp
        (refine (Tree_none _ N rs P _ HU.out HB.out HSP.out (HTZ.out.ext (E4.out.trans ((Ext.refl w3.drew).drew.trans hea0))) HCP.out).mono ?_; rintro e wa1 ⟨rfl, hea1⟩)
        refine hK.out _ _ ?hSl8 (fun hHeld => ?_)
        case hSl8 => (first | (exact ⟨(((Ext.refl w3.drew).drew.trans hea0).trans hea1).cell c0, (((Ext.refl w3.drew).drew.trans hea0).trans hea1).cell c1⟩) | ((try dsimp only); exact ⟨(((Ext.refl w3.drew).drew.trans hea0).trans hea1).cell c0, (((Ext.refl w3.drew).drew.trans hea0).trans hea1).cell c1⟩))
        clear hK K
        (try simp only [Act.put, List.setIfInBounds_toArray, List.set_cons_zero, List.set_cons_succ])
        refine wpAnyH_tk 8 (v := ?vl8) rfl (by kernel_rfl) (by kernel_rfl) (by kernel_rfl) (fun _ _ _ h => h) (by rfl) ?hyl8 (by assumption) ?_
        case hyl8 => (intro w hSw; (try dsimp only at hSw); go_simp <;> with_reducible rfl)
        (try simp only [Act.put, List.setIfInBounds_toArray, List.set_cons_zero, List.set_cons_succ])
        refine wpAnyH_tk 9 (v := ?vl9) rfl (by kernel_rfl) (by kernel_rfl) (by kernel_rfl) (fun _ _ _ h => h) (by rfl) ?hyl9 (by assumption) ?_
        case hyl9 => (intro w hSw; (try dsimp only at hSw); go_simp <;> with_reducible rfl)
        (try simp only [Act.put, List.setIfInBounds_toArray, List.set_cons_zero, List.set_cons_succ])
        refine wpAnyH_tk 10 (v := ?vl10) rfl (by kernel_rfl) (by kernel_rfl) (by kernel_rfl) (fun _ _ _ h => h) (by rfl) ?hyl10 (by assumption) ?_
        case hyl10 => (intro w hSw; (try dsimp only at hSw); go_simp <;> with_reducible rfl)
        (try simp only [Act.put, List.setIfInBounds_toArray, List.set_cons_zero, List.set_cons_succ])
        refine wpAnyH_tk 11 (v := ?vl11) rfl (by kernel_rfl) (by kernel_rfl) (by kernel_rfl) (fun _ _ _ h => h) (by rfl) ?hyl11 (by assumption) ?_
        case hyl11 => (intro w hSw; (try dsimp only at hSw); go_simp <;> with_reducible rfl)
        (try simp only [Act.put, List.setIfInBounds_toArray, List.set_cons_zero, List.set_cons_succ])
        refine wpAnyH_tk 12 (v := ?vl12) rfl (by kernel_rfl) (by kernel_rfl) (by kernel_rfl) (fun _ _ _ h => h) (by rfl) ?hyl12 (by assumption) ?_
        case hyl12 => (intro w hSw; (try dsimp only at hSw); go_simp <;> with_reducible rfl)
        (try simp only [Act.put, List.setIfInBounds_toArray, List.set_cons_zero, List.set_cons_succ])
        refine wpAnyH_done (by kernel_rfl) ?_ _
        clear hHeld
        clear c0 c1
        have ea := hid ((((Ext.refl w3.drew).drew.trans hea0).trans hea1))
        have X5 := hid (X4.out.ext ea.out)
        have T_5 := hid (T_4.out.ext ea.out)
        have E5 := hid (E4.out.trans ea.out)
        clear hea0 hea1
        clear ea
        obtain ⟨c0, c1⟩ := X5.out.cells
        clear wa wb wo HU
        obtain ⟨gr, ca, ia, -⟩ := T_5.out.row hA
        have ca' : World.cell? wa1 ⟨gb, A, none⟩ = some (.slice (some ⟨gr, 0, none⟩) N N) := ca
        have dpq := ia.cell (i := B) (by rw [rowL_len]; exact hB2)
        rw [rowL_fn hB2, ← HDV.out] at dpq
        clear ca ia
        have hd1 := hV.out.2 HCP.out
        have hd0b : decide (dv ≥ 0) = false := decide_eq_false (by omega)
        clear hd1
        go_wp2
        refine wp_region_held_drew (S := (fun w' => w'.cell? ⟨w.heap.size, 0, none⟩ = some (.int .i64 N) ∧ w'.cell? ⟨gb, A, none⟩ = some (.slice (some ⟨gr, 0, none⟩) N N) ∧ w'.cell? ⟨gr, B, none⟩ = some (.int .i64 dv))) (by kernel_rfl) ?hSm0 (fun hHeld => ?_)
        case hSm0 => (first | (exact ⟨c0, ca', dpq⟩) | ((try dsimp only); exact ⟨c0, ca', dpq⟩))
        refine wpAnyH_tk 0 (v := ?vm0) rfl (by kernel_rfl) (by kernel_rfl) (by kernel_rfl) (fun _ _ _ h => h) (by rfl) ?hym0 (by assumption) ?_
        case hym0 => (intro w hSw; (try dsimp only at hSw); go_simp <;> with_reducible rfl)
        (try simp only [Act.put, List.setIfInBounds_toArray, List.set_cons_zero, List.set_cons_succ])
        refine wpAnyH_tk 1 (v := ?vm1) rfl (by kernel_rfl) (by kernel_rfl) (by kernel_rfl) (fun _ _ _ h => h) (by rfl) ?hym1 (by assumption) ?_
        case hym1 => (intro w hSw; (try dsimp only at hSw); go_simp <;> with_reducible rfl)
        (try simp only [Act.put, List.setIfInBounds_toArray, List.set_cons_zero, List.set_cons_succ])
        refine wpAnyH_tk 2 (v := ?vm2) rfl (by kernel_rfl) (by kernel_rfl) (by kernel_rfl) (fun _ _ _ h => h) (by rfl) ?hym2 (by assumption) ?_
        case hym2 => (intro w hSw; (try dsimp only at hSw); go_simp <;> with_reducible rfl)
        (try simp only [Act.put, List.setIfInBounds_toArray, List.set_cons_zero, List.set_cons_succ])
        refine wpAnyH_tk 3 (v := ?vm3) rfl (by kernel_rfl) (by kernel_rfl) (by kernel_rfl) (fun _ _ _ h => h) (by rfl) ?hym3 (by assumption) ?_
        case hym3 => (intro w hSw; (try dsimp only at hSw); go_simp <;> with_reducible rfl)
        (try simp only [Act.put, List.setIfInBounds_toArray, List.set_cons_zero, List.set_cons_succ])
        refine wpAnyH_tk 4 (v := ?vm4) rfl (by kernel_rfl) (by kernel_rfl) (by kernel_rfl) (fun _ _ _ h => h) (by rfl) ?hym4 (by assumption) ?_
        case hym4 => (intro w hSw; (try dsimp only at hSw); go_simp <;> with_reducible rfl)
        (try simp only [Act.put, List.setIfInBounds_toArray, List.set_cons_zero, List.set_cons_succ])
        refine wpAnyH_tk 5 (v := ?vm5) rfl (by kernel_rfl) (by kernel_rfl) (by kernel_rfl) (fun _ _ _ h => h) (by rfl) ?hym5 (by assumption) ?_
        case hym5 => (intro w hSw; (try dsimp only at hSw); go_simp <;> with_reducible rfl)
        (try simp only [Act.put, List.setIfInBounds_toArray, List.set_cons_zero, List.set_cons_succ])
        refine wpAnyH_tk 6 (v := ?vm6) rfl (by kernel_rfl) (by kernel_rfl) (by kernel_rfl) (fun _ _ _ h => h) (by rfl) ?hym6 (by assumption) ?_
        case hym6 => (intro w hSw; (try dsimp only at hSw); go_simp <;> with_reducible rfl)
        (try simp only [Act.put, List.setIfInBounds_toArray, List.set_cons_zero, List.set_cons_succ])
        refine wpAnyH_tk 7 (v := ?vm7) rfl (by kernel_rfl) (by kernel_rfl) (by kernel_rfl) (fun _ _ _ h => h) (by rfl) ?hym7 (by assumption) ?_
        case hym7 => (intro w hSw; (try dsimp only at hSw); go_simp <;> with_reducible rfl)
        (try simp only [Act.put, List.setIfInBounds_toArray, List.set_cons_zero, List.set_cons_succ])
        refine wpAnyH_tk 8 (v := ?vm8) rfl (by kernel_rfl) (by kernel_rfl) (by kernel_rfl) (fun _ _ _ h => h) (by rfl) ?hym8 (by assumption) ?_
        case hym8 => (intro w hSw; (try dsimp only at hSw); go_simp <;> with_reducible rfl)
        (try simp only [Act.put, List.setIfInBounds_toArray, List.set_cons_zero, List.set_cons_succ])
        refine wpAnyH_tk 9 (v := ?vm9) rfl (by kernel_rfl) (by kernel_rfl) (by kernel_rfl) (fun _ _ _ h => h) (by rfl) ?hym9 (by assumption) ?_
        case hym9 => (intro w hSw; (try dsimp only at hSw); go_simp <;> with_reducible rfl)
        (try simp only [Act.put, List.setIfInBounds_toArray, List.set_cons_zero, List.set_cons_succ])
        refine wpAnyH_tk 10 (v := ?vm10) rfl (by kernel_rfl) (by kernel_rfl) (by kernel_rfl) (fun _ _ _ h => h) (by rfl) ?hym10 (by assumption) ?_
        case hym10 => (intro w hSw; (try dsimp only at hSw); go_simp <;> with_reducible rfl)
        (try simp only [Act.put, List.setIfInBounds_toArray, List.set_cons_zero, List.set_cons_succ])
        refine wpAnyH_tk 11 (v := ?vm11) rfl (by kernel_rfl) (by kernel_rfl) (by kernel_rfl) (fun _ _ _ h => h) (by rfl) ?hym11 (by assumption) ?_
        case hym11 => (intro w hSw; (try dsimp only at hSw); go_simp <;> with_reducible rfl)
        (try simp only [Act.put, List.setIfInBounds_toArray, List.set_cons_zero, List.set_cons_succ])
        refine wpAnyH_tk 12 (v := ?vm12) rfl (by kernel_rfl) (by kernel_rfl) (by kernel_rfl) (fun _ _ _ h => h) (by rfl) ?hym12 (by assumption) ?_
        case hym12 => (intro w hSw; (try dsimp only at hSw); go_simp <;> with_reducible rfl)
        (try simp only [Act.put, List.setIfInBounds_toArray, List.set_cons_zero, List.set_cons_succ])
        refine wpAnyH_tk 13 (v := ?vm13) rfl (by kernel_rfl) (by kernel_rfl) (by kernel_rfl) (fun _ _ _ h => h) (by rfl) ?hym13 (by assumption) ?_
        case hym13 => (intro w hSw; (try dsimp only at hSw); go_simp <;> with_reducible rfl)
        (try simp only [Act.put, List.setIfInBounds_toArray, List.set_cons_zero, List.set_cons_succ])
        refine wpAnyH_tk 14 (v := ?vm14) rfl (by kernel_rfl) (by kernel_rfl) (by kernel_rfl) (fun _ _ _ h => h) (by rfl) ?hym14 (by assumption) ?_
        case hym14 => (intro w hSw; (try dsimp only at hSw); go_simp <;> with_reducible rfl)
        (try simp only [Act.put, List.setIfInBounds_toArray, List.set_cons_zero, List.set_cons_succ])
        refine wpAnyH_tk 15 (v := ?vm15) rfl (by kernel_rfl) (by kernel_rfl) (by kernel_rfl) (fun _ _ _ h => h) (by rfl) ?hym15 (by assumption) ?_
        case hym15 => (intro w hSw; (try dsimp only at hSw); go_simp <;> with_reducible rfl)
        (try simp only [Act.put, List.setIfInBounds_toArray, List.set_cons_zero, List.set_cons_succ])
        refine wpAnyH_tk 16 (v := ?vm16) rfl (by kernel_rfl) (by kernel_rfl) (by kernel_rfl) (fun _ _ _ h => h) (by rfl) ?hym16 (by assumption) ?_
        case hym16 => (intro w hSw; (try dsimp only at hSw); go_simp <;> with_reducible rfl)
        (try simp only [Act.put, List.setIfInBounds_toArray, List.set_cons_zero, List.set_cons_succ])
        refine wpAnyH_tk 17 (v := ?vm17) rfl (by kernel_rfl) (by kernel_rfl) (by kernel_rfl) (fun _ _ _ h => h) (by rfl) ?hym17 (by assumption) ?_
        case hym17 => (intro w hSw; (try dsimp only at hSw); go_simp <;> with_reducible rfl)
        (try simp only [Act.put, List.setIfInBounds_toArray, List.set_cons_zero, List.set_cons_succ])
        refine wpAnyH_tk 18 (v := ?vm18) rfl (by kernel_rfl) (by kernel_rfl) (by kernel_rfl) (fun _ _ _ h => h) (by rfl) ?hym18 (by assumption) ?_
        case hym18 => (intro w hSw; (try dsimp only at hSw); go_simp <;> with_reducible rfl)
        (try simp only [Act.put, List.setIfInBounds_toArray, List.set_cons_zero, List.set_cons_succ])
        refine wpAnyH_tk 19 (v := ?vm19) rfl (by kernel_rfl) (by kernel_rfl) (by kernel_rfl) (fun _ _ _ h => h) (by rfl) ?hym19 (by assumption) ?_
        case hym19 => (intro w hSw; (try dsimp only at hSw); go_simp <;> with_reducible rfl)
        (try simp only [Act.put, List.setIfInBounds_toArray, List.set_cons_zero, List.set_cons_succ])
        refine wpAnyH_tk 20 (v := ?vm20) rfl (by kernel_rfl) (by kernel_rfl) (by kernel_rfl) (fun _ _ _ h => h) (by rfl) ?hym20 (by assumption) ?_
        case hym20 => (intro w hSw; (try dsimp only at hSw); go_simp <;> with_reducible rfl)
        (try simp only [Act.put, List.setIfInBounds_toArray, List.set_cons_zero, List.set_cons_succ])
        refine wpAnyH_tk 21 (v := ?vm21) rfl (by kernel_rfl) (by kernel_rfl) (by kernel_rfl) (fun _ _ _ h => h) (by rfl) ?hym21 (by assumption) ?_
        case hym21 => (intro w hSw; (try dsimp only at hSw); go_simp <;> with_reducible rfl)
        (try simp only [Act.put, List.setIfInBounds_toArray, List.set_cons_zero, List.set_cons_succ])
        refine wpAnyH_tk 22 (v := ?vm22) rfl (by kernel_rfl) (by kernel_rfl) (by kernel_rfl) (fun _ _ _ h => h) (by rfl) ?hym22 (by assumption) ?_
        case hym22 => (intro w hSw; (try dsimp only at hSw); go_simp <;> with_reducible rfl)
        (try simp only [Act.put, List.setIfInBounds_toArray, List.set_cons_zero, List.set_cons_succ])
        refine wpAnyH_tk 23 (v := ?vm23) rfl (by kernel_rfl) (by kernel_rfl) (by kernel_rfl) (fun _ _ _ h => h) (by rfl) ?hym23 (by assumption) ?_
        case hym23 => (intro w hSw; (try dsimp only at hSw); go_simp <;> with_reducible rfl)
        (try simp only [Act.put, List.setIfInBounds_toArray, List.set_cons_zero, List.set_cons_succ])
        refine wpAnyH_tk 24 (v := ?vm24) rfl (by kernel_rfl) (by kernel_rfl) (by kernel_rfl) (fun _ _ _ h => h) (by rfl) ?hym24 (by assumption) ?_
        case hym24 => (intro w hSw; (try dsimp only at hSw); go_simp <;> with_reducible rfl)
        (try simp only [Act.put, List.setIfInBounds_toArray, List.set_cons_zero, List.set_cons_succ])
        refine wpAnyH_tk 25 (v := ?vm25) rfl (by kernel_rfl) (by kernel_rfl) (by kernel_rfl) (fun _ _ _ h => h) (by rfl) ?hym25 (by assumption) ?_
        case hym25 => (intro w hSw; (try dsimp only at hSw); go_simp <;> with_reducible rfl)
        (try simp only [Act.put, List.setIfInBounds_toArray, List.set_cons_zero, List.set_cons_succ])
        refine wpAnyH_tk 26 (v := ?vm26) rfl (by kernel_rfl) (by kernel_rfl) (by kernel_rfl) (fun _ _ _ h => h) (by rfl) ?hym26 (by assumption) ?_
        case hym26 => (intro w hSw; (try dsimp only at hSw); go_simp <;> with_reducible rfl)
        (try simp only [Act.put, List.setIfInBounds_toArray, List.set_cons_zero, List.set_cons_succ])
        refine wpAnyH_tk 27 (v := ?vm27) rfl (by kernel_rfl) (by kernel_rfl) (by kernel_rfl) (fun _ _ _ h => h) (by rfl) ?hym27 (by assumption) ?_
        case hym27 => (intro w hSw; (try dsimp only at hSw); go_simp <;> with_reducible rfl)
        (try simp only [Act.put, List.setIfInBounds_toArray, List.set_cons_zero, List.set_cons_succ])
        refine wpAnyH_tk 28 (v := ?vm28) rfl (by kernel_rfl) (by kernel_rfl) (by kernel_rfl) (fun _ _ _ h => h) (by rfl) ?hym28 (by assumption) ?_
        case hym28 => (intro w hSw; (try dsimp only at hSw); go_simp <;> with_reducible rfl)
        (try simp only [Act.put, List.setIfInBounds_toArray, List.set_cons_zero, List.set_cons_succ])
        refine wpAnyH_tk 29 (v := ?vm29) rfl (by kernel_rfl) (by kernel_rfl) (by kernel_rfl) (fun _ _ _ h => h) (by rfl) ?hym29 (by assumption) ?_
        case hym29 => (intro w hSw; (try dsimp only at hSw); go_simp <;> with_reducible rfl)
        (try simp only [Act.put, List.setIfInBounds_toArray, List.set_cons_zero, List.set_cons_succ])
        refine wpAnyH_tk 30 (v := ?vm30) rfl (by kernel_rfl) (by kernel_rfl) (by kernel_rfl) (fun _ _ _ h => h) (by rfl) ?hym30 (by assumption) ?_
        case hym30 => (intro w hSw; (try dsimp only at hSw); go_simp <;> with_reducible rfl)
        (try simp only [Act.put, List.setIfInBounds_toArray, List.set_cons_zero, List.set_cons_succ])
        refine wpAnyH_tk 31 (v := ?vm31) rfl (by kernel_rfl) (by kernel_rfl) (by kernel_rfl) (fun _ _ _ h => h) (by rfl) ?hym31 (by assumption) ?_
        case hym31 => (intro w hSw; (try dsimp only at hSw); go_simp <;> with_reducible rfl)
        (try simp only [Act.put, List.setIfInBounds_toArray, List.set_cons_zero, List.set_cons_succ])
        refine wpAnyH_tk 32 (v := ?vm32) rfl (by kernel_rfl) (by kernel_rfl) (by kernel_rfl) (fun _ _ _ h => h) (by rfl) ?hym32 (by assumption) ?_
        case hym32 => (intro w hSw; (try dsimp only at hSw); go_simp <;> with_reducible rfl)
        (try simp only [Act.put, List.setIfInBounds_toArray, List.set_cons_zero, List.set_cons_succ])
        refine wpAnyH_tk 33 (v := ?vm33) rfl (by kernel_rfl) (by kernel_rfl) (by kernel_rfl) (fun _ _ _ h => h) (by rfl) ?hym33 (by assumption) ?_
        case hym33 => (intro w hSw; (try dsimp only at hSw); go_simp <;> with_reducible rfl)
        (try simp only [Act.put, List.setIfInBounds_toArray, List.set_cons_zero, List.set_cons_succ])
        refine wpAnyH_tk 34 (v := ?vm34) rfl (by kernel_rfl) (by kernel_rfl) (by kernel_rfl) (fun _ _ _ h => h) (by rfl) ?hym34 (by assumption) ?_
        case hym34 => (intro w hSw; (try dsimp only at hSw); go_simp <;> with_reducible rfl)
        (try simp only [Act.put, List.setIfInBounds_toArray, List.set_cons_zero, List.set_cons_succ])
        refine wpAnyH_tk 35 (v := ?vm35) rfl (by kernel_rfl) (by kernel_rfl) (by kernel_rfl) (fun _ _ _ h => h) (by rfl) ?hym35 (by assumption) ?_
        case hym35 => (intro w hSw; (try dsimp only at hSw); go_simp <;> with_reducible rfl)
        (try simp only [Act.put, List.setIfInBounds_toArray, List.set_cons_zero, List.set_cons_succ])
        refine wpAnyH_done (by kernel_rfl) ?_ _
        clear hHeld ca' dpq hd0b
        clear c0 c1
        have eb := hid ((Ext.refl wa1).drew)
        have X6 := hid (X5.out.ext eb.out)
        have T_6 := hid (T_5.out.ext eb.out)
        have E6 := hid (E5.out.trans eb.out)
        obtain ⟨c0, c1⟩ := X6.out.cells
        clear eb
        go_wp2_with (fail)
        refine (Of_any _ ⟨N, rs⟩ _ (MapR.ext HM.out E6.out)).mono ?_
        rintro e w7 ⟨uU, rfl, hu, he7⟩
        dsimp only at hu
        rw [HTK.out] at hu
        clear c0 c1
        have X7 := hid (X6.out.ext he7)
        have T_7 := hid (T_6.out.ext he7)
        have E7 := hid (E6.out.trans he7)
        clear he7
        obtain ⟨c0, c1⟩ := X7.out.cells
        have U_7 := hid (hu.roads (by omega))
        clear hu
        go_wp2_with (fail)
        refine (Spanning_none _ N rs _ U_7.out HB.out (HTZ.out.ext E7.out) HCA.out).mono ?_
        rintro e w8 ⟨rfl, he8⟩
        clear c0 c1
        have X8 := hid (X7.out.ext he8)
        have T_8 := hid (T_7.out.ext he8)
        have U_8 := hid (U_7.out.ext he8)
        have E8 := hid (E7.out.trans he8)
        clear he8
        obtain ⟨c0, c1⟩ := X8.out.cells
        have ws1 := wS1.out
        have ws3 := wS3.out
        have ws4 := wS4.out
        go_wp2
        refine wp_region_held_drew (S := (fun w' => w'.cell? ⟨w.heap.size, 0, none⟩ = some (.int .i64 N) ∧ w'.cell? ⟨w.heap.size, 1, none⟩ = some (.slice ao rs.length cap))) (by kernel_rfl) ?hSn0 (fun hHeld => ?_)
        case hSn0 => (first | (exact ⟨c0, c1⟩) | ((try dsimp only); exact ⟨c0, c1⟩))
        refine wpAnyH_tk 0 (v := ?vn0) rfl (by kernel_rfl) (by kernel_rfl) (by kernel_rfl) (fun _ _ _ h => h) (by rfl) ?hyn0 (by assumption) ?_
        case hyn0 => (intro w hSw; (try dsimp only at hSw); go_simp <;> with_reducible rfl)
        (try simp only [Act.put, List.setIfInBounds_toArray, List.set_cons_zero, List.set_cons_succ])
        refine wpAnyH_tk 2 (v := ?vn2) rfl (by kernel_rfl) (by kernel_rfl) (by kernel_rfl) (fun _ _ _ h => h) (by rfl) ?hyn2 (by assumption) ?_
        case hyn2 => (intro w hSw; (try dsimp only at hSw); go_simp <;> with_reducible rfl)
        (try simp only [Act.put, List.setIfInBounds_toArray, List.set_cons_zero, List.set_cons_succ])
        refine wpAnyH_tk 3 (v := ?vn3) rfl (by kernel_rfl) (by kernel_rfl) (by kernel_rfl) (fun _ _ _ h => h) (by rfl) ?hyn3 (by assumption) ?_
        case hyn3 => (intro w hSw; (try dsimp only at hSw); go_simp <;> with_reducible rfl)
        (try simp only [Act.put, List.setIfInBounds_toArray, List.set_cons_zero, List.set_cons_succ])
        refine wpAnyH_tk 4 (v := ?vn4) rfl (by kernel_rfl) (by kernel_rfl) (by kernel_rfl) (fun _ _ _ h => h) (by rfl) ?hyn4 (by assumption) ?_
        case hyn4 => (intro w hSw; (try dsimp only at hSw); go_simp <;> with_reducible rfl)
        (try simp only [Act.put, List.setIfInBounds_toArray, List.set_cons_zero, List.set_cons_succ])
        refine wpAnyH_tk 5 (v := ?vn5) rfl (by kernel_rfl) (by kernel_rfl) (by kernel_rfl) (fun _ _ _ h => h) (by rfl) ?hyn5 (by assumption) ?_
        case hyn5 => (intro w hSw; (try dsimp only at hSw); go_simp <;> with_reducible rfl)
        (try simp only [Act.put, List.setIfInBounds_toArray, List.set_cons_zero, List.set_cons_succ])
        refine wpAnyH_one 1 rfl (by kernel_rfl) (by rfl) (fun K hK => ?_)
        go_simp
        (refine (Of_any _ ⟨N, rs⟩ _ (MapR.ext HM.out (E8.out.trans (Ext.refl w8).drew))).mono ?_; rintro e we0 ⟨uM, rfl, huM, hee0⟩; dsimp only at huM; rw [HTK.out] at huM; have HU := hid (huM.roads (by omega)); clear huM)
        refine hK.out _ _ ?hSn2 (fun hHeld => ?_)
        case hSn2 => (first | (exact ⟨((Ext.refl w8).drew.trans hee0).cell c0, ((Ext.refl w8).drew.trans hee0).cell c1⟩) | ((try dsimp only); exact ⟨((Ext.refl w8).drew.trans hee0).cell c0, ((Ext.refl w8).drew.trans hee0).cell c1⟩))
        clear hK K
        (try dsimp only)
        refine wpAnyH_one 6 rfl (by kernel_rfl) (by rfl) (fun K hK => ?_)
        go_simp
        (refine (Tree_none _ N rs S _ HU.out HB.out HSA.out (HTZ.out.ext (E8.out.trans ((Ext.refl w8).drew.trans hee0))) (by rw [HSS.out]; exact HCA.out)).mono ?_; rintro e we1 ⟨rfl, hee1⟩)
        refine hK.out _ _ ?hSn7 (fun hHeld => ?_)
        case hSn7 => (first | (exact ⟨(((Ext.refl w8).drew.trans hee0).trans hee1).cell c0, (((Ext.refl w8).drew.trans hee0).trans hee1).cell c1⟩) | ((try dsimp only); exact ⟨(((Ext.refl w8).drew.trans hee0).trans hee1).cell c0, (((Ext.refl w8).drew.trans hee0).trans hee1).cell c1⟩))
        clear hK K
        (try simp only [Act.put, List.setIfInBounds_toArray, List.set_cons_zero, List.set_cons_succ])
        refine wpAnyH_tk 7 (v := ?vn7) rfl (by kernel_rfl) (by kernel_rfl) (by kernel_rfl) (fun _ _ _ h => h) (by rfl) ?hyn7 (by assumption) ?_
        case hyn7 => (intro w hSw; (try dsimp only at hSw); go_simp <;> with_reducible rfl)
        (try simp only [Act.put, List.setIfInBounds_toArray, List.set_cons_zero, List.set_cons_succ])
        refine wpAnyH_tk 8 (v := ?vn8) rfl (by kernel_rfl) (by kernel_rfl) (by kernel_rfl) (fun _ _ _ h => h) (by rfl) ?hyn8 (by assumption) ?_
        case hyn8 => (intro w hSw; (try dsimp only at hSw); go_simp <;> with_reducible rfl)
        (try simp only [Act.put, List.setIfInBounds_toArray, List.set_cons_zero, List.set_cons_succ])
        refine wpAnyH_tk 9 (v := ?vn9) rfl (by kernel_rfl) (by kernel_rfl) (by kernel_rfl) (fun _ _ _ h => h) (by rfl) ?hyn9 (by assumption) ?_
        case hyn9 => (intro w hSw; (try dsimp only at hSw); go_simp <;> with_reducible rfl)
        (try simp only [Act.put, List.setIfInBounds_toArray, List.set_cons_zero, List.set_cons_succ])
        refine wpAnyH_tk 10 (v := ?vn10) rfl (by kernel_rfl) (by kernel_rfl) (by kernel_rfl) (fun _ _ _ h => h) (by rfl) ?hyn10 (by assumption) ?_
        case hyn10 => (intro w hSw; (try dsimp only at hSw); go_simp <;> with_reducible rfl)
        (try simp only [Act.put, List.setIfInBounds_toArray, List.set_cons_zero, List.set_cons_succ])
        refine wpAnyH_tk 11 (v := ?vn11) rfl (by kernel_rfl) (by kernel_rfl) (by kernel_rfl) (fun _ _ _ h => h) (by rfl) ?hyn11 (by assumption) ?_
        case hyn11 => (intro w hSw; (try dsimp only at hSw); go_simp <;> with_reducible rfl)
        (try simp only [Act.put, List.setIfInBounds_toArray, List.set_cons_zero, List.set_cons_succ])
        refine wpAnyH_done (by kernel_rfl) ?_ _
        clear hHeld
        clear c0 c1
        have ee := hid ((((Ext.refl w8).drew.trans hee0).trans hee1))
        have X9 := hid (X8.out.ext ee.out)
        have T_9 := hid (T_8.out.ext ee.out)
        have E9 := hid (E8.out.trans ee.out)
        clear hee0 hee1
        clear ee
        obtain ⟨c0, c1⟩ := X9.out.cells
        clear HU
        clear ws1 ws3 ws4
        go_wp2_with (fail)
        refine (awake_any _).mono ?_
        rintro e w10 ⟨rfl, he10⟩
        clear c0 c1
        have E10 := hid (E9.out.trans he10)
        clear he10
        go_wp2
        go_ret
        exact ⟨rfl, E10.out⟩
  · have hbf : mapOk m = false := by rw [Bool.eq_false_iff]; exact hb
    have HBC : Hid (mapOk (cutM m) = false) := by show _ = _; rw [mapOk_cut, hbf]
    clear hb hbf
    go_enter Tryd.func9, Tryd.ntmps9
    go_wp2_with (fail)
    refine (Of_any _ m _ (MapR.ext HM.out (Ext.ofAlloc w _))).mono ?_
    rintro e w1 ⟨uU, rfl, hu, he1⟩
    have X1 := hid (X0.ext he1)
    have E1 := hid ((Ext.ofAlloc w _).trans he1)
    clear he1
    obtain ⟨c0, c1⟩ := X1.out.cells
    have U_1 := hid (hu.roads (by rw [List.length_take]; omega))
    clear hu
    go_wp2_with (fail)
    refine (Distances_bad _ (cutM m) _ U_1.out HBC.out).mono ?_
    rintro e w2 ⟨rfl, he2⟩
    clear c0 c1
    have X2 := hid (X1.out.ext he2)
    have U_2 := hid (U_1.out.ext he2)
    have E2 := hid (E1.out.trans he2)
    clear he2
    obtain ⟨c0, c1⟩ := X2.out.cells
    go_wp2_with (fail)
    refine (awake_any _).mono ?_
    rintro e w3 ⟨rfl, he3⟩
    clear c0 c1
    have E3 := hid (E2.out.trans he3)
    clear he3
    go_wp2
    go_ret
    exact ⟨rfl, E3.out⟩

end Go.Proofs.YtkbkgkmogbkabaaDoor
