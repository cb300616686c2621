/-
  Slices of pairs: what they read as; equality of such slices, and of slices of slices of ints.
-/
import Derived.Test.YtkdfbbkonbgfmaaStable
import Derived.Test.YtkdfbbkonbgfmaaAppend
import Derived.ChangeKeysEq
import Derived.Deep.RegionHeld3
namespace Go.Proofs.Ytkdfbbkonbgfmaa
open Go.RowKit

/-- The slice v reads as pairs. -/
def Pairs (w : World) (v : Value) (ps : List (Int × Int)) : Prop :=
  ps.length ≤ 1000000000 ∧ ∃ ao cap, v = .slice ao ps.length cap ∧
    ∀ i, (h : i < ps.length) → ∃ b off, ao = some ⟨b, off, none⟩ ∧ w.cell? ⟨b, off + i * 2, none⟩ = some (.int .i64 ps[i].1) ∧ w.cell? ⟨b, off + i * 2 + 1, none⟩ = some (.int .i64 ps[i].2)
theorem Pairs.ext {w w' : World} {v : Value} {ps : List (Int × Int)} (h : Pairs w v ps) (e : Ext w w') : Pairs w' v ps := by
  obtain ⟨hl, ao, cap, rfl, hc⟩ := h
  refine ⟨hl, ao, cap, rfl, fun i hi => ?_⟩
  obtain ⟨b, off, ha, h1, h2⟩ := hc i hi
  exact ⟨b, off, ha, e.cell h1, e.cell h2⟩
theorem pcells_get : ∀ (ps : List (Int × Int)) (i : Nat) (h : i < ps.length), (pcells ps)[i * 2]? = some (.int .i64 ps[i].1) ∧ (pcells ps)[i * 2 + 1]? = some (.int .i64 ps[i].2)
  | [], i, h => by simp at h
  | q :: ps, 0, h => ⟨rfl, rfl⟩
  | q :: ps, i + 1, h => by
    have ih := pcells_get ps i (by simpa using h)
    have e : pcells (q :: ps) = .int .i64 q.1 :: .int .i64 q.2 :: pcells ps := rfl
    rw [e, show (i + 1) * 2 = i * 2 + 1 + 1 from by omega]
    exact ih
theorem pcells_len (ps : List (Int × Int)) : (pcells ps).length = ps.length * 2 := by
  induction ps with
  | nil => rfl
  | cons q ps ih =>
    have e : pcells (q :: ps) = .int .i64 q.1 :: .int .i64 q.2 :: pcells ps := rfl
    rw [e, List.length_cons, List.length_cons, ih, List.length_cons]; omega
theorem OwnPr.pairs {B : Nat} {w : World} {v : Value} {ps : List (Int × Int)} (h : OwnPr B w v ps) (hl : ps.length ≤ 1000000000) : Pairs w v ps := by
  refine ⟨hl, ?_⟩
  have h0 := h
  obtain ⟨hlen, h | ⟨g, cap, cur, rfl, hg, hh, hn, hm, hs, ht⟩⟩ := h
  · obtain ⟨rfl, hn⟩ := h
    exact ⟨none, 0, by rw [hn], fun i hi => by omega⟩
  · refine ⟨_, cap, rfl, fun i hi => ⟨g, 0, rfl, ?_, ?_⟩⟩
    · have h2 := World.ownsRow.cells h0 rfl (i * 2) _ (pcells_get ps i hi).1
      rw [Addr.add_lit] at h2; exact h2
    · have h2 := World.ownsRow.cells h0 rfl (i * 2 + 1) _ (pcells_get ps i hi).2
      rw [Addr.add_lit] at h2; exact h2

theorem und_pair : Try.prog.underlying 52 = some (.array 2 3) := by kernel_rfl
theorem plain_int : Try.prog.plainKey 3 = true := by kernel_rfl
theorem cellsof_int : Try.prog.cellsOf 3 = 1 := by kernel_rfl
theorem run_equal_pair (w : World) (a b c d : Int) : (Op.equal 52 (.agg #[.int .i64 a, .int .i64 b]) (.agg #[.int .i64 c, .int .i64 d])).run Try.prog w = .ok (a == c && b == d) w := by
  obtain ⟨i0, hi, -⟩ := info_parts info_int
  have h1 := run_equalIn_array (P := Try.prog) w 9999 #[.int .i64 a, .int .i64 b] #[.int .i64 c, .int .i64 d] und_pair hi
  rw [cellsof_int] at h1
  have h2 : (Op.equalIn (9999 + 1) 52 (.agg #[.int .i64 a, .int .i64 b]) (.agg #[.int .i64 c, .int .i64 d])).run Try.prog w = .ok (a == c && b == d) w := by
    rw [h1]
    show (Op.eqItems 9999 3 1 _ _ [0, 1]).run _ _ = _
    have p0 := run_part_plain (P := Try.prog) w plain_int (xs := #[.int .i64 a, .int .i64 b]) (off := 0) (v := .int .i64 a) rfl
    have p1 := run_part_plain (P := Try.prog) w plain_int (xs := #[.int .i64 a, .int .i64 b]) (off := 1) (v := .int .i64 b) rfl
    have q0 := run_part_plain (P := Try.prog) w plain_int (xs := #[.int .i64 c, .int .i64 d]) (off := 0) (v := .int .i64 c) rfl
    have q1 := run_part_plain (P := Try.prog) w plain_int (xs := #[.int .i64 c, .int .i64 d]) (off := 1) (v := .int .i64 d) rfl
    have r0 := run_equalIn_int (P := Try.prog) w 9998 3 .i64 .i64 a c Try.underlying3
    have r1 := run_equalIn_int (P := Try.prog) w 9998 3 .i64 .i64 b d Try.underlying3
    cases h : (a == c)
    · rw [h] at r0
      simp [Op.eqItems, p0, q0, r0]
    · rw [h] at r0
      simp [Op.eqItems, p0, q0, r0, p1, q1, r1]
      by_cases e : b = d <;> simp [e]
  exact h2
theorem run_neq_pair (w : World) (a b c d : Int) : (binOp .neq 52 (.agg #[.int .i64 a, .int .i64 b]) (.agg #[.int .i64 c, .int .i64 d])).run Try.prog w = .ok (.bool (!(a == c && b == d))) w := by
  simp only [binOp]
  simp [run_equal_pair]
def eqP (xs ys : List (Int × Int)) : Bool := decide (xs = ys)
theorem take_extP {α : Type} {xs ys : List α} {k : Nat} (hx : k < xs.length) (hy : k < ys.length) (h : xs.take k = ys.take k) (he : xs[k] = ys[k]) : xs.take (k + 1) = ys.take (k + 1) := by
  rw [List.take_succ_eq_append_getElem hx, List.take_succ_eq_append_getElem hy, h, he]

set_option maxHeartbeats 1000000 in
theorem EqualP_any (v u : Value) (xs ys : List (Int × Int)) (w : World) (hv : Pairs w v xs) (hu : Pairs w u ys) :
    Calls Try.prog 37 #[v, u] w fun e w' => e = .returned (.bool (eqP xs ys)) ∧ Ext w w' := by
  obtain ⟨hl, ao, cap, rfl, hc⟩ := hv
  obtain ⟨hl2, ao2, cap2, rfl, hc2⟩ := hu
  by_cases hlen : xs.length = ys.length
  · have hl' : (((xs.length : Nat) : Int) != ((ys.length : Nat) : Int)) = false := by simp [hlen]
    have Hlen := hid hlen
    have hle : xs.length ≤ ys.length := by omega
    clear hlen
    go_enter Try.func37, Try.ntmps37
    go_wp2
    go_loopg [13] xs.length (fun g i wr => ∃ k : Nat, k + g = xs.length ∧ i = .int .i64 k ∧ Hid (xs.take k = ys.take k) ∧ Hid (Ext w wr))
    case atStart => exact ⟨0, by omega, rfl, rfl, Ext.refl _⟩
    case round =>
      obtain ⟨k, hk, rfl, Heq, E⟩ := hrel
      have hkl : k ≤ xs.length := by omega
      have Hk := hid hk
      clear hk
      by_cases hlt : k < xs.length
      · obtain ⟨b, off, rfl, c1, c2⟩ := hc k hlt
        obtain ⟨b2, off2, rfl, d1, d2⟩ := hc2 k (by omega)
        have e1 := E.out.cell c1
        have e2 := E.out.cell c2
        have e3 := E.out.cell d1
        have e4 := E.out.cell d2
        have hlt2 : k < ys.length := by omega
        have hi0 : (0 : Int) ≤ (k : Int) := by omega
        have hi1 : (k : Int) < xs.length := by omega
        have hi2 : (k : Int) < ys.length := by omega
        clear c1 c2 d1 d2
        have hnp := run_neq_pair
        by_cases he : xs[k] = ys[k]
        · have hx1 : (xs[k].1 == ys[k].1) = true := by rw [he]; simp
          have hx2 : (xs[k].2 == ys[k].2) = true := by rw [he]; simp
          have Hs := hid (take_extP hlt hlt2 Heq.out he)
          clear he
          go_wp2
          go_region_held3 (fun w' => w'.cell? ⟨b, off + k * 2, none⟩ = some (.int .i64 xs[k].1) ∧ w'.cell? ⟨b, off + k * 2 + 1, none⟩ = some (.int .i64 xs[k].2) ∧ w'.cell? ⟨b2, off2 + k * 2, none⟩ = some (.int .i64 ys[k].1) ∧ w'.cell? ⟨b2, off2 + k * 2 + 1, none⟩ = some (.int .i64 ys[k].2)) (exact ⟨e1, e2, e3, e4⟩) (fail)
          go_wp2
          go_roundg (gk - 1)
          case rel => exact ⟨k + 1, by have := Hk.out; omega, by go_num, Hs.out, E.out.drew⟩
          case measure => have := Hk.out; omega
        · have hx : (xs[k].1 == ys[k].1 && xs[k].2 == ys[k].2) = false := by
            cases h : (xs[k].1 == ys[k].1 && xs[k].2 == ys[k].2)
            · rfl
            · rw [Bool.and_eq_true, beq_iff_eq, beq_iff_eq] at h
              exact absurd (Prod.ext h.1 h.2) he
          have He := hid he
          clear he
          go_wp2
          go_region_held3 (fun w' => w'.cell? ⟨b, off + k * 2, none⟩ = some (.int .i64 xs[k].1) ∧ w'.cell? ⟨b, off + k * 2 + 1, none⟩ = some (.int .i64 xs[k].2) ∧ w'.cell? ⟨b2, off2 + k * 2, none⟩ = some (.int .i64 ys[k].1) ∧ w'.cell? ⟨b2, off2 + k * 2 + 1, none⟩ = some (.int .i64 ys[k].2)) (exact ⟨e1, e2, e3, e4⟩) (fail)
          go_wp2
          go_ret
          exact ⟨ret_bool (by unfold eqP; symm; simp only [decide_eq_false_iff_not]; rintro rfl; exact He.out rfl), E.out.drew⟩
      · go_wp2
        go_ret
        refine ⟨ret_bool ?_, E.out⟩
        unfold eqP; symm; rw [decide_eq_true_iff]
        have := Heq.out
        have hL := Hlen.out
        rw [List.take_of_length_le (by omega), List.take_of_length_le (by omega)] at this
        exact this
  · have hl' : (((xs.length : Nat) : Int) != ((ys.length : Nat) : Int)) = true := bne_iff_ne.2 (by omega)
    have Hlen := hid hlen
    clear hlen
    go_enter Try.func37, Try.ntmps37
    go_wp2
    go_ret
    refine ⟨ret_bool ?_, Ext.refl _⟩
    unfold eqP; symm; rw [decide_eq_false_iff_not]; rintro rfl; exact Hlen.out rfl

def eqR (xss yss : List (List Int)) : Bool := decide (xss = yss)
theorem eqI_iff' {a b : List Int} : eqI a b = true ↔ a = b := by unfold eqI; exact decide_eq_true_iff

set_option maxHeartbeats 1000000 in
theorem EqualFunc_any (v u : Value) (xs ys : List (List Int)) (w : World) (hv : Rows2 w v xs) (hu : Rows2 w u ys) :
    Calls Try.prog 69 #[v, u, .func (.func 24) #[] #[]] w fun e w' => e = .returned (.bool (eqR xs ys)) ∧ Ext w w' := by
  obtain ⟨hl, ao, cap, rfl, -, hc⟩ := hv
  obtain ⟨hl2, ao2, cap2, rfl, -, hc2⟩ := hu
  by_cases hlen : xs.length = ys.length
  · have hl' : (((xs.length : Nat) : Int) != ((ys.length : Nat) : Int)) = false := by simp [hlen]
    have Hlen := hid hlen
    have hle : xs.length ≤ ys.length := by omega
    clear hlen
    go_enter Try.func69, Try.ntmps69
    go_wp2
    go_loopg [17] xs.length (fun g i wr => ∃ k : Nat, k + g = xs.length ∧ i = .int .i64 k ∧ Hid (xs.take k = ys.take k) ∧ Hid (Ext w wr))
    case atStart => exact ⟨0, by omega, rfl, rfl, Ext.refl _⟩
    case round =>
      obtain ⟨k, hk, rfl, Heq, E⟩ := hrel
      have hkl : k ≤ xs.length := by omega
      have Hk := hid hk
      clear hk
      by_cases hlt : k < xs.length
      · have hlt2 : k < ys.length := by omega
        obtain ⟨b, off, x, rfl, c1, hx⟩ := hc k hlt
        obtain ⟨b2, off2, y, rfl, d1, hy⟩ := hc2 k hlt2
        have e1 := E.out.cell c1
        have e2 := E.out.cell d1
        have HX := hid hx
        have HY := hid hy
        obtain ⟨-, ax, cx, rfl, -⟩ := id hx
        obtain ⟨-, ay, cy, rfl, -⟩ := id hy
        have hi0 : (0 : Int) ≤ (k : Int) := by omega
        have hi1 : (k : Int) < xs.length := by omega
        have hi2 : (k : Int) < ys.length := by omega
        clear c1 d1 hx hy
        go_wp2_with (fail)
        refine (Equal_any _ _ xs[k] ys[k] _ (HX.out.ext E.out) (HY.out.ext E.out)).mono ?_
        cases he : eqI xs[k] ys[k]
        · have Hf : Hid (eqR xs ys = false) := by
            show _ = _
            unfold eqR
            rw [decide_eq_false_iff_not]
            rintro rfl
            have : eqI xs[k] xs[k] = true := eqI_iff'.2 rfl
            rw [he] at this; simp at this
          rintro e w1 ⟨rfl, n, rfl⟩
          go_wp2
          go_ret
          exact ⟨ret_bool Hf.out.symm, E.out.drewN _⟩
        · have Hs := hid (take_extP hlt hlt2 Heq.out (eqI_iff'.1 he))
          rintro e w1 ⟨rfl, n, rfl⟩
          go_wp2
          go_roundg (gk - 1)
          case rel => exact ⟨k + 1, by have := Hk.out; omega, by go_num, Hs.out, E.out.drewN _⟩
          case measure => have := Hk.out; omega
      · go_wp2
        go_ret
        refine ⟨ret_bool ?_, E.out⟩
        unfold eqR; symm; rw [decide_eq_true_iff]
        have := Heq.out
        have hL := Hlen.out
        rw [List.take_of_length_le (by omega), List.take_of_length_le (by omega)] at this
        exact this
  · have hl' : (((xs.length : Nat) : Int) != ((ys.length : Nat) : Int)) = true := bne_iff_ne.2 (by omega)
    have Hlen := hid hlen
    clear hlen
    go_enter Try.func69, Try.ntmps69
    go_wp2
    go_ret
    refine ⟨ret_bool ?_, Ext.refl _⟩
    unfold eqR; symm; rw [decide_eq_false_iff_not]; rintro rfl; exact Hlen.out rfl

set_option maxHeartbeats 1000000 in
theorem same_any (v u : Value) (xs ys : List (List Int)) (w : World) (hv : Rows2 w v xs) (hu : Rows2 w u ys) :
    Calls Try.prog 35 #[v, u] w fun e w' => e = .returned (.bool (eqR xs ys)) ∧ Ext w w' := by
  have HV := hid hv
  have HU := hid hu
  obtain ⟨-, ao, cap, rfl, -⟩ := id hv
  obtain ⟨-, ao2, cap2, rfl, -⟩ := id hu
  clear hv hu
  go_enter Try.func35, Try.ntmps35
  go_wp2_with (fail)
  refine (EqualFunc_any _ _ xs ys _ HV.out HU.out).mono ?_
  rintro e w1 ⟨rfl, he⟩
  have HE := hid he
  clear he
  go_wp2
  go_ret
  exact ⟨rfl, HE.out⟩

end Go.Proofs.Ytkdfbbkonbgfmaa
