/-
  Contracts of the small functions of package slices that this claim's code calls.
-/
import Derived.Test.YteiamhapplnlaabGreatDoorBase
import Derived.Deep.QuietTactic
import Derived.BigQuiet
namespace Go.Proofs.YteiamhapplnlaabGreatDoor
open Go.RowKit

/-- The place of x in l, -1: it is not there. -/
def rankI (l : List Int) (x : Int) : Int := if x ∈ l then (l.idxOf x : Int) else -1
/-- Is x in l? -/
def hasI (l : List Int) (x : Int) : Bool := l.contains x

theorem rankI_hit {l : List Int} {k : Nat} (h : k < l.length) (hn : l[k] ∉ l.take k) : rankI l l[k] = k := by
  unfold rankI
  rw [if_pos (List.getElem_mem h)]
  congr 1
  have h1 : l.idxOf l[k] < l.length := List.idxOf_lt_length_of_mem (List.getElem_mem h)
  have h2 : l[l.idxOf l[k]] = l[k] := List.getElem_idxOf h1
  apply Nat.le_antisymm
  · rcases Nat.lt_or_ge k (l.idxOf l[k]) with hlt | hge
    · have hlt' : k < l.findIdx (fun x => x == l[k]) := hlt
      have := List.not_of_lt_findIdx hlt'
      simp at this
    · exact hge
  · rcases Nat.lt_or_ge (l.idxOf l[k]) k with hlt | hge
    · exact absurd (List.mem_take_iff_getElem.2 ⟨l.idxOf l[k], by omega, h2⟩) hn
    · exact hge
theorem rankI_miss {l : List Int} {x : Int} (h : x ∉ l) : rankI l x = -1 := by unfold rankI; rw [if_neg h]
theorem rankI_lo (l : List Int) (x : Int) : -1 ≤ rankI l x := by unfold rankI; split <;> omega
theorem rankI_hi (l : List Int) (x : Int) : rankI l x < l.length ∨ rankI l x = -1 := by
  unfold rankI; split
  · left; have := List.idxOf_lt_length_of_mem ‹_›; omega
  · right; rfl
theorem rankI_has (l : List Int) (x : Int) : decide (0 ≤ rankI l x) = hasI l x := by
  unfold rankI hasI
  by_cases h : x ∈ l <;> simp [h]
theorem notin_succ {l : List Int} {x : Int} {k : Nat} (h : k < l.length) (hne : ¬ x = l[k]) (hn : x ∉ l.take k) : x ∉ l.take (k + 1) := by
  rw [List.take_succ_eq_append_getElem h]; simp only [List.mem_append, List.mem_singleton, not_or]; exact ⟨hn, hne⟩
theorem notin_all {l : List Int} {x : Int} {k : Nat} (h : ¬ k < l.length) (hn : x ∉ l.take k) : x ∉ l := by
  rwa [List.take_of_length_le (by omega)] at hn

set_option maxHeartbeats 400000 in
theorem Index_any (v : Value) (l : List Int) (x : Int) (w : World) (hv : Ints w v l) :
    Calls Tryz.prog 122 #[v, .int .i64 x] w fun e w' => e = .returned (.int .i64 (rankI l x)) ∧ w = w' := by
  obtain ⟨hl, ao, cap, rfl, hcap, hc⟩ := hv
  go_enter Tryz.func122, Tryz.ntmps122
  go_wp2
  go_loop [8] (fun i => ∃ k : Nat, k ≤ l.length ∧ i = .int .i64 k ∧ x ∉ l.take k) (fun i => l.length - (intOf i).toNat)
  case atStart => exact ⟨0, Nat.zero_le _, rfl, by simp⟩
  case round =>
    obtain ⟨k, hk, rfl, hnot⟩ := hrel
    have Hnot := hid hnot
    clear hnot
    by_cases hlt : k < l.length
    · obtain ⟨b, off, hA, hcell⟩ := hc k hlt
      by_cases he : x = l[k]
      · have he' : (x == l[k]) = true := by simpa using he
        go_wp2
        go_ret
        exact ⟨ret_int (rankI_hit hlt (he ▸ Hnot.out)).symm, rfl⟩
      · have he' : (x == l[k]) = false := by simpa using he
        go_wp2
        go_round
        case rel => exact ⟨k + 1, by omega, by go_num, notin_succ hlt he Hnot.out⟩
        case measure => simp [intOf]; omega
    · go_wp2
      go_ret
      exact ⟨ret_int (rankI_miss (notin_all hlt Hnot.out)).symm, rfl⟩

set_option maxHeartbeats 400000 in
theorem Contains_any (v : Value) (l : List Int) (x : Int) (w : World) (hv : Ints w v l) :
    Calls Tryz.prog 86 #[v, .int .i64 x] w fun e w' => e = .returned (.bool (hasI l x)) ∧ w = w' := by
  have hr := rankI_has l x
  have Hr := hid hr
  clear hr
  go_enter Tryz.func86, Tryz.ntmps86
  go_wp2_with (go_at_call 122; refine (Index_any v l x _ hv).mono ?_; rintro e w' ⟨rfl, rfl⟩)
  go_ret
  exact ⟨ret_bool Hr.out, rfl⟩

/-- The least, the greatest element of a list that is not empty. -/
def minI (l : List Int) : Int := l.tail.foldl min (l.headD 0)
def maxI (l : List Int) : Int := l.tail.foldl max (l.headD 0)
def minTo (l : List Int) (k : Nat) : Int := ((l.take k).tail).foldl min (l.headD 0)
def maxTo (l : List Int) (k : Nat) : Int := ((l.take k).tail).foldl max (l.headD 0)
theorem minTo_one (l : List Int) (h : 0 < l.length) : minTo l 1 = l[0] := by
  cases l with
  | nil => simp at h
  | cons a l => simp [minTo]
theorem maxTo_one (l : List Int) (h : 0 < l.length) : maxTo l 1 = l[0] := by
  cases l with
  | nil => simp at h
  | cons a l => simp [maxTo]
theorem minTo_succ (l : List Int) (k : Nat) (h1 : 1 ≤ k) (h : k < l.length) : minTo l (k + 1) = min (minTo l k) l[k] := by
  cases l with
  | nil => simp at h
  | cons a l =>
    obtain ⟨k, rfl⟩ : ∃ j, k = j + 1 := ⟨k - 1, by omega⟩
    simp only [minTo, List.take_succ_cons, List.tail_cons, List.headD_cons, List.getElem_cons_succ]
    rw [List.take_succ_eq_append_getElem (by simpa using h), List.foldl_append]; rfl
theorem maxTo_succ (l : List Int) (k : Nat) (h1 : 1 ≤ k) (h : k < l.length) : maxTo l (k + 1) = max (maxTo l k) l[k] := by
  cases l with
  | nil => simp at h
  | cons a l =>
    obtain ⟨k, rfl⟩ : ∃ j, k = j + 1 := ⟨k - 1, by omega⟩
    simp only [maxTo, List.take_succ_cons, List.tail_cons, List.headD_cons, List.getElem_cons_succ]
    rw [List.take_succ_eq_append_getElem (by simpa using h), List.foldl_append]; rfl
theorem minTo_all (l : List Int) (k : Nat) (h : ¬ k < l.length) : minTo l k = minI l := by unfold minTo minI; rw [List.take_of_length_le (by omega)]
theorem maxTo_all (l : List Int) (k : Nat) (h : ¬ k < l.length) : maxTo l k = maxI l := by unfold maxTo maxI; rw [List.take_of_length_le (by omega)]

set_option maxHeartbeats 400000 in
theorem Min_any (v : Value) (l : List Int) (w : World) (hv : Ints w v l) (h0 : 0 < l.length) :
    Calls Tryz.prog 166 #[v] w fun e w' => e = .returned (.int .i64 (minI l)) ∧ w = w' := by
  obtain ⟨hl, ao, cap, rfl, hcap, hc⟩ := hv
  obtain ⟨b0, off0, hA, hcell0⟩ := hc 0 h0
  rw [Nat.add_zero] at hcell0
  have h0' : ¬ ((l.length : Int) < 1) := by omega
  go_enter Tryz.func166, Tryz.ntmps166
  go_wp2
  go_loop [3, 4] (fun m i => ∃ k : Nat, 1 ≤ k ∧ k ≤ l.length ∧ i = .int .i64 k ∧ m = .int .i64 (minTo l k)) (fun _ i => l.length - (intOf i).toNat)
  case atStart => exact ⟨1, by omega, by omega, rfl, by rw [minTo_one l h0]⟩
  case round =>
    obtain ⟨k, hk1, hk, rfl, rfl⟩ := hrel
    by_cases hlt : k < l.length
    · obtain ⟨b, off, hA', hcell⟩ := hc k hlt
      obtain ⟨rfl, rfl⟩ : b0 = b ∧ off0 = off := by rw [hA] at hA'; simpa using hA'
      have hs := minTo_succ l k hk1 hlt
      have Hs := hid hs
      clear hs hA'
      go_wp2
      go_round
      case rel => exact ⟨k + 1, by omega, by omega, by go_num, by rw [Hs.out]; congr 1; omega⟩
      case measure => simp [intOf]; omega
    · have hs := minTo_all l k hlt
      have Hs := hid hs
      clear hs
      go_wp2
      go_ret
      exact ⟨ret_int Hs.out, rfl⟩

set_option maxHeartbeats 400000 in
theorem Max_any (v : Value) (l : List Int) (w : World) (hv : Ints w v l) (h0 : 0 < l.length) :
    Calls Tryz.prog 167 #[v] w fun e w' => e = .returned (.int .i64 (maxI l)) ∧ w = w' := by
  obtain ⟨hl, ao, cap, rfl, hcap, hc⟩ := hv
  obtain ⟨b0, off0, hA, hcell0⟩ := hc 0 h0
  rw [Nat.add_zero] at hcell0
  have h0' : ¬ ((l.length : Int) < 1) := by omega
  go_enter Tryz.func167, Tryz.ntmps167
  go_wp2
  go_loop [3, 4] (fun m i => ∃ k : Nat, 1 ≤ k ∧ k ≤ l.length ∧ i = .int .i64 k ∧ m = .int .i64 (maxTo l k)) (fun _ i => l.length - (intOf i).toNat)
  case atStart => exact ⟨1, by omega, by omega, rfl, by rw [maxTo_one l h0]⟩
  case round =>
    obtain ⟨k, hk1, hk, rfl, rfl⟩ := hrel
    by_cases hlt : k < l.length
    · obtain ⟨b, off, hA', hcell⟩ := hc k hlt
      obtain ⟨rfl, rfl⟩ : b0 = b ∧ off0 = off := by rw [hA] at hA'; simpa using hA'
      have hs := maxTo_succ l k hk1 hlt
      have Hs := hid hs
      clear hs hA'
      go_wp2
      go_round
      case rel => exact ⟨k + 1, by omega, by omega, by go_num, by rw [Hs.out]; congr 1; omega⟩
      case measure => simp [intOf]; omega
    · have hs := maxTo_all l k hlt
      have Hs := hid hs
      clear hs
      go_wp2
      go_ret
      exact ⟨ret_int Hs.out, rfl⟩

theorem drewN_ex (w : World) (n m : Nat) : ∃ k, (w.drewN n).drewN m = w.drewN k := ⟨n + m, World.drewN_drewN ..⟩
def eqI (xs ys : List Int) : Bool := decide (xs = ys)

theorem take_ext {xs ys : List Int} {k : Nat} (hx : k < xs.length) (hy : k < ys.length) (h : xs.take k = ys.take k) (he : xs[k] = ys[k]) : xs.take (k + 1) = ys.take (k + 1) := by
  rw [List.take_succ_eq_append_getElem hx, List.take_succ_eq_append_getElem hy, h, he]

set_option maxHeartbeats 400000 in
theorem Clone_any (v : Value) (xs : List Int) (w : World) (hv : Ints w v xs) :
    Calls Tryz.prog 173 #[v] w fun e w' => ∃ u, e = .returned u ∧ OwnI w.heap.size w' u xs ∧ Ext w w' := by
  obtain ⟨hl, ao, cap, rfl, hcap, hc⟩ := hv
  have qT : ∀ (w : World) (a : Option Addr) (n c n' c' : Nat), (binOp .eql 79 (.slice a n c) (.slice none n' c')).run Tryz.prog w = .ok (.bool a.isNone) w :=
    fun w a n c n' c' => Lib.run_eql_slice_nil w _ _ a n c n' c' Tryz.underlying79
  obtain ⟨i0, hi, hz0, hz1, hz2⟩ := info_parts info_int
  cases hao : ao with
  | none =>
    have hn : xs = [] := by
      cases xs with
      | nil => rfl
      | cons x xs => obtain ⟨b, off, h, -⟩ := hc 0 (by simp); rw [hao] at h; simp at h
    subst hn
    go_enter Tryz.func173, Tryz.ntmps173
    go_wp2
    go_ret
    exact ⟨_, rfl, World.ownsRow_nil _ _ _ _, Ext.refl w⟩
  | some ad =>
    go_enter Tryz.func173, Tryz.ntmps173
    have hcells : ∀ j u, (xs.map (Value.int .i64))[j]? = some u → (w.alloc (.cells #[] 3)).cell? (ad.add j) = some u := by
      intro j u hj
      rw [List.getElem?_map, Option.map_eq_some_iff] at hj
      obtain ⟨x, hx, rfl⟩ := hj
      obtain ⟨hjl, rfl⟩ := List.getElem?_eq_some_iff.1 hx
      obtain ⟨b, off, h1, h2⟩ := hc j hjl
      rw [hao] at h1
      simp only [Option.some.injEq] at h1
      subst h1
      rw [Addr.add_lit, World.cell?_alloc_lt (h := World.block_lt_of_cell? _ _ h2)]; exact h2
    have hown0 : (w.alloc (.cells #[] 3)).ownsRow w.heap.size 3 1 (.slice (some ⟨w.heap.size, 0, none⟩) 0 0) 0 [] := World.ownsRow_lit w #[] 0 (Nat.le_refl _) (by decide) rfl
    have Hcells := hid hcells
    have Hown0 := hid hown0
    clear hc hcells hown0
    go_wp2_with (at_builtin; go_must (refine wpList_append_own _ rfl _ _ 79 rfl w.heap.size 3 i0 (.int .i64 0) 1 8 Tryz.underlying79 hi hz0 hz1 hz2 rfl (by decide) _ _ _ rfl Hown0.out ad xs.length cap (xs.map (Value.int .i64)) rfl ?c1 Hcells.out (int_oneCell xs) ?c3 ?c4 ?c5 ?_))
    case c1 => simp
    case c3 => unfold maxLen; omega
    case c4 => omega
    case c5 => simp
    intro v' w' hown' hg _
    go_wp2
    go_ret
    exact ⟨_, rfl, hown', Below.grown (Ext.ofAlloc w _) hg (by simp) (by simp [Value.ownBlock])⟩

end Go.Proofs.YteiamhapplnlaabGreatDoor
