/-
  Contract of slices.Repeat of one number, at most eight times.
-/
import Derived.Test.YteiamhapplnlaabGreatDoorLib
import Derived.Laws.CopyOwn
import Derived.Deep.LoopGhost
import Derived.Deep.RegionLaw
import Derived.Deep.OwnRows
namespace Go.Proofs.YteiamhapplnlaabGreatDoor
open Go.RowKit

set_option maxHeartbeats 4000000 in
theorem Mul64_any (n : Int) (h0 : 0 ≤ n) (h8 : n ≤ 8) (w : World) :
    Calls Tryz.prog 160 #[.int .u64 1, .int .u64 n] w fun e w' => e = .returned (.tuple #[.int .u64 0, .int .u64 n]) ∧ w = w' := by
  have : n = 0 ∨ n = 1 ∨ n = 2 ∨ n = 3 ∨ n = 4 ∨ n = 5 ∨ n = 6 ∨ n = 7 ∨ n = 8 := by omega
  clear h0 h8
  rcases this with rfl | rfl | rfl | rfl | rfl | rfl | rfl | rfl | rfl
  all_goals
    go_enter Tryz.func160, Tryz.ntmps160
    go_wp2
    go_ret2
    exact ⟨rfl, rfl⟩

set_option maxHeartbeats 400000 in
theorem Mul_any (n : Int) (h0 : 0 ≤ n) (h8 : n ≤ 8) (w : World) :
    Calls Tryz.prog 112 #[.int .u64 1, .int .u64 n] w fun e w' => e = .returned (.tuple #[.int .u64 0, .int .u64 n]) ∧ w = w' := by
  go_enter Tryz.func112, Tryz.ntmps112
  go_wp2_with (go_at_call 160; refine (Mul64_any n h0 h8 _).mono ?_; rintro e w' ⟨rfl, rfl⟩)
  go_ret2
  exact ⟨rfl, rfl⟩

/-- A block of the call's own that holds the ints xs, and no other cell. -/
def IntBlock (w : World) (g : Nat) (xs : List Int) : Prop := w.heap[g]? = some (.cells (xs.map (Value.int .i64)).toArray 3 (0, 0))

/-- k times a, then m times 0: as cells. -/
def rcs (k m : Nat) (a : Int) : List Value := (List.replicate k a ++ List.replicate m 0).map (Value.int .i64)
theorem rcs_length (k m : Nat) (a : Int) : (rcs k m a).length = k + m := by simp [rcs]
theorem rcs_cell {k m : Nat} {a : Int} : ∀ u ∈ rcs k m a, u.oneCell' = true := int_oneCell _
theorem rcs_get {c : Nat} {a : Int} {j : Nat} {u : Value} (h : (rcs c 0 a)[j]? = some u) : j < c ∧ u = .int .i64 a := by
  unfold rcs at h
  rw [List.replicate_zero, List.append_nil, List.map_replicate, List.getElem?_replicate] at h
  split at h
  · exact ⟨‹_›, by simpa using h.symm⟩
  · simp at h
theorem rcs_at {k m : Nat} {a : Int} {j : Nat} (h : j < k) : (rcs k m a).toArray[j]? = some (.int .i64 a) := by
  unfold rcs
  rw [List.getElem?_toArray, List.getElem?_map, List.getElem?_append_left (by simpa using h), List.getElem?_replicate, if_pos h]; rfl
theorem rep_splice (k m c : Nat) (a : Int) (hc : c ≤ m) : splice (rcs k m a) k (rcs c 0 a) = rcs (k + c) (m - c) a := by
  unfold splice rcs
  simp only [List.map_append, List.map_replicate, List.length_replicate, List.replicate_zero, List.append_nil]
  rw [List.take_append_of_le_length (by simp), List.take_of_length_le (by simp), List.drop_append, List.drop_eq_nil_of_le (by simp)]
  simp only [List.length_replicate, List.nil_append, List.drop_replicate]
  rw [← List.append_assoc, List.replicate_append_replicate]
  congr 2; omega
theorem rcs_made (n : Nat) (a : Int) : madeCells #[Value.int .i64 0] n = (rcs 0 n a).toArray := by
  apply Array.ext'
  rw [toList_madeCells_one]; simp [rcs]
theorem rcs_all (n : Nat) (a : Int) : rcs n 0 a = (List.replicate n a).map (Value.int .i64) := by simp [rcs]

set_option maxRecDepth 20000 in
set_option maxHeartbeats 2000000 in
theorem Repeat_any (v : Value) (a : Int) (n : Nat) (w : World) (hv : Ints w v [a]) (hn : n ≤ 8) :
    Calls Tryz.prog 106 #[v, .int .i64 n] w fun e w' => ∃ g, e = .returned (.slice (some ⟨g, 0, none⟩) n n) ∧ w.heap.size ≤ g ∧ IntBlock w' g (List.replicate n a) ∧ Ext w w' := by
  obtain ⟨-, ao, cap, hv', hcap, hc⟩ := hv
  obtain ⟨b, off, rfl, hcell⟩ := hc 0 (by simp)
  simp only [List.length_cons, List.length_nil, Nat.zero_add, Nat.add_zero, List.getElem_cons_zero] at hv' hcell
  subst hv'
  clear hc hcap
  have h1 : ¬ ((n : Int) < 0) := by omega
  have h2 : ¬ (9223372036854775807 < (n : Int)) := by omega
  have hmk := run_make_row' (P := Tryz.prog) 79 3 (.int .i64 0) 8 Tryz.underlying79 info_int rfl .i64 .i64 n (by omega) (by omega)
  rw [rcs_made n a] at hmk
  have hsz1 : (Tryz.prog.info? 3).map (·.size) = some 1 := by kernel_rfl
  have E0 := hid (show Below w.heap.size w (w.alloc (.cells (rcs 0 n a).toArray 3)) from Ext.ofAlloc _ _)
  have Hg0 := hid (show (w.alloc (.cells (rcs 0 n a).toArray 3)).heap[w.heap.size]? = some (.cells (rcs 0 n a).toArray 3 (0, 0)) from heap_alloc_new w _)
  have Hs0 := hid (rep_splice 0 n (min 1 n) a (by omega))
  have Hcs := hid (show ∀ j u, (rcs (min 1 n) 0 a)[j]? = some u → (w.alloc (.cells (rcs 0 n a).toArray 3)).cell? ((⟨b, off, none⟩ : Addr).add j) = some u from by
    intro j u hj
    obtain ⟨h, rfl⟩ := rcs_get hj
    obtain rfl : j = 0 := by omega
    rw [Addr.add_zero', World.cell?_alloc_lt (h := World.block_lt_of_cell? _ _ hcell)]; exact hcell)
  have Hl := hid (rcs_length (min 1 n) 0 a)
  have Hl0 := hid (rcs_length 0 n a)
  clear hcell
  go_enter Tryz.func106, Tryz.ntmps106
  go_wp2_with (first | (go_at_call 112; refine (Mul_any n (by omega) (by omega) _).mono ?_; rintro e w' ⟨rfl, rfl⟩) | (with_reducible refine wpList_copy_splice (o := ⟨some 33, _, _, _, _, _⟩) rfl (.tmp 31) (.tmp 32) 79 79 rfl 3 Tryz.underlying79 hsz1 (some ⟨w.heap.size, 0, none⟩) (some ⟨b, off, none⟩) n n 1 cap rfl rfl w.heap.size 0 (rcs 0 n a) 3 Hg0.out (rcs (min 1 n) 0 a) ?q1 ?q2 ?q3 rcs_cell w.heap.size w E0.out (Nat.le_refl _) ?q4))
  case q1 => rw [Hl.out]; simp [Nat.min_def]
  case q2 => intro _ j u hj; have := Hcs.out j u hj; rwa [Addr.add_lit] at this
  case q3 => rw [Hl.out, Hl0.out]; omega
  case q4 =>
    intro w1 hg1 hb1
    rw [Hs0.out, Nat.zero_add] at hg1
    have Hb1 := hid hb1
    clear hb1
    rw [Hl.out, Nat.add_zero]
    go_wp2
    go_loopg [8] n (fun g i wr => ∃ k : Nat, k ≤ n ∧ n - k ≤ g ∧ (0 < n → 0 < k) ∧ i = .int .i64 k ∧ Below w.heap.size w wr ∧ Hid (wr.heap[w.heap.size]? = some (.cells (rcs k (n - k) a).toArray 3 (0, 0))))
    case atStart => exact ⟨min 1 n, by omega, by omega, by omega, rfl, Hb1.out, hg1⟩
    case round =>
      obtain ⟨k, hk, hkg, hk0, rfl, hb, hg⟩ := hrel
      have Hb := hid hb
      clear hb
      by_cases hlt : k < n
      · go_wp2
        have hkn : (k : Int) < n := by omega
        have hki : (k : Int) ≤ n := by omega
        have hne : ¬ n = k := by omega
        have hcs2 : ∀ j u, (rcs (min k (n - k)) 0 a)[j]? = some u → wr.cell? ((⟨w.heap.size, 0, none⟩ : Addr).add j) = some u := by
          intro j u hj
          obtain ⟨h, rfl⟩ := rcs_get hj
          rw [Addr.add_lit, cell_of_row wr _ _ _ _ _ hg.out, Nat.zero_add]
          exact rcs_at (by omega)
        have Hcs2 := hid hcs2
        have Hl2 := hid (rcs_length (min k (n - k)) 0 a)
        have Hl3 := hid (rcs_length k (n - k) a)
        clear hcs2
        go_region_law (refine step_copy_splice rfl (.tmp 41) (.tmp 44) 79 79 rfl 3 Tryz.underlying79 hsz1 (some ⟨w.heap.size, k, none⟩) (some ⟨w.heap.size, 0, none⟩) (n - k) (n - k) k n (by simp [Act.eval, Act.put]) (by simp [Act.eval, Act.put]) w.heap.size k (rcs k (n - k) a) 3 hg.out (rcs (min k (n - k)) 0 a) (by rw [Hl2.out, Nat.add_zero]) (fun _ => ⟨rfl, _, rfl, Hcs2.out⟩) (by rw [Hl2.out, Hl3.out]; omega) rcs_cell w.heap.size w Hb.out.drew (Nat.le_refl _) ?_; intro w2 hg2 hb2)
        rw [rep_splice k (n - k) (min k (n - k)) a (by omega)] at hg2
        have Hb2 := hid hb2
        clear hb2
        rw [Hl2.out, Nat.add_zero]
        go_wp2
        go_roundg (gk - 1)
        case rel => exact ⟨k + min k (n - k), by omega, by omega, by omega, by rw [IntWalk.i64_in _ (by omega)]; congr 1, Hb2.out, by rw [show n - (k + min k (n - k)) = n - k - min k (n - k) by omega]; exact hg2⟩
        case measure => omega
      · go_wp2
        go_ret
        obtain rfl : k = n := by omega
        refine ⟨_, rfl, Nat.le_refl _, ?_, Hb.out⟩
        have := hg.out
        rw [Nat.sub_self, rcs_all] at this
        exact this

end Go.Proofs.YteiamhapplnlaabGreatDoor
