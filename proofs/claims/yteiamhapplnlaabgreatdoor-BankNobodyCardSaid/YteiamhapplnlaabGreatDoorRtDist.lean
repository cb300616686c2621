/-
  Contract of distances.
-/
import Derived.Test.YteiamhapplnlaabGreatDoorRtCosts
namespace Go.Proofs.YteiamhapplnlaabGreatDoor
open Go.RowKit

def fwStep (D : Nat → Nat → Int) (k : Nat) : Nat → Nat → Int := fun i j => mn (D i j) (D i k + D k j)
def fw (D : Nat → Nat → Int) : Nat → Nat → Nat → Int
  | 0 => D
  | k + 1 => fwStep (fw D k) k
/-- What holds all along. -/
structure Good (N : Nat) (D : Nat → Nat → Int) : Prop where
  diag : ∀ i, i < N → D i i = 0
  lo : ∀ i j, i < N → j < N → 0 ≤ D i j
  hi : ∀ i j, i < N → j < N → D i j ≤ far
theorem mn_le (a b : Int) : mn a b ≤ a ∧ mn a b ≤ b := by unfold mn; split <;> omega
theorem mn_or (a b : Int) : mn a b = a ∨ mn a b = b := by unfold mn; split <;> simp
theorem mn_left {a b : Int} (h : a ≤ b) : mn a b = a := by unfold mn; rw [if_neg (by omega)]
theorem Good.step {N : Nat} {D : Nat → Nat → Int} (h : Good N D) {k : Nat} (hk : k < N) : Good N (fwStep D k) := by
  refine ⟨fun i hi => ?_, fun i j hi hj => ?_, fun i j hi hj => ?_⟩
  · show mn _ _ = 0
    rw [mn_left, h.diag i hi]
    have := h.lo i k hi hk; have := h.lo k i hk hi; have := h.diag i hi; omega
  · show 0 ≤ mn _ _
    have := h.lo i j hi hj; have := h.lo i k hi hk; have := h.lo k j hk hj
    rcases mn_or (D i j) (D i k + D k j) with e | e <;> rw [e] <;> omega
  · show mn _ _ ≤ far
    have := (mn_le (D i j) (D i k + D k j)).1
    have := h.hi i j hi hj; omega
theorem Good.fw {N : Nat} {D : Nat → Nat → Int} (h : Good N D) : ∀ k, k ≤ N → Good N (fw D k)
  | 0, _ => h
  | k + 1, hk => (Good.fw h k (by omega)).step (by omega)
/-- In the middle of a round. -/
def part (D : Nat → Nat → Int) (k i j : Nat) : Nat → Nat → Int := fun a c => if a < i ∨ (a = i ∧ c < j) then fwStep D k a c else D a c
theorem part_zero (D : Nat → Nat → Int) (k : Nat) : part D k 0 0 = D := by
  funext a c; unfold part; rw [if_neg (by omega)]
theorem part_end {D : Nat → Nat → Int} {k N : Nat} (a c : Nat) (ha : a < N) : part D k N 0 a c = fwStep D k a c := by unfold part; rw [if_pos (by omega)]
theorem part_row {D : Nat → Nat → Int} {k i N : Nat} (a c : Nat) (hc : c < N) : part D k i N a c = part D k (i + 1) 0 a c := by
  unfold part
  by_cases h : a < i ∨ (a = i ∧ c < N)
  · rw [if_pos h, if_pos (by omega)]
  · rw [if_neg h, if_neg (by omega)]
theorem part_ij {D : Nat → Nat → Int} {k i j : Nat} : part D k i j i j = D i j := by unfold part; rw [if_neg (by omega)]
theorem part_ik {N : Nat} {D : Nat → Nat → Int} (h : Good N D) {k i j : Nat} (hk : k < N) : part D k i j i k = D i k := by
  unfold part
  split
  · show mn _ _ = _
    rw [h.diag k hk]; exact mn_left (by omega)
  · rfl
theorem part_kj {N : Nat} {D : Nat → Nat → Int} (h : Good N D) {k i j : Nat} (hk : k < N) : part D k i j k j = D k j := by
  unfold part
  split
  · show mn _ _ = _
    rw [h.diag k hk]; exact mn_left (by omega)
  · rfl
theorem part_set {D : Nat → Nat → Int} {k i j : Nat} : updM (part D k i j) i j (fwStep D k i j) = part D k i (j + 1) := by
  funext a c
  unfold updM updF part
  by_cases e : a = i
  · subst e
    by_cases e2 : c = j
    · subst e2; simp
    · have h : (c < j + 1) ↔ c < j := by omega
      simp [e2, h]
  · simp [e]

/-- The cells that one step reads and writes. -/
theorem Mat.cells {B : Nat} {w : World} {b c N : Nat} {P : Nat → Nat → Int} (h : Mat B w (.slice (some ⟨b, 0, none⟩) N c) N N P) {i k j : Nat} (hi : i < N) (hk : k < N) (hj : j < N) :
    ∃ gi gk, w.cell? ⟨b, i, none⟩ = some (.slice (some ⟨gi, 0, none⟩) N N) ∧ w.cell? ⟨b, k, none⟩ = some (.slice (some ⟨gk, 0, none⟩) N N) ∧
      w.cell? ⟨gi, j, none⟩ = some (.int .i64 (P i j)) ∧ w.cell? ⟨gi, k, none⟩ = some (.int .i64 (P i k)) ∧ w.cell? ⟨gk, j, none⟩ = some (.int .i64 (P k j)) ∧ w.frozen? ⟨gi, j, none⟩ = false ∧ B ≤ gi ∧
      ∀ x : Int, (k = j → x = P i k) → (i = k → x = P k j) →
        (w.setCell ⟨gi, j, none⟩ (.int .i64 x)).cell? ⟨b, i, none⟩ = some (.slice (some ⟨gi, 0, none⟩) N N) ∧ (w.setCell ⟨gi, j, none⟩ (.int .i64 x)).cell? ⟨b, k, none⟩ = some (.slice (some ⟨gk, 0, none⟩) N N) ∧
        (w.setCell ⟨gi, j, none⟩ (.int .i64 x)).cell? ⟨gi, k, none⟩ = some (.int .i64 (P i k)) ∧ (w.setCell ⟨gi, j, none⟩ (.int .i64 x)).cell? ⟨gk, j, none⟩ = some (.int .i64 (P k j)) ∧
        Mat B (w.setCell ⟨gi, j, none⟩ (.int .i64 x)) (.slice (some ⟨b, 0, none⟩) N c) N N (updM P i j x) := by
  obtain ⟨gi, ci, hblk, hB, hne, hset, hoth⟩ := h.row hi
  have cell : ∀ {g : Nat} {f : Nat → Int} {w : World}, IntBlock w g (rowL N f) → ∀ a, a < N → w.cell? ⟨g, a, none⟩ = some (.int .i64 (f a)) := by
    intro g f w hb a ha
    have := hb.cell (i := a) (by rw [rowL_len]; exact ha)
    rwa [rowL_fn ha] at this
  have hs : ∀ x, IntBlock (w.setCell ⟨gi, j, none⟩ (.int .i64 x)) gi (rowL N (updF (P i) j x)) := by
    intro x; have := hblk.set j x; rwa [rowL_set] at this
  have keepb : ∀ x a v, w.cell? ⟨b, a, none⟩ = some v → (w.setCell ⟨gi, j, none⟩ (.int .i64 x)).cell? ⟨b, a, none⟩ = some v := by
    intro x a v hv
    rw [World.cell?_setCell_other (h := by first | (simp; done) | (simp; omega) | simp [hne])]; exact hv
  by_cases e : i = k
  · subst e
    refine ⟨gi, gi, ci, ci, cell hblk j hj, cell hblk i hk, cell hblk j hj, hblk.free j, hB, fun x h1 h2 => ⟨keepb x i _ ci, keepb x i _ ci, ?_, ?_, hset j x hj⟩⟩
    · rw [cell (hs x) i hk]
      unfold updF
      by_cases e2 : i = j
      · rw [if_pos e2, h1 e2]
      · rw [if_neg e2]
    · rw [cell (hs x) j hj, h2 rfl]
      simp [updF]
  · obtain ⟨gk, hgk, ck, hblk2⟩ := hoth k hk (fun h => e h.symm)
    refine ⟨gi, gk, ci, ck, cell hblk j hj, cell hblk k hk, cell hblk2 j hj, hblk.free j, hB, fun x h1 h2 => ⟨keepb x i _ ci, keepb x k _ ck, ?_, ?_, hset j x hj⟩⟩
    · rw [cell (hs x) k hk]
      unfold updF
      by_cases e2 : k = j
      · rw [if_pos e2, h1 e2]
      · rw [if_neg e2]
    · exact cell (hblk2.other (fun h => hgk h.symm) j _) j hj

set_option maxRecDepth 20000 in
set_option maxHeartbeats 4000000 in
theorem distances_any (vr : Value) (N : Nat) (rs : List RoadD) (w : World) (hv : Roads w vr rs) (hN1 : 1 ≤ N) (hN : N ≤ 8) (hl : rs.length ≤ 16) (hok : ∀ r ∈ rs, roadOk N r = true) (hg : Good N (costTo rs)) :
    Calls Tryz.prog 38 #[.agg #[.int .i64 N, vr]] w fun e w' => ∃ v, e = .returned v ∧ Mat w.heap.size w' v N N (fw (costTo rs) N) ∧ Ext w w' := by
  obtain ⟨ao, cap, rfl⟩ := hv.shape
  have HV := hid hv
  have Hok := hid hok
  have HG := hid hg
  clear hv hok hg
  go_enter Tryz.func38, Tryz.ntmps38
  go_wp2_with (fail)
  refine (costs_any _ N rs _ (Roads.ext HV.out (Ext.ofAlloc _ _)) hN1 hN hl Hok.out).mono ?_
  rintro e W ⟨v, rfl, hm, he⟩
  obtain ⟨b, c, rfl, hbB⟩ := hm.head (by omega)
  have hB := (Ext.ofAlloc w (.cells #[.int .i64 N, .slice ao rs.length cap] 39)).size
  have HM := hid (hm.base hB)
  have HE := hid ((Ext.ofAlloc w _).trans he)
  obtain ⟨D0, hD0⟩ : ∃ D0, D0 = costTo rs := ⟨_, rfl⟩
  rw [← hD0] at HM HG
  have HD0 := hid hD0
  clear hm he hbB hD0
  go_wp2
  go_loopg [11] N (fun g i wr => ∃ k : Nat, k + g = N ∧ i = .int .i64 k ∧ Hid (Mat w.heap.size wr (.slice (some ⟨b, 0, none⟩) N c) N N (fw D0 k)) ∧ Hid (Ext w wr))
  case atStart => exact ⟨0, by omega, rfl, HM, HE⟩
  case round =>
    obtain ⟨k, hk, rfl, MAT, E⟩ := hrel
    have hkl : k ≤ N := by omega
    have Hk := hid hk
    clear hk
    by_cases hlt : k < N
    · have HGk := hid (HG.out.fw k hkl)
      obtain ⟨D, hD⟩ : ∃ D, D = fw D0 k := ⟨_, rfl⟩
      rw [← hD] at HGk MAT
      have HD := hid hD
      clear hD
      go_wp2
      go_loopg [16] N (fun g i2 wr => ∃ i : Nat, i + g = N ∧ i2 = .int .i64 i ∧ Hid (Mat w.heap.size wr (.slice (some ⟨b, 0, none⟩) N c) N N (part D k i 0)) ∧ Hid (Ext w wr))
      case atStart => exact ⟨0, by omega, rfl, by rw [part_zero]; exact MAT, E⟩
      case round =>
        clear MAT E
        obtain ⟨i, hii, rfl, MAT, E⟩ := hrel
        have hil : i ≤ N := by omega
        have Hi := hid hii
        clear hii
        by_cases hilt : i < N
        · go_wp2
          go_loopg [21] N (fun g i3 wr => ∃ j : Nat, j + g = N ∧ i3 = .int .i64 j ∧ Hid (Mat w.heap.size wr (.slice (some ⟨b, 0, none⟩) N c) N N (part D k i j)) ∧ Hid (Ext w wr))
          case atStart => exact ⟨0, by omega, rfl, MAT, E⟩
          case round =>
            clear MAT E
            obtain ⟨j, hjj, rfl, MAT, E⟩ := hrel
            have hjl : j ≤ N := by omega
            have Hj := hid hjj
            clear hjj
            by_cases hjlt : j < N
            · obtain ⟨gi, gk_, o1, o2, c0, c1, c2, hfr, hBi, hset⟩ := MAT.out.cells hilt hlt hjlt
              rw [part_ij] at c0
              rw [part_ik HGk.out hlt] at c1
              rw [part_kj HGk.out hlt] at c2
              obtain ⟨q1, q2, q3, q4, hmat⟩ := hset (fwStep D k i j) (fun e => by subst e; rw [part_ik HGk.out hlt]; show mn _ _ = _; rw [HGk.out.diag k hlt]; exact mn_left (by omega)) (fun e => by subst e; rw [part_kj HGk.out hlt]; show mn _ _ = _; rw [HGk.out.diag i hlt]; exact mn_left (by omega))
              rw [part_set] at hmat
              rw [part_ik HGk.out hlt] at q3
              rw [part_kj HGk.out hlt] at q4
              have l1 := HGk.out.lo i k hilt hlt
              have l2 := HGk.out.hi i k hilt hlt
              have l3 := HGk.out.lo k j hlt hjlt
              have l4 := HGk.out.hi k j hlt hjlt
              unfold far at l2 l4
              have hw1 : IntKind.i64.wrap (D i k + D k j) = D i k + D k j := by rw [IntKind.wrap_i64]; omega
              have HM2 := hid (hmat.ext (Ext.refl _).drew)
              have HE2 := hid (E.out.setCell hBi j (.int .i64 (fwStep D k i j))).drew
              have hst : fwStep D k i j = (if D i k + D k j < D i j then D i k + D k j else D i j) := rfl
              rw [hst] at q1 q2 q3 q4 HM2 HE2
              clear hset hmat hBi
              go_wp2
              refine wp_region_held_drew (S := (fun w' => w'.cell? ⟨b, i, none⟩ = some (.slice (some ⟨gi, 0, none⟩) N N) ∧ w'.cell? ⟨b, k, none⟩ = some (.slice (some ⟨gk_, 0, none⟩) N N) ∧ w'.cell? ⟨gi, k, none⟩ = some (.int .i64 (D i k)) ∧ w'.cell? ⟨gk_, j, none⟩ = some (.int .i64 (D k j)))) (by kernel_rfl) ?hSa0 (fun hHeld => ?_)
              case hSa0 => (first | (first | exact ⟨o1, o2, c1, c2⟩ | exact ⟨q1, q2, q3, q4⟩) | ((try dsimp only); first | exact ⟨o1, o2, c1, c2⟩ | exact ⟨q1, q2, q3, q4⟩))
              refine wpAnyH_tk 0 (v := ?va0) rfl (by kernel_rfl) (by kernel_rfl) (by kernel_rfl) (fun _ _ _ h => h) (by rfl) ?hya0 (by assumption) ?_
              case hya0 => (intro w hSw; (try dsimp only at hSw); go_simp <;> with_reducible rfl)
              (try simp only [Act.put, List.setIfInBounds_toArray, List.set_cons_zero, List.set_cons_succ])
              refine wpAnyH_tk 1 (v := ?va1) rfl (by kernel_rfl) (by kernel_rfl) (by kernel_rfl) (fun _ _ _ h => h) (by rfl) ?hya1 (by assumption) ?_
              case hya1 => (intro w hSw; (try dsimp only at hSw); go_simp <;> with_reducible rfl)
              (try simp only [Act.put, List.setIfInBounds_toArray, List.set_cons_zero, List.set_cons_succ])
              refine wpAnyH_tk 2 (v := ?va2) rfl (by kernel_rfl) (by kernel_rfl) (by kernel_rfl) (fun _ _ _ h => h) (by rfl) ?hya2 (by assumption) ?_
              case hya2 => (intro w hSw; (try dsimp only at hSw); go_simp <;> with_reducible rfl)
              (try simp only [Act.put, List.setIfInBounds_toArray, List.set_cons_zero, List.set_cons_succ])
              refine wpAnyH_tk 3 (v := ?va3) rfl (by kernel_rfl) (by kernel_rfl) (by kernel_rfl) (fun _ _ _ h => h) (by rfl) ?hya3 (by assumption) ?_
              case hya3 => (intro w hSw; (try dsimp only at hSw); go_simp <;> with_reducible rfl)
              (try simp only [Act.put, List.setIfInBounds_toArray, List.set_cons_zero, List.set_cons_succ])
              refine wpAnyH_tk 4 (v := ?va4) rfl (by kernel_rfl) (by kernel_rfl) (by kernel_rfl) (fun _ _ _ h => h) (by rfl) ?hya4 (by assumption) ?_
              case hya4 => (intro w hSw; (try dsimp only at hSw); go_simp <;> with_reducible rfl)
              (try simp only [Act.put, List.setIfInBounds_toArray, List.set_cons_zero, List.set_cons_succ])
              refine wpAnyH_tk 5 (v := ?va5) rfl (by kernel_rfl) (by kernel_rfl) (by kernel_rfl) (fun _ _ _ h => h) (by rfl) ?hya5 (by assumption) ?_
              case hya5 => (intro w hSw; (try dsimp only at hSw); go_simp <;> with_reducible rfl)
              (try simp only [Act.put, List.setIfInBounds_toArray, List.set_cons_zero, List.set_cons_succ])
              refine wpAnyH_tk 6 (v := ?va6) rfl (by kernel_rfl) (by kernel_rfl) (by kernel_rfl) (fun _ _ _ h => h) (by rfl) ?hya6 (by assumption) ?_
              case hya6 => (intro w hSw; (try dsimp only at hSw); go_simp <;> with_reducible rfl)
              (try simp only [Act.put, List.setIfInBounds_toArray, List.set_cons_zero, List.set_cons_succ])
              refine wpAnyH_tk 7 (v := ?va7) rfl (by kernel_rfl) (by kernel_rfl) (by kernel_rfl) (fun _ _ _ h => h) (by rfl) ?hya7 (by assumption) ?_
              case hya7 => (intro w hSw; (try dsimp only at hSw); go_simp <;> with_reducible rfl)
              (try simp only [Act.put, List.setIfInBounds_toArray, List.set_cons_zero, List.set_cons_succ])
              refine wpAnyH_tk 8 (v := ?va8) rfl (by kernel_rfl) (by kernel_rfl) (by kernel_rfl) (fun _ _ _ h => h) (by rfl) ?hya8 (by assumption) ?_
              case hya8 => (intro w hSw; (try dsimp only at hSw); go_simp <;> with_reducible rfl)
              (try simp only [Act.put, List.setIfInBounds_toArray, List.set_cons_zero, List.set_cons_succ])
              refine wpAnyH_tk 9 (v := ?va9) rfl (by kernel_rfl) (by kernel_rfl) (by kernel_rfl) (fun _ _ _ h => h) (by rfl) ?hya9 (by assumption) ?_
              case hya9 => (intro w hSw; (try dsimp only at hSw); go_simp <;> with_reducible rfl)
              (try simp only [Act.put, List.setIfInBounds_toArray, List.set_cons_zero, List.set_cons_succ])
              refine wpAnyH_tk 10 (v := ?va10) rfl (by kernel_rfl) (by kernel_rfl) (by kernel_rfl) (fun _ _ _ h => h) (by rfl) ?hya10 (by assumption) ?_
              case hya10 => (intro w hSw; (try dsimp only at hSw); go_simp <;> with_reducible rfl)
              (try simp only [Act.put, List.setIfInBounds_toArray, List.set_cons_zero, List.set_cons_succ])
              refine wpAnyH_tk 12 (v := ?va12) rfl (by kernel_rfl) (by kernel_rfl) (by kernel_rfl) (fun _ _ _ h => h) (by rfl) ?hya12 (by assumption) ?_
              case hya12 => (intro w hSw; (try dsimp only at hSw); go_simp <;> with_reducible rfl)
              (try simp only [Act.put, List.setIfInBounds_toArray, List.set_cons_zero, List.set_cons_succ])
              refine wpAnyH_tk 13 (v := ?va13) rfl (by kernel_rfl) (by kernel_rfl) (by kernel_rfl) (fun _ _ _ h => h) (by rfl) ?hya13 (by assumption) ?_
              case hya13 => (intro w hSw; (try dsimp only at hSw); go_simp <;> with_reducible rfl)
              (try simp only [Act.put, List.setIfInBounds_toArray, List.set_cons_zero, List.set_cons_succ])
              refine wpAnyH_tk 14 (v := ?va14) rfl (by kernel_rfl) (by kernel_rfl) (by kernel_rfl) (fun _ _ _ h => h) (by rfl) ?hya14 (by assumption) ?_
              case hya14 => (intro w hSw; (try dsimp only at hSw); go_simp <;> with_reducible rfl)
              (try simp only [Act.put, List.setIfInBounds_toArray, List.set_cons_zero, List.set_cons_succ])
              refine wpAnyH_tk 15 (v := ?va15) rfl (by kernel_rfl) (by kernel_rfl) (by kernel_rfl) (fun _ _ _ h => h) (by rfl) ?hya15 (by assumption) ?_
              case hya15 => (intro w hSw; (try dsimp only at hSw); go_simp <;> with_reducible rfl)
              (try simp only [Act.put, List.setIfInBounds_toArray, List.set_cons_zero, List.set_cons_succ])
              refine wpAnyH_tk 16 (v := ?va16) rfl (by kernel_rfl) (by kernel_rfl) (by kernel_rfl) (fun _ _ _ h => h) (by rfl) ?hya16 (by assumption) ?_
              case hya16 => (intro w hSw; (try dsimp only at hSw); go_simp <;> with_reducible rfl)
              (try simp only [Act.put, List.setIfInBounds_toArray, List.set_cons_zero, List.set_cons_succ])
              refine wpAnyH_tk 17 (v := ?va17) rfl (by kernel_rfl) (by kernel_rfl) (by kernel_rfl) (fun _ _ _ h => h) (by rfl) ?hya17 (by assumption) ?_
              case hya17 => (intro w hSw; (try dsimp only at hSw); go_simp <;> with_reducible rfl)
              (try simp only [Act.put, List.setIfInBounds_toArray, List.set_cons_zero, List.set_cons_succ])
              refine wpAnyH_tk 18 (v := ?va18) rfl (by kernel_rfl) (by kernel_rfl) (by kernel_rfl) (fun _ _ _ h => h) (by rfl) ?hya18 (by assumption) ?_
              case hya18 => (intro w hSw; (try dsimp only at hSw); go_simp <;> with_reducible rfl)
              (try simp only [Act.put, List.setIfInBounds_toArray, List.set_cons_zero, List.set_cons_succ])
              refine wpAnyH_tk 19 (v := ?va19) rfl (by kernel_rfl) (by kernel_rfl) (by kernel_rfl) (fun _ _ _ h => h) (by rfl) ?hya19 (by assumption) ?_
              case hya19 => (intro w hSw; (try dsimp only at hSw); go_simp <;> with_reducible rfl)
              (try simp only [Act.put, List.setIfInBounds_toArray, List.set_cons_zero, List.set_cons_succ])
              refine wpAnyH_tk 20 (v := ?va20) rfl (by kernel_rfl) (by kernel_rfl) (by kernel_rfl) (fun _ _ _ h => h) (by rfl) ?hya20 (by assumption) ?_
              case hya20 => (intro w hSw; (try dsimp only at hSw); go_simp <;> with_reducible rfl)
              (try simp only [Act.put, List.setIfInBounds_toArray, List.set_cons_zero, List.set_cons_succ])
              refine wpAnyH_tk 21 (v := ?va21) rfl (by kernel_rfl) (by kernel_rfl) (by kernel_rfl) (fun _ _ _ h => h) (by rfl) ?hya21 (by assumption) ?_
              case hya21 => (intro w hSw; (try dsimp only at hSw); go_simp <;> with_reducible rfl)
              (try simp only [Act.put, List.setIfInBounds_toArray, List.set_cons_zero, List.set_cons_succ])
              refine wpAnyH_tk 22 (v := ?va22) rfl (by kernel_rfl) (by kernel_rfl) (by kernel_rfl) (fun _ _ _ h => h) (by rfl) ?hya22 (by assumption) ?_
              case hya22 => (intro w hSw; (try dsimp only at hSw); go_simp <;> with_reducible rfl)
              (try simp only [Act.put, List.setIfInBounds_toArray, List.set_cons_zero, List.set_cons_succ])
              refine wpAnyH_tk 23 (v := ?va23) rfl (by kernel_rfl) (by kernel_rfl) (by kernel_rfl) (fun _ _ _ h => h) (by rfl) ?hya23 (by assumption) ?_
              case hya23 => (intro w hSw; (try dsimp only at hSw); go_simp <;> with_reducible rfl)
              (try simp only [Act.put, List.setIfInBounds_toArray, List.set_cons_zero, List.set_cons_succ])
              refine wpAnyH_tk 24 (v := ?va24) rfl (by kernel_rfl) (by kernel_rfl) (by kernel_rfl) (fun _ _ _ h => h) (by rfl) ?hya24 (by assumption) ?_
              case hya24 => (intro w hSw; (try dsimp only at hSw); go_simp <;> with_reducible rfl)
              (try simp only [Act.put, List.setIfInBounds_toArray, List.set_cons_zero, List.set_cons_succ])
              refine wpAnyH_tk 25 (v := ?va25) rfl (by kernel_rfl) (by kernel_rfl) (by kernel_rfl) (fun _ _ _ h => h) (by rfl) ?hya25 (by assumption) ?_
              case hya25 => (intro w hSw; (try dsimp only at hSw); go_simp <;> with_reducible rfl)
              (try simp only [Act.put, List.setIfInBounds_toArray, List.set_cons_zero, List.set_cons_succ])
              refine wpAnyH_tk 26 (v := ?va26) rfl (by kernel_rfl) (by kernel_rfl) (by kernel_rfl) (fun _ _ _ h => h) (by rfl) ?hya26 (by assumption) ?_
              case hya26 => (intro w hSw; (try dsimp only at hSw); go_simp <;> with_reducible rfl)
              (try simp only [Act.put, List.setIfInBounds_toArray, List.set_cons_zero, List.set_cons_succ])
              refine wpAnyH_one 11 rfl (by kernel_rfl) (by rfl) (fun K hK => ?_)
              go_simp
              (skip)
              refine hK.out _ _ ?hSa12 (fun hHeld => ?_)
              case hSa12 => (first | (first | exact ⟨o1, o2, c1, c2⟩ | exact ⟨q1, q2, q3, q4⟩) | ((try dsimp only); first | exact ⟨o1, o2, c1, c2⟩ | exact ⟨q1, q2, q3, q4⟩))
              clear hK K
              (try simp only [Act.put, List.setIfInBounds_toArray, List.set_cons_zero, List.set_cons_succ])
              refine wpAnyH_tk 27 (v := ?va27) rfl (by kernel_rfl) (by kernel_rfl) (by kernel_rfl) (fun _ _ _ h => h) (by rfl) ?hya27 (by assumption) ?_
              case hya27 => (intro w hSw; (try dsimp only at hSw); go_simp <;> with_reducible rfl)
              (try simp only [Act.put, List.setIfInBounds_toArray, List.set_cons_zero, List.set_cons_succ])
              refine wpAnyH_tk 28 (v := ?va28) rfl (by kernel_rfl) (by kernel_rfl) (by kernel_rfl) (fun _ _ _ h => h) (by rfl) ?hya28 (by assumption) ?_
              case hya28 => (intro w hSw; (try dsimp only at hSw); go_simp <;> with_reducible rfl)
              (try simp only [Act.put, List.setIfInBounds_toArray, List.set_cons_zero, List.set_cons_succ])
              refine wpAnyH_one 29 rfl (by kernel_rfl) (by rfl) (fun K hK => ?_)
              go_simp
              (skip)
              refine hK.out _ _ ?hSa30 (fun hHeld => ?_)
              case hSa30 => (first | (first | exact ⟨o1, o2, c1, c2⟩ | exact ⟨q1, q2, q3, q4⟩) | ((try dsimp only); first | exact ⟨o1, o2, c1, c2⟩ | exact ⟨q1, q2, q3, q4⟩))
              clear hK K
              (try simp only [Act.put, List.setIfInBounds_toArray, List.set_cons_zero, List.set_cons_succ])
              refine wpAnyH_done (by kernel_rfl) ?_ _
              clear o1 o2 c0 c1 c2 hfr q1 q2 q3 q4 hw1 l1 l2 l3 l4 hst
              generalize (if D i k + D k j < D i j then D i k + D k j else D i j) = x at HM2 HE2 ⊢
              go_wp2
              go_roundg (gk - 1)
              case rel => exact ⟨j + 1, by have := Hj.out; omega, by go_num, HM2.out, HE2.out⟩
              case measure => have := Hj.out; omega
            · have ej : j = N := by omega
              have hM := MAT.out
              rw [ej] at hM
              have HM2 := hid (hM.congr (fun a c _ hc => part_row a c hc))
              clear hM ej
              go_wp2
              go_roundg (N - (i + 1))
              case rel => exact ⟨i + 1, by omega, by go_num, HM2.out, E.out⟩
              case measure => have := Hi.out; omega
        · have ei : i = N := by omega
          have hM := MAT.out
          rw [ei] at hM
          have HM2 := hid (hM.congr (D' := fw D0 (k + 1)) (fun a c ha _ => by rw [part_end a c ha, HD.out]; rfl))
          clear hM ei
          go_wp2
          go_roundg (N - (k + 1))
          case rel => exact ⟨k + 1, by omega, by go_num, HM2.out, E.out⟩
          case measure => have := Hk.out; omega
    · have ek : k = N := by omega
      have hM := MAT.out
      rw [ek] at hM
      have HM2 := hid hM
      clear hM ek
      go_wp2
      go_ret
      exact ⟨_, rfl, by rw [← HD0.out]; exact HM2.out, E.out⟩

end Go.Proofs.YteiamhapplnlaabGreatDoor
