/-
  Contract of turns.Plan.matching.
-/
import Derived.Test.YtkdfbbkonbgfmaaStableL
import Derived.Test.YtkdfbbkonbgfmaaLawA
import Derived.Test.YtkdfbbkonbgfmaaSkips
namespace Go.Proofs.Ytkdfbbkonbgfmaa
open Go.RowKit

/-- How many of the first k hands have s. -/
def cntTo (m : List Int) (k : Nat) (s : Int) : Nat := (List.range k).countP (fun h => decide (fn m h = s))
theorem cntTo_succ (m : List Int) (k : Nat) (s : Int) : cntTo m (k + 1) s = cntTo m k s + (if fn m k = s then 1 else 0) := by
  unfold cntTo
  rw [List.range_succ, List.countP_append, List.countP_singleton]
  simp
theorem cntTo_le (m : List Int) (k : Nat) (s : Int) : cntTo m k s ≤ k := by
  have := List.countP_le_length (p := fun h => decide (fn m h = s)) (l := List.range k)
  rwa [List.length_range] at this
theorem cntTo_mono {m : List Int} {k n : Nat} (h : k ≤ n) (s : Int) : cntTo m k s ≤ cntTo m n s := by
  unfold cntTo
  obtain ⟨d, rfl⟩ := Nat.exists_eq_add_of_le h
  rw [List.range_add, List.countP_append]; omega
theorem cntTo_all {p : PlanD} {hp : PlanOk p} (m : List Int) (s : Int) : cntTo m p.hands.length s = Mkt.cnt (mkt p hp) (fn m) s := rfl
/-- The counts, in the order of the shifts. -/
def cnts (m : List Int) (k S : Nat) : List Int := (List.range S).map (fun s : Nat => ((cntTo m k s : Nat) : Int))
theorem cnts_len (m : List Int) (k S : Nat) : (cnts m k S).length = S := by unfold cnts; simp
theorem cnts_fn {m : List Int} {k S s : Nat} (h : s < S) : fn (cnts m k S) s = ((cntTo m k s : Nat) : Int) := by
  rw [fn_get (by rw [cnts_len]; exact h)]; unfold cnts; simp
theorem cnts_zero (m : List Int) (S : Nat) : cnts m 0 S = List.replicate S 0 := by
  apply List.ext_getElem (by simp [cnts])
  intro i h1 h2
  unfold cnts cntTo
  simp
theorem cnts_set {m : List Int} {k S s : Nat} (h : s < S) (e : fn m k = s) : (cnts m k S).set s (((cntTo m k s : Nat) : Int) + 1) = cnts m (k + 1) S := by
  apply fn_ext (by rw [List.length_set, cnts_len, cnts_len])
  intro x hx
  rw [List.length_set, cnts_len] at hx
  rw [fn_set (by rw [cnts_len]; exact h), cnts_fn hx, cntTo_succ, e]
  by_cases e2 : x = s
  · subst e2; rw [Mkt.upd_same, if_pos rfl]; simp
  · rw [Mkt.upd_other _ _ _ e2, cnts_fn hx, if_neg (by omega)]; simp
theorem cnts_none {m : List Int} {k S : Nat} (e : fn m k = -1) : cnts m (k + 1) S = cnts m k S := by
  apply fn_ext (by rw [cnts_len, cnts_len])
  intro x hx
  rw [cnts_len] at hx
  rw [cnts_fn hx, cnts_fn hx, cntTo_succ, e, if_neg (by omega)]; simp

/-- So far a matching. -/
structure MatTo (p : PlanD) (m : List Int) (k : Nat) : Prop where
  ok : ∀ h, h < k → fn m h = -1 ∨ possB p h (fn m h) = true
  room : ∀ s : Nat, s < p.shifts.length → (cntTo m k s : Int) ≤ intAt p.places s
theorem MatTo.zero {p : PlanD} (hp : PlanOk p) {m : List Int} : MatTo p m 0 :=
  ⟨fun h hh => by omega, fun s hs => by
    have := (planPlaces hp (s := s) (by omega) (by omega)).1
    unfold cntTo; simp; omega⟩
theorem MatTo.none {p : PlanD} {m : List Int} {k : Nat} (M : MatTo p m k) (e : fn m k = -1) : MatTo p m (k + 1) := by
  refine ⟨fun h hh => ?_, fun s hs => ?_⟩
  · rcases Nat.lt_or_ge h k with h' | h'
    · exact M.ok h h'
    · obtain rfl : h = k := by omega
      exact .inl e
  · rw [cntTo_succ, e, if_neg (by omega)]; exact M.room s hs
theorem MatTo.some {p : PlanD} {m : List Int} {k : Nat} (M : MatTo p m k) (e : possB p k (fn m k) = true) (hr : ((cntTo m k (fn m k) : Nat) : Int) ≠ intAt p.places (fn m k)) : MatTo p m (k + 1) := by
  refine ⟨fun h hh => ?_, fun s hs => ?_⟩
  · rcases Nat.lt_or_ge h k with h' | h'
    · exact M.ok h h'
    · obtain rfl : h = k := by omega
      exact .inr e
  · rw [cntTo_succ]
    have := M.room s hs
    split
    · rename_i e2; rw [e2] at hr; omega
    · exact this
theorem MatTo.done {p : PlanD} {hp : PlanOk p} {m : List Int} (M : MatTo p m p.hands.length) (hl : m.length = p.hands.length) : MatL p hp m := by
  refine ⟨hl, fun h hh => M.ok h hh, fun s s0 s1 => ?_⟩
  obtain ⟨s, rfl⟩ := Int.eq_ofNat_of_zero_le s0
  have h1 := M.room s (by have : (s : Int) < p.shifts.length := s1; omega)
  rw [cntTo_all (hp := hp)] at h1
  show _ ≤ (intAt p.places s).toNat
  omega
theorem mat_bad {p : PlanD} {hp : PlanOk p} {m : List Int} {k : Nat} (hk : k < p.hands.length) (h1 : fn m k ≠ -1) (h2 : ¬ possB p k (fn m k) = true) : matB p hp m = false := by
  refine matB_no fun h => ?_
  rcases h.2.ok k hk with e | e
  · exact h1 e
  · exact h2 e
theorem mat_full {p : PlanD} {hp : PlanOk p} {m : List Int} {k : Nat} (hk : k < p.hands.length) {s : Nat} (hs : s < p.shifts.length) (e : fn m k = s) (h2 : ((cntTo m k s : Nat) : Int) = intAt p.places s) : matB p hp m = false := by
  refine matB_no fun h => ?_
  have h3 : Mkt.cnt (mkt p hp) (fn m) s ≤ (intAt p.places s).toNat := h.2.room s (by omega) (show (s : Int) < p.shifts.length by omega)
  rw [← cntTo_all] at h3
  have h4 := cntTo_mono (m := m) (show k + 1 ≤ p.hands.length by omega) s
  rw [cntTo_succ, if_pos e] at h4
  omega
theorem poss_range {p : PlanD} (hp : PlanOk p) {k : Nat} {s : Int} (h : possB p k s = true) : 0 ≤ s ∧ s < p.shifts.length := ⟨(mkt p hp).pos_lo k s h, (mkt p hp).pos_hi k s h⟩

set_option maxRecDepth 20000 in
set_option maxHeartbeats 4000000 in
theorem matching_any (vh vs vp vm : Value) (p : PlanD) (hok : PlanOk p) (m : List Int) (w : World) (hp : PlanR w vh vs vp p) (hm : Ints w vm m) :
    Calls Try.prog 67 #[.agg #[vh, vs, vp], vm] w fun e w' => e = .returned (.bool (matB p hok m)) ∧ Ext w w' := by
  obtain ⟨hh, hs, hpp⟩ := hp
  obtain ⟨hlh, aoh, caph, rfl, hch, hhc⟩ := id hh
  obtain ⟨hls, aos, caps, rfl, hcs, hsc⟩ := id hs
  obtain ⟨hlp, aop, capp, rfl, hcp, hpc⟩ := id hpp
  obtain ⟨bp, op, rfl, -⟩ := hpc 0 (by have := hok.pl; have := hok.s1; omega)
  obtain ⟨hlm, am, cm, rfl, hcm, hmc⟩ := id hm
  clear hhc hsc hpc hch hcs hcp hcm
  have Hh := hid hh
  have Hs := hid hs
  have Hp := hid hpp
  have Hok := hid hok
  have hn1 := hok.h1
  have hn6 := hok.h6
  have hs1' := hok.s1
  have hs4 := hok.s4
  have hpl := hok.pl
  have Hpl := hid hpl
  clear hh hs hpp hm hpl
  have e0 := Ext.ofAlloc w (.cells #[.slice aoh p.hands.length caph, .slice aos p.shifts.length caps, .slice (some ⟨bp, op, none⟩) p.places.length capp] 29)
  by_cases hlen : m.length = p.hands.length
  · have hlen' : ((m.length : Int) != (p.hands.length : Int)) = false := by rw [hlen]; simp
    have Hlen := hid hlen
    clear hlen
    have hmk := run_make_row' (P := Try.prog) 23 3 (.int .i64 0) 8 Try.underlying23 info_int rfl .i64 .i64 p.shifts.length (by omega) (by omega)
    go_enter Try.func67, Try.ntmps67
    go_wp2
    have hmade : madeCells #[Value.int .i64 0] p.shifts.length = ((List.replicate p.shifts.length (0 : Int)).map (Value.int .i64)).toArray := by
      apply Array.ext'
      rw [toList_madeCells_one]; simp
    rw [hmade]
    have hb1 : IntBlock ((w.alloc (.cells #[.slice aoh p.hands.length caph, .slice aos p.shifts.length caps, .slice (some ⟨bp, op, none⟩) p.places.length capp] 29)).alloc (.cells ((List.replicate p.shifts.length (0 : Int)).map (Value.int .i64)).toArray 3)) (w.heap.size + 1) (List.replicate p.shifts.length 0) := by
      have h1 := heap_alloc_new (w.alloc (.cells #[.slice aoh p.hands.length caph, .slice aos p.shifts.length caps, .slice (some ⟨bp, op, none⟩) p.places.length capp] 29)) (.cells ((List.replicate p.shifts.length (0 : Int)).map (Value.int .i64)).toArray 3)
      rw [World.size_alloc] at h1
      exact h1
    have hbx := (Box3.alloc w 29 (.slice aoh p.hands.length caph) (.slice aos p.shifts.length caps) (.slice (some ⟨bp, op, none⟩) p.places.length capp)).ext (Ext.ofAlloc _ (.cells ((List.replicate p.shifts.length (0 : Int)).map (Value.int .i64)).toArray 3))
    have Hb1 := hid hb1
    have Hbx := hid hbx
    have He0 := hid (e0.alloc (.cells ((List.replicate p.shifts.length (0 : Int)).map (Value.int .i64)).toArray 3))
    clear hb1 hbx e0 hmk hmade
    go_loopg [20] m.length (fun g i wr => ∃ k : Nat, k + g = m.length ∧ i = .int .i64 k ∧ Hid (MatTo p m k) ∧ Hid (IntBlock wr (w.heap.size + 1) (cnts m k p.shifts.length)) ∧ Hid (Box3 wr w.heap.size 29 (.slice aoh p.hands.length caph) (.slice aos p.shifts.length caps) (.slice (some ⟨bp, op, none⟩) p.places.length capp)) ∧ Hid (Ext w wr))
    case atStart => exact ⟨0, by omega, rfl, MatTo.zero hok, by rw [cnts_zero]; exact Hb1.out, Hbx.out, He0.out⟩
    case round =>
      obtain ⟨k, hk, rfl, M, C, X, E⟩ := hrel
      have hkl : k ≤ m.length := by omega
      have Hk := hid hk
      clear hk
      by_cases hlt : k < m.length
      · have hkn : k < p.hands.length := by have := Hlen.out; omega
        obtain ⟨bm, om, rfl, hcm⟩ := hmc k hlt
        have hmk := E.out.cell hcm
        rw [← fn_get hlt] at hmk
        have hk0 : (0 : Int) ≤ (k : Int) := by omega
        have hk1 : (k : Int) < p.hands.length := by omega
        obtain ⟨c0, c1, c2⟩ := X.out.cells
        clear hcm hmc
        by_cases hnone : fn m k = -1
        · have hnone' : (fn m k == -1) = true := by simpa using hnone
          have Hnone := hid hnone
          clear hnone
          go_wp2
          go_roundg (gk - 1)
          case rel => exact ⟨k + 1, by have := Hk.out; omega, by go_num, M.out.none Hnone.out, by rw [cnts_none Hnone.out]; exact C.out, X, E⟩
          case measure => have := Hk.out; omega
        · have hnone' : (fn m k == -1) = false := by simpa using hnone
          have Hnone := hid hnone
          clear hnone
          by_cases hs0 : fn m k < 0
          · have Hf := hid (mat_bad (hp := hok) hkn Hnone.out (fun h => by have := (poss_range hok h).1; omega))
            have hd : decide (fn m k < 0) = true := by simpa using hs0
            go_wp2
            go_quiet (fail)
            go_wp2
            go_ret
            exact ⟨ret_bool Hf.out.symm, E.out.drewN _⟩
          · by_cases hs1 : (p.shifts.length : Int) ≤ fn m k
            · have Hf := hid (mat_bad (hp := hok) hkn Hnone.out (fun h => by have := (poss_range hok h).2; omega))
              have hd : decide (fn m k < 0) = false := by simpa using hs0
              have hd2 : decide (fn m k ≥ (p.shifts.length : Int)) = true := by simpa using hs1
              go_wp2
              go_quiet (fail)
              go_wp2
              go_ret
              exact ⟨ret_bool Hf.out.symm, E.out.drewN _⟩
            · have hd : decide (fn m k < 0) = false := by simpa using hs0
              have hd2 : decide (fn m k ≥ (p.shifts.length : Int)) = false := by simpa using hs1
              have hs0 : 0 ≤ fn m k := by omega
              have hs1 : fn m k < p.shifts.length := by omega
              obtain ⟨bp', op', hpe, hpc⟩ := Hp.out.at (fn m k) hs0 (by have := Hpl.out; omega)
              simp only [Option.some.injEq, Addr.mk.injEq, and_true] at hpe
              obtain ⟨rfl, rfl⟩ := hpe
              have hpc' := hpc _ E.out
              have hs2 : fn m k < p.places.length := by have := Hpl.out; omega
              have hcc := C.out.cell (i := (fn m k).toNat) (by rw [cnts_len]; omega)
              rw [cnts_fn (by omega), Int.toNat_of_nonneg hs0] at hcc
              have hccb := cntTo_le m k (fn m k)
              have hfree := C.out.free (fn m k).toNat
              have hin : (((fn m k).toNat : Nat) : Int) = fn m k := Int.toNat_of_nonneg hs0
              have Hin := hid hin
              clear hpc hin
              cases hps : possB p k (fn m k)
              · have Hf := hid (mat_bad (hp := hok) hkn Hnone.out (by rw [hps]; simp))
                go_wp2
                refine wp_region_held_drew (S := (fun w' => w'.cell? ⟨w.heap.size, 0, none⟩ = some (.slice aoh p.hands.length caph) ∧ w'.cell? ⟨w.heap.size, 1, none⟩ = some (.slice aos p.shifts.length caps) ∧ w'.cell? ⟨w.heap.size, 2, none⟩ = some (.slice (some ⟨bp, op, none⟩) p.places.length capp) ∧ w'.cell? ⟨bp, op + (fn m k).toNat, none⟩ = some (.int .i64 (intAt p.places (fn m k))) ∧ w'.cell? ⟨w.heap.size + 1, (fn m k).toNat, none⟩ = some (.int .i64 ((cntTo m k (fn m k) : Nat) : Int)))) (by kernel_rfl) ?hSa0 (fun hHeld => ?_)
                case hSa0 => (first | (first | exact ⟨c0, c1, c2, hpc', hcc⟩ | exact ⟨he5.cell c0, he5.cell c1, he5.cell c2, he5.cell hpc', he5.cell hcc⟩) | ((try dsimp only); first | exact ⟨c0, c1, c2, hpc', hcc⟩ | exact ⟨he5.cell c0, he5.cell c1, he5.cell c2, he5.cell hpc', he5.cell hcc⟩))
                refine wpAnyH_tk 0 (v := ?va0) rfl (by kernel_rfl) (by kernel_rfl) (by kernel_rfl) (fun _ _ _ h => h) (by rfl) ?hya0 (by assumption) ?_
                case hya0 => (intro w hSw; (try dsimp only at hSw); go_simp <;> with_reducible rfl)
                (try simp only [Act.put, List.setIfInBounds_toArray, List.set_cons_zero, List.set_cons_succ])
                refine wpAnyH_tk 1 (v := ?va1) rfl (by kernel_rfl) (by kernel_rfl) (by kernel_rfl) (fun _ _ _ h => h) (by rfl) ?hya1 (by assumption) ?_
                case hya1 => (intro w hSw; (try dsimp only at hSw); go_simp <;> with_reducible rfl)
                (try simp only [Act.put, List.setIfInBounds_toArray, List.set_cons_zero, List.set_cons_succ])
                refine wpAnyH_tk 2 (v := ?va2) rfl (by kernel_rfl) (by kernel_rfl) (by kernel_rfl) (fun _ _ _ h => h) (by rfl) ?hya2 (by assumption) ?_
                case hya2 => (intro w hSw; (try dsimp only at hSw); go_simp <;> with_reducible rfl)
                (try simp only [Act.put, List.setIfInBounds_toArray, List.set_cons_zero, List.set_cons_succ])
                refine wpAnyH_tk 3 (v := ?va3) rfl (by kernel_rfl) (by kernel_rfl) (by kernel_rfl) (fun _ _ _ h => h) (by rfl) ?hya3 (by assumption) ?_
                case hya3 => (intro w hSw; (try dsimp only at hSw); go_simp <;> with_reducible rfl)
                (try simp only [Act.put, List.setIfInBounds_toArray, List.set_cons_zero, List.set_cons_succ])
                refine wpAnyH_tk 4 (v := ?va4) rfl (by kernel_rfl) (by kernel_rfl) (by kernel_rfl) (fun _ _ _ h => h) (by rfl) ?hya4 (by assumption) ?_
                case hya4 => (intro w hSw; (try dsimp only at hSw); go_simp <;> with_reducible rfl)
                (try simp only [Act.put, List.setIfInBounds_toArray, List.set_cons_zero, List.set_cons_succ])
                refine wpAnyH_tk 5 (v := ?va5) rfl (by kernel_rfl) (by kernel_rfl) (by kernel_rfl) (fun _ _ _ h => h) (by rfl) ?hya5 (by assumption) ?_
                case hya5 => (intro w hSw; (try dsimp only at hSw); go_simp <;> with_reducible rfl)
                (try simp only [Act.put, List.setIfInBounds_toArray, List.set_cons_zero, List.set_cons_succ])
                refine wpAnyH_tk 6 (v := ?va6) rfl (by kernel_rfl) (by kernel_rfl) (by kernel_rfl) (fun _ _ _ h => h) (by rfl) ?hya6 (by assumption) ?_
                case hya6 => (intro w hSw; (try dsimp only at hSw); go_simp <;> with_reducible rfl)
                (try simp only [Act.put, List.setIfInBounds_toArray, List.set_cons_zero, List.set_cons_succ])
                refine wpAnyH_tk 7 (v := ?va7) rfl (by kernel_rfl) (by kernel_rfl) (by kernel_rfl) (fun _ _ _ h => h) (by rfl) ?hya7 (by assumption) ?_
                case hya7 => (intro w hSw; (try dsimp only at hSw); go_simp <;> with_reducible rfl)
                (try simp only [Act.put, List.setIfInBounds_toArray, List.set_cons_zero, List.set_cons_succ])
                refine wpAnyH_tk 8 (v := ?va8) rfl (by kernel_rfl) (by kernel_rfl) (by kernel_rfl) (fun _ _ _ h => h) (by rfl) ?hya8 (by assumption) ?_
                case hya8 => (intro w hSw; (try dsimp only at hSw); go_simp <;> with_reducible rfl)
                (try simp only [Act.put, List.setIfInBounds_toArray, List.set_cons_zero, List.set_cons_succ])
                refine wpAnyH_tk 9 (v := ?va9) rfl (by kernel_rfl) (by kernel_rfl) (by kernel_rfl) (fun _ _ _ h => h) (by rfl) ?hya9 (by assumption) ?_
                case hya9 => (intro w hSw; (try dsimp only at hSw); go_simp <;> with_reducible rfl)
                (try simp only [Act.put, List.setIfInBounds_toArray, List.set_cons_zero, List.set_cons_succ])
                refine wpAnyH_tk 10 (v := ?va10) rfl (by kernel_rfl) (by kernel_rfl) (by kernel_rfl) (fun _ _ _ h => h) (by rfl) ?hya10 (by assumption) ?_
                case hya10 => (intro w hSw; (try dsimp only at hSw); go_simp <;> with_reducible rfl)
                (try simp only [Act.put, List.setIfInBounds_toArray, List.set_cons_zero, List.set_cons_succ])
                refine wpAnyH_tk 11 (v := ?va11) rfl (by kernel_rfl) (by kernel_rfl) (by kernel_rfl) (fun _ _ _ h => h) (by rfl) ?hya11 (by assumption) ?_
                case hya11 => (intro w hSw; (try dsimp only at hSw); go_simp <;> with_reducible rfl)
                (try simp only [Act.put, List.setIfInBounds_toArray, List.set_cons_zero, List.set_cons_succ])
                refine wpAnyH_tk 12 (v := ?va12) rfl (by kernel_rfl) (by kernel_rfl) (by kernel_rfl) (fun _ _ _ h => h) (by rfl) ?hya12 (by assumption) ?_
                case hya12 => (intro w hSw; (try dsimp only at hSw); go_simp <;> with_reducible rfl)
                (try simp only [Act.put, List.setIfInBounds_toArray, List.set_cons_zero, List.set_cons_succ])
                refine wpAnyH_one 13 rfl (by kernel_rfl) (by rfl) (fun K hK => ?_)
                go_simp
                (go_at_call 100; refine (possible_any _ _ _ p k (fn m k) _ ⟨Hh.out.ext E.out.drew, Hs.out.ext E.out.drew, Hp.out.ext E.out.drew⟩ hk0 hk1 hs0 hs1).mono ?_; rintro e w5 ⟨rfl, he5⟩; rw [hps])
                refine hK.out _ _ ?hSa14 (fun hHeld => ?_)
                case hSa14 => (first | (first | exact ⟨c0, c1, c2, hpc', hcc⟩ | exact ⟨he5.cell c0, he5.cell c1, he5.cell c2, he5.cell hpc', he5.cell hcc⟩) | ((try dsimp only); first | exact ⟨c0, c1, c2, hpc', hcc⟩ | exact ⟨he5.cell c0, he5.cell c1, he5.cell c2, he5.cell hpc', he5.cell hcc⟩))
                clear hK K
                (try simp only [Act.put, List.setIfInBounds_toArray, List.set_cons_zero, List.set_cons_succ])
                refine wpAnyH_tk 14 (v := ?va14) rfl (by kernel_rfl) (by kernel_rfl) (by kernel_rfl) (fun _ _ _ h => h) (by rfl) ?hya14 (by assumption) ?_
                case hya14 => (intro w hSw; (try dsimp only at hSw); go_simp <;> with_reducible rfl)
                (try simp only [Act.put, List.setIfInBounds_toArray, List.set_cons_zero, List.set_cons_succ])
                refine wpAnyH_tk 15 (v := ?va15) rfl (by kernel_rfl) (by kernel_rfl) (by kernel_rfl) (fun _ _ _ h => h) (by rfl) ?hya15 (by assumption) ?_
                case hya15 => (intro w hSw; (try dsimp only at hSw); go_simp <;> with_reducible rfl)
                (try simp only [Act.put, List.setIfInBounds_toArray, List.set_cons_zero, List.set_cons_succ])
                refine wpAnyH_tk 16 (v := ?va16) rfl (by kernel_rfl) (by kernel_rfl) (by kernel_rfl) (fun _ _ _ h => h) (by rfl) ?hya16 (by assumption) ?_
                case hya16 => (intro w hSw; (try dsimp only at hSw); go_simp <;> with_reducible rfl)
                (try simp only [Act.put, List.setIfInBounds_toArray, List.set_cons_zero, List.set_cons_succ])
                refine wpAnyH_skips 16 false 43 1 (by kernel_rfl) rfl (fun _ _ _ _ _ h => h) [17, 18, 19, 20, 21, 22, 23, 24, 25, 26] [44, 45, 46, 47, 48, 49, 50, 51, 52, 53] _ _ _ rfl (by kernel_rfl) (by rfl) (by assumption) ?_
                (try simp only [putsAll, List.foldl, Act.put, List.setIfInBounds_toArray, List.set_cons_zero, List.set_cons_succ])
                refine wpAnyH_tk 27 (v := ?va27) rfl (by kernel_rfl) (by kernel_rfl) (by kernel_rfl) (fun _ _ _ h => h) (by rfl) ?hya27 (by assumption) ?_
                case hya27 => (intro w hSw; (try dsimp only at hSw); go_simp <;> with_reducible rfl)
                (try simp only [Act.put, List.setIfInBounds_toArray, List.set_cons_zero, List.set_cons_succ])
                refine wpAnyH_done (by kernel_rfl) ?_ _
                have He5 := hid (E.out.drew.trans he5)
                clear c0 c1 c2 hpc' hcc he5
                go_wp2
                go_ret
                exact ⟨ret_bool Hf.out.symm, He5.out⟩
              · by_cases hfull : ((cntTo m k (fn m k) : Nat) : Int) = intAt p.places (fn m k)
                · have Hf := hid (mat_full (hp := hok) hkn (s := (fn m k).toNat) (by omega) Hin.out.symm (by rw [Hin.out]; exact hfull))
                  have hd3 : (((cntTo m k (fn m k) : Nat) : Int) == intAt p.places (fn m k)) = true := by simpa using hfull
                  clear hfull
                  go_wp2
                  refine wp_region_held_drew (S := (fun w' => w'.cell? ⟨w.heap.size, 0, none⟩ = some (.slice aoh p.hands.length caph) ∧ w'.cell? ⟨w.heap.size, 1, none⟩ = some (.slice aos p.shifts.length caps) ∧ w'.cell? ⟨w.heap.size, 2, none⟩ = some (.slice (some ⟨bp, op, none⟩) p.places.length capp) ∧ w'.cell? ⟨bp, op + (fn m k).toNat, none⟩ = some (.int .i64 (intAt p.places (fn m k))) ∧ w'.cell? ⟨w.heap.size + 1, (fn m k).toNat, none⟩ = some (.int .i64 ((cntTo m k (fn m k) : Nat) : Int)))) (by kernel_rfl) ?hSb0 (fun hHeld => ?_)
                  case hSb0 => (first | (first | exact ⟨c0, c1, c2, hpc', hcc⟩ | exact ⟨he5.cell c0, he5.cell c1, he5.cell c2, he5.cell hpc', he5.cell hcc⟩) | ((try dsimp only); first | exact ⟨c0, c1, c2, hpc', hcc⟩ | exact ⟨he5.cell c0, he5.cell c1, he5.cell c2, he5.cell hpc', he5.cell hcc⟩))
                  refine wpAnyH_tk 0 (v := ?vb0) rfl (by kernel_rfl) (by kernel_rfl) (by kernel_rfl) (fun _ _ _ h => h) (by rfl) ?hyb0 (by assumption) ?_
                  case hyb0 => (intro w hSw; (try dsimp only at hSw); go_simp <;> with_reducible rfl)
                  (try simp only [Act.put, List.setIfInBounds_toArray, List.set_cons_zero, List.set_cons_succ])
                  refine wpAnyH_tk 1 (v := ?vb1) rfl (by kernel_rfl) (by kernel_rfl) (by kernel_rfl) (fun _ _ _ h => h) (by rfl) ?hyb1 (by assumption) ?_
                  case hyb1 => (intro w hSw; (try dsimp only at hSw); go_simp <;> with_reducible rfl)
                  (try simp only [Act.put, List.setIfInBounds_toArray, List.set_cons_zero, List.set_cons_succ])
                  refine wpAnyH_tk 2 (v := ?vb2) rfl (by kernel_rfl) (by kernel_rfl) (by kernel_rfl) (fun _ _ _ h => h) (by rfl) ?hyb2 (by assumption) ?_
                  case hyb2 => (intro w hSw; (try dsimp only at hSw); go_simp <;> with_reducible rfl)
                  (try simp only [Act.put, List.setIfInBounds_toArray, List.set_cons_zero, List.set_cons_succ])
                  refine wpAnyH_tk 3 (v := ?vb3) rfl (by kernel_rfl) (by kernel_rfl) (by kernel_rfl) (fun _ _ _ h => h) (by rfl) ?hyb3 (by assumption) ?_
                  case hyb3 => (intro w hSw; (try dsimp only at hSw); go_simp <;> with_reducible rfl)
                  (try simp only [Act.put, List.setIfInBounds_toArray, List.set_cons_zero, List.set_cons_succ])
                  refine wpAnyH_tk 4 (v := ?vb4) rfl (by kernel_rfl) (by kernel_rfl) (by kernel_rfl) (fun _ _ _ h => h) (by rfl) ?hyb4 (by assumption) ?_
                  case hyb4 => (intro w hSw; (try dsimp only at hSw); go_simp <;> with_reducible rfl)
                  (try simp only [Act.put, List.setIfInBounds_toArray, List.set_cons_zero, List.set_cons_succ])
                  refine wpAnyH_tk 5 (v := ?vb5) rfl (by kernel_rfl) (by kernel_rfl) (by kernel_rfl) (fun _ _ _ h => h) (by rfl) ?hyb5 (by assumption) ?_
                  case hyb5 => (intro w hSw; (try dsimp only at hSw); go_simp <;> with_reducible rfl)
                  (try simp only [Act.put, List.setIfInBounds_toArray, List.set_cons_zero, List.set_cons_succ])
                  refine wpAnyH_tk 6 (v := ?vb6) rfl (by kernel_rfl) (by kernel_rfl) (by kernel_rfl) (fun _ _ _ h => h) (by rfl) ?hyb6 (by assumption) ?_
                  case hyb6 => (intro w hSw; (try dsimp only at hSw); go_simp <;> with_reducible rfl)
                  (try simp only [Act.put, List.setIfInBounds_toArray, List.set_cons_zero, List.set_cons_succ])
                  refine wpAnyH_tk 7 (v := ?vb7) rfl (by kernel_rfl) (by kernel_rfl) (by kernel_rfl) (fun _ _ _ h => h) (by rfl) ?hyb7 (by assumption) ?_
                  case hyb7 => (intro w hSw; (try dsimp only at hSw); go_simp <;> with_reducible rfl)
                  (try simp only [Act.put, List.setIfInBounds_toArray, List.set_cons_zero, List.set_cons_succ])
                  refine wpAnyH_tk 8 (v := ?vb8) rfl (by kernel_rfl) (by kernel_rfl) (by kernel_rfl) (fun _ _ _ h => h) (by rfl) ?hyb8 (by assumption) ?_
                  case hyb8 => (intro w hSw; (try dsimp only at hSw); go_simp <;> with_reducible rfl)
                  (try simp only [Act.put, List.setIfInBounds_toArray, List.set_cons_zero, List.set_cons_succ])
                  refine wpAnyH_tk 9 (v := ?vb9) rfl (by kernel_rfl) (by kernel_rfl) (by kernel_rfl) (fun _ _ _ h => h) (by rfl) ?hyb9 (by assumption) ?_
                  case hyb9 => (intro w hSw; (try dsimp only at hSw); go_simp <;> with_reducible rfl)
                  (try simp only [Act.put, List.setIfInBounds_toArray, List.set_cons_zero, List.set_cons_succ])
                  refine wpAnyH_tk 10 (v := ?vb10) rfl (by kernel_rfl) (by kernel_rfl) (by kernel_rfl) (fun _ _ _ h => h) (by rfl) ?hyb10 (by assumption) ?_
                  case hyb10 => (intro w hSw; (try dsimp only at hSw); go_simp <;> with_reducible rfl)
                  (try simp only [Act.put, List.setIfInBounds_toArray, List.set_cons_zero, List.set_cons_succ])
                  refine wpAnyH_tk 11 (v := ?vb11) rfl (by kernel_rfl) (by kernel_rfl) (by kernel_rfl) (fun _ _ _ h => h) (by rfl) ?hyb11 (by assumption) ?_
                  case hyb11 => (intro w hSw; (try dsimp only at hSw); go_simp <;> with_reducible rfl)
                  (try simp only [Act.put, List.setIfInBounds_toArray, List.set_cons_zero, List.set_cons_succ])
                  refine wpAnyH_tk 12 (v := ?vb12) rfl (by kernel_rfl) (by kernel_rfl) (by kernel_rfl) (fun _ _ _ h => h) (by rfl) ?hyb12 (by assumption) ?_
                  case hyb12 => (intro w hSw; (try dsimp only at hSw); go_simp <;> with_reducible rfl)
                  (try simp only [Act.put, List.setIfInBounds_toArray, List.set_cons_zero, List.set_cons_succ])
                  refine wpAnyH_one 13 rfl (by kernel_rfl) (by rfl) (fun K hK => ?_)
                  go_simp
                  (go_at_call 100; refine (possible_any _ _ _ p k (fn m k) _ ⟨Hh.out.ext E.out.drew, Hs.out.ext E.out.drew, Hp.out.ext E.out.drew⟩ hk0 hk1 hs0 hs1).mono ?_; rintro e w5 ⟨rfl, he5⟩; rw [hps])
                  refine hK.out _ _ ?hSb14 (fun hHeld => ?_)
                  case hSb14 => (first | (first | exact ⟨c0, c1, c2, hpc', hcc⟩ | exact ⟨he5.cell c0, he5.cell c1, he5.cell c2, he5.cell hpc', he5.cell hcc⟩) | ((try dsimp only); first | exact ⟨c0, c1, c2, hpc', hcc⟩ | exact ⟨he5.cell c0, he5.cell c1, he5.cell c2, he5.cell hpc', he5.cell hcc⟩))
                  clear hK K
                  (try simp only [Act.put, List.setIfInBounds_toArray, List.set_cons_zero, List.set_cons_succ])
                  refine wpAnyH_tk 14 (v := ?vb14) rfl (by kernel_rfl) (by kernel_rfl) (by kernel_rfl) (fun _ _ _ h => h) (by rfl) ?hyb14 (by assumption) ?_
                  case hyb14 => (intro w hSw; (try dsimp only at hSw); go_simp <;> with_reducible rfl)
                  (try simp only [Act.put, List.setIfInBounds_toArray, List.set_cons_zero, List.set_cons_succ])
                  refine wpAnyH_tk 15 (v := ?vb15) rfl (by kernel_rfl) (by kernel_rfl) (by kernel_rfl) (fun _ _ _ h => h) (by rfl) ?hyb15 (by assumption) ?_
                  case hyb15 => (intro w hSw; (try dsimp only at hSw); go_simp <;> with_reducible rfl)
                  (try simp only [Act.put, List.setIfInBounds_toArray, List.set_cons_zero, List.set_cons_succ])
                  refine wpAnyH_tk 16 (v := ?vb16) rfl (by kernel_rfl) (by kernel_rfl) (by kernel_rfl) (fun _ _ _ h => h) (by rfl) ?hyb16 (by assumption) ?_
                  case hyb16 => (intro w hSw; (try dsimp only at hSw); go_simp <;> with_reducible rfl)
                  (try simp only [Act.put, List.setIfInBounds_toArray, List.set_cons_zero, List.set_cons_succ])
                  refine wpAnyH_tk 17 (v := ?vb17) rfl (by kernel_rfl) (by kernel_rfl) (by kernel_rfl) (fun _ _ _ h => h) (by rfl) ?hyb17 (by assumption) ?_
                  case hyb17 => (intro w hSw; (try dsimp only at hSw); go_simp <;> with_reducible rfl)
                  (try simp only [Act.put, List.setIfInBounds_toArray, List.set_cons_zero, List.set_cons_succ])
                  refine wpAnyH_tk 18 (v := ?vb18) rfl (by kernel_rfl) (by kernel_rfl) (by kernel_rfl) (fun _ _ _ h => h) (by rfl) ?hyb18 (by assumption) ?_
                  case hyb18 => (intro w hSw; (try dsimp only at hSw); go_simp <;> with_reducible rfl)
                  (try simp only [Act.put, List.setIfInBounds_toArray, List.set_cons_zero, List.set_cons_succ])
                  refine wpAnyH_tk 19 (v := ?vb19) rfl (by kernel_rfl) (by kernel_rfl) (by kernel_rfl) (fun _ _ _ h => h) (by rfl) ?hyb19 (by assumption) ?_
                  case hyb19 => (intro w hSw; (try dsimp only at hSw); go_simp <;> with_reducible rfl)
                  (try simp only [Act.put, List.setIfInBounds_toArray, List.set_cons_zero, List.set_cons_succ])
                  refine wpAnyH_tk 20 (v := ?vb20) rfl (by kernel_rfl) (by kernel_rfl) (by kernel_rfl) (fun _ _ _ h => h) (by rfl) ?hyb20 (by assumption) ?_
                  case hyb20 => (intro w hSw; (try dsimp only at hSw); go_simp <;> with_reducible rfl)
                  (try simp only [Act.put, List.setIfInBounds_toArray, List.set_cons_zero, List.set_cons_succ])
                  refine wpAnyH_tk 21 (v := ?vb21) rfl (by kernel_rfl) (by kernel_rfl) (by kernel_rfl) (fun _ _ _ h => h) (by rfl) ?hyb21 (by assumption) ?_
                  case hyb21 => (intro w hSw; (try dsimp only at hSw); go_simp <;> with_reducible rfl)
                  (try simp only [Act.put, List.setIfInBounds_toArray, List.set_cons_zero, List.set_cons_succ])
                  refine wpAnyH_tk 22 (v := ?vb22) rfl (by kernel_rfl) (by kernel_rfl) (by kernel_rfl) (fun _ _ _ h => h) (by rfl) ?hyb22 (by assumption) ?_
                  case hyb22 => (intro w hSw; (try dsimp only at hSw); go_simp <;> with_reducible rfl)
                  (try simp only [Act.put, List.setIfInBounds_toArray, List.set_cons_zero, List.set_cons_succ])
                  refine wpAnyH_tk 23 (v := ?vb23) rfl (by kernel_rfl) (by kernel_rfl) (by kernel_rfl) (fun _ _ _ h => h) (by rfl) ?hyb23 (by assumption) ?_
                  case hyb23 => (intro w hSw; (try dsimp only at hSw); go_simp <;> with_reducible rfl)
                  (try simp only [Act.put, List.setIfInBounds_toArray, List.set_cons_zero, List.set_cons_succ])
                  refine wpAnyH_tk 24 (v := ?vb24) rfl (by kernel_rfl) (by kernel_rfl) (by kernel_rfl) (fun _ _ _ h => h) (by rfl) ?hyb24 (by assumption) ?_
                  case hyb24 => (intro w hSw; (try dsimp only at hSw); go_simp <;> with_reducible rfl)
                  (try simp only [Act.put, List.setIfInBounds_toArray, List.set_cons_zero, List.set_cons_succ])
                  refine wpAnyH_tk 25 (v := ?vb25) rfl (by kernel_rfl) (by kernel_rfl) (by kernel_rfl) (fun _ _ _ h => h) (by rfl) ?hyb25 (by assumption) ?_
                  case hyb25 => (intro w hSw; (try dsimp only at hSw); go_simp <;> with_reducible rfl)
                  (try simp only [Act.put, List.setIfInBounds_toArray, List.set_cons_zero, List.set_cons_succ])
                  refine wpAnyH_tk 26 (v := ?vb26) rfl (by kernel_rfl) (by kernel_rfl) (by kernel_rfl) (fun _ _ _ h => h) (by rfl) ?hyb26 (by assumption) ?_
                  case hyb26 => (intro w hSw; (try dsimp only at hSw); go_simp <;> with_reducible rfl)
                  (try simp only [Act.put, List.setIfInBounds_toArray, List.set_cons_zero, List.set_cons_succ])
                  refine wpAnyH_tk 27 (v := ?vb27) rfl (by kernel_rfl) (by kernel_rfl) (by kernel_rfl) (fun _ _ _ h => h) (by rfl) ?hyb27 (by assumption) ?_
                  case hyb27 => (intro w hSw; (try dsimp only at hSw); go_simp <;> with_reducible rfl)
                  (try simp only [Act.put, List.setIfInBounds_toArray, List.set_cons_zero, List.set_cons_succ])
                  refine wpAnyH_done (by kernel_rfl) ?_ _
                  have He5 := hid (E.out.drew.trans he5)
                  clear c0 c1 c2 hpc' hcc he5
                  go_wp2
                  go_ret
                  exact ⟨ret_bool Hf.out.symm, He5.out⟩
                · have hd3 : (((cntTo m k (fn m k) : Nat) : Int) == intAt p.places (fn m k)) = false := by simpa using hfull
                  have Hfull := hid hfull
                  clear hfull
                  go_wp2
                  refine wp_region_held_drew (S := (fun w' => w'.cell? ⟨w.heap.size, 0, none⟩ = some (.slice aoh p.hands.length caph) ∧ w'.cell? ⟨w.heap.size, 1, none⟩ = some (.slice aos p.shifts.length caps) ∧ w'.cell? ⟨w.heap.size, 2, none⟩ = some (.slice (some ⟨bp, op, none⟩) p.places.length capp) ∧ w'.cell? ⟨bp, op + (fn m k).toNat, none⟩ = some (.int .i64 (intAt p.places (fn m k))) ∧ w'.cell? ⟨w.heap.size + 1, (fn m k).toNat, none⟩ = some (.int .i64 ((cntTo m k (fn m k) : Nat) : Int)))) (by kernel_rfl) ?hSc0 (fun hHeld => ?_)
                  case hSc0 => (first | (first | exact ⟨c0, c1, c2, hpc', hcc⟩ | exact ⟨he5.cell c0, he5.cell c1, he5.cell c2, he5.cell hpc', he5.cell hcc⟩) | ((try dsimp only); first | exact ⟨c0, c1, c2, hpc', hcc⟩ | exact ⟨he5.cell c0, he5.cell c1, he5.cell c2, he5.cell hpc', he5.cell hcc⟩))
                  refine wpAnyH_tk 0 (v := ?vc0) rfl (by kernel_rfl) (by kernel_rfl) (by kernel_rfl) (fun _ _ _ h => h) (by rfl) ?hyc0 (by assumption) ?_
                  case hyc0 => (intro w hSw; (try dsimp only at hSw); go_simp <;> with_reducible rfl)
                  (try simp only [Act.put, List.setIfInBounds_toArray, List.set_cons_zero, List.set_cons_succ])
                  refine wpAnyH_tk 1 (v := ?vc1) rfl (by kernel_rfl) (by kernel_rfl) (by kernel_rfl) (fun _ _ _ h => h) (by rfl) ?hyc1 (by assumption) ?_
                  case hyc1 => (intro w hSw; (try dsimp only at hSw); go_simp <;> with_reducible rfl)
                  (try simp only [Act.put, List.setIfInBounds_toArray, List.set_cons_zero, List.set_cons_succ])
                  refine wpAnyH_tk 2 (v := ?vc2) rfl (by kernel_rfl) (by kernel_rfl) (by kernel_rfl) (fun _ _ _ h => h) (by rfl) ?hyc2 (by assumption) ?_
                  case hyc2 => (intro w hSw; (try dsimp only at hSw); go_simp <;> with_reducible rfl)
                  (try simp only [Act.put, List.setIfInBounds_toArray, List.set_cons_zero, List.set_cons_succ])
                  refine wpAnyH_tk 3 (v := ?vc3) rfl (by kernel_rfl) (by kernel_rfl) (by kernel_rfl) (fun _ _ _ h => h) (by rfl) ?hyc3 (by assumption) ?_
                  case hyc3 => (intro w hSw; (try dsimp only at hSw); go_simp <;> with_reducible rfl)
                  (try simp only [Act.put, List.setIfInBounds_toArray, List.set_cons_zero, List.set_cons_succ])
                  refine wpAnyH_tk 4 (v := ?vc4) rfl (by kernel_rfl) (by kernel_rfl) (by kernel_rfl) (fun _ _ _ h => h) (by rfl) ?hyc4 (by assumption) ?_
                  case hyc4 => (intro w hSw; (try dsimp only at hSw); go_simp <;> with_reducible rfl)
                  (try simp only [Act.put, List.setIfInBounds_toArray, List.set_cons_zero, List.set_cons_succ])
                  refine wpAnyH_tk 5 (v := ?vc5) rfl (by kernel_rfl) (by kernel_rfl) (by kernel_rfl) (fun _ _ _ h => h) (by rfl) ?hyc5 (by assumption) ?_
                  case hyc5 => (intro w hSw; (try dsimp only at hSw); go_simp <;> with_reducible rfl)
                  (try simp only [Act.put, List.setIfInBounds_toArray, List.set_cons_zero, List.set_cons_succ])
                  refine wpAnyH_tk 6 (v := ?vc6) rfl (by kernel_rfl) (by kernel_rfl) (by kernel_rfl) (fun _ _ _ h => h) (by rfl) ?hyc6 (by assumption) ?_
                  case hyc6 => (intro w hSw; (try dsimp only at hSw); go_simp <;> with_reducible rfl)
                  (try simp only [Act.put, List.setIfInBounds_toArray, List.set_cons_zero, List.set_cons_succ])
                  refine wpAnyH_tk 7 (v := ?vc7) rfl (by kernel_rfl) (by kernel_rfl) (by kernel_rfl) (fun _ _ _ h => h) (by rfl) ?hyc7 (by assumption) ?_
                  case hyc7 => (intro w hSw; (try dsimp only at hSw); go_simp <;> with_reducible rfl)
                  (try simp only [Act.put, List.setIfInBounds_toArray, List.set_cons_zero, List.set_cons_succ])
                  refine wpAnyH_tk 8 (v := ?vc8) rfl (by kernel_rfl) (by kernel_rfl) (by kernel_rfl) (fun _ _ _ h => h) (by rfl) ?hyc8 (by assumption) ?_
                  case hyc8 => (intro w hSw; (try dsimp only at hSw); go_simp <;> with_reducible rfl)
                  (try simp only [Act.put, List.setIfInBounds_toArray, List.set_cons_zero, List.set_cons_succ])
                  refine wpAnyH_tk 9 (v := ?vc9) rfl (by kernel_rfl) (by kernel_rfl) (by kernel_rfl) (fun _ _ _ h => h) (by rfl) ?hyc9 (by assumption) ?_
                  case hyc9 => (intro w hSw; (try dsimp only at hSw); go_simp <;> with_reducible rfl)
                  (try simp only [Act.put, List.setIfInBounds_toArray, List.set_cons_zero, List.set_cons_succ])
                  refine wpAnyH_tk 10 (v := ?vc10) rfl (by kernel_rfl) (by kernel_rfl) (by kernel_rfl) (fun _ _ _ h => h) (by rfl) ?hyc10 (by assumption) ?_
                  case hyc10 => (intro w hSw; (try dsimp only at hSw); go_simp <;> with_reducible rfl)
                  (try simp only [Act.put, List.setIfInBounds_toArray, List.set_cons_zero, List.set_cons_succ])
                  refine wpAnyH_tk 11 (v := ?vc11) rfl (by kernel_rfl) (by kernel_rfl) (by kernel_rfl) (fun _ _ _ h => h) (by rfl) ?hyc11 (by assumption) ?_
                  case hyc11 => (intro w hSw; (try dsimp only at hSw); go_simp <;> with_reducible rfl)
                  (try simp only [Act.put, List.setIfInBounds_toArray, List.set_cons_zero, List.set_cons_succ])
                  refine wpAnyH_tk 12 (v := ?vc12) rfl (by kernel_rfl) (by kernel_rfl) (by kernel_rfl) (fun _ _ _ h => h) (by rfl) ?hyc12 (by assumption) ?_
                  case hyc12 => (intro w hSw; (try dsimp only at hSw); go_simp <;> with_reducible rfl)
                  (try simp only [Act.put, List.setIfInBounds_toArray, List.set_cons_zero, List.set_cons_succ])
                  refine wpAnyH_one 13 rfl (by kernel_rfl) (by rfl) (fun K hK => ?_)
                  go_simp
                  (go_at_call 100; refine (possible_any _ _ _ p k (fn m k) _ ⟨Hh.out.ext E.out.drew, Hs.out.ext E.out.drew, Hp.out.ext E.out.drew⟩ hk0 hk1 hs0 hs1).mono ?_; rintro e w5 ⟨rfl, he5⟩; rw [hps])
                  refine hK.out _ _ ?hSc14 (fun hHeld => ?_)
                  case hSc14 => (first | (first | exact ⟨c0, c1, c2, hpc', hcc⟩ | exact ⟨he5.cell c0, he5.cell c1, he5.cell c2, he5.cell hpc', he5.cell hcc⟩) | ((try dsimp only); first | exact ⟨c0, c1, c2, hpc', hcc⟩ | exact ⟨he5.cell c0, he5.cell c1, he5.cell c2, he5.cell hpc', he5.cell hcc⟩))
                  clear hK K
                  (try simp only [Act.put, List.setIfInBounds_toArray, List.set_cons_zero, List.set_cons_succ])
                  refine wpAnyH_tk 14 (v := ?vc14) rfl (by kernel_rfl) (by kernel_rfl) (by kernel_rfl) (fun _ _ _ h => h) (by rfl) ?hyc14 (by assumption) ?_
                  case hyc14 => (intro w hSw; (try dsimp only at hSw); go_simp <;> with_reducible rfl)
                  (try simp only [Act.put, List.setIfInBounds_toArray, List.set_cons_zero, List.set_cons_succ])
                  refine wpAnyH_tk 15 (v := ?vc15) rfl (by kernel_rfl) (by kernel_rfl) (by kernel_rfl) (fun _ _ _ h => h) (by rfl) ?hyc15 (by assumption) ?_
                  case hyc15 => (intro w hSw; (try dsimp only at hSw); go_simp <;> with_reducible rfl)
                  (try simp only [Act.put, List.setIfInBounds_toArray, List.set_cons_zero, List.set_cons_succ])
                  refine wpAnyH_tk 16 (v := ?vc16) rfl (by kernel_rfl) (by kernel_rfl) (by kernel_rfl) (fun _ _ _ h => h) (by rfl) ?hyc16 (by assumption) ?_
                  case hyc16 => (intro w hSw; (try dsimp only at hSw); go_simp <;> with_reducible rfl)
                  (try simp only [Act.put, List.setIfInBounds_toArray, List.set_cons_zero, List.set_cons_succ])
                  refine wpAnyH_tk 17 (v := ?vc17) rfl (by kernel_rfl) (by kernel_rfl) (by kernel_rfl) (fun _ _ _ h => h) (by rfl) ?hyc17 (by assumption) ?_
                  case hyc17 => (intro w hSw; (try dsimp only at hSw); go_simp <;> with_reducible rfl)
                  (try simp only [Act.put, List.setIfInBounds_toArray, List.set_cons_zero, List.set_cons_succ])
                  refine wpAnyH_tk 18 (v := ?vc18) rfl (by kernel_rfl) (by kernel_rfl) (by kernel_rfl) (fun _ _ _ h => h) (by rfl) ?hyc18 (by assumption) ?_
                  case hyc18 => (intro w hSw; (try dsimp only at hSw); go_simp <;> with_reducible rfl)
                  (try simp only [Act.put, List.setIfInBounds_toArray, List.set_cons_zero, List.set_cons_succ])
                  refine wpAnyH_tk 19 (v := ?vc19) rfl (by kernel_rfl) (by kernel_rfl) (by kernel_rfl) (fun _ _ _ h => h) (by rfl) ?hyc19 (by assumption) ?_
                  case hyc19 => (intro w hSw; (try dsimp only at hSw); go_simp <;> with_reducible rfl)
                  (try simp only [Act.put, List.setIfInBounds_toArray, List.set_cons_zero, List.set_cons_succ])
                  refine wpAnyH_tk 20 (v := ?vc20) rfl (by kernel_rfl) (by kernel_rfl) (by kernel_rfl) (fun _ _ _ h => h) (by rfl) ?hyc20 (by assumption) ?_
                  case hyc20 => (intro w hSw; (try dsimp only at hSw); go_simp <;> with_reducible rfl)
                  (try simp only [Act.put, List.setIfInBounds_toArray, List.set_cons_zero, List.set_cons_succ])
                  refine wpAnyH_tk 21 (v := ?vc21) rfl (by kernel_rfl) (by kernel_rfl) (by kernel_rfl) (fun _ _ _ h => h) (by rfl) ?hyc21 (by assumption) ?_
                  case hyc21 => (intro w hSw; (try dsimp only at hSw); go_simp <;> with_reducible rfl)
                  (try simp only [Act.put, List.setIfInBounds_toArray, List.set_cons_zero, List.set_cons_succ])
                  refine wpAnyH_tk 22 (v := ?vc22) rfl (by kernel_rfl) (by kernel_rfl) (by kernel_rfl) (fun _ _ _ h => h) (by rfl) ?hyc22 (by assumption) ?_
                  case hyc22 => (intro w hSw; (try dsimp only at hSw); go_simp <;> with_reducible rfl)
                  (try simp only [Act.put, List.setIfInBounds_toArray, List.set_cons_zero, List.set_cons_succ])
                  refine wpAnyH_tk 23 (v := ?vc23) rfl (by kernel_rfl) (by kernel_rfl) (by kernel_rfl) (fun _ _ _ h => h) (by rfl) ?hyc23 (by assumption) ?_
                  case hyc23 => (intro w hSw; (try dsimp only at hSw); go_simp <;> with_reducible rfl)
                  (try simp only [Act.put, List.setIfInBounds_toArray, List.set_cons_zero, List.set_cons_succ])
                  refine wpAnyH_tk 24 (v := ?vc24) rfl (by kernel_rfl) (by kernel_rfl) (by kernel_rfl) (fun _ _ _ h => h) (by rfl) ?hyc24 (by assumption) ?_
                  case hyc24 => (intro w hSw; (try dsimp only at hSw); go_simp <;> with_reducible rfl)
                  (try simp only [Act.put, List.setIfInBounds_toArray, List.set_cons_zero, List.set_cons_succ])
                  refine wpAnyH_tk 25 (v := ?vc25) rfl (by kernel_rfl) (by kernel_rfl) (by kernel_rfl) (fun _ _ _ h => h) (by rfl) ?hyc25 (by assumption) ?_
                  case hyc25 => (intro w hSw; (try dsimp only at hSw); go_simp <;> with_reducible rfl)
                  (try simp only [Act.put, List.setIfInBounds_toArray, List.set_cons_zero, List.set_cons_succ])
                  refine wpAnyH_tk 26 (v := ?vc26) rfl (by kernel_rfl) (by kernel_rfl) (by kernel_rfl) (fun _ _ _ h => h) (by rfl) ?hyc26 (by assumption) ?_
                  case hyc26 => (intro w hSw; (try dsimp only at hSw); go_simp <;> with_reducible rfl)
                  (try simp only [Act.put, List.setIfInBounds_toArray, List.set_cons_zero, List.set_cons_succ])
                  refine wpAnyH_tk 27 (v := ?vc27) rfl (by kernel_rfl) (by kernel_rfl) (by kernel_rfl) (fun _ _ _ h => h) (by rfl) ?hyc27 (by assumption) ?_
                  case hyc27 => (intro w hSw; (try dsimp only at hSw); go_simp <;> with_reducible rfl)
                  (try simp only [Act.put, List.setIfInBounds_toArray, List.set_cons_zero, List.set_cons_succ])
                  refine wpAnyH_done (by kernel_rfl) ?_ _
                  have He5 := hid (E.out.drew.trans he5)
                  have C5 := C.out.ext ((Ext.refl _).drew.trans he5)
                  have X5 := X.out.ext ((Ext.refl _).drew.trans he5)
                  have hcc5 := he5.cell (show wr.drew.cell? ⟨w.heap.size + 1, (fn m k).toNat, none⟩ = some (.int .i64 ((cntTo m k (fn m k) : Nat) : Int)) from hcc)
                  have hfree5 := C5.free (fn m k).toNat
                  have HC := hid (C5.set (fn m k).toNat (((cntTo m k (fn m k) : Nat) : Int) + 1))
                  have HX := hid (X5.other (g' := w.heap.size + 1) (by omega) (fn m k).toNat (.int .i64 (((cntTo m k (fn m k) : Nat) : Int) + 1)))
                  have HE := hid (He5.out.setCell (g := w.heap.size + 1) (by omega) (fn m k).toNat (.int .i64 (((cntTo m k (fn m k) : Nat) : Int) + 1)))
                  have hset := cnts_set (m := m) (k := k) (S := p.shifts.length) (s := (fn m k).toNat) (by omega) Hin.out.symm
                  rw [Hin.out] at hset
                  rw [hset] at HC
                  clear c0 c1 c2 hpc' hcc he5 C5 X5 hset hfree
                  go_wp2
                  go_roundg (gk - 1)
                  case rel => exact ⟨k + 1, by have := Hk.out; omega, by go_num, M.out.some hps Hfull.out, HC, HX, HE⟩
                  case measure => have := Hk.out; omega
      · have Hf := hid (matB_iff.2 (MatTo.done (hp := hok) (m := m) (by have := Hlen.out; have e : k = p.hands.length := (by omega); rw [← e]; exact M.out) Hlen.out))
        go_wp2
        go_ret
        exact ⟨ret_bool Hf.out.symm, E.out⟩
  · have hlen' : ((m.length : Int) != (p.hands.length : Int)) = true := by simp; omega
    have Hf := hid (matB_no (p := p) (hp := hok) (m := m) (fun h => hlen h.1))
    clear hlen
    go_enter Try.func67, Try.ntmps67
    go_wp2
    go_ret
    exact ⟨ret_bool Hf.out.symm, e0⟩

end Go.Proofs.Ytkdfbbkonbgfmaa
