/-
  Contract of the search in turns.Plan.stable, and of turns.Plan.stable and turns.Stable.
-/
import Derived.Test.YtkdfbbkonbgfmaaStable
import Derived.Deep.RegionHeld3
import Derived.Outline
namespace Go.Proofs.Ytkdfbbkonbgfmaa
open Go.RowKit

theorem stPart_len {p : PlanD} {hp : PlanOk p} {k : Nat} {b : List Int} {j : Nat} : (stPart p hp k b j).length ≤ j * 5 ^ k := by
  unfold stPart
  refine Nat.le_trans (flatMap_len (c := 5 ^ k) _ (fun s _ => stFrom_len _ _)) ?_
  exact Nat.mul_le_mul_right _ (opts_len _ _ _)

set_option maxRecDepth 20000 in
set_option maxHeartbeats 4000000 in
theorem try_any (vh vs vp : Value) (p : PlanD) (hok : PlanOk p) (W : World) (hp : PlanR W vh vs vp p) (bx bo bg bm bt B : Nat) : ∀ (k h : Nat) (hI : Int) (m : List Int) (acc : List (List Int)) (w : World),
    hI = (h : Int) → h + k = p.hands.length → m.length = p.hands.length → acc.length + 5 ^ k ≤ 15625 → TryInv p vh vs vp W bx bo bg bm bt B w m acc →
    Calls Try.prog 103 #[.int .i64 hI, .pointer (some ⟨bm, 0, none⟩), .pointer (some ⟨bx, 0, none⟩), .pointer (some ⟨bo, 0, none⟩), .pointer (some ⟨bt, 0, none⟩)] w fun e w' =>
      e = .returned (.tuple #[]) ∧ ∃ m', m'.length = p.hands.length ∧ m'.take h = m.take h ∧ TryInv p vh vs vp W bx bo bg bm bt B w' m' (acc ++ stFrom p hok k (m.take h)) := by
  intro k
  induction k with
  | zero =>
    intro h hI m acc w ehI hk hl hacc T
    subst ehI
    refine (try_end vh vs vp p hok W hp bx bo bg bm bt B h m acc w (by omega) hl (by omega) T).mono ?_
    rintro e w' ⟨rfl, T'⟩
    exact ⟨rfl, m, hl, rfl, by rw [List.take_of_length_le (by omega)]; exact T'⟩
  | succ k ih =>
    intro h hI m acc w ehI hk hl hacc T
    subst ehI
    obtain ⟨aoh, caph, aos, caps, aop, capp, rfl, rfl, rfl⟩ := planR_shape hp
    have HP := hid hp
    have IH := hid ih
    have Hac := hid hacc
    have Hl := hid hl
    have hn6 := hok.h6
    have hs4 := hok.s4
    have hs1 := hok.s1
    have hh1 : (h : Int) < p.hands.length := by omega
    have hh2 : h < p.hands.length := by omega
    have hbl : (m.take h).length = h := by rw [List.length_take]; omega
    have Hbl := hid hbl
    have d0 := cell_of_one T.mv
    rw [hl] at d0
    have d1 := T.ib.cell (i := h) (by omega)
    have hfr := T.ib.free h
    have hne : ((h : Int) == (p.hands.length : Int)) = false := by simp; omega
    have HT0 := hid (T.set h (-1))
    clear T hl hacc ih hp hbl
    go_enter Try.func103, Try.ntmps103
    go_wp2
    go_loopg [] (p.shifts.length + 1) (fun g wr => ∃ (j : Nat) (m' : List Int), j + g = p.shifts.length + 1 ∧ Hid (m'.length = p.hands.length) ∧ Hid (m'.take h = m.take h) ∧ Hid (fn m' h = (j : Int) - 1) ∧ Hid (TryInv p (.slice aoh p.hands.length caph) (.slice aos p.shifts.length caps) (.slice aop p.places.length capp) W bx bo bg bm bt B wr m' (acc ++ stPart p hok k (m.take h) j)))
    case atStart => exact ⟨0, m.set h (-1), by omega, by rw [List.length_set]; exact Hl.out, take_set_lt, by rw [fn_set_same (by have := Hl.out; omega)]; rfl, by rw [stPart_zero, List.append_nil]; exact HT0.out⟩
    case round =>
      obtain ⟨j, m', hj, Hlm, Htk, Hfm, HT⟩ := hrel
      have Hj := hid hj
      have hjl : j ≤ p.shifts.length + 1 := by omega
      have hlm := Hlm.out
      have d0 := cell_of_one HT.out.mv
      rw [hlm] at d0
      have d1 := HT.out.ib.cell (i := h) (by omega)
      rw [Hfm.out] at d1
      obtain ⟨c0, c1, c2⟩ := HT.out.box.cells
      have hfr := HT.out.ib.free h
      clear hj hlm
      by_cases hjS : j < p.shifts.length + 1
      · have hlt : decide ((j : Int) - 1 < (p.shifts.length : Int)) = true := by simp; omega
        go_wp2
        go_quiet (fail)
        go_wp2
        by_cases hj00 : j = 0
        · have hm1 : ((j : Int) - 1 == -1) = true := by rw [hj00]; rfl
          have HOK := hid (show okV p h ((j : Int) - 1) = true by rw [hj00]; rfl)
          clear hj00
          have HTn : Hid (∀ n, TryInv _ _ _ _ _ _ _ _ _ _ _ (wr.drewN n) _ _) := fun n => HT.out.step ((Ext.refl wr).drewN n)
          have dv := cell_of_one HT.out.fv
          go_quiet (fail)
          go_wp2_with (fail)
          refine (IH.out (h + 1) ((h : Int) + 1) m' (acc ++ stPart p hok k (m.take h) j) _ (by omega) (by omega) Hlm.out (by have h1 := stPart_len (p := p) (hp := hok) (k := k) (b := m.take h) (j := j); have h2 := Hac.out; have h4 := Nat.pow_succ 5 k; have h3 : (j + 1) * 5 ^ k ≤ 5 * 5 ^ k := Nat.mul_le_mul_right _ (by omega); rw [Nat.succ_mul] at h3; rw [List.length_append]; omega) (HTn.out _)).mono ?_
          rintro e w6 ⟨rfl, m2, hl2, htk2, T5⟩
          have htk3 := htk2
          rw [take_succ_fn (by omega), take_succ_fn (by have := Hlm.out; omega), Hfm.out, Htk.out] at htk3
          obtain ⟨e1, e2⟩ := List.append_inj' htk3 rfl
          have hfm2 : fn m2 h = (j : Int) - 1 := by simpa using e2
          rw [take_succ_fn (by have := Hlm.out; omega), Hfm.out, Htk.out, List.append_assoc, ← stPart_yes (by rw [Hbl.out]; exact HOK.out)] at T5
          clear d0 d1 dv hfr
          have d0 := cell_of_one T5.mv
          have d1 := T5.ib.cell (i := h) (by omega)
          rw [hfm2] at d1
          rw [hl2] at d0
          have hfr := T5.ib.free h
          have HT6 := hid (T5.set h j)
          have Hl2 := hid hl2
          have Htk2 := hid e1
          clear T5 htk2 htk3 e1 e2 hfm2 hl2
          go_wp2
          go_roundg (gk - 1)
          case rel => exact ⟨j + 1, m2.set h j, by have := Hj.out; omega, by rw [List.length_set]; exact Hl2.out, by rw [take_set_lt]; exact Htk2.out, by show fn _ h = _; rw [fn_set_same (by have := Hl2.out; omega)]; omega, HT6⟩
          case measure => have := Hj.out; omega
        · have hm1 : ((j : Int) - 1 == -1) = false := by simp; omega
          have hj0 : 0 ≤ (j : Int) - 1 := by omega
          have hj1 : (j : Int) - 1 < p.shifts.length := by omega
          cases hps : possB p h ((j : Int) - 1)
          · have HOK := hid (show okV p h ((j : Int) - 1) = false by unfold okV; rw [hps, hm1]; rfl)
            refine wp_region_held_drew (S := (fun w' => w'.cell? ⟨bm, 0, none⟩ = some (.slice (some ⟨bg, 0, none⟩) p.hands.length p.hands.length) ∧ w'.cell? ⟨bg, h, none⟩ = some (.int .i64 ((j : Int) - 1)) ∧ w'.cell? ⟨bx, 0, none⟩ = some (.slice aoh p.hands.length caph) ∧ w'.cell? ⟨bx, 1, none⟩ = some (.slice aos p.shifts.length caps) ∧ w'.cell? ⟨bx, 2, none⟩ = some (.slice aop p.places.length capp))) (by kernel_rfl) ?hSa0 (fun hHeld => ?_)
            case hSa0 => (first | (first | exact ⟨d0, d1, c0, c1, c2⟩ | exact ⟨he5.cell d0, he5.cell d1, he5.cell c0, he5.cell c1, he5.cell c2⟩) | ((try dsimp only); first | exact ⟨d0, d1, c0, c1, c2⟩ | exact ⟨he5.cell d0, he5.cell d1, he5.cell c0, he5.cell c1, he5.cell c2⟩))
            refine wpAnyH_tk 0 (v := ?va0) rfl (by kernel_rfl) (by kernel_rfl) (by kernel_rfl) (fun _ _ _ h => h) (by rfl) ?hya0 (by assumption) ?_
            case hya0 => (intro w hSw; (try dsimp only at hSw); go_simp <;> with_reducible rfl)
            (try simp only [Act.put, List.setIfInBounds_toArray, List.set_cons_zero, List.set_cons_succ])
            refine wpAnyH_tk 1 (v := ?va1) rfl (by kernel_rfl) (by kernel_rfl) (by kernel_rfl) (fun _ _ _ h => h) (by rfl) ?hya1 (by assumption) ?_
            case hya1 => (intro w hSw; (try dsimp only at hSw); go_simp <;> with_reducible rfl)
            (try simp only [Act.put, List.setIfInBounds_toArray, List.set_cons_zero, List.set_cons_succ])
            refine wpAnyH_tk 2 (v := ?va2) rfl (by kernel_rfl) (by kernel_rfl) (by kernel_rfl) (fun _ _ _ h => h) (by rfl) ?hya2 (by assumption) ?_
            case hya2 => (intro w hSw; (try dsimp only at hSw); go_simp <;> with_reducible rfl)
            (try simp only [Act.put, List.setIfInBounds_toArray, List.set_cons_zero, List.set_cons_succ])
            refine wpAnyH_tk 3 (v := ?va3) rfl (by kernel_rfl) (by kernel_rfl) (by kernel_rfl) (fun _ _ _ h => h) (by rfl) ?hya3 (by assumption) ?_
            case hya3 => (intro w hSw; (try dsimp only at hSw); go_simp <;> with_reducible rfl)
            (try simp only [Act.put, List.setIfInBounds_toArray, List.set_cons_zero, List.set_cons_succ])
            refine wpAnyH_tk 4 (v := ?va4) rfl (by kernel_rfl) (by kernel_rfl) (by kernel_rfl) (fun _ _ _ h => h) (by rfl) ?hya4 (by assumption) ?_
            case hya4 => (intro w hSw; (try dsimp only at hSw); go_simp <;> with_reducible rfl)
            (try simp only [Act.put, List.setIfInBounds_toArray, List.set_cons_zero, List.set_cons_succ])
            refine wpAnyH_tk 5 (v := ?va5) rfl (by kernel_rfl) (by kernel_rfl) (by kernel_rfl) (fun _ _ _ h => h) (by rfl) ?hya5 (by assumption) ?_
            case hya5 => (intro w hSw; (try dsimp only at hSw); go_simp <;> with_reducible rfl)
            (try simp only [Act.put, List.setIfInBounds_toArray, List.set_cons_zero, List.set_cons_succ])
            refine wpAnyH_tk 6 (v := ?va6) rfl (by kernel_rfl) (by kernel_rfl) (by kernel_rfl) (fun _ _ _ h => h) (by rfl) ?hya6 (by assumption) ?_
            case hya6 => (intro w hSw; (try dsimp only at hSw); go_simp <;> with_reducible rfl)
            (try simp only [Act.put, List.setIfInBounds_toArray, List.set_cons_zero, List.set_cons_succ])
            refine wpAnyH_tk 7 (v := ?va7) rfl (by kernel_rfl) (by kernel_rfl) (by kernel_rfl) (fun _ _ _ h => h) (by rfl) ?hya7 (by assumption) ?_
            case hya7 => (intro w hSw; (try dsimp only at hSw); go_simp <;> with_reducible rfl)
            (try simp only [Act.put, List.setIfInBounds_toArray, List.set_cons_zero, List.set_cons_succ])
            refine wpAnyH_tk 8 (v := ?va8) rfl (by kernel_rfl) (by kernel_rfl) (by kernel_rfl) (fun _ _ _ h => h) (by rfl) ?hya8 (by assumption) ?_
            case hya8 => (intro w hSw; (try dsimp only at hSw); go_simp <;> with_reducible rfl)
            (try simp only [Act.put, List.setIfInBounds_toArray, List.set_cons_zero, List.set_cons_succ])
            refine wpAnyH_tk 9 (v := ?va9) rfl (by kernel_rfl) (by kernel_rfl) (by kernel_rfl) (fun _ _ _ h => h) (by rfl) ?hya9 (by assumption) ?_
            case hya9 => (intro w hSw; (try dsimp only at hSw); go_simp <;> with_reducible rfl)
            (try simp only [Act.put, List.setIfInBounds_toArray, List.set_cons_zero, List.set_cons_succ])
            refine wpAnyH_tk 10 (v := ?va10) rfl (by kernel_rfl) (by kernel_rfl) (by kernel_rfl) (fun _ _ _ h => h) (by rfl) ?hya10 (by assumption) ?_
            case hya10 => (intro w hSw; (try dsimp only at hSw); go_simp <;> with_reducible rfl)
            (try simp only [Act.put, List.setIfInBounds_toArray, List.set_cons_zero, List.set_cons_succ])
            refine wpAnyH_tk 11 (v := ?va11) rfl (by kernel_rfl) (by kernel_rfl) (by kernel_rfl) (fun _ _ _ h => h) (by rfl) ?hya11 (by assumption) ?_
            case hya11 => (intro w hSw; (try dsimp only at hSw); go_simp <;> with_reducible rfl)
            (try simp only [Act.put, List.setIfInBounds_toArray, List.set_cons_zero, List.set_cons_succ])
            refine wpAnyH_one 12 rfl (by kernel_rfl) (by rfl) (fun K hK => ?_)
            go_simp
            (go_at_call 100; refine (possible_any _ _ _ p h ((j : Int) - 1) _ (HP.out.ext (HT.out.ex.trans ((Ext.refl _).drewN _).drew)) (by omega) hh1 hj0 hj1).mono ?_; rintro e w5 ⟨rfl, he5⟩; rw [hps])
            refine hK.out _ _ ?hSa13 (fun hHeld => ?_)
            case hSa13 => (first | (first | exact ⟨d0, d1, c0, c1, c2⟩ | exact ⟨he5.cell d0, he5.cell d1, he5.cell c0, he5.cell c1, he5.cell c2⟩) | ((try dsimp only); first | exact ⟨d0, d1, c0, c1, c2⟩ | exact ⟨he5.cell d0, he5.cell d1, he5.cell c0, he5.cell c1, he5.cell c2⟩))
            clear hK K
            (try simp only [Act.put, List.setIfInBounds_toArray, List.set_cons_zero, List.set_cons_succ])
            refine wpAnyH_tk 13 (v := ?va13) rfl (by kernel_rfl) (by kernel_rfl) (by kernel_rfl) (fun _ _ _ h => h) (by rfl) ?hya13 (by assumption) ?_
            case hya13 => (intro w hSw; (try dsimp only at hSw); go_simp <;> with_reducible rfl)
            (try simp only [Act.put, List.setIfInBounds_toArray, List.set_cons_zero, List.set_cons_succ])
            refine wpAnyH_done (by kernel_rfl) ?_ _
            have HT5 := HT.out.step (((Ext.refl wr).drewN _).drew.trans he5)
            have d0' := cell_of_one HT5.mv
            rw [Hlm.out] at d0'
            have d1' := HT5.ib.cell (i := h) (by have := Hlm.out; omega)
            rw [Hfm.out] at d1'
            have hfr' := HT5.ib.free h
            have HT6 := hid (HT5.set h j)
            rw [← stPart_no (by rw [Hbl.out]; exact HOK.out)] at HT6
            clear d0 d1 c0 c1 c2 hfr HT5 he5
            go_wp2
            go_roundg (gk - 1)
            case rel => exact ⟨j + 1, m'.set h j, by have := Hj.out; omega, by rw [List.length_set]; exact Hlm.out, by rw [take_set_lt]; exact Htk.out, by show fn _ h = _; rw [fn_set_same (by have := Hlm.out; omega)]; omega, HT6⟩
            case measure => have := Hj.out; omega
          · have HOK := hid (show okV p h ((j : Int) - 1) = true by unfold okV; rw [hps, hm1]; rfl)
            refine wp_region_held_drew (S := (fun w' => w'.cell? ⟨bm, 0, none⟩ = some (.slice (some ⟨bg, 0, none⟩) p.hands.length p.hands.length) ∧ w'.cell? ⟨bg, h, none⟩ = some (.int .i64 ((j : Int) - 1)) ∧ w'.cell? ⟨bx, 0, none⟩ = some (.slice aoh p.hands.length caph) ∧ w'.cell? ⟨bx, 1, none⟩ = some (.slice aos p.shifts.length caps) ∧ w'.cell? ⟨bx, 2, none⟩ = some (.slice aop p.places.length capp))) (by kernel_rfl) ?hSb0 (fun hHeld => ?_)
            case hSb0 => (first | (first | exact ⟨d0, d1, c0, c1, c2⟩ | exact ⟨he5.cell d0, he5.cell d1, he5.cell c0, he5.cell c1, he5.cell c2⟩) | ((try dsimp only); first | exact ⟨d0, d1, c0, c1, c2⟩ | exact ⟨he5.cell d0, he5.cell d1, he5.cell c0, he5.cell c1, he5.cell c2⟩))
            refine wpAnyH_tk 0 (v := ?vb0) rfl (by kernel_rfl) (by kernel_rfl) (by kernel_rfl) (fun _ _ _ h => h) (by rfl) ?hyb0 (by assumption) ?_
            case hyb0 => (intro w hSw; (try dsimp only at hSw); go_simp <;> with_reducible rfl)
            (try simp only [Act.put, List.setIfInBounds_toArray, List.set_cons_zero, List.set_cons_succ])
            refine wpAnyH_tk 1 (v := ?vb1) rfl (by kernel_rfl) (by kernel_rfl) (by kernel_rfl) (fun _ _ _ h => h) (by rfl) ?hyb1 (by assumption) ?_
            case hyb1 => (intro w hSw; (try dsimp only at hSw); go_simp <;> with_reducible rfl)
            (try simp only [Act.put, List.setIfInBounds_toArray, List.set_cons_zero, List.set_cons_succ])
            refine wpAnyH_tk 2 (v := ?vb2) rfl (by kernel_rfl) (by kernel_rfl) (by kernel_rfl) (fun _ _ _ h => h) (by rfl) ?hyb2 (by assumption) ?_
            case hyb2 => (intro w hSw; (try dsimp only at hSw); go_simp <;> with_reducible rfl)
            (try simp only [Act.put, List.setIfInBounds_toArray, List.set_cons_zero, List.set_cons_succ])
            refine wpAnyH_tk 3 (v := ?vb3) rfl (by kernel_rfl) (by kernel_rfl) (by kernel_rfl) (fun _ _ _ h => h) (by rfl) ?hyb3 (by assumption) ?_
            case hyb3 => (intro w hSw; (try dsimp only at hSw); go_simp <;> with_reducible rfl)
            (try simp only [Act.put, List.setIfInBounds_toArray, List.set_cons_zero, List.set_cons_succ])
            refine wpAnyH_tk 4 (v := ?vb4) rfl (by kernel_rfl) (by kernel_rfl) (by kernel_rfl) (fun _ _ _ h => h) (by rfl) ?hyb4 (by assumption) ?_
            case hyb4 => (intro w hSw; (try dsimp only at hSw); go_simp <;> with_reducible rfl)
            (try simp only [Act.put, List.setIfInBounds_toArray, List.set_cons_zero, List.set_cons_succ])
            refine wpAnyH_tk 5 (v := ?vb5) rfl (by kernel_rfl) (by kernel_rfl) (by kernel_rfl) (fun _ _ _ h => h) (by rfl) ?hyb5 (by assumption) ?_
            case hyb5 => (intro w hSw; (try dsimp only at hSw); go_simp <;> with_reducible rfl)
            (try simp only [Act.put, List.setIfInBounds_toArray, List.set_cons_zero, List.set_cons_succ])
            refine wpAnyH_tk 6 (v := ?vb6) rfl (by kernel_rfl) (by kernel_rfl) (by kernel_rfl) (fun _ _ _ h => h) (by rfl) ?hyb6 (by assumption) ?_
            case hyb6 => (intro w hSw; (try dsimp only at hSw); go_simp <;> with_reducible rfl)
            (try simp only [Act.put, List.setIfInBounds_toArray, List.set_cons_zero, List.set_cons_succ])
            refine wpAnyH_tk 7 (v := ?vb7) rfl (by kernel_rfl) (by kernel_rfl) (by kernel_rfl) (fun _ _ _ h => h) (by rfl) ?hyb7 (by assumption) ?_
            case hyb7 => (intro w hSw; (try dsimp only at hSw); go_simp <;> with_reducible rfl)
            (try simp only [Act.put, List.setIfInBounds_toArray, List.set_cons_zero, List.set_cons_succ])
            refine wpAnyH_tk 8 (v := ?vb8) rfl (by kernel_rfl) (by kernel_rfl) (by kernel_rfl) (fun _ _ _ h => h) (by rfl) ?hyb8 (by assumption) ?_
            case hyb8 => (intro w hSw; (try dsimp only at hSw); go_simp <;> with_reducible rfl)
            (try simp only [Act.put, List.setIfInBounds_toArray, List.set_cons_zero, List.set_cons_succ])
            refine wpAnyH_tk 9 (v := ?vb9) rfl (by kernel_rfl) (by kernel_rfl) (by kernel_rfl) (fun _ _ _ h => h) (by rfl) ?hyb9 (by assumption) ?_
            case hyb9 => (intro w hSw; (try dsimp only at hSw); go_simp <;> with_reducible rfl)
            (try simp only [Act.put, List.setIfInBounds_toArray, List.set_cons_zero, List.set_cons_succ])
            refine wpAnyH_tk 10 (v := ?vb10) rfl (by kernel_rfl) (by kernel_rfl) (by kernel_rfl) (fun _ _ _ h => h) (by rfl) ?hyb10 (by assumption) ?_
            case hyb10 => (intro w hSw; (try dsimp only at hSw); go_simp <;> with_reducible rfl)
            (try simp only [Act.put, List.setIfInBounds_toArray, List.set_cons_zero, List.set_cons_succ])
            refine wpAnyH_tk 11 (v := ?vb11) rfl (by kernel_rfl) (by kernel_rfl) (by kernel_rfl) (fun _ _ _ h => h) (by rfl) ?hyb11 (by assumption) ?_
            case hyb11 => (intro w hSw; (try dsimp only at hSw); go_simp <;> with_reducible rfl)
            (try simp only [Act.put, List.setIfInBounds_toArray, List.set_cons_zero, List.set_cons_succ])
            refine wpAnyH_one 12 rfl (by kernel_rfl) (by rfl) (fun K hK => ?_)
            go_simp
            (go_at_call 100; refine (possible_any _ _ _ p h ((j : Int) - 1) _ (HP.out.ext (HT.out.ex.trans ((Ext.refl _).drewN _).drew)) (by omega) hh1 hj0 hj1).mono ?_; rintro e w5 ⟨rfl, he5⟩; rw [hps])
            refine hK.out _ _ ?hSb13 (fun hHeld => ?_)
            case hSb13 => (first | (first | exact ⟨d0, d1, c0, c1, c2⟩ | exact ⟨he5.cell d0, he5.cell d1, he5.cell c0, he5.cell c1, he5.cell c2⟩) | ((try dsimp only); first | exact ⟨d0, d1, c0, c1, c2⟩ | exact ⟨he5.cell d0, he5.cell d1, he5.cell c0, he5.cell c1, he5.cell c2⟩))
            clear hK K
            (try simp only [Act.put, List.setIfInBounds_toArray, List.set_cons_zero, List.set_cons_succ])
            refine wpAnyH_tk 13 (v := ?vb13) rfl (by kernel_rfl) (by kernel_rfl) (by kernel_rfl) (fun _ _ _ h => h) (by rfl) ?hyb13 (by assumption) ?_
            case hyb13 => (intro w hSw; (try dsimp only at hSw); go_simp <;> with_reducible rfl)
            (try simp only [Act.put, List.setIfInBounds_toArray, List.set_cons_zero, List.set_cons_succ])
            refine wpAnyH_done (by kernel_rfl) ?_ _
            have HT5 := hid (HT.out.step (((Ext.refl wr).drewN _).drew.trans he5))
            clear d0 d1 c0 c1 c2 hfr he5
            have hfr := HT5.out.ib.free h
            have d0 := cell_of_one HT5.out.mv
            rw [Hlm.out] at d0
            have d1 := HT5.out.ib.cell (i := h) (by have := Hlm.out; omega)
            have dv := cell_of_one HT5.out.fv
            go_wp2_with (fail)
            refine (IH.out (h + 1) ((h : Int) + 1) m' (acc ++ stPart p hok k (m.take h) j) _ (by omega) (by omega) Hlm.out (by have h1 := stPart_len (p := p) (hp := hok) (k := k) (b := m.take h) (j := j); have h2 := Hac.out; have h4 := Nat.pow_succ 5 k; have h3 : (j + 1) * 5 ^ k ≤ 5 * 5 ^ k := Nat.mul_le_mul_right _ (by omega); rw [Nat.succ_mul] at h3; rw [List.length_append]; omega) HT5.out).mono ?_
            rintro e w6 ⟨rfl, m2, hl2, htk2, T5⟩
            have htk3 := htk2
            rw [take_succ_fn (by omega), take_succ_fn (by have := Hlm.out; omega), Hfm.out, Htk.out] at htk3
            obtain ⟨e1, e2⟩ := List.append_inj' htk3 rfl
            have hfm2 : fn m2 h = (j : Int) - 1 := by simpa using e2
            rw [take_succ_fn (by have := Hlm.out; omega), Hfm.out, Htk.out, List.append_assoc, ← stPart_yes (by rw [Hbl.out]; exact HOK.out)] at T5
            clear d0 d1 dv hfr
            have d0 := cell_of_one T5.mv
            have d1 := T5.ib.cell (i := h) (by omega)
            rw [hfm2] at d1
            rw [hl2] at d0
            have hfr := T5.ib.free h
            have HT6 := hid (T5.set h j)
            have Hl2 := hid hl2
            have Htk2 := hid e1
            clear T5 htk2 htk3 e1 e2 hfm2 hl2
            go_wp2
            go_roundg (gk - 1)
            case rel => exact ⟨j + 1, m2.set h j, by have := Hj.out; omega, by rw [List.length_set]; exact Hl2.out, by rw [take_set_lt]; exact Htk2.out, by show fn _ h = _; rw [fn_set_same (by have := Hl2.out; omega)]; omega, HT6⟩
            case measure => have := Hj.out; omega
      · have hlt : decide ((j : Int) - 1 < (p.shifts.length : Int)) = false := by simp; omega
        have HT9 : Hid (∀ n, TryInv _ _ _ _ _ _ _ _ _ _ _ ((wr.drewN n).setCell ⟨bg, h, none⟩ (.int .i64 (-1))) _ _) := fun n => (HT.out.step ((Ext.refl wr).drewN n)).set h (-1)
        obtain rfl : j = p.shifts.length + 1 := by omega
        clear hjl hjS
        go_wp2
        go_quiet (fail)
        go_wp2
        go_end0
        exact ⟨rfl, m'.set h (-1), by rw [List.length_set]; exact Hlm.out, by rw [take_set_lt]; exact Htk.out, by rw [← stPart_all]; exact HT9.out _⟩

end Go.Proofs.Ytkdfbbkonbgfmaa
