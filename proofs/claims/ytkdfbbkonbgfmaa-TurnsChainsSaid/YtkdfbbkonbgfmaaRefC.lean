/-
  Contracts of the reference's blocks, Blocks, IsStable.
-/
import Derived.Test.YtkdfbbkonbgfmaaRefB
import Derived.Outline
namespace Go.Proofs.Ytkdfbbkonbgfmaa
open Go.RowKit

theorem cntTo_bool {m : List Int} {k : Nat} {s : Int} {b : Bool} (e : (fn m k == s) = b) : cntTo m (k + 1) s = cntTo m k s + b.toNat := by
  rw [cntTo_succ]
  cases b
  · rw [if_neg (by simpa using e)]; rfl
  · rw [if_pos (by simpa using e)]; rfl

set_option maxRecDepth 20000 in
set_option maxHeartbeats 4000000 in
theorem Rblocks_any (vh vs vp vm : Value) (p : PlanD) (hok : PlanOk p) (m : List Int) (h s : Nat) (w : World) (hp : PlanR w vh vs vp p) (hm : Ints w vm m) (hmat : MatL p hok m) (hlt : h < p.hands.length) (hslt : s < p.shifts.length) :
    Calls Try.prog 71 #[.agg #[vh, vs, vp], vm, .int .i64 h, .int .i64 s] w fun e w' => e = .returned (.bool (blkB p hok m h s)) ∧ Ext w w' := by
  obtain ⟨aoh, caph, aos, caps, aop, capp, rfl, rfl, rfl⟩ := planR_shape hp
  have HP := hid hp
  have HM := hid hm
  have Hmat := hid hmat
  have Hml := hid hmat.1
  have hn6 := hok.h6
  obtain ⟨-, ars, crs, hrows, hris⟩ : True ∧ ∃ ars crs, (∀ w', Ext w w' → ∃ bs os, aos = some ⟨bs, os, none⟩ ∧ w'.cell? ⟨bs, os + s, none⟩ = some (.slice ars (rowAt p.shifts s).length crs)) ∧ Ints w (.slice ars (rowAt p.shifts s).length crs) (rowAt p.shifts s) := by
    obtain ⟨b, off, ar, cr, ha, hc, hi⟩ := hp.2.1.at s (by omega) (by omega)
    refine ⟨trivial, ar, cr, fun w' e => ⟨b, off, ha, ?_⟩, hi⟩
    have := hc w' e
    rwa [Int.toNat_natCast] at this
  obtain ⟨bs, os, rfl, -⟩ := hrows w (Ext.refl w)
  obtain ⟨bp, op, rfl, hpc⟩ := hp.2.2.at s (by omega) (by have := hok.pl; omega)
  obtain ⟨-, am, cm, rfl, -⟩ := id hm
  obtain ⟨bm, om, rfl, -, hmc⟩ := hm.get h (by have := hmat.1; omega)
  have E0 := hid (Ext.ofAlloc w (.cells #[.slice aoh p.hands.length caph, .slice (some ⟨bs, os, none⟩) p.shifts.length caps, .slice (some ⟨bp, op, none⟩) p.places.length capp] 25))
  have X0 := hid (Box3.alloc w 25 (.slice aoh p.hands.length caph) (.slice (some ⟨bs, os, none⟩) p.shifts.length caps) (.slice (some ⟨bp, op, none⟩) p.places.length capp))
  have dm := hmc _ E0.out
  have HRows := hid hrows
  have HRis := hid hris
  have HPc := hid hpc
  have hh1 : (h : Int) < p.hands.length := by omega
  have hh2 : (h : Int) < m.length := by have := hmat.1; omega
  have hs1 : (s : Int) < p.shifts.length := by omega
  have hs2 : (s : Int) < p.places.length := by have := hok.pl; omega
  clear hp hm hmat hmc hrows hris hpc
  go_enter Try.func71, Try.ntmps71
  go_wp2
  obtain ⟨c0, c1, c2⟩ := X0.out.cells
  generalize hW : w.alloc (.cells #[.slice aoh p.hands.length caph, .slice (some ⟨bs, os, none⟩) p.shifts.length caps, .slice (some ⟨bp, op, none⟩) p.places.length capp] 25) = W at *
  clear hW
  cases hps : possB p h s
  · have Hf := hid (blk_ref_no (hp := hok) Hmat.out (h := h) (s := s) hlt (.inl hps))
    refine wp_region_held_drew (S := (fun w' => w'.cell? ⟨w.heap.size, 0, none⟩ = some (.slice aoh p.hands.length caph) ∧ w'.cell? ⟨w.heap.size, 1, none⟩ = some (.slice (some ⟨bs, os, none⟩) p.shifts.length caps) ∧ w'.cell? ⟨w.heap.size, 2, none⟩ = some (.slice (some ⟨bp, op, none⟩) p.places.length capp) ∧ w'.cell? ⟨bm, om + h, none⟩ = some (.int .i64 (fn m h)))) (by kernel_rfl) ?hSa0 (fun hHeld => ?_)
    case hSa0 => (first | (first | exact ⟨c0, c1, c2, dm⟩ | exact ⟨he6.cell (he5.cell c0), he6.cell (he5.cell c1), he6.cell (he5.cell c2), he6.cell (he5.cell dm)⟩ | exact ⟨he5.cell c0, he5.cell c1, he5.cell c2, he5.cell dm⟩) | ((try dsimp only); first | exact ⟨c0, c1, c2, dm⟩ | exact ⟨he6.cell (he5.cell c0), he6.cell (he5.cell c1), he6.cell (he5.cell c2), he6.cell (he5.cell dm)⟩ | exact ⟨he5.cell c0, he5.cell c1, he5.cell c2, he5.cell dm⟩))
    refine wpAnyH_tk 0 (v := ?va0) rfl (by kernel_rfl) (by kernel_rfl) (by kernel_rfl) (fun _ _ _ h => h) (by rfl) ?hya0 (by assumption) ?_
    case hya0 => (intro w hSw; (try dsimp only at hSw); go_simp <;> with_reducible rfl)
    (try simp only [Act.put, List.setIfInBounds_toArray, List.set_cons_zero, List.set_cons_succ])
    refine wpAnyH_tk 1 (v := ?va1) rfl (by kernel_rfl) (by kernel_rfl) (by kernel_rfl) (fun _ _ _ h => h) (by rfl) ?hya1 (by assumption) ?_
    case hya1 => (intro w hSw; (try dsimp only at hSw); go_simp <;> with_reducible rfl)
    (try simp only [Act.put, List.setIfInBounds_toArray, List.set_cons_zero, List.set_cons_succ])
    refine wpAnyH_tk 2 (v := ?va2) rfl (by kernel_rfl) (by kernel_rfl) (by kernel_rfl) (fun _ _ _ h => h) (by rfl) ?hya2 (by assumption) ?_
    case hya2 => (intro w hSw; (try dsimp only at hSw); go_simp <;> with_reducible rfl)
    (try simp only [Act.put, List.setIfInBounds_toArray, List.set_cons_zero, List.set_cons_succ])
    refine wpAnyH_one 3 rfl (by kernel_rfl) (by rfl) (fun K hK => ?_)
    go_simp
    (go_at_call 64; refine (Rpossible_any _ _ _ p h s _ (HP.out.ext (E0.out.drew)) (by omega) hh1 (by omega) hs1).mono ?_; rintro e w5 ⟨rfl, he5⟩; rw [hps])
    refine hK.out _ _ ?hSa4 (fun hHeld => ?_)
    case hSa4 => (first | (first | exact ⟨c0, c1, c2, dm⟩ | exact ⟨he6.cell (he5.cell c0), he6.cell (he5.cell c1), he6.cell (he5.cell c2), he6.cell (he5.cell dm)⟩ | exact ⟨he5.cell c0, he5.cell c1, he5.cell c2, he5.cell dm⟩) | ((try dsimp only); first | exact ⟨c0, c1, c2, dm⟩ | exact ⟨he6.cell (he5.cell c0), he6.cell (he5.cell c1), he6.cell (he5.cell c2), he6.cell (he5.cell dm)⟩ | exact ⟨he5.cell c0, he5.cell c1, he5.cell c2, he5.cell dm⟩))
    clear hK K
    (try simp only [Act.put, List.setIfInBounds_toArray, List.set_cons_zero, List.set_cons_succ])
    refine wpAnyH_tk 4 (v := ?va4) rfl (by kernel_rfl) (by kernel_rfl) (by kernel_rfl) (fun _ _ _ h => h) (by rfl) ?hya4 (by assumption) ?_
    case hya4 => (intro w hSw; (try dsimp only at hSw); go_simp <;> with_reducible rfl)
    (try simp only [Act.put, List.setIfInBounds_toArray, List.set_cons_zero, List.set_cons_succ])
    refine wpAnyH_tk 5 (v := ?va5) rfl (by kernel_rfl) (by kernel_rfl) (by kernel_rfl) (fun _ _ _ h => h) (by rfl) ?hya5 (by assumption) ?_
    case hya5 => (intro w hSw; (try dsimp only at hSw); go_simp <;> with_reducible rfl)
    (try simp only [Act.put, List.setIfInBounds_toArray, List.set_cons_zero, List.set_cons_succ])
    refine wpAnyH_skips 5 false 17 1 (by kernel_rfl) rfl (fun _ _ _ _ _ h => h) [6, 7, 8, 9, 10, 11, 12, 13, 14] [18, 19, 20, 21, 22, 23, 24, 25, 26] _ _ _ rfl (by kernel_rfl) (by rfl) (by assumption) ?_
    (try simp only [putsAll, List.foldl, Act.put, List.setIfInBounds_toArray, List.set_cons_zero, List.set_cons_succ])
    refine wpAnyH_tk 15 (v := ?va15) rfl (by kernel_rfl) (by kernel_rfl) (by kernel_rfl) (fun _ _ _ h => h) (by rfl) ?hya15 (by assumption) ?_
    case hya15 => (intro w hSw; (try dsimp only at hSw); go_simp <;> with_reducible rfl)
    (try simp only [Act.put, List.setIfInBounds_toArray, List.set_cons_zero, List.set_cons_succ])
    refine wpAnyH_done (by kernel_rfl) ?_ _
    have HE := hid (E0.out.drew.trans he5)
    clear c0 c1 c2 dm he5
    go_wp2
    go_ret
    exact ⟨ret_bool Hf.out.symm, HE.out⟩
  · cases hli : likesB p h s (fn m h)
    · have Hf := hid (blk_ref_no (hp := hok) Hmat.out (h := h) (s := s) hlt (.inr hli))
      refine wp_region_held_drew (S := (fun w' => w'.cell? ⟨w.heap.size, 0, none⟩ = some (.slice aoh p.hands.length caph) ∧ w'.cell? ⟨w.heap.size, 1, none⟩ = some (.slice (some ⟨bs, os, none⟩) p.shifts.length caps) ∧ w'.cell? ⟨w.heap.size, 2, none⟩ = some (.slice (some ⟨bp, op, none⟩) p.places.length capp) ∧ w'.cell? ⟨bm, om + h, none⟩ = some (.int .i64 (fn m h)))) (by kernel_rfl) ?hSb0 (fun hHeld => ?_)
      case hSb0 => (first | (first | exact ⟨c0, c1, c2, dm⟩ | exact ⟨he6.cell (he5.cell c0), he6.cell (he5.cell c1), he6.cell (he5.cell c2), he6.cell (he5.cell dm)⟩ | exact ⟨he5.cell c0, he5.cell c1, he5.cell c2, he5.cell dm⟩) | ((try dsimp only); first | exact ⟨c0, c1, c2, dm⟩ | exact ⟨he6.cell (he5.cell c0), he6.cell (he5.cell c1), he6.cell (he5.cell c2), he6.cell (he5.cell dm)⟩ | exact ⟨he5.cell c0, he5.cell c1, he5.cell c2, he5.cell dm⟩))
      refine wpAnyH_tk 0 (v := ?vb0) rfl (by kernel_rfl) (by kernel_rfl) (by kernel_rfl) (fun _ _ _ h => h) (by rfl) ?hyb0 (by assumption) ?_
      case hyb0 => (intro w hSw; (try dsimp only at hSw); go_simp <;> with_reducible rfl)
      (try simp only [Act.put, List.setIfInBounds_toArray, List.set_cons_zero, List.set_cons_succ])
      refine wpAnyH_tk 1 (v := ?vb1) rfl (by kernel_rfl) (by kernel_rfl) (by kernel_rfl) (fun _ _ _ h => h) (by rfl) ?hyb1 (by assumption) ?_
      case hyb1 => (intro w hSw; (try dsimp only at hSw); go_simp <;> with_reducible rfl)
      (try simp only [Act.put, List.setIfInBounds_toArray, List.set_cons_zero, List.set_cons_succ])
      refine wpAnyH_tk 2 (v := ?vb2) rfl (by kernel_rfl) (by kernel_rfl) (by kernel_rfl) (fun _ _ _ h => h) (by rfl) ?hyb2 (by assumption) ?_
      case hyb2 => (intro w hSw; (try dsimp only at hSw); go_simp <;> with_reducible rfl)
      (try simp only [Act.put, List.setIfInBounds_toArray, List.set_cons_zero, List.set_cons_succ])
      refine wpAnyH_one 3 rfl (by kernel_rfl) (by rfl) (fun K hK => ?_)
      go_simp
      (go_at_call 64; refine (Rpossible_any _ _ _ p h s _ (HP.out.ext (E0.out.drew)) (by omega) hh1 (by omega) hs1).mono ?_; rintro e w5 ⟨rfl, he5⟩; rw [hps])
      refine hK.out _ _ ?hSb4 (fun hHeld => ?_)
      case hSb4 => (first | (first | exact ⟨c0, c1, c2, dm⟩ | exact ⟨he6.cell (he5.cell c0), he6.cell (he5.cell c1), he6.cell (he5.cell c2), he6.cell (he5.cell dm)⟩ | exact ⟨he5.cell c0, he5.cell c1, he5.cell c2, he5.cell dm⟩) | ((try dsimp only); first | exact ⟨c0, c1, c2, dm⟩ | exact ⟨he6.cell (he5.cell c0), he6.cell (he5.cell c1), he6.cell (he5.cell c2), he6.cell (he5.cell dm)⟩ | exact ⟨he5.cell c0, he5.cell c1, he5.cell c2, he5.cell dm⟩))
      clear hK K
      (try simp only [Act.put, List.setIfInBounds_toArray, List.set_cons_zero, List.set_cons_succ])
      refine wpAnyH_tk 4 (v := ?vb4) rfl (by kernel_rfl) (by kernel_rfl) (by kernel_rfl) (fun _ _ _ h => h) (by rfl) ?hyb4 (by assumption) ?_
      case hyb4 => (intro w hSw; (try dsimp only at hSw); go_simp <;> with_reducible rfl)
      (try simp only [Act.put, List.setIfInBounds_toArray, List.set_cons_zero, List.set_cons_succ])
      refine wpAnyH_tk 5 (v := ?vb5) rfl (by kernel_rfl) (by kernel_rfl) (by kernel_rfl) (fun _ _ _ h => h) (by rfl) ?hyb5 (by assumption) ?_
      case hyb5 => (intro w hSw; (try dsimp only at hSw); go_simp <;> with_reducible rfl)
      (try simp only [Act.put, List.setIfInBounds_toArray, List.set_cons_zero, List.set_cons_succ])
      refine wpAnyH_tk 6 (v := ?vb6) rfl (by kernel_rfl) (by kernel_rfl) (by kernel_rfl) (fun _ _ _ h => h) (by rfl) ?hyb6 (by assumption) ?_
      case hyb6 => (intro w hSw; (try dsimp only at hSw); go_simp <;> with_reducible rfl)
      (try simp only [Act.put, List.setIfInBounds_toArray, List.set_cons_zero, List.set_cons_succ])
      refine wpAnyH_tk 7 (v := ?vb7) rfl (by kernel_rfl) (by kernel_rfl) (by kernel_rfl) (fun _ _ _ h => h) (by rfl) ?hyb7 (by assumption) ?_
      case hyb7 => (intro w hSw; (try dsimp only at hSw); go_simp <;> with_reducible rfl)
      (try simp only [Act.put, List.setIfInBounds_toArray, List.set_cons_zero, List.set_cons_succ])
      refine wpAnyH_tk 8 (v := ?vb8) rfl (by kernel_rfl) (by kernel_rfl) (by kernel_rfl) (fun _ _ _ h => h) (by rfl) ?hyb8 (by assumption) ?_
      case hyb8 => (intro w hSw; (try dsimp only at hSw); go_simp <;> with_reducible rfl)
      (try simp only [Act.put, List.setIfInBounds_toArray, List.set_cons_zero, List.set_cons_succ])
      refine wpAnyH_tk 9 (v := ?vb9) rfl (by kernel_rfl) (by kernel_rfl) (by kernel_rfl) (fun _ _ _ h => h) (by rfl) ?hyb9 (by assumption) ?_
      case hyb9 => (intro w hSw; (try dsimp only at hSw); go_simp <;> with_reducible rfl)
      (try simp only [Act.put, List.setIfInBounds_toArray, List.set_cons_zero, List.set_cons_succ])
      refine wpAnyH_tk 10 (v := ?vb10) rfl (by kernel_rfl) (by kernel_rfl) (by kernel_rfl) (fun _ _ _ h => h) (by rfl) ?hyb10 (by assumption) ?_
      case hyb10 => (intro w hSw; (try dsimp only at hSw); go_simp <;> with_reducible rfl)
      (try simp only [Act.put, List.setIfInBounds_toArray, List.set_cons_zero, List.set_cons_succ])
      refine wpAnyH_tk 11 (v := ?vb11) rfl (by kernel_rfl) (by kernel_rfl) (by kernel_rfl) (fun _ _ _ h => h) (by rfl) ?hyb11 (by assumption) ?_
      case hyb11 => (intro w hSw; (try dsimp only at hSw); go_simp <;> with_reducible rfl)
      (try simp only [Act.put, List.setIfInBounds_toArray, List.set_cons_zero, List.set_cons_succ])
      refine wpAnyH_tk 12 (v := ?vb12) rfl (by kernel_rfl) (by kernel_rfl) (by kernel_rfl) (fun _ _ _ h => h) (by rfl) ?hyb12 (by assumption) ?_
      case hyb12 => (intro w hSw; (try dsimp only at hSw); go_simp <;> with_reducible rfl)
      (try simp only [Act.put, List.setIfInBounds_toArray, List.set_cons_zero, List.set_cons_succ])
      refine wpAnyH_one 13 rfl (by kernel_rfl) (by rfl) (fun K hK => ?_)
      go_simp
      (go_at_call 65; refine (likes_any _ _ _ p h s (fn m h) _ (HP.out.ext (E0.out.drew.trans he5)) (by omega) hh1).mono ?_; rintro e w6 ⟨rfl, he6⟩; rw [hli])
      refine hK.out _ _ ?hSb14 (fun hHeld => ?_)
      case hSb14 => (first | (first | exact ⟨c0, c1, c2, dm⟩ | exact ⟨he6.cell (he5.cell c0), he6.cell (he5.cell c1), he6.cell (he5.cell c2), he6.cell (he5.cell dm)⟩ | exact ⟨he5.cell c0, he5.cell c1, he5.cell c2, he5.cell dm⟩) | ((try dsimp only); first | exact ⟨c0, c1, c2, dm⟩ | exact ⟨he6.cell (he5.cell c0), he6.cell (he5.cell c1), he6.cell (he5.cell c2), he6.cell (he5.cell dm)⟩ | exact ⟨he5.cell c0, he5.cell c1, he5.cell c2, he5.cell dm⟩))
      clear hK K
      (try simp only [Act.put, List.setIfInBounds_toArray, List.set_cons_zero, List.set_cons_succ])
      refine wpAnyH_tk 14 (v := ?vb14) rfl (by kernel_rfl) (by kernel_rfl) (by kernel_rfl) (fun _ _ _ h => h) (by rfl) ?hyb14 (by assumption) ?_
      case hyb14 => (intro w hSw; (try dsimp only at hSw); go_simp <;> with_reducible rfl)
      (try simp only [Act.put, List.setIfInBounds_toArray, List.set_cons_zero, List.set_cons_succ])
      refine wpAnyH_tk 15 (v := ?vb15) rfl (by kernel_rfl) (by kernel_rfl) (by kernel_rfl) (fun _ _ _ h => h) (by rfl) ?hyb15 (by assumption) ?_
      case hyb15 => (intro w hSw; (try dsimp only at hSw); go_simp <;> with_reducible rfl)
      (try simp only [Act.put, List.setIfInBounds_toArray, List.set_cons_zero, List.set_cons_succ])
      refine wpAnyH_done (by kernel_rfl) ?_ _
      have HE := hid ((E0.out.drew.trans he5).trans he6)
      clear c0 c1 c2 dm he5 he6
      go_wp2
      go_ret
      exact ⟨ret_bool Hf.out.symm, HE.out⟩
    · skip
      refine wp_region_held_drew (S := (fun w' => w'.cell? ⟨w.heap.size, 0, none⟩ = some (.slice aoh p.hands.length caph) ∧ w'.cell? ⟨w.heap.size, 1, none⟩ = some (.slice (some ⟨bs, os, none⟩) p.shifts.length caps) ∧ w'.cell? ⟨w.heap.size, 2, none⟩ = some (.slice (some ⟨bp, op, none⟩) p.places.length capp) ∧ w'.cell? ⟨bm, om + h, none⟩ = some (.int .i64 (fn m h)))) (by kernel_rfl) ?hSc0 (fun hHeld => ?_)
      case hSc0 => (first | (first | exact ⟨c0, c1, c2, dm⟩ | exact ⟨he6.cell (he5.cell c0), he6.cell (he5.cell c1), he6.cell (he5.cell c2), he6.cell (he5.cell dm)⟩ | exact ⟨he5.cell c0, he5.cell c1, he5.cell c2, he5.cell dm⟩) | ((try dsimp only); first | exact ⟨c0, c1, c2, dm⟩ | exact ⟨he6.cell (he5.cell c0), he6.cell (he5.cell c1), he6.cell (he5.cell c2), he6.cell (he5.cell dm)⟩ | exact ⟨he5.cell c0, he5.cell c1, he5.cell c2, he5.cell dm⟩))
      refine wpAnyH_tk 0 (v := ?vc0) rfl (by kernel_rfl) (by kernel_rfl) (by kernel_rfl) (fun _ _ _ h => h) (by rfl) ?hyc0 (by assumption) ?_
      case hyc0 => (intro w hSw; (try dsimp only at hSw); go_simp <;> with_reducible rfl)
      (try simp only [Act.put, List.setIfInBounds_toArray, List.set_cons_zero, List.set_cons_succ])
      refine wpAnyH_tk 1 (v := ?vc1) rfl (by kernel_rfl) (by kernel_rfl) (by kernel_rfl) (fun _ _ _ h => h) (by rfl) ?hyc1 (by assumption) ?_
      case hyc1 => (intro w hSw; (try dsimp only at hSw); go_simp <;> with_reducible rfl)
      (try simp only [Act.put, List.setIfInBounds_toArray, List.set_cons_zero, List.set_cons_succ])
      refine wpAnyH_tk 2 (v := ?vc2) rfl (by kernel_rfl) (by kernel_rfl) (by kernel_rfl) (fun _ _ _ h => h) (by rfl) ?hyc2 (by assumption) ?_
      case hyc2 => (intro w hSw; (try dsimp only at hSw); go_simp <;> with_reducible rfl)
      (try simp only [Act.put, List.setIfInBounds_toArray, List.set_cons_zero, List.set_cons_succ])
      refine wpAnyH_one 3 rfl (by kernel_rfl) (by rfl) (fun K hK => ?_)
      go_simp
      (go_at_call 64; refine (Rpossible_any _ _ _ p h s _ (HP.out.ext (E0.out.drew)) (by omega) hh1 (by omega) hs1).mono ?_; rintro e w5 ⟨rfl, he5⟩; rw [hps])
      refine hK.out _ _ ?hSc4 (fun hHeld => ?_)
      case hSc4 => (first | (first | exact ⟨c0, c1, c2, dm⟩ | exact ⟨he6.cell (he5.cell c0), he6.cell (he5.cell c1), he6.cell (he5.cell c2), he6.cell (he5.cell dm)⟩ | exact ⟨he5.cell c0, he5.cell c1, he5.cell c2, he5.cell dm⟩) | ((try dsimp only); first | exact ⟨c0, c1, c2, dm⟩ | exact ⟨he6.cell (he5.cell c0), he6.cell (he5.cell c1), he6.cell (he5.cell c2), he6.cell (he5.cell dm)⟩ | exact ⟨he5.cell c0, he5.cell c1, he5.cell c2, he5.cell dm⟩))
      clear hK K
      (try simp only [Act.put, List.setIfInBounds_toArray, List.set_cons_zero, List.set_cons_succ])
      refine wpAnyH_tk 4 (v := ?vc4) rfl (by kernel_rfl) (by kernel_rfl) (by kernel_rfl) (fun _ _ _ h => h) (by rfl) ?hyc4 (by assumption) ?_
      case hyc4 => (intro w hSw; (try dsimp only at hSw); go_simp <;> with_reducible rfl)
      (try simp only [Act.put, List.setIfInBounds_toArray, List.set_cons_zero, List.set_cons_succ])
      refine wpAnyH_tk 5 (v := ?vc5) rfl (by kernel_rfl) (by kernel_rfl) (by kernel_rfl) (fun _ _ _ h => h) (by rfl) ?hyc5 (by assumption) ?_
      case hyc5 => (intro w hSw; (try dsimp only at hSw); go_simp <;> with_reducible rfl)
      (try simp only [Act.put, List.setIfInBounds_toArray, List.set_cons_zero, List.set_cons_succ])
      refine wpAnyH_tk 6 (v := ?vc6) rfl (by kernel_rfl) (by kernel_rfl) (by kernel_rfl) (fun _ _ _ h => h) (by rfl) ?hyc6 (by assumption) ?_
      case hyc6 => (intro w hSw; (try dsimp only at hSw); go_simp <;> with_reducible rfl)
      (try simp only [Act.put, List.setIfInBounds_toArray, List.set_cons_zero, List.set_cons_succ])
      refine wpAnyH_tk 7 (v := ?vc7) rfl (by kernel_rfl) (by kernel_rfl) (by kernel_rfl) (fun _ _ _ h => h) (by rfl) ?hyc7 (by assumption) ?_
      case hyc7 => (intro w hSw; (try dsimp only at hSw); go_simp <;> with_reducible rfl)
      (try simp only [Act.put, List.setIfInBounds_toArray, List.set_cons_zero, List.set_cons_succ])
      refine wpAnyH_tk 8 (v := ?vc8) rfl (by kernel_rfl) (by kernel_rfl) (by kernel_rfl) (fun _ _ _ h => h) (by rfl) ?hyc8 (by assumption) ?_
      case hyc8 => (intro w hSw; (try dsimp only at hSw); go_simp <;> with_reducible rfl)
      (try simp only [Act.put, List.setIfInBounds_toArray, List.set_cons_zero, List.set_cons_succ])
      refine wpAnyH_tk 9 (v := ?vc9) rfl (by kernel_rfl) (by kernel_rfl) (by kernel_rfl) (fun _ _ _ h => h) (by rfl) ?hyc9 (by assumption) ?_
      case hyc9 => (intro w hSw; (try dsimp only at hSw); go_simp <;> with_reducible rfl)
      (try simp only [Act.put, List.setIfInBounds_toArray, List.set_cons_zero, List.set_cons_succ])
      refine wpAnyH_tk 10 (v := ?vc10) rfl (by kernel_rfl) (by kernel_rfl) (by kernel_rfl) (fun _ _ _ h => h) (by rfl) ?hyc10 (by assumption) ?_
      case hyc10 => (intro w hSw; (try dsimp only at hSw); go_simp <;> with_reducible rfl)
      (try simp only [Act.put, List.setIfInBounds_toArray, List.set_cons_zero, List.set_cons_succ])
      refine wpAnyH_tk 11 (v := ?vc11) rfl (by kernel_rfl) (by kernel_rfl) (by kernel_rfl) (fun _ _ _ h => h) (by rfl) ?hyc11 (by assumption) ?_
      case hyc11 => (intro w hSw; (try dsimp only at hSw); go_simp <;> with_reducible rfl)
      (try simp only [Act.put, List.setIfInBounds_toArray, List.set_cons_zero, List.set_cons_succ])
      refine wpAnyH_tk 12 (v := ?vc12) rfl (by kernel_rfl) (by kernel_rfl) (by kernel_rfl) (fun _ _ _ h => h) (by rfl) ?hyc12 (by assumption) ?_
      case hyc12 => (intro w hSw; (try dsimp only at hSw); go_simp <;> with_reducible rfl)
      (try simp only [Act.put, List.setIfInBounds_toArray, List.set_cons_zero, List.set_cons_succ])
      refine wpAnyH_one 13 rfl (by kernel_rfl) (by rfl) (fun K hK => ?_)
      go_simp
      (go_at_call 65; refine (likes_any _ _ _ p h s (fn m h) _ (HP.out.ext (E0.out.drew.trans he5)) (by omega) hh1).mono ?_; rintro e w6 ⟨rfl, he6⟩; rw [hli])
      refine hK.out _ _ ?hSc14 (fun hHeld => ?_)
      case hSc14 => (first | (first | exact ⟨c0, c1, c2, dm⟩ | exact ⟨he6.cell (he5.cell c0), he6.cell (he5.cell c1), he6.cell (he5.cell c2), he6.cell (he5.cell dm)⟩ | exact ⟨he5.cell c0, he5.cell c1, he5.cell c2, he5.cell dm⟩) | ((try dsimp only); first | exact ⟨c0, c1, c2, dm⟩ | exact ⟨he6.cell (he5.cell c0), he6.cell (he5.cell c1), he6.cell (he5.cell c2), he6.cell (he5.cell dm)⟩ | exact ⟨he5.cell c0, he5.cell c1, he5.cell c2, he5.cell dm⟩))
      clear hK K
      (try simp only [Act.put, List.setIfInBounds_toArray, List.set_cons_zero, List.set_cons_succ])
      refine wpAnyH_tk 14 (v := ?vc14) rfl (by kernel_rfl) (by kernel_rfl) (by kernel_rfl) (fun _ _ _ h => h) (by rfl) ?hyc14 (by assumption) ?_
      case hyc14 => (intro w hSw; (try dsimp only at hSw); go_simp <;> with_reducible rfl)
      (try simp only [Act.put, List.setIfInBounds_toArray, List.set_cons_zero, List.set_cons_succ])
      refine wpAnyH_tk 15 (v := ?vc15) rfl (by kernel_rfl) (by kernel_rfl) (by kernel_rfl) (fun _ _ _ h => h) (by rfl) ?hyc15 (by assumption) ?_
      case hyc15 => (intro w hSw; (try dsimp only at hSw); go_simp <;> with_reducible rfl)
      (try simp only [Act.put, List.setIfInBounds_toArray, List.set_cons_zero, List.set_cons_succ])
      refine wpAnyH_done (by kernel_rfl) ?_ _
      have HE := hid ((E0.out.drew.trans he5).trans he6)
      have HX := hid ((X0.out.ext (Ext.refl _).drew).ext (he5.trans he6))
      have Hps := hid hps
      have Hli := hid hli
      clear c0 c1 c2 dm he5 he6 hps hli
      go_wp2
      go_loopg [30, 9] m.length (fun g i n wr => ∃ k : Nat, k + g = m.length ∧ i = .int .i64 k ∧ n = .int .i64 (cntTo m k s) ∧ Hid (worseTo p m h s k) ∧ Hid (Ext w6 wr))
      case atStart => exact ⟨0, by omega, rfl, rfl, fun x hx => by omega, Ext.refl _⟩
      case round =>
        obtain ⟨k, hk, rfl, rfl, Hw, E1⟩ := hrel
        have hkl : k ≤ m.length := by omega
        have Hk := hid hk
        clear hk
        have b1 := cntTo_le m k s
        by_cases hkt : k < m.length
        · have hkn : k < p.hands.length := by have := Hml.out; omega
          have dk := (HM.out.get' k hkt).2 _ (HE.out.trans E1.out)
          by_cases e : fn m k = s
          · have e' : (fn m k == (s : Int)) = true := by simpa using e
            have Hc := hid (cntTo_bool e')
            obtain ⟨c0, c1, c2⟩ := (HX.out.ext E1.out).cells
            obtain ⟨bs', os', hse, ds⟩ := HRows.out _ (HE.out.trans E1.out)
            simp only [Option.some.injEq, Addr.mk.injEq, and_true] at hse
            obtain ⟨rfl, rfl⟩ := hse
            have HS : Hid (∀ n x, Calls Try.prog 101 #[.slice ars (rowAt p.shifts s).length crs, .int .i64 x] (wr.drewN n) fun e w' => e = .returned (.int .i64 (rankI (rowAt p.shifts s) x)) ∧ w' = wr.drewN n) :=
              fun n x => (Rank_any _ _ x _ (HRis.out.ext ((HE.out.trans E1.out).drewN n))).mono fun _ _ ⟨he, hw⟩ => ⟨he, hw.symm⟩
            by_cases hlt2 : rankI (rowAt p.shifts s) h < rankI (rowAt p.shifts s) k
            · have Hf := hid (blk_ref_yes (hp := hok) Hmat.out hlt hkn Hps.out Hli.out e hlt2)
              clear e
              go_wp2
              go_quiet ((go_at_call 101; exact Calls.quiet_of_same (HS.out _ _)))
              go_wp2
              go_ret
              exact ⟨ret_bool Hf.out.symm, (HE.out.trans E1.out).drewN _⟩
            · have Hw' : Hid (worseTo p m h s (k + 1)) := fun x hx ex => by
                rcases Nat.lt_or_ge x k with h' | h'
                · exact Hw.out x h' ex
                · obtain rfl : x = k := by omega
                  exact hlt2
              clear e
              go_wp2
              go_quiet ((go_at_call 101; exact Calls.quiet_of_same (HS.out _ _)))
              go_wp2
              go_roundg (gk - 1)
              case rel => exact ⟨k + 1, by have := Hk.out; omega, by go_num, by rw [Hc.out]; simp, Hw', E1.out.drewN _⟩
              case measure => have := Hk.out; omega
          · have e' : (fn m k == (s : Int)) = false := by simpa using e
            have Hc := hid (cntTo_bool e')
            have Hw' : Hid (worseTo p m h s (k + 1)) := fun x hx ex => by
              rcases Nat.lt_or_ge x k with h' | h'
              · exact Hw.out x h' ex
              · obtain rfl : x = k := by omega
                exact absurd ex e
            clear e
            go_wp2
            go_roundg (gk - 1)
            case rel => exact ⟨k + 1, by have := Hk.out; omega, by go_num, by rw [Hc.out]; simp, Hw', E1⟩
            case measure => have := Hk.out; omega
        · have ekn : k = p.hands.length := by have := Hml.out; omega
          have hw2 := Hw.out
          rw [ekn] at hw2
          have hend := blk_ref_end (hp := hok) Hmat.out hlt hslt Hps.out Hli.out hw2
          rw [← cntTo_all, ← ekn] at hend
          have Hf := hid hend
          obtain ⟨c0, c1, c2⟩ := (HX.out.ext E1.out).cells
          obtain ⟨bp', op', hpe, hpc'⟩ : ∃ bp' op', (some ⟨bp, op, none⟩ : Option Addr) = some ⟨bp', op', none⟩ ∧ True := ⟨_, _, rfl, trivial⟩
          have dp := HPc.out _ (HE.out.trans E1.out)
          rw [Int.toNat_natCast] at dp
          clear ekn hw2 hend hpe hpc'
          go_wp2
          go_ret
          exact ⟨ret_bool Hf.out.symm, HE.out.trans E1.out⟩

set_option maxRecDepth 20000 in
set_option maxHeartbeats 4000000 in
theorem RBlocks_any (vh vs vp vm : Value) (p : PlanD) (hok : PlanOk p) (m : List Int) (w : World) (hp : PlanR w vh vs vp p) (hm : Ints w vm m) (hmat : MatL p hok m) :
    Calls Try.prog 38 #[.agg #[vh, vs, vp], vm] w fun e w' => ∃ u, e = .returned u ∧ OwnPr w.heap.size w' u (blkAll p hok m) ∧ Ext w w' := by
  obtain ⟨aoh, caph, aos, caps, aop, capp, rfl, rfl, rfl⟩ := planR_shape hp
  have HP := hid hp
  have HM := hid hm
  have Hmat := hid hmat
  have hn6 := hok.h6
  have hs4 := hok.s4
  obtain ⟨-, am, cm, rfl, -⟩ := id hm
  clear hp hm hmat
  obtain ⟨i0, hi, hz0, hz1, hz2⟩ := info_parts info_pair
  have e0 := hid (Ext.ofAlloc w (.cells #[.slice aoh p.hands.length caph, .slice aos p.shifts.length caps, .slice aop p.places.length capp] 25))
  have X0 := hid (Box3.alloc w 25 (.slice aoh p.hands.length caph) (.slice aos p.shifts.length caps) (.slice aop p.places.length capp))
  go_enter Try.func38, Try.ntmps38
  go_wp2
  have hszW : (w.alloc (.cells #[.slice aoh p.hands.length caph, .slice aos p.shifts.length caps, .slice aop p.places.length capp] 25)).heap.size = w.heap.size + 1 := by simp
  have HszW := hid hszW
  clear hszW
  generalize w.alloc (.cells #[.slice aoh p.hands.length caph, .slice aos p.shifts.length caps, .slice aop p.places.length capp] 25) = W at *
  go_loopg [11, 5] p.hands.length (fun g i v wr => ∃ k : Nat, k + g = p.hands.length ∧ i = .int .i64 k ∧ Hid (OwnPr (w.heap.size + 1) wr v (blkTo p hok m k)) ∧ Hid (Ext W wr))
  case atStart => exact ⟨0, by omega, rfl, World.ownsRow_nil _ _ _ _, Ext.refl _⟩
  case round =>
    obtain ⟨h, hk, rfl, OWN, EE⟩ := hrel
    have Hkh := hid hk
    have hkl : h ≤ p.hands.length := by omega
    clear hk
    by_cases hlt : h < p.hands.length
    · obtain ⟨c0, c1, c2⟩ := (X0.out.ext EE.out).cells
      go_wp2
      clear c0 c1 c2
      go_loopg [17, 5] p.shifts.length (fun g i v wr => ∃ k : Nat, k + g = p.shifts.length ∧ i = .int .i64 k ∧ Hid (OwnPr (w.heap.size + 1) wr v (blkTo p hok m h ++ blkRow p hok m h k)) ∧ Hid (Ext W wr))
      case atStart => exact ⟨0, by omega, rfl, hid (by have := OWN.out; simpa [blkRow] using this), EE⟩
      case round =>
        clear OWN EE
        obtain ⟨s, hks, rfl, OWN, EE⟩ := hrel
        have Hks := hid hks
        have hksl : s ≤ p.shifts.length := by omega
        clear hks
        by_cases hslt : s < p.shifts.length
        · have E := hid (e0.out.trans EE.out)
          obtain ⟨c0, c1, c2⟩ := (X0.out.ext EE.out).cells
          have hbl := blkTo_len (p := p) (hp := hok) (m := m) (j := h)
          have hbr := blkRow_len (p := p) (hp := hok) (m := m) (h := h) (k := s)
          have hbsum : (blkTo p hok m h ++ blkRow p hok m h s).length ≤ 40 := by rw [List.length_append]; omega
          have Hbs := hid hbsum
          clear hbl hbr hbsum
          go_wp2_with (fail)
          refine (Rblocks_any _ _ _ _ p hok m h s _ (HP.out.ext E.out) (HM.out.ext E.out) Hmat.out hlt hslt).mono ?_
          cases hb : blkB p hok m h s
          · have Hno := hid (blkRow_no hb)
            rintro e w7 ⟨rfl, he7⟩
            have O7 := hid (ownsRow_ext OWN.out he7)
            have EE7 := hid (EE.out.trans he7)
            clear c0 c1 c2 he7
            go_wp2
            go_roundg (gk - 1)
            case rel => exact ⟨s + 1, by have := Hks.out; omega, by go_num, by rw [Hno.out]; exact O7.out, EE7.out⟩
            case measure => have := Hks.out; omega
          · have Hyes := hid (blkRow_yes hb)
            rintro e W7 ⟨rfl, he7⟩
            have O7 := hid (ownsRow_ext OWN.out he7)
            have EE7 := hid (EE.out.trans he7)
            have hsz7 := EE7.out.size
            rw [HszW.out] at hsz7
            clear c0 c1 c2 he7 hb
            go_wp2_with (at_builtin; refine wpList_append_own _ rfl _ _ 46 rfl (w.heap.size + 1) 52 i0 (.agg #[.int .i64 0, .int .i64 0]) 2 16 Try.underlying46 hi hz0 hz1 hz2 rfl (by decide) _ _ _ rfl (O7.out.alloc _) ⟨W7.heap.size, 0, none⟩ 1 1 [.int .i64 h, .int .i64 s] rfl rfl ?c1 ?c2 ?c3 ?c4 ?c5 ?_)
            case c1 => exact cell_two_new _ _ _ _
            case c2 => intro u hu; simp at hu; rcases hu with rfl | rfl <;> rfl
            case c3 => have := Hbs.out; unfold maxLen; omega
            case c4 => have := Hbs.out; omega
            case c5 => simp; omega
            intro v' w' hown' hg _
            have hR := OwnPr.push (by rw [List.length_append]) hown'
            rw [List.append_assoc, ← Hyes.out] at hR
            have hE := Ext.push EE7.out O7.out (Nat.le_of_eq HszW.out) hg
            have HR := hid hR
            have HE := hid hE
            clear hown' hg hR hE
            go_wp2
            go_roundg (gk - 1)
            case rel => exact ⟨s + 1, by have := Hks.out; omega, by go_num, HR.out, HE.out⟩
            case measure => have := Hks.out; omega
        · have hO : OwnPr (w.heap.size + 1) wr u5 (blkTo p hok m (h + 1)) := by
            have h1 := OWN.out
            have e : s = p.shifts.length := (by omega)
            rw [e, ← blkTo_succ] at h1
            exact h1
          have HO := hid hO
          clear hO
          go_wp2
          go_roundg (p.hands.length - (h + 1))
          case rel => exact ⟨h + 1, by omega, by go_num, HO.out, EE⟩
          case measure => have := Hkh.out; omega
    · have hO : OwnPr (w.heap.size + 1) wr u5 (blkAll p hok m) := by
        have h1 := OWN.out
        have e : h = p.hands.length := (by omega)
        rw [e] at h1
        exact h1
      have HO := hid hO
      clear hO
      go_wp2
      go_ret
      exact ⟨_, rfl, ownsRow_base HO.out (Nat.le_succ _), e0.out.trans EE.out⟩

set_option maxHeartbeats 1000000 in
theorem RIsStable_any (vh vs vp vm : Value) (p : PlanD) (hok : PlanOk p) (m : List Int) (w : World) (hp : PlanR w vh vs vp p) (hm : Ints w vm m) :
    Calls Try.prog 30 #[.agg #[vh, vs, vp], vm] w fun e w' => e = .returned (.bool (stB p hok m)) ∧ Ext w w' := by
  obtain ⟨aoh, caph, aos, caps, aop, capp, rfl, rfl, rfl⟩ := planR_shape hp
  obtain ⟨-, aom, capm, rfl, -⟩ := id hm
  have HP := hid hp
  have HM := hid hm
  clear hp hm
  go_enter Try.func30, Try.ntmps30
  go_wp2_with (fail)
  refine (RMatching_any _ _ _ _ p hok m _ (HP.out.ext (Ext.ofAlloc _ _)) (HM.out.ext (Ext.ofAlloc _ _))).mono ?_
  cases hb : matB p hok m
  · have Hf := hid (stB_no (p := p) (hp := hok) (m := m) fun h => by have := matB_iff.2 h.mat; rw [hb] at this; simp at this)
    rintro e w1 ⟨rfl, he⟩
    have HE := hid ((Ext.ofAlloc w _).trans he)
    clear he
    go_wp2
    go_ret
    exact ⟨ret_bool Hf.out.symm, HE.out⟩
  · have Hm := hid (matB_iff.1 hb)
    rintro e w1 ⟨rfl, he⟩
    obtain ⟨c0, c1, c2⟩ := ((Box3.alloc w 25 (.slice aoh p.hands.length caph) (.slice aos p.shifts.length caps) (.slice aop p.places.length capp)).ext he).cells
    have HE := hid ((Ext.ofAlloc w _).trans he)
    clear he
    go_wp2_with (fail)
    refine (RBlocks_any _ _ _ _ p hok m _ (HP.out.ext HE.out) (HM.out.ext HE.out) Hm.out).mono ?_
    rintro e w2 ⟨u, rfl, hu, he2⟩
    obtain ⟨ua, uc, rfl⟩ := own_len hu
    have hz := blk_len_zero Hm.out
    have HE2 := hid (HE.out.trans he2)
    clear hu he2
    generalize (blkAll p hok m).length = L at *
    go_wp2
    go_ret
    exact ⟨rfl, HE2.out⟩

end Go.Proofs.Ytkdfbbkonbgfmaa
