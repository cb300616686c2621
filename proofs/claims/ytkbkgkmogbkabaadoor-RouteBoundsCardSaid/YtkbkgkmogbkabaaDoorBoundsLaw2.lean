/-
  Texts of this claim, part 2: RtMoats, RtChkMoats, SnBoundLaw.
-/
import Derived.Test.YtkbkgkmogbkabaaDoorK6
import Derived.Test.YtkbkgkmogbkabaaDoorK9
import Derived.Test.YtkbkgkmogbkabaaDoorBoundsLaw1
/-
  Contract of moats, of the program.
-/
namespace Go.Proofs.YtkbkgkmogbkabaaDoor
open Go.RowKit

set_option maxRecDepth 20000 in
set_option maxHeartbeats 16000000 in
theorem Moats_any (vr vm : Value) (N : Nat) (rs : List RoadD) (stops : Int) (ms : List MoatD) (w : World) (hv : Roads w vr rs) (hm : Moats w vm ms) (hok : ∀ r ∈ rs, roadOk N r = true) (hN8 : N ≤ 8) :
    Calls Tryd.prog 46 #[.agg #[.int .i64 N, vr], .int .i64 stops, vm] w fun e w' => e = .returned (.tuple #[.int .i64 (chkV N rs stops ms), .bool (chkB N rs stops ms)]) ∧ Ext w w' := by
  obtain ⟨ao, cap, rfl⟩ := hv.shape
  have HV := hid hv
  have HM := hid hm
  have hlen : ms.length ≤ 8796093022208 := hm.1
  have hlr : rs.length ≤ 5864062014805 := hv.1
  obtain ⟨am, cm, rfl⟩ := hm.shape
  have HAll := hid hok
  have X0 := hid (Box2.alloc w 31 (.int .i64 N) (.slice ao rs.length cap))
  have HE0 := hid (Ext.ofAlloc w (.cells #[.int .i64 N, .slice ao rs.length cap] 31))
  obtain ⟨p0, p1⟩ := pow_in (N : Int) (by omega) (by omega)
  rw [Int.toNat_natCast] at p0 p1
  obtain ⟨pw, hpw⟩ : ∃ x : Int, x = 2 ^ N := ⟨_, rfl⟩
  rw [← hpw] at p0 p1
  have hw : wrap64 (2 ^ N) = pw := by rw [← hpw]; exact IntWalk.wrap64_in _ (by omega)
  have hw2 : IntKind.i64.wrap (2 ^ N) = pw := by rw [← hpw, IntKind.wrap_i64]; omega
  have Hpw := hid hpw
  clear hpw hv hm hok
  by_cases h200 : ms.length ≤ 200
  · have hl1 : ¬ (200 : Int) < ms.length := by omega
    have HC : Hid (chkV N rs stops ms = fitV N rs stops ms ∧ chkB N rs stops ms = fitB N rs stops ms) := by
      unfold chkV chkB
      rw [if_pos h200, if_pos h200]; exact ⟨rfl, rfl⟩
    clear h200
    go_enter Tryd.func46, Tryd.ntmps46
    go_wp2
    generalize w.alloc (.cells #[.int .i64 N, .slice ao rs.length cap] 31) = W at *
    go_loopg [21, 8] ms.length (fun g i v wr => ∃ (k : Nat) (s : Int), k + g = ms.length ∧ i = .int .i64 k ∧ v = .int .i64 s ∧ 0 ≤ s ∧ s ≤ 1000 * (k : Int) ∧ Hid (s = sumW (ms.take k)) ∧ Hid (∀ x ∈ ms.take k, moatP N stops x) ∧ Hid (Ext W wr))
    case atStart => exact ⟨0, 0, by omega, rfl, rfl, by omega, by omega, rfl, fun x hx => by simp at hx, Ext.refl _⟩
    case round =>
      obtain ⟨k, s, hk, rfl, rfl, hs0, hs1, SUM, OKS, E⟩ := hrel
      have hkl : k ≤ ms.length := by omega
      have Hk := hid hk
      clear hk
      by_cases hlt : k < ms.length
      · obtain ⟨bm, om, rfl, hce⟩ := Moats.get HM.out k hlt
        obtain ⟨e0, e1⟩ := hce _ (HE0.out.trans E.out)
        have Hs := hid (sumW_succ hlt)
        have Hxm := hid (moatAt_mem hlt)
        have Htk : Hid (ms.take (k + 1) = ms.take k ++ [moatAt ms k]) := by
          show _ = _
          rw [List.take_succ_eq_append_getElem hlt, moatAt_get hlt]
        generalize moatAt ms k = x at *
        have EA := hid (E.out.alloc (.cells #[.int .i64 x.set, .int .i64 x.width] 74))
        obtain ⟨b0, b1⟩ := (Box2.alloc wr 74 (.int .i64 x.set) (.int .i64 x.width)).cells
        have B1 := hid b1
        have cn := (X0.out.ext EA.out).cells.1
        have EA2 := hid EA.out.drew
        clear hce
        by_cases z0 : x.set < 0
        · have HR := hid (fit_bad (rs := rs) (n := (N : Int)) (stops := stops) Hxm.out (fun h => by obtain ⟨h1, h2, h3, h4, h5, h6⟩ := h; rw [Int.toNat_natCast, ← Hpw.out] at h2; first | omega | exact h3 z0 | exact h4 z0))
          have z0b : decide (x.set < 0) = true := decide_eq_true z0
          clear z0
          go_wp2
          refine wp_region_held_drew (S := (fun w' => w'.cell? ⟨wr.heap.size, 0, none⟩ = some (.int .i64 x.set) ∧ w'.cell? ⟨wr.heap.size, 1, none⟩ = some (.int .i64 x.width) ∧ w'.cell? ⟨w.heap.size, 0, none⟩ = some (.int .i64 N))) (by kernel_rfl) ?hSa0 (fun hHeld => ?_)
          case hSa0 => (first | (exact ⟨b0, b1, cn⟩) | ((try dsimp only); exact ⟨b0, b1, cn⟩))
          refine wpAnyH_tk 0 (v := ?va0) rfl (by kernel_rfl) (by kernel_rfl) (by kernel_rfl) (fun _ _ _ h => h) (by rfl) ?hya0 (by assumption) ?_
          case hya0 => (intro w hSw; (try dsimp only at hSw); go_simp <;> with_reducible rfl)
          (try simp only [Act.put, List.setIfInBounds_toArray, List.set_cons_zero, List.set_cons_succ])
          refine wpAnyH_tk 1 (v := ?va1) rfl (by kernel_rfl) (by kernel_rfl) (by kernel_rfl) (fun _ _ _ h => h) (by rfl) ?hya1 (by assumption) ?_
          case hya1 => (intro w hSw; (try dsimp only at hSw); go_simp <;> with_reducible rfl)
          (try simp only [Act.put, List.setIfInBounds_toArray, List.set_cons_zero, List.set_cons_succ])
          refine wpAnyH_tk 2 (v := ?va2) rfl (by kernel_rfl) (by kernel_rfl) (by kernel_rfl) (fun _ _ _ h => h) (by rfl) ?hya2 (by assumption) ?_
          case hya2 => (intro w hSw; (try dsimp only at hSw); go_simp <;> with_reducible rfl)
          (try simp only [Act.put, List.setIfInBounds_toArray, List.set_cons_zero, List.set_cons_succ])
          refine wpAnyH_tk 3 (v := ?va3) rfl (by kernel_rfl) (by kernel_rfl) (by kernel_rfl) (fun _ _ _ h => h) (by rfl) ?hya3 (by assumption) ?_
          case hya3 => (intro w hSw; (try dsimp only at hSw); go_simp <;> with_reducible rfl)
          (try simp only [Act.put, List.setIfInBounds_toArray, List.set_cons_zero, List.set_cons_succ])
          refine wpAnyH_skips 3 false 28 25 (by kernel_rfl) rfl (fun _ _ _ _ _ h => h) [4, 5, 6, 7, 8, 9] [29, 30, 31, 32, 33, 34] _ _ _ rfl (by kernel_rfl) (by rfl) (by assumption) ?_
          (try simp only [putsAll, List.foldl, Act.put, List.setIfInBounds_toArray, List.set_cons_zero, List.set_cons_succ])
          refine wpAnyH_tk 10 (v := ?va10) rfl (by kernel_rfl) (by kernel_rfl) (by kernel_rfl) (fun _ _ _ h => h) (by rfl) ?hya10 (by assumption) ?_
          case hya10 => (intro w hSw; (try dsimp only at hSw); go_simp <;> with_reducible rfl)
          (try simp only [Act.put, List.setIfInBounds_toArray, List.set_cons_zero, List.set_cons_succ])
          refine wpAnyH_tk 11 (v := ?va11) rfl (by kernel_rfl) (by kernel_rfl) (by kernel_rfl) (fun _ _ _ h => h) (by rfl) ?hya11 (by assumption) ?_
          case hya11 => (intro w hSw; (try dsimp only at hSw); go_simp <;> with_reducible rfl)
          (try simp only [Act.put, List.setIfInBounds_toArray, List.set_cons_zero, List.set_cons_succ])
          refine wpAnyH_skips 11 false 36 18 (by kernel_rfl) rfl (fun _ _ _ _ _ h => h) [12, 13, 14, 15, 16] [37, 38, 39, 40, 41] _ _ _ rfl (by kernel_rfl) (by rfl) (by assumption) ?_
          (try simp only [putsAll, List.foldl, Act.put, List.setIfInBounds_toArray, List.set_cons_zero, List.set_cons_succ])
          refine wpAnyH_tk 17 (v := ?va17) rfl (by kernel_rfl) (by kernel_rfl) (by kernel_rfl) (fun _ _ _ h => h) (by rfl) ?hya17 (by assumption) ?_
          case hya17 => (intro w hSw; (try dsimp only at hSw); go_simp <;> with_reducible rfl)
          (try simp only [Act.put, List.setIfInBounds_toArray, List.set_cons_zero, List.set_cons_succ])
          refine wpAnyH_tk 18 (v := ?va18) rfl (by kernel_rfl) (by kernel_rfl) (by kernel_rfl) (fun _ _ _ h => h) (by rfl) ?hya18 (by assumption) ?_
          case hya18 => (intro w hSw; (try dsimp only at hSw); go_simp <;> with_reducible rfl)
          (try simp only [Act.put, List.setIfInBounds_toArray, List.set_cons_zero, List.set_cons_succ])
          refine wpAnyH_skips 18 false 43 11 (by kernel_rfl) rfl (fun _ _ _ _ _ h => h) [19, 20, 21, 22, 23] [44, 45, 46, 47, 48] _ _ _ rfl (by kernel_rfl) (by rfl) (by assumption) ?_
          (try simp only [putsAll, List.foldl, Act.put, List.setIfInBounds_toArray, List.set_cons_zero, List.set_cons_succ])
          refine wpAnyH_tk 24 (v := ?va24) rfl (by kernel_rfl) (by kernel_rfl) (by kernel_rfl) (fun _ _ _ h => h) (by rfl) ?hya24 (by assumption) ?_
          case hya24 => (intro w hSw; (try dsimp only at hSw); go_simp <;> with_reducible rfl)
          (try simp only [Act.put, List.setIfInBounds_toArray, List.set_cons_zero, List.set_cons_succ])
          refine wpAnyH_tk 25 (v := ?va25) rfl (by kernel_rfl) (by kernel_rfl) (by kernel_rfl) (fun _ _ _ h => h) (by rfl) ?hya25 (by assumption) ?_
          case hya25 => (intro w hSw; (try dsimp only at hSw); go_simp <;> with_reducible rfl)
          (try simp only [Act.put, List.setIfInBounds_toArray, List.set_cons_zero, List.set_cons_succ])
          refine wpAnyH_skips 25 false 50 6 (by kernel_rfl) rfl (fun _ _ _ _ _ h => h) [26, 27, 28] [51, 52, 53] _ _ _ rfl (by kernel_rfl) (by rfl) (by assumption) ?_
          (try simp only [putsAll, List.foldl, Act.put, List.setIfInBounds_toArray, List.set_cons_zero, List.set_cons_succ])
          refine wpAnyH_tk 29 (v := ?va29) rfl (by kernel_rfl) (by kernel_rfl) (by kernel_rfl) (fun _ _ _ h => h) (by rfl) ?hya29 (by assumption) ?_
          case hya29 => (intro w hSw; (try dsimp only at hSw); go_simp <;> with_reducible rfl)
          (try simp only [Act.put, List.setIfInBounds_toArray, List.set_cons_zero, List.set_cons_succ])
          refine wpAnyH_tk 30 (v := ?va30) rfl (by kernel_rfl) (by kernel_rfl) (by kernel_rfl) (fun _ _ _ h => h) (by rfl) ?hya30 (by assumption) ?_
          case hya30 => (intro w hSw; (try dsimp only at hSw); go_simp <;> with_reducible rfl)
          (try simp only [Act.put, List.setIfInBounds_toArray, List.set_cons_zero, List.set_cons_succ])
          refine wpAnyH_skips 30 false 55 1 (by kernel_rfl) rfl (fun _ _ _ _ _ h => h) [31, 32, 33] [56, 57, 58] _ _ _ rfl (by kernel_rfl) (by rfl) (by assumption) ?_
          (try simp only [putsAll, List.foldl, Act.put, List.setIfInBounds_toArray, List.set_cons_zero, List.set_cons_succ])
          refine wpAnyH_tk 34 (v := ?va34) rfl (by kernel_rfl) (by kernel_rfl) (by kernel_rfl) (fun _ _ _ h => h) (by rfl) ?hya34 (by assumption) ?_
          case hya34 => (intro w hSw; (try dsimp only at hSw); go_simp <;> with_reducible rfl)
          (try simp only [Act.put, List.setIfInBounds_toArray, List.set_cons_zero, List.set_cons_succ])
          refine wpAnyH_done (by kernel_rfl) ?_ _
          clear hHeld b0 b1 cn e0 e1
          go_wp2
          go_ret2
          exact ⟨by rw [HC.out.1, HC.out.2, HR.out.1, HR.out.2]; rfl, HE0.out.trans EA2.out⟩
        · have z0b : decide (x.set < 0) = false := decide_eq_false z0
          by_cases z1 : pw ≤ x.set
          · have HR := hid (fit_bad (rs := rs) (n := (N : Int)) (stops := stops) Hxm.out (fun h => by obtain ⟨h1, h2, h3, h4, h5, h6⟩ := h; rw [Int.toNat_natCast, ← Hpw.out] at h2; first | omega | exact h3 z1 | exact h4 z1))
            have z1b : decide (pw ≤ x.set) = true := decide_eq_true z1
            clear z0 z1
            go_wp2
            refine wp_region_held_drew (S := (fun w' => w'.cell? ⟨wr.heap.size, 0, none⟩ = some (.int .i64 x.set) ∧ w'.cell? ⟨wr.heap.size, 1, none⟩ = some (.int .i64 x.width) ∧ w'.cell? ⟨w.heap.size, 0, none⟩ = some (.int .i64 N))) (by kernel_rfl) ?hSb0 (fun hHeld => ?_)
            case hSb0 => (first | (exact ⟨b0, b1, cn⟩) | ((try dsimp only); exact ⟨b0, b1, cn⟩))
            refine wpAnyH_tk 0 (v := ?vb0) rfl (by kernel_rfl) (by kernel_rfl) (by kernel_rfl) (fun _ _ _ h => h) (by rfl) ?hyb0 (by assumption) ?_
            case hyb0 => (intro w hSw; (try dsimp only at hSw); go_simp <;> with_reducible rfl)
            (try simp only [Act.put, List.setIfInBounds_toArray, List.set_cons_zero, List.set_cons_succ])
            refine wpAnyH_tk 1 (v := ?vb1) rfl (by kernel_rfl) (by kernel_rfl) (by kernel_rfl) (fun _ _ _ h => h) (by rfl) ?hyb1 (by assumption) ?_
            case hyb1 => (intro w hSw; (try dsimp only at hSw); go_simp <;> with_reducible rfl)
            (try simp only [Act.put, List.setIfInBounds_toArray, List.set_cons_zero, List.set_cons_succ])
            refine wpAnyH_tk 2 (v := ?vb2) rfl (by kernel_rfl) (by kernel_rfl) (by kernel_rfl) (fun _ _ _ h => h) (by rfl) ?hyb2 (by assumption) ?_
            case hyb2 => (intro w hSw; (try dsimp only at hSw); go_simp <;> with_reducible rfl)
            (try simp only [Act.put, List.setIfInBounds_toArray, List.set_cons_zero, List.set_cons_succ])
            refine wpAnyH_tk 3 (v := ?vb3) rfl (by kernel_rfl) (by kernel_rfl) (by kernel_rfl) (fun _ _ _ h => h) (by rfl) ?hyb3 (by assumption) ?_
            case hyb3 => (intro w hSw; (try dsimp only at hSw); go_simp <;> with_reducible rfl)
            (try simp only [Act.put, List.setIfInBounds_toArray, List.set_cons_zero, List.set_cons_succ])
            refine wpAnyH_tk 4 (v := ?vb4) rfl (by kernel_rfl) (by kernel_rfl) (by kernel_rfl) (fun _ _ _ h => h) (by rfl) ?hyb4 (by assumption) ?_
            case hyb4 => (intro w hSw; (try dsimp only at hSw); go_simp <;> with_reducible rfl)
            (try simp only [Act.put, List.setIfInBounds_toArray, List.set_cons_zero, List.set_cons_succ])
            refine wpAnyH_tk 5 (v := ?vb5) rfl (by kernel_rfl) (by kernel_rfl) (by kernel_rfl) (fun _ _ _ h => h) (by rfl) ?hyb5 (by assumption) ?_
            case hyb5 => (intro w hSw; (try dsimp only at hSw); go_simp <;> with_reducible rfl)
            (try simp only [Act.put, List.setIfInBounds_toArray, List.set_cons_zero, List.set_cons_succ])
            refine wpAnyH_tk 6 (v := ?vb6) rfl (by kernel_rfl) (by kernel_rfl) (by kernel_rfl) (fun _ _ _ h => h) (by rfl) ?hyb6 (by assumption) ?_
            case hyb6 => (intro w hSw; (try dsimp only at hSw); go_simp <;> with_reducible rfl)
            (try simp only [Act.put, List.setIfInBounds_toArray, List.set_cons_zero, List.set_cons_succ])
            refine wpAnyH_tk 7 (v := ?vb7) rfl (by kernel_rfl) (by kernel_rfl) (by kernel_rfl) (fun _ _ _ h => h) (by rfl) ?hyb7 (by assumption) ?_
            case hyb7 => (intro w hSw; (try dsimp only at hSw); go_simp <;> with_reducible rfl)
            (try simp only [Act.put, List.setIfInBounds_toArray, List.set_cons_zero, List.set_cons_succ])
            refine wpAnyH_tk 8 (v := ?vb8) rfl (by kernel_rfl) (by kernel_rfl) (by kernel_rfl) (fun _ _ _ h => h) (by rfl) ?hyb8 (by assumption) ?_
            case hyb8 => (intro w hSw; (try dsimp only at hSw); go_simp <;> with_reducible rfl)
            (try simp only [Act.put, List.setIfInBounds_toArray, List.set_cons_zero, List.set_cons_succ])
            refine wpAnyH_tk 9 (v := ?vb9) rfl (by kernel_rfl) (by kernel_rfl) (by kernel_rfl) (fun _ _ _ h => h) (by rfl) ?hyb9 (by assumption) ?_
            case hyb9 => (intro w hSw; (try dsimp only at hSw); go_simp <;> with_reducible rfl)
            (try simp only [Act.put, List.setIfInBounds_toArray, List.set_cons_zero, List.set_cons_succ])
            refine wpAnyH_tk 10 (v := ?vb10) rfl (by kernel_rfl) (by kernel_rfl) (by kernel_rfl) (fun _ _ _ h => h) (by rfl) ?hyb10 (by assumption) ?_
            case hyb10 => (intro w hSw; (try dsimp only at hSw); go_simp <;> with_reducible rfl)
            (try simp only [Act.put, List.setIfInBounds_toArray, List.set_cons_zero, List.set_cons_succ])
            refine wpAnyH_tk 11 (v := ?vb11) rfl (by kernel_rfl) (by kernel_rfl) (by kernel_rfl) (fun _ _ _ h => h) (by rfl) ?hyb11 (by assumption) ?_
            case hyb11 => (intro w hSw; (try dsimp only at hSw); go_simp <;> with_reducible rfl)
            (try simp only [Act.put, List.setIfInBounds_toArray, List.set_cons_zero, List.set_cons_succ])
            refine wpAnyH_skips 11 false 36 18 (by kernel_rfl) rfl (fun _ _ _ _ _ h => h) [12, 13, 14, 15, 16] [37, 38, 39, 40, 41] _ _ _ rfl (by kernel_rfl) (by rfl) (by assumption) ?_
            (try simp only [putsAll, List.foldl, Act.put, List.setIfInBounds_toArray, List.set_cons_zero, List.set_cons_succ])
            refine wpAnyH_tk 17 (v := ?vb17) rfl (by kernel_rfl) (by kernel_rfl) (by kernel_rfl) (fun _ _ _ h => h) (by rfl) ?hyb17 (by assumption) ?_
            case hyb17 => (intro w hSw; (try dsimp only at hSw); go_simp <;> with_reducible rfl)
            (try simp only [Act.put, List.setIfInBounds_toArray, List.set_cons_zero, List.set_cons_succ])
            refine wpAnyH_tk 18 (v := ?vb18) rfl (by kernel_rfl) (by kernel_rfl) (by kernel_rfl) (fun _ _ _ h => h) (by rfl) ?hyb18 (by assumption) ?_
            case hyb18 => (intro w hSw; (try dsimp only at hSw); go_simp <;> with_reducible rfl)
            (try simp only [Act.put, List.setIfInBounds_toArray, List.set_cons_zero, List.set_cons_succ])
            refine wpAnyH_skips 18 false 43 11 (by kernel_rfl) rfl (fun _ _ _ _ _ h => h) [19, 20, 21, 22, 23] [44, 45, 46, 47, 48] _ _ _ rfl (by kernel_rfl) (by rfl) (by assumption) ?_
            (try simp only [putsAll, List.foldl, Act.put, List.setIfInBounds_toArray, List.set_cons_zero, List.set_cons_succ])
            refine wpAnyH_tk 24 (v := ?vb24) rfl (by kernel_rfl) (by kernel_rfl) (by kernel_rfl) (fun _ _ _ h => h) (by rfl) ?hyb24 (by assumption) ?_
            case hyb24 => (intro w hSw; (try dsimp only at hSw); go_simp <;> with_reducible rfl)
            (try simp only [Act.put, List.setIfInBounds_toArray, List.set_cons_zero, List.set_cons_succ])
            refine wpAnyH_tk 25 (v := ?vb25) rfl (by kernel_rfl) (by kernel_rfl) (by kernel_rfl) (fun _ _ _ h => h) (by rfl) ?hyb25 (by assumption) ?_
            case hyb25 => (intro w hSw; (try dsimp only at hSw); go_simp <;> with_reducible rfl)
            (try simp only [Act.put, List.setIfInBounds_toArray, List.set_cons_zero, List.set_cons_succ])
            refine wpAnyH_skips 25 false 50 6 (by kernel_rfl) rfl (fun _ _ _ _ _ h => h) [26, 27, 28] [51, 52, 53] _ _ _ rfl (by kernel_rfl) (by rfl) (by assumption) ?_
            (try simp only [putsAll, List.foldl, Act.put, List.setIfInBounds_toArray, List.set_cons_zero, List.set_cons_succ])
            refine wpAnyH_tk 29 (v := ?vb29) rfl (by kernel_rfl) (by kernel_rfl) (by kernel_rfl) (fun _ _ _ h => h) (by rfl) ?hyb29 (by assumption) ?_
            case hyb29 => (intro w hSw; (try dsimp only at hSw); go_simp <;> with_reducible rfl)
            (try simp only [Act.put, List.setIfInBounds_toArray, List.set_cons_zero, List.set_cons_succ])
            refine wpAnyH_tk 30 (v := ?vb30) rfl (by kernel_rfl) (by kernel_rfl) (by kernel_rfl) (fun _ _ _ h => h) (by rfl) ?hyb30 (by assumption) ?_
            case hyb30 => (intro w hSw; (try dsimp only at hSw); go_simp <;> with_reducible rfl)
            (try simp only [Act.put, List.setIfInBounds_toArray, List.set_cons_zero, List.set_cons_succ])
            refine wpAnyH_skips 30 false 55 1 (by kernel_rfl) rfl (fun _ _ _ _ _ h => h) [31, 32, 33] [56, 57, 58] _ _ _ rfl (by kernel_rfl) (by rfl) (by assumption) ?_
            (try simp only [putsAll, List.foldl, Act.put, List.setIfInBounds_toArray, List.set_cons_zero, List.set_cons_succ])
            refine wpAnyH_tk 34 (v := ?vb34) rfl (by kernel_rfl) (by kernel_rfl) (by kernel_rfl) (fun _ _ _ h => h) (by rfl) ?hyb34 (by assumption) ?_
            case hyb34 => (intro w hSw; (try dsimp only at hSw); go_simp <;> with_reducible rfl)
            (try simp only [Act.put, List.setIfInBounds_toArray, List.set_cons_zero, List.set_cons_succ])
            refine wpAnyH_done (by kernel_rfl) ?_ _
            clear hHeld b0 b1 cn e0 e1
            go_wp2
            go_ret2
            exact ⟨by rw [HC.out.1, HC.out.2, HR.out.1, HR.out.2]; rfl, HE0.out.trans EA2.out⟩
          · have z1b : decide (pw ≤ x.set) = false := decide_eq_false z1
            by_cases z2 : bits .and .i64 x.set stops = 0
            · have HR := hid (fit_bad (rs := rs) (n := (N : Int)) (stops := stops) Hxm.out (fun h => by obtain ⟨h1, h2, h3, h4, h5, h6⟩ := h; rw [Int.toNat_natCast, ← Hpw.out] at h2; first | omega | exact h3 z2 | exact h4 z2))
              have z2b : (bits .and .i64 x.set stops == 0) = true := beq_iff_eq.2 z2
              clear z0 z1 z2
              go_wp2
              refine wp_region_held_drew (S := (fun w' => w'.cell? ⟨wr.heap.size, 0, none⟩ = some (.int .i64 x.set) ∧ w'.cell? ⟨wr.heap.size, 1, none⟩ = some (.int .i64 x.width) ∧ w'.cell? ⟨w.heap.size, 0, none⟩ = some (.int .i64 N))) (by kernel_rfl) ?hSc0 (fun hHeld => ?_)
              case hSc0 => (first | (exact ⟨b0, b1, cn⟩) | ((try dsimp only); exact ⟨b0, b1, cn⟩))
              refine wpAnyH_tk 0 (v := ?vc0) rfl (by kernel_rfl) (by kernel_rfl) (by kernel_rfl) (fun _ _ _ h => h) (by rfl) ?hyc0 (by assumption) ?_
              case hyc0 => (intro w hSw; (try dsimp only at hSw); go_simp <;> with_reducible rfl)
              (try simp only [Act.put, List.setIfInBounds_toArray, List.set_cons_zero, List.set_cons_succ])
              refine wpAnyH_tk 1 (v := ?vc1) rfl (by kernel_rfl) (by kernel_rfl) (by kernel_rfl) (fun _ _ _ h => h) (by rfl) ?hyc1 (by assumption) ?_
              case hyc1 => (intro w hSw; (try dsimp only at hSw); go_simp <;> with_reducible rfl)
              (try simp only [Act.put, List.setIfInBounds_toArray, List.set_cons_zero, List.set_cons_succ])
              refine wpAnyH_tk 2 (v := ?vc2) rfl (by kernel_rfl) (by kernel_rfl) (by kernel_rfl) (fun _ _ _ h => h) (by rfl) ?hyc2 (by assumption) ?_
              case hyc2 => (intro w hSw; (try dsimp only at hSw); go_simp <;> with_reducible rfl)
              (try simp only [Act.put, List.setIfInBounds_toArray, List.set_cons_zero, List.set_cons_succ])
              refine wpAnyH_tk 3 (v := ?vc3) rfl (by kernel_rfl) (by kernel_rfl) (by kernel_rfl) (fun _ _ _ h => h) (by rfl) ?hyc3 (by assumption) ?_
              case hyc3 => (intro w hSw; (try dsimp only at hSw); go_simp <;> with_reducible rfl)
              (try simp only [Act.put, List.setIfInBounds_toArray, List.set_cons_zero, List.set_cons_succ])
              refine wpAnyH_tk 4 (v := ?vc4) rfl (by kernel_rfl) (by kernel_rfl) (by kernel_rfl) (fun _ _ _ h => h) (by rfl) ?hyc4 (by assumption) ?_
              case hyc4 => (intro w hSw; (try dsimp only at hSw); go_simp <;> with_reducible rfl)
              (try simp only [Act.put, List.setIfInBounds_toArray, List.set_cons_zero, List.set_cons_succ])
              refine wpAnyH_tk 5 (v := ?vc5) rfl (by kernel_rfl) (by kernel_rfl) (by kernel_rfl) (fun _ _ _ h => h) (by rfl) ?hyc5 (by assumption) ?_
              case hyc5 => (intro w hSw; (try dsimp only at hSw); go_simp <;> with_reducible rfl)
              (try simp only [Act.put, List.setIfInBounds_toArray, List.set_cons_zero, List.set_cons_succ])
              refine wpAnyH_tk 6 (v := ?vc6) rfl (by kernel_rfl) (by kernel_rfl) (by kernel_rfl) (fun _ _ _ h => h) (by rfl) ?hyc6 (by assumption) ?_
              case hyc6 => (intro w hSw; (try dsimp only at hSw); go_simp <;> with_reducible rfl)
              (try simp only [Act.put, List.setIfInBounds_toArray, List.set_cons_zero, List.set_cons_succ])
              refine wpAnyH_tk 7 (v := ?vc7) rfl (by kernel_rfl) (by kernel_rfl) (by kernel_rfl) (fun _ _ _ h => h) (by rfl) ?hyc7 (by assumption) ?_
              case hyc7 => (intro w hSw; (try dsimp only at hSw); go_simp <;> with_reducible rfl)
              (try simp only [Act.put, List.setIfInBounds_toArray, List.set_cons_zero, List.set_cons_succ])
              refine wpAnyH_tk 8 (v := ?vc8) rfl (by kernel_rfl) (by kernel_rfl) (by kernel_rfl) (fun _ _ _ h => h) (by rfl) ?hyc8 (by assumption) ?_
              case hyc8 => (intro w hSw; (try dsimp only at hSw); go_simp <;> with_reducible rfl)
              (try simp only [Act.put, List.setIfInBounds_toArray, List.set_cons_zero, List.set_cons_succ])
              refine wpAnyH_tk 9 (v := ?vc9) rfl (by kernel_rfl) (by kernel_rfl) (by kernel_rfl) (fun _ _ _ h => h) (by rfl) ?hyc9 (by assumption) ?_
              case hyc9 => (intro w hSw; (try dsimp only at hSw); go_simp <;> with_reducible rfl)
              (try simp only [Act.put, List.setIfInBounds_toArray, List.set_cons_zero, List.set_cons_succ])
              refine wpAnyH_tk 10 (v := ?vc10) rfl (by kernel_rfl) (by kernel_rfl) (by kernel_rfl) (fun _ _ _ h => h) (by rfl) ?hyc10 (by assumption) ?_
              case hyc10 => (intro w hSw; (try dsimp only at hSw); go_simp <;> with_reducible rfl)
              (try simp only [Act.put, List.setIfInBounds_toArray, List.set_cons_zero, List.set_cons_succ])
              refine wpAnyH_tk 11 (v := ?vc11) rfl (by kernel_rfl) (by kernel_rfl) (by kernel_rfl) (fun _ _ _ h => h) (by rfl) ?hyc11 (by assumption) ?_
              case hyc11 => (intro w hSw; (try dsimp only at hSw); go_simp <;> with_reducible rfl)
              (try simp only [Act.put, List.setIfInBounds_toArray, List.set_cons_zero, List.set_cons_succ])
              refine wpAnyH_tk 12 (v := ?vc12) rfl (by kernel_rfl) (by kernel_rfl) (by kernel_rfl) (fun _ _ _ h => h) (by rfl) ?hyc12 (by assumption) ?_
              case hyc12 => (intro w hSw; (try dsimp only at hSw); go_simp <;> with_reducible rfl)
              (try simp only [Act.put, List.setIfInBounds_toArray, List.set_cons_zero, List.set_cons_succ])
              refine wpAnyH_tk 13 (v := ?vc13) rfl (by kernel_rfl) (by kernel_rfl) (by kernel_rfl) (fun _ _ _ h => h) (by rfl) ?hyc13 (by assumption) ?_
              case hyc13 => (intro w hSw; (try dsimp only at hSw); go_simp <;> with_reducible rfl)
              (try simp only [Act.put, List.setIfInBounds_toArray, List.set_cons_zero, List.set_cons_succ])
              refine wpAnyH_tk 14 (v := ?vc14) rfl (by kernel_rfl) (by kernel_rfl) (by kernel_rfl) (fun _ _ _ h => h) (by rfl) ?hyc14 (by assumption) ?_
              case hyc14 => (intro w hSw; (try dsimp only at hSw); go_simp <;> with_reducible rfl)
              (try simp only [Act.put, List.setIfInBounds_toArray, List.set_cons_zero, List.set_cons_succ])
              refine wpAnyH_tk 15 (v := ?vc15) rfl (by kernel_rfl) (by kernel_rfl) (by kernel_rfl) (fun _ _ _ h => h) (by rfl) ?hyc15 (by assumption) ?_
              case hyc15 => (intro w hSw; (try dsimp only at hSw); go_simp <;> with_reducible rfl)
              (try simp only [Act.put, List.setIfInBounds_toArray, List.set_cons_zero, List.set_cons_succ])
              refine wpAnyH_tk 16 (v := ?vc16) rfl (by kernel_rfl) (by kernel_rfl) (by kernel_rfl) (fun _ _ _ h => h) (by rfl) ?hyc16 (by assumption) ?_
              case hyc16 => (intro w hSw; (try dsimp only at hSw); go_simp <;> with_reducible rfl)
              (try simp only [Act.put, List.setIfInBounds_toArray, List.set_cons_zero, List.set_cons_succ])
              refine wpAnyH_tk 17 (v := ?vc17) rfl (by kernel_rfl) (by kernel_rfl) (by kernel_rfl) (fun _ _ _ h => h) (by rfl) ?hyc17 (by assumption) ?_
              case hyc17 => (intro w hSw; (try dsimp only at hSw); go_simp <;> with_reducible rfl)
              (try simp only [Act.put, List.setIfInBounds_toArray, List.set_cons_zero, List.set_cons_succ])
              refine wpAnyH_tk 18 (v := ?vc18) rfl (by kernel_rfl) (by kernel_rfl) (by kernel_rfl) (fun _ _ _ h => h) (by rfl) ?hyc18 (by assumption) ?_
              case hyc18 => (intro w hSw; (try dsimp only at hSw); go_simp <;> with_reducible rfl)
              (try simp only [Act.put, List.setIfInBounds_toArray, List.set_cons_zero, List.set_cons_succ])
              refine wpAnyH_skips 18 false 43 11 (by kernel_rfl) rfl (fun _ _ _ _ _ h => h) [19, 20, 21, 22, 23] [44, 45, 46, 47, 48] _ _ _ rfl (by kernel_rfl) (by rfl) (by assumption) ?_
              (try simp only [putsAll, List.foldl, Act.put, List.setIfInBounds_toArray, List.set_cons_zero, List.set_cons_succ])
              refine wpAnyH_tk 24 (v := ?vc24) rfl (by kernel_rfl) (by kernel_rfl) (by kernel_rfl) (fun _ _ _ h => h) (by rfl) ?hyc24 (by assumption) ?_
              case hyc24 => (intro w hSw; (try dsimp only at hSw); go_simp <;> with_reducible rfl)
              (try simp only [Act.put, List.setIfInBounds_toArray, List.set_cons_zero, List.set_cons_succ])
              refine wpAnyH_tk 25 (v := ?vc25) rfl (by kernel_rfl) (by kernel_rfl) (by kernel_rfl) (fun _ _ _ h => h) (by rfl) ?hyc25 (by assumption) ?_
              case hyc25 => (intro w hSw; (try dsimp only at hSw); go_simp <;> with_reducible rfl)
              (try simp only [Act.put, List.setIfInBounds_toArray, List.set_cons_zero, List.set_cons_succ])
              refine wpAnyH_skips 25 false 50 6 (by kernel_rfl) rfl (fun _ _ _ _ _ h => h) [26, 27, 28] [51, 52, 53] _ _ _ rfl (by kernel_rfl) (by rfl) (by assumption) ?_
              (try simp only [putsAll, List.foldl, Act.put, List.setIfInBounds_toArray, List.set_cons_zero, List.set_cons_succ])
              refine wpAnyH_tk 29 (v := ?vc29) rfl (by kernel_rfl) (by kernel_rfl) (by kernel_rfl) (fun _ _ _ h => h) (by rfl) ?hyc29 (by assumption) ?_
              case hyc29 => (intro w hSw; (try dsimp only at hSw); go_simp <;> with_reducible rfl)
              (try simp only [Act.put, List.setIfInBounds_toArray, List.set_cons_zero, List.set_cons_succ])
              refine wpAnyH_tk 30 (v := ?vc30) rfl (by kernel_rfl) (by kernel_rfl) (by kernel_rfl) (fun _ _ _ h => h) (by rfl) ?hyc30 (by assumption) ?_
              case hyc30 => (intro w hSw; (try dsimp only at hSw); go_simp <;> with_reducible rfl)
              (try simp only [Act.put, List.setIfInBounds_toArray, List.set_cons_zero, List.set_cons_succ])
              refine wpAnyH_skips 30 false 55 1 (by kernel_rfl) rfl (fun _ _ _ _ _ h => h) [31, 32, 33] [56, 57, 58] _ _ _ rfl (by kernel_rfl) (by rfl) (by assumption) ?_
              (try simp only [putsAll, List.foldl, Act.put, List.setIfInBounds_toArray, List.set_cons_zero, List.set_cons_succ])
              refine wpAnyH_tk 34 (v := ?vc34) rfl (by kernel_rfl) (by kernel_rfl) (by kernel_rfl) (fun _ _ _ h => h) (by rfl) ?hyc34 (by assumption) ?_
              case hyc34 => (intro w hSw; (try dsimp only at hSw); go_simp <;> with_reducible rfl)
              (try simp only [Act.put, List.setIfInBounds_toArray, List.set_cons_zero, List.set_cons_succ])
              refine wpAnyH_done (by kernel_rfl) ?_ _
              clear hHeld b0 b1 cn e0 e1
              go_wp2
              go_ret2
              exact ⟨by rw [HC.out.1, HC.out.2, HR.out.1, HR.out.2]; rfl, HE0.out.trans EA2.out⟩
            · have z2b : (bits .and .i64 x.set stops == 0) = false := beq_eq_false_iff_ne.2 z2
              by_cases z3 : bits .andNot .i64 stops x.set = 0
              · have HR := hid (fit_bad (rs := rs) (n := (N : Int)) (stops := stops) Hxm.out (fun h => by obtain ⟨h1, h2, h3, h4, h5, h6⟩ := h; rw [Int.toNat_natCast, ← Hpw.out] at h2; first | omega | exact h3 z3 | exact h4 z3))
                have z3b : (bits .andNot .i64 stops x.set == 0) = true := beq_iff_eq.2 z3
                clear z0 z1 z2 z3
                go_wp2
                refine wp_region_held_drew (S := (fun w' => w'.cell? ⟨wr.heap.size, 0, none⟩ = some (.int .i64 x.set) ∧ w'.cell? ⟨wr.heap.size, 1, none⟩ = some (.int .i64 x.width) ∧ w'.cell? ⟨w.heap.size, 0, none⟩ = some (.int .i64 N))) (by kernel_rfl) ?hSd0 (fun hHeld => ?_)
                case hSd0 => (first | (exact ⟨b0, b1, cn⟩) | ((try dsimp only); exact ⟨b0, b1, cn⟩))
                refine wpAnyH_tk 0 (v := ?vd0) rfl (by kernel_rfl) (by kernel_rfl) (by kernel_rfl) (fun _ _ _ h => h) (by rfl) ?hyd0 (by assumption) ?_
                case hyd0 => (intro w hSw; (try dsimp only at hSw); go_simp <;> with_reducible rfl)
                (try simp only [Act.put, List.setIfInBounds_toArray, List.set_cons_zero, List.set_cons_succ])
                refine wpAnyH_tk 1 (v := ?vd1) rfl (by kernel_rfl) (by kernel_rfl) (by kernel_rfl) (fun _ _ _ h => h) (by rfl) ?hyd1 (by assumption) ?_
                case hyd1 => (intro w hSw; (try dsimp only at hSw); go_simp <;> with_reducible rfl)
                (try simp only [Act.put, List.setIfInBounds_toArray, List.set_cons_zero, List.set_cons_succ])
                refine wpAnyH_tk 2 (v := ?vd2) rfl (by kernel_rfl) (by kernel_rfl) (by kernel_rfl) (fun _ _ _ h => h) (by rfl) ?hyd2 (by assumption) ?_
                case hyd2 => (intro w hSw; (try dsimp only at hSw); go_simp <;> with_reducible rfl)
                (try simp only [Act.put, List.setIfInBounds_toArray, List.set_cons_zero, List.set_cons_succ])
                refine wpAnyH_tk 3 (v := ?vd3) rfl (by kernel_rfl) (by kernel_rfl) (by kernel_rfl) (fun _ _ _ h => h) (by rfl) ?hyd3 (by assumption) ?_
                case hyd3 => (intro w hSw; (try dsimp only at hSw); go_simp <;> with_reducible rfl)
                (try simp only [Act.put, List.setIfInBounds_toArray, List.set_cons_zero, List.set_cons_succ])
                refine wpAnyH_tk 4 (v := ?vd4) rfl (by kernel_rfl) (by kernel_rfl) (by kernel_rfl) (fun _ _ _ h => h) (by rfl) ?hyd4 (by assumption) ?_
                case hyd4 => (intro w hSw; (try dsimp only at hSw); go_simp <;> with_reducible rfl)
                (try simp only [Act.put, List.setIfInBounds_toArray, List.set_cons_zero, List.set_cons_succ])
                refine wpAnyH_tk 5 (v := ?vd5) rfl (by kernel_rfl) (by kernel_rfl) (by kernel_rfl) (fun _ _ _ h => h) (by rfl) ?hyd5 (by assumption) ?_
                case hyd5 => (intro w hSw; (try dsimp only at hSw); go_simp <;> with_reducible rfl)
                (try simp only [Act.put, List.setIfInBounds_toArray, List.set_cons_zero, List.set_cons_succ])
                refine wpAnyH_tk 6 (v := ?vd6) rfl (by kernel_rfl) (by kernel_rfl) (by kernel_rfl) (fun _ _ _ h => h) (by rfl) ?hyd6 (by assumption) ?_
                case hyd6 => (intro w hSw; (try dsimp only at hSw); go_simp <;> with_reducible rfl)
                (try simp only [Act.put, List.setIfInBounds_toArray, List.set_cons_zero, List.set_cons_succ])
                refine wpAnyH_tk 7 (v := ?vd7) rfl (by kernel_rfl) (by kernel_rfl) (by kernel_rfl) (fun _ _ _ h => h) (by rfl) ?hyd7 (by assumption) ?_
                case hyd7 => (intro w hSw; (try dsimp only at hSw); go_simp <;> with_reducible rfl)
                (try simp only [Act.put, List.setIfInBounds_toArray, List.set_cons_zero, List.set_cons_succ])
                refine wpAnyH_tk 8 (v := ?vd8) rfl (by kernel_rfl) (by kernel_rfl) (by kernel_rfl) (fun _ _ _ h => h) (by rfl) ?hyd8 (by assumption) ?_
                case hyd8 => (intro w hSw; (try dsimp only at hSw); go_simp <;> with_reducible rfl)
                (try simp only [Act.put, List.setIfInBounds_toArray, List.set_cons_zero, List.set_cons_succ])
                refine wpAnyH_tk 9 (v := ?vd9) rfl (by kernel_rfl) (by kernel_rfl) (by kernel_rfl) (fun _ _ _ h => h) (by rfl) ?hyd9 (by assumption) ?_
                case hyd9 => (intro w hSw; (try dsimp only at hSw); go_simp <;> with_reducible rfl)
                (try simp only [Act.put, List.setIfInBounds_toArray, List.set_cons_zero, List.set_cons_succ])
                refine wpAnyH_tk 10 (v := ?vd10) rfl (by kernel_rfl) (by kernel_rfl) (by kernel_rfl) (fun _ _ _ h => h) (by rfl) ?hyd10 (by assumption) ?_
                case hyd10 => (intro w hSw; (try dsimp only at hSw); go_simp <;> with_reducible rfl)
                (try simp only [Act.put, List.setIfInBounds_toArray, List.set_cons_zero, List.set_cons_succ])
                refine wpAnyH_tk 11 (v := ?vd11) rfl (by kernel_rfl) (by kernel_rfl) (by kernel_rfl) (fun _ _ _ h => h) (by rfl) ?hyd11 (by assumption) ?_
                case hyd11 => (intro w hSw; (try dsimp only at hSw); go_simp <;> with_reducible rfl)
                (try simp only [Act.put, List.setIfInBounds_toArray, List.set_cons_zero, List.set_cons_succ])
                refine wpAnyH_tk 12 (v := ?vd12) rfl (by kernel_rfl) (by kernel_rfl) (by kernel_rfl) (fun _ _ _ h => h) (by rfl) ?hyd12 (by assumption) ?_
                case hyd12 => (intro w hSw; (try dsimp only at hSw); go_simp <;> with_reducible rfl)
                (try simp only [Act.put, List.setIfInBounds_toArray, List.set_cons_zero, List.set_cons_succ])
                refine wpAnyH_tk 13 (v := ?vd13) rfl (by kernel_rfl) (by kernel_rfl) (by kernel_rfl) (fun _ _ _ h => h) (by rfl) ?hyd13 (by assumption) ?_
                case hyd13 => (intro w hSw; (try dsimp only at hSw); go_simp <;> with_reducible rfl)
                (try simp only [Act.put, List.setIfInBounds_toArray, List.set_cons_zero, List.set_cons_succ])
                refine wpAnyH_tk 14 (v := ?vd14) rfl (by kernel_rfl) (by kernel_rfl) (by kernel_rfl) (fun _ _ _ h => h) (by rfl) ?hyd14 (by assumption) ?_
                case hyd14 => (intro w hSw; (try dsimp only at hSw); go_simp <;> with_reducible rfl)
                (try simp only [Act.put, List.setIfInBounds_toArray, List.set_cons_zero, List.set_cons_succ])
                refine wpAnyH_tk 15 (v := ?vd15) rfl (by kernel_rfl) (by kernel_rfl) (by kernel_rfl) (fun _ _ _ h => h) (by rfl) ?hyd15 (by assumption) ?_
                case hyd15 => (intro w hSw; (try dsimp only at hSw); go_simp <;> with_reducible rfl)
                (try simp only [Act.put, List.setIfInBounds_toArray, List.set_cons_zero, List.set_cons_succ])
                refine wpAnyH_tk 16 (v := ?vd16) rfl (by kernel_rfl) (by kernel_rfl) (by kernel_rfl) (fun _ _ _ h => h) (by rfl) ?hyd16 (by assumption) ?_
                case hyd16 => (intro w hSw; (try dsimp only at hSw); go_simp <;> with_reducible rfl)
                (try simp only [Act.put, List.setIfInBounds_toArray, List.set_cons_zero, List.set_cons_succ])
                refine wpAnyH_tk 17 (v := ?vd17) rfl (by kernel_rfl) (by kernel_rfl) (by kernel_rfl) (fun _ _ _ h => h) (by rfl) ?hyd17 (by assumption) ?_
                case hyd17 => (intro w hSw; (try dsimp only at hSw); go_simp <;> with_reducible rfl)
                (try simp only [Act.put, List.setIfInBounds_toArray, List.set_cons_zero, List.set_cons_succ])
                refine wpAnyH_tk 18 (v := ?vd18) rfl (by kernel_rfl) (by kernel_rfl) (by kernel_rfl) (fun _ _ _ h => h) (by rfl) ?hyd18 (by assumption) ?_
                case hyd18 => (intro w hSw; (try dsimp only at hSw); go_simp <;> with_reducible rfl)
                (try simp only [Act.put, List.setIfInBounds_toArray, List.set_cons_zero, List.set_cons_succ])
                refine wpAnyH_tk 19 (v := ?vd19) rfl (by kernel_rfl) (by kernel_rfl) (by kernel_rfl) (fun _ _ _ h => h) (by rfl) ?hyd19 (by assumption) ?_
                case hyd19 => (intro w hSw; (try dsimp only at hSw); go_simp <;> with_reducible rfl)
                (try simp only [Act.put, List.setIfInBounds_toArray, List.set_cons_zero, List.set_cons_succ])
                refine wpAnyH_tk 20 (v := ?vd20) rfl (by kernel_rfl) (by kernel_rfl) (by kernel_rfl) (fun _ _ _ h => h) (by rfl) ?hyd20 (by assumption) ?_
                case hyd20 => (intro w hSw; (try dsimp only at hSw); go_simp <;> with_reducible rfl)
                (try simp only [Act.put, List.setIfInBounds_toArray, List.set_cons_zero, List.set_cons_succ])
                refine wpAnyH_tk 21 (v := ?vd21) rfl (by kernel_rfl) (by kernel_rfl) (by kernel_rfl) (fun _ _ _ h => h) (by rfl) ?hyd21 (by assumption) ?_
                case hyd21 => (intro w hSw; (try dsimp only at hSw); go_simp <;> with_reducible rfl)
                (try simp only [Act.put, List.setIfInBounds_toArray, List.set_cons_zero, List.set_cons_succ])
                refine wpAnyH_tk 22 (v := ?vd22) rfl (by kernel_rfl) (by kernel_rfl) (by kernel_rfl) (fun _ _ _ h => h) (by rfl) ?hyd22 (by assumption) ?_
                case hyd22 => (intro w hSw; (try dsimp only at hSw); go_simp <;> with_reducible rfl)
                (try simp only [Act.put, List.setIfInBounds_toArray, List.set_cons_zero, List.set_cons_succ])
                refine wpAnyH_tk 23 (v := ?vd23) rfl (by kernel_rfl) (by kernel_rfl) (by kernel_rfl) (fun _ _ _ h => h) (by rfl) ?hyd23 (by assumption) ?_
                case hyd23 => (intro w hSw; (try dsimp only at hSw); go_simp <;> with_reducible rfl)
                (try simp only [Act.put, List.setIfInBounds_toArray, List.set_cons_zero, List.set_cons_succ])
                refine wpAnyH_tk 24 (v := ?vd24) rfl (by kernel_rfl) (by kernel_rfl) (by kernel_rfl) (fun _ _ _ h => h) (by rfl) ?hyd24 (by assumption) ?_
                case hyd24 => (intro w hSw; (try dsimp only at hSw); go_simp <;> with_reducible rfl)
                (try simp only [Act.put, List.setIfInBounds_toArray, List.set_cons_zero, List.set_cons_succ])
                refine wpAnyH_tk 25 (v := ?vd25) rfl (by kernel_rfl) (by kernel_rfl) (by kernel_rfl) (fun _ _ _ h => h) (by rfl) ?hyd25 (by assumption) ?_
                case hyd25 => (intro w hSw; (try dsimp only at hSw); go_simp <;> with_reducible rfl)
                (try simp only [Act.put, List.setIfInBounds_toArray, List.set_cons_zero, List.set_cons_succ])
                refine wpAnyH_skips 25 false 50 6 (by kernel_rfl) rfl (fun _ _ _ _ _ h => h) [26, 27, 28] [51, 52, 53] _ _ _ rfl (by kernel_rfl) (by rfl) (by assumption) ?_
                (try simp only [putsAll, List.foldl, Act.put, List.setIfInBounds_toArray, List.set_cons_zero, List.set_cons_succ])
                refine wpAnyH_tk 29 (v := ?vd29) rfl (by kernel_rfl) (by kernel_rfl) (by kernel_rfl) (fun _ _ _ h => h) (by rfl) ?hyd29 (by assumption) ?_
                case hyd29 => (intro w hSw; (try dsimp only at hSw); go_simp <;> with_reducible rfl)
                (try simp only [Act.put, List.setIfInBounds_toArray, List.set_cons_zero, List.set_cons_succ])
                refine wpAnyH_tk 30 (v := ?vd30) rfl (by kernel_rfl) (by kernel_rfl) (by kernel_rfl) (fun _ _ _ h => h) (by rfl) ?hyd30 (by assumption) ?_
                case hyd30 => (intro w hSw; (try dsimp only at hSw); go_simp <;> with_reducible rfl)
                (try simp only [Act.put, List.setIfInBounds_toArray, List.set_cons_zero, List.set_cons_succ])
                refine wpAnyH_skips 30 false 55 1 (by kernel_rfl) rfl (fun _ _ _ _ _ h => h) [31, 32, 33] [56, 57, 58] _ _ _ rfl (by kernel_rfl) (by rfl) (by assumption) ?_
                (try simp only [putsAll, List.foldl, Act.put, List.setIfInBounds_toArray, List.set_cons_zero, List.set_cons_succ])
                refine wpAnyH_tk 34 (v := ?vd34) rfl (by kernel_rfl) (by kernel_rfl) (by kernel_rfl) (fun _ _ _ h => h) (by rfl) ?hyd34 (by assumption) ?_
                case hyd34 => (intro w hSw; (try dsimp only at hSw); go_simp <;> with_reducible rfl)
                (try simp only [Act.put, List.setIfInBounds_toArray, List.set_cons_zero, List.set_cons_succ])
                refine wpAnyH_done (by kernel_rfl) ?_ _
                clear hHeld b0 b1 cn e0 e1
                go_wp2
                go_ret2
                exact ⟨by rw [HC.out.1, HC.out.2, HR.out.1, HR.out.2]; rfl, HE0.out.trans EA2.out⟩
              · have z3b : (bits .andNot .i64 stops x.set == 0) = false := beq_eq_false_iff_ne.2 z3
                by_cases z4 : x.width < 1
                · have HR := hid (fit_bad (rs := rs) (n := (N : Int)) (stops := stops) Hxm.out (fun h => by obtain ⟨h1, h2, h3, h4, h5, h6⟩ := h; rw [Int.toNat_natCast, ← Hpw.out] at h2; first | omega | exact h3 z4 | exact h4 z4))
                  have z4b : decide (x.width < 1) = true := decide_eq_true z4
                  clear z0 z1 z2 z3 z4
                  go_wp2
                  refine wp_region_held_drew (S := (fun w' => w'.cell? ⟨wr.heap.size, 0, none⟩ = some (.int .i64 x.set) ∧ w'.cell? ⟨wr.heap.size, 1, none⟩ = some (.int .i64 x.width) ∧ w'.cell? ⟨w.heap.size, 0, none⟩ = some (.int .i64 N))) (by kernel_rfl) ?hSe0 (fun hHeld => ?_)
                  case hSe0 => (first | (exact ⟨b0, b1, cn⟩) | ((try dsimp only); exact ⟨b0, b1, cn⟩))
                  refine wpAnyH_tk 0 (v := ?ve0) rfl (by kernel_rfl) (by kernel_rfl) (by kernel_rfl) (fun _ _ _ h => h) (by rfl) ?hye0 (by assumption) ?_
                  case hye0 => (intro w hSw; (try dsimp only at hSw); go_simp <;> with_reducible rfl)
                  (try simp only [Act.put, List.setIfInBounds_toArray, List.set_cons_zero, List.set_cons_succ])
                  refine wpAnyH_tk 1 (v := ?ve1) rfl (by kernel_rfl) (by kernel_rfl) (by kernel_rfl) (fun _ _ _ h => h) (by rfl) ?hye1 (by assumption) ?_
                  case hye1 => (intro w hSw; (try dsimp only at hSw); go_simp <;> with_reducible rfl)
                  (try simp only [Act.put, List.setIfInBounds_toArray, List.set_cons_zero, List.set_cons_succ])
                  refine wpAnyH_tk 2 (v := ?ve2) rfl (by kernel_rfl) (by kernel_rfl) (by kernel_rfl) (fun _ _ _ h => h) (by rfl) ?hye2 (by assumption) ?_
                  case hye2 => (intro w hSw; (try dsimp only at hSw); go_simp <;> with_reducible rfl)
                  (try simp only [Act.put, List.setIfInBounds_toArray, List.set_cons_zero, List.set_cons_succ])
                  refine wpAnyH_tk 3 (v := ?ve3) rfl (by kernel_rfl) (by kernel_rfl) (by kernel_rfl) (fun _ _ _ h => h) (by rfl) ?hye3 (by assumption) ?_
                  case hye3 => (intro w hSw; (try dsimp only at hSw); go_simp <;> with_reducible rfl)
                  (try simp only [Act.put, List.setIfInBounds_toArray, List.set_cons_zero, List.set_cons_succ])
                  refine wpAnyH_tk 4 (v := ?ve4) rfl (by kernel_rfl) (by kernel_rfl) (by kernel_rfl) (fun _ _ _ h => h) (by rfl) ?hye4 (by assumption) ?_
                  case hye4 => (intro w hSw; (try dsimp only at hSw); go_simp <;> with_reducible rfl)
                  (try simp only [Act.put, List.setIfInBounds_toArray, List.set_cons_zero, List.set_cons_succ])
                  refine wpAnyH_tk 5 (v := ?ve5) rfl (by kernel_rfl) (by kernel_rfl) (by kernel_rfl) (fun _ _ _ h => h) (by rfl) ?hye5 (by assumption) ?_
                  case hye5 => (intro w hSw; (try dsimp only at hSw); go_simp <;> with_reducible rfl)
                  (try simp only [Act.put, List.setIfInBounds_toArray, List.set_cons_zero, List.set_cons_succ])
                  refine wpAnyH_tk 6 (v := ?ve6) rfl (by kernel_rfl) (by kernel_rfl) (by kernel_rfl) (fun _ _ _ h => h) (by rfl) ?hye6 (by assumption) ?_
                  case hye6 => (intro w hSw; (try dsimp only at hSw); go_simp <;> with_reducible rfl)
                  (try simp only [Act.put, List.setIfInBounds_toArray, List.set_cons_zero, List.set_cons_succ])
                  refine wpAnyH_tk 7 (v := ?ve7) rfl (by kernel_rfl) (by kernel_rfl) (by kernel_rfl) (fun _ _ _ h => h) (by rfl) ?hye7 (by assumption) ?_
                  case hye7 => (intro w hSw; (try dsimp only at hSw); go_simp <;> with_reducible rfl)
                  (try simp only [Act.put, List.setIfInBounds_toArray, List.set_cons_zero, List.set_cons_succ])
                  refine wpAnyH_tk 8 (v := ?ve8) rfl (by kernel_rfl) (by kernel_rfl) (by kernel_rfl) (fun _ _ _ h => h) (by rfl) ?hye8 (by assumption) ?_
                  case hye8 => (intro w hSw; (try dsimp only at hSw); go_simp <;> with_reducible rfl)
                  (try simp only [Act.put, List.setIfInBounds_toArray, List.set_cons_zero, List.set_cons_succ])
                  refine wpAnyH_tk 9 (v := ?ve9) rfl (by kernel_rfl) (by kernel_rfl) (by kernel_rfl) (fun _ _ _ h => h) (by rfl) ?hye9 (by assumption) ?_
                  case hye9 => (intro w hSw; (try dsimp only at hSw); go_simp <;> with_reducible rfl)
                  (try simp only [Act.put, List.setIfInBounds_toArray, List.set_cons_zero, List.set_cons_succ])
                  refine wpAnyH_tk 10 (v := ?ve10) rfl (by kernel_rfl) (by kernel_rfl) (by kernel_rfl) (fun _ _ _ h => h) (by rfl) ?hye10 (by assumption) ?_
                  case hye10 => (intro w hSw; (try dsimp only at hSw); go_simp <;> with_reducible rfl)
                  (try simp only [Act.put, List.setIfInBounds_toArray, List.set_cons_zero, List.set_cons_succ])
                  refine wpAnyH_tk 11 (v := ?ve11) rfl (by kernel_rfl) (by kernel_rfl) (by kernel_rfl) (fun _ _ _ h => h) (by rfl) ?hye11 (by assumption) ?_
                  case hye11 => (intro w hSw; (try dsimp only at hSw); go_simp <;> with_reducible rfl)
                  (try simp only [Act.put, List.setIfInBounds_toArray, List.set_cons_zero, List.set_cons_succ])
                  refine wpAnyH_tk 12 (v := ?ve12) rfl (by kernel_rfl) (by kernel_rfl) (by kernel_rfl) (fun _ _ _ h => h) (by rfl) ?hye12 (by assumption) ?_
                  case hye12 => (intro w hSw; (try dsimp only at hSw); go_simp <;> with_reducible rfl)
                  (try simp only [Act.put, List.setIfInBounds_toArray, List.set_cons_zero, List.set_cons_succ])
                  refine wpAnyH_tk 13 (v := ?ve13) rfl (by kernel_rfl) (by kernel_rfl) (by kernel_rfl) (fun _ _ _ h => h) (by rfl) ?hye13 (by assumption) ?_
                  case hye13 => (intro w hSw; (try dsimp only at hSw); go_simp <;> with_reducible rfl)
                  (try simp only [Act.put, List.setIfInBounds_toArray, List.set_cons_zero, List.set_cons_succ])
                  refine wpAnyH_tk 14 (v := ?ve14) rfl (by kernel_rfl) (by kernel_rfl) (by kernel_rfl) (fun _ _ _ h => h) (by rfl) ?hye14 (by assumption) ?_
                  case hye14 => (intro w hSw; (try dsimp only at hSw); go_simp <;> with_reducible rfl)
                  (try simp only [Act.put, List.setIfInBounds_toArray, List.set_cons_zero, List.set_cons_succ])
                  refine wpAnyH_tk 15 (v := ?ve15) rfl (by kernel_rfl) (by kernel_rfl) (by kernel_rfl) (fun _ _ _ h => h) (by rfl) ?hye15 (by assumption) ?_
                  case hye15 => (intro w hSw; (try dsimp only at hSw); go_simp <;> with_reducible rfl)
                  (try simp only [Act.put, List.setIfInBounds_toArray, List.set_cons_zero, List.set_cons_succ])
                  refine wpAnyH_tk 16 (v := ?ve16) rfl (by kernel_rfl) (by kernel_rfl) (by kernel_rfl) (fun _ _ _ h => h) (by rfl) ?hye16 (by assumption) ?_
                  case hye16 => (intro w hSw; (try dsimp only at hSw); go_simp <;> with_reducible rfl)
                  (try simp only [Act.put, List.setIfInBounds_toArray, List.set_cons_zero, List.set_cons_succ])
                  refine wpAnyH_tk 17 (v := ?ve17) rfl (by kernel_rfl) (by kernel_rfl) (by kernel_rfl) (fun _ _ _ h => h) (by rfl) ?hye17 (by assumption) ?_
                  case hye17 => (intro w hSw; (try dsimp only at hSw); go_simp <;> with_reducible rfl)
                  (try simp only [Act.put, List.setIfInBounds_toArray, List.set_cons_zero, List.set_cons_succ])
                  refine wpAnyH_tk 18 (v := ?ve18) rfl (by kernel_rfl) (by kernel_rfl) (by kernel_rfl) (fun _ _ _ h => h) (by rfl) ?hye18 (by assumption) ?_
                  case hye18 => (intro w hSw; (try dsimp only at hSw); go_simp <;> with_reducible rfl)
                  (try simp only [Act.put, List.setIfInBounds_toArray, List.set_cons_zero, List.set_cons_succ])
                  refine wpAnyH_tk 19 (v := ?ve19) rfl (by kernel_rfl) (by kernel_rfl) (by kernel_rfl) (fun _ _ _ h => h) (by rfl) ?hye19 (by assumption) ?_
                  case hye19 => (intro w hSw; (try dsimp only at hSw); go_simp <;> with_reducible rfl)
                  (try simp only [Act.put, List.setIfInBounds_toArray, List.set_cons_zero, List.set_cons_succ])
                  refine wpAnyH_tk 20 (v := ?ve20) rfl (by kernel_rfl) (by kernel_rfl) (by kernel_rfl) (fun _ _ _ h => h) (by rfl) ?hye20 (by assumption) ?_
                  case hye20 => (intro w hSw; (try dsimp only at hSw); go_simp <;> with_reducible rfl)
                  (try simp only [Act.put, List.setIfInBounds_toArray, List.set_cons_zero, List.set_cons_succ])
                  refine wpAnyH_tk 21 (v := ?ve21) rfl (by kernel_rfl) (by kernel_rfl) (by kernel_rfl) (fun _ _ _ h => h) (by rfl) ?hye21 (by assumption) ?_
                  case hye21 => (intro w hSw; (try dsimp only at hSw); go_simp <;> with_reducible rfl)
                  (try simp only [Act.put, List.setIfInBounds_toArray, List.set_cons_zero, List.set_cons_succ])
                  refine wpAnyH_tk 22 (v := ?ve22) rfl (by kernel_rfl) (by kernel_rfl) (by kernel_rfl) (fun _ _ _ h => h) (by rfl) ?hye22 (by assumption) ?_
                  case hye22 => (intro w hSw; (try dsimp only at hSw); go_simp <;> with_reducible rfl)
                  (try simp only [Act.put, List.setIfInBounds_toArray, List.set_cons_zero, List.set_cons_succ])
                  refine wpAnyH_tk 23 (v := ?ve23) rfl (by kernel_rfl) (by kernel_rfl) (by kernel_rfl) (fun _ _ _ h => h) (by rfl) ?hye23 (by assumption) ?_
                  case hye23 => (intro w hSw; (try dsimp only at hSw); go_simp <;> with_reducible rfl)
                  (try simp only [Act.put, List.setIfInBounds_toArray, List.set_cons_zero, List.set_cons_succ])
                  refine wpAnyH_tk 24 (v := ?ve24) rfl (by kernel_rfl) (by kernel_rfl) (by kernel_rfl) (fun _ _ _ h => h) (by rfl) ?hye24 (by assumption) ?_
                  case hye24 => (intro w hSw; (try dsimp only at hSw); go_simp <;> with_reducible rfl)
                  (try simp only [Act.put, List.setIfInBounds_toArray, List.set_cons_zero, List.set_cons_succ])
                  refine wpAnyH_tk 25 (v := ?ve25) rfl (by kernel_rfl) (by kernel_rfl) (by kernel_rfl) (fun _ _ _ h => h) (by rfl) ?hye25 (by assumption) ?_
                  case hye25 => (intro w hSw; (try dsimp only at hSw); go_simp <;> with_reducible rfl)
                  (try simp only [Act.put, List.setIfInBounds_toArray, List.set_cons_zero, List.set_cons_succ])
                  refine wpAnyH_tk 26 (v := ?ve26) rfl (by kernel_rfl) (by kernel_rfl) (by kernel_rfl) (fun _ _ _ h => h) (by rfl) ?hye26 (by assumption) ?_
                  case hye26 => (intro w hSw; (try dsimp only at hSw); go_simp <;> with_reducible rfl)
                  (try simp only [Act.put, List.setIfInBounds_toArray, List.set_cons_zero, List.set_cons_succ])
                  refine wpAnyH_tk 27 (v := ?ve27) rfl (by kernel_rfl) (by kernel_rfl) (by kernel_rfl) (fun _ _ _ h => h) (by rfl) ?hye27 (by assumption) ?_
                  case hye27 => (intro w hSw; (try dsimp only at hSw); go_simp <;> with_reducible rfl)
                  (try simp only [Act.put, List.setIfInBounds_toArray, List.set_cons_zero, List.set_cons_succ])
                  refine wpAnyH_tk 28 (v := ?ve28) rfl (by kernel_rfl) (by kernel_rfl) (by kernel_rfl) (fun _ _ _ h => h) (by rfl) ?hye28 (by assumption) ?_
                  case hye28 => (intro w hSw; (try dsimp only at hSw); go_simp <;> with_reducible rfl)
                  (try simp only [Act.put, List.setIfInBounds_toArray, List.set_cons_zero, List.set_cons_succ])
                  refine wpAnyH_tk 29 (v := ?ve29) rfl (by kernel_rfl) (by kernel_rfl) (by kernel_rfl) (fun _ _ _ h => h) (by rfl) ?hye29 (by assumption) ?_
                  case hye29 => (intro w hSw; (try dsimp only at hSw); go_simp <;> with_reducible rfl)
                  (try simp only [Act.put, List.setIfInBounds_toArray, List.set_cons_zero, List.set_cons_succ])
                  refine wpAnyH_tk 30 (v := ?ve30) rfl (by kernel_rfl) (by kernel_rfl) (by kernel_rfl) (fun _ _ _ h => h) (by rfl) ?hye30 (by assumption) ?_
                  case hye30 => (intro w hSw; (try dsimp only at hSw); go_simp <;> with_reducible rfl)
                  (try simp only [Act.put, List.setIfInBounds_toArray, List.set_cons_zero, List.set_cons_succ])
                  refine wpAnyH_skips 30 false 55 1 (by kernel_rfl) rfl (fun _ _ _ _ _ h => h) [31, 32, 33] [56, 57, 58] _ _ _ rfl (by kernel_rfl) (by rfl) (by assumption) ?_
                  (try simp only [putsAll, List.foldl, Act.put, List.setIfInBounds_toArray, List.set_cons_zero, List.set_cons_succ])
                  refine wpAnyH_tk 34 (v := ?ve34) rfl (by kernel_rfl) (by kernel_rfl) (by kernel_rfl) (fun _ _ _ h => h) (by rfl) ?hye34 (by assumption) ?_
                  case hye34 => (intro w hSw; (try dsimp only at hSw); go_simp <;> with_reducible rfl)
                  (try simp only [Act.put, List.setIfInBounds_toArray, List.set_cons_zero, List.set_cons_succ])
                  refine wpAnyH_done (by kernel_rfl) ?_ _
                  clear hHeld b0 b1 cn e0 e1
                  go_wp2
                  go_ret2
                  exact ⟨by rw [HC.out.1, HC.out.2, HR.out.1, HR.out.2]; rfl, HE0.out.trans EA2.out⟩
                · have z4b : decide (x.width < 1) = false := decide_eq_false z4
                  by_cases z5 : 1000 < x.width
                  · have HR := hid (fit_bad (rs := rs) (n := (N : Int)) (stops := stops) Hxm.out (fun h => by obtain ⟨h1, h2, h3, h4, h5, h6⟩ := h; rw [Int.toNat_natCast, ← Hpw.out] at h2; first | omega | exact h3 z5 | exact h4 z5))
                    have z5b : decide (1000 < x.width) = true := decide_eq_true z5
                    clear z0 z1 z2 z3 z4 z5
                    go_wp2
                    refine wp_region_held_drew (S := (fun w' => w'.cell? ⟨wr.heap.size, 0, none⟩ = some (.int .i64 x.set) ∧ w'.cell? ⟨wr.heap.size, 1, none⟩ = some (.int .i64 x.width) ∧ w'.cell? ⟨w.heap.size, 0, none⟩ = some (.int .i64 N))) (by kernel_rfl) ?hSf0 (fun hHeld => ?_)
                    case hSf0 => (first | (exact ⟨b0, b1, cn⟩) | ((try dsimp only); exact ⟨b0, b1, cn⟩))
                    refine wpAnyH_tk 0 (v := ?vf0) rfl (by kernel_rfl) (by kernel_rfl) (by kernel_rfl) (fun _ _ _ h => h) (by rfl) ?hyf0 (by assumption) ?_
                    case hyf0 => (intro w hSw; (try dsimp only at hSw); go_simp <;> with_reducible rfl)
                    (try simp only [Act.put, List.setIfInBounds_toArray, List.set_cons_zero, List.set_cons_succ])
                    refine wpAnyH_tk 1 (v := ?vf1) rfl (by kernel_rfl) (by kernel_rfl) (by kernel_rfl) (fun _ _ _ h => h) (by rfl) ?hyf1 (by assumption) ?_
                    case hyf1 => (intro w hSw; (try dsimp only at hSw); go_simp <;> with_reducible rfl)
                    (try simp only [Act.put, List.setIfInBounds_toArray, List.set_cons_zero, List.set_cons_succ])
                    refine wpAnyH_tk 2 (v := ?vf2) rfl (by kernel_rfl) (by kernel_rfl) (by kernel_rfl) (fun _ _ _ h => h) (by rfl) ?hyf2 (by assumption) ?_
                    case hyf2 => (intro w hSw; (try dsimp only at hSw); go_simp <;> with_reducible rfl)
                    (try simp only [Act.put, List.setIfInBounds_toArray, List.set_cons_zero, List.set_cons_succ])
                    refine wpAnyH_tk 3 (v := ?vf3) rfl (by kernel_rfl) (by kernel_rfl) (by kernel_rfl) (fun _ _ _ h => h) (by rfl) ?hyf3 (by assumption) ?_
                    case hyf3 => (intro w hSw; (try dsimp only at hSw); go_simp <;> with_reducible rfl)
                    (try simp only [Act.put, List.setIfInBounds_toArray, List.set_cons_zero, List.set_cons_succ])
                    refine wpAnyH_tk 4 (v := ?vf4) rfl (by kernel_rfl) (by kernel_rfl) (by kernel_rfl) (fun _ _ _ h => h) (by rfl) ?hyf4 (by assumption) ?_
                    case hyf4 => (intro w hSw; (try dsimp only at hSw); go_simp <;> with_reducible rfl)
                    (try simp only [Act.put, List.setIfInBounds_toArray, List.set_cons_zero, List.set_cons_succ])
                    refine wpAnyH_tk 5 (v := ?vf5) rfl (by kernel_rfl) (by kernel_rfl) (by kernel_rfl) (fun _ _ _ h => h) (by rfl) ?hyf5 (by assumption) ?_
                    case hyf5 => (intro w hSw; (try dsimp only at hSw); go_simp <;> with_reducible rfl)
                    (try simp only [Act.put, List.setIfInBounds_toArray, List.set_cons_zero, List.set_cons_succ])
                    refine wpAnyH_tk 6 (v := ?vf6) rfl (by kernel_rfl) (by kernel_rfl) (by kernel_rfl) (fun _ _ _ h => h) (by rfl) ?hyf6 (by assumption) ?_
                    case hyf6 => (intro w hSw; (try dsimp only at hSw); go_simp <;> with_reducible rfl)
                    (try simp only [Act.put, List.setIfInBounds_toArray, List.set_cons_zero, List.set_cons_succ])
                    refine wpAnyH_tk 7 (v := ?vf7) rfl (by kernel_rfl) (by kernel_rfl) (by kernel_rfl) (fun _ _ _ h => h) (by rfl) ?hyf7 (by assumption) ?_
                    case hyf7 => (intro w hSw; (try dsimp only at hSw); go_simp <;> with_reducible rfl)
                    (try simp only [Act.put, List.setIfInBounds_toArray, List.set_cons_zero, List.set_cons_succ])
                    refine wpAnyH_tk 8 (v := ?vf8) rfl (by kernel_rfl) (by kernel_rfl) (by kernel_rfl) (fun _ _ _ h => h) (by rfl) ?hyf8 (by assumption) ?_
                    case hyf8 => (intro w hSw; (try dsimp only at hSw); go_simp <;> with_reducible rfl)
                    (try simp only [Act.put, List.setIfInBounds_toArray, List.set_cons_zero, List.set_cons_succ])
                    refine wpAnyH_tk 9 (v := ?vf9) rfl (by kernel_rfl) (by kernel_rfl) (by kernel_rfl) (fun _ _ _ h => h) (by rfl) ?hyf9 (by assumption) ?_
                    case hyf9 => (intro w hSw; (try dsimp only at hSw); go_simp <;> with_reducible rfl)
                    (try simp only [Act.put, List.setIfInBounds_toArray, List.set_cons_zero, List.set_cons_succ])
                    refine wpAnyH_tk 10 (v := ?vf10) rfl (by kernel_rfl) (by kernel_rfl) (by kernel_rfl) (fun _ _ _ h => h) (by rfl) ?hyf10 (by assumption) ?_
                    case hyf10 => (intro w hSw; (try dsimp only at hSw); go_simp <;> with_reducible rfl)
                    (try simp only [Act.put, List.setIfInBounds_toArray, List.set_cons_zero, List.set_cons_succ])
                    refine wpAnyH_tk 11 (v := ?vf11) rfl (by kernel_rfl) (by kernel_rfl) (by kernel_rfl) (fun _ _ _ h => h) (by rfl) ?hyf11 (by assumption) ?_
                    case hyf11 => (intro w hSw; (try dsimp only at hSw); go_simp <;> with_reducible rfl)
                    (try simp only [Act.put, List.setIfInBounds_toArray, List.set_cons_zero, List.set_cons_succ])
                    refine wpAnyH_tk 12 (v := ?vf12) rfl (by kernel_rfl) (by kernel_rfl) (by kernel_rfl) (fun _ _ _ h => h) (by rfl) ?hyf12 (by assumption) ?_
                    case hyf12 => (intro w hSw; (try dsimp only at hSw); go_simp <;> with_reducible rfl)
                    (try simp only [Act.put, List.setIfInBounds_toArray, List.set_cons_zero, List.set_cons_succ])
                    refine wpAnyH_tk 13 (v := ?vf13) rfl (by kernel_rfl) (by kernel_rfl) (by kernel_rfl) (fun _ _ _ h => h) (by rfl) ?hyf13 (by assumption) ?_
                    case hyf13 => (intro w hSw; (try dsimp only at hSw); go_simp <;> with_reducible rfl)
                    (try simp only [Act.put, List.setIfInBounds_toArray, List.set_cons_zero, List.set_cons_succ])
                    refine wpAnyH_tk 14 (v := ?vf14) rfl (by kernel_rfl) (by kernel_rfl) (by kernel_rfl) (fun _ _ _ h => h) (by rfl) ?hyf14 (by assumption) ?_
                    case hyf14 => (intro w hSw; (try dsimp only at hSw); go_simp <;> with_reducible rfl)
                    (try simp only [Act.put, List.setIfInBounds_toArray, List.set_cons_zero, List.set_cons_succ])
                    refine wpAnyH_tk 15 (v := ?vf15) rfl (by kernel_rfl) (by kernel_rfl) (by kernel_rfl) (fun _ _ _ h => h) (by rfl) ?hyf15 (by assumption) ?_
                    case hyf15 => (intro w hSw; (try dsimp only at hSw); go_simp <;> with_reducible rfl)
                    (try simp only [Act.put, List.setIfInBounds_toArray, List.set_cons_zero, List.set_cons_succ])
                    refine wpAnyH_tk 16 (v := ?vf16) rfl (by kernel_rfl) (by kernel_rfl) (by kernel_rfl) (fun _ _ _ h => h) (by rfl) ?hyf16 (by assumption) ?_
                    case hyf16 => (intro w hSw; (try dsimp only at hSw); go_simp <;> with_reducible rfl)
                    (try simp only [Act.put, List.setIfInBounds_toArray, List.set_cons_zero, List.set_cons_succ])
                    refine wpAnyH_tk 17 (v := ?vf17) rfl (by kernel_rfl) (by kernel_rfl) (by kernel_rfl) (fun _ _ _ h => h) (by rfl) ?hyf17 (by assumption) ?_
                    case hyf17 => (intro w hSw; (try dsimp only at hSw); go_simp <;> with_reducible rfl)
                    (try simp only [Act.put, List.setIfInBounds_toArray, List.set_cons_zero, List.set_cons_succ])
                    refine wpAnyH_tk 18 (v := ?vf18) rfl (by kernel_rfl) (by kernel_rfl) (by kernel_rfl) (fun _ _ _ h => h) (by rfl) ?hyf18 (by assumption) ?_
                    case hyf18 => (intro w hSw; (try dsimp only at hSw); go_simp <;> with_reducible rfl)
                    (try simp only [Act.put, List.setIfInBounds_toArray, List.set_cons_zero, List.set_cons_succ])
                    refine wpAnyH_tk 19 (v := ?vf19) rfl (by kernel_rfl) (by kernel_rfl) (by kernel_rfl) (fun _ _ _ h => h) (by rfl) ?hyf19 (by assumption) ?_
                    case hyf19 => (intro w hSw; (try dsimp only at hSw); go_simp <;> with_reducible rfl)
                    (try simp only [Act.put, List.setIfInBounds_toArray, List.set_cons_zero, List.set_cons_succ])
                    refine wpAnyH_tk 20 (v := ?vf20) rfl (by kernel_rfl) (by kernel_rfl) (by kernel_rfl) (fun _ _ _ h => h) (by rfl) ?hyf20 (by assumption) ?_
                    case hyf20 => (intro w hSw; (try dsimp only at hSw); go_simp <;> with_reducible rfl)
                    (try simp only [Act.put, List.setIfInBounds_toArray, List.set_cons_zero, List.set_cons_succ])
                    refine wpAnyH_tk 21 (v := ?vf21) rfl (by kernel_rfl) (by kernel_rfl) (by kernel_rfl) (fun _ _ _ h => h) (by rfl) ?hyf21 (by assumption) ?_
                    case hyf21 => (intro w hSw; (try dsimp only at hSw); go_simp <;> with_reducible rfl)
                    (try simp only [Act.put, List.setIfInBounds_toArray, List.set_cons_zero, List.set_cons_succ])
                    refine wpAnyH_tk 22 (v := ?vf22) rfl (by kernel_rfl) (by kernel_rfl) (by kernel_rfl) (fun _ _ _ h => h) (by rfl) ?hyf22 (by assumption) ?_
                    case hyf22 => (intro w hSw; (try dsimp only at hSw); go_simp <;> with_reducible rfl)
                    (try simp only [Act.put, List.setIfInBounds_toArray, List.set_cons_zero, List.set_cons_succ])
                    refine wpAnyH_tk 23 (v := ?vf23) rfl (by kernel_rfl) (by kernel_rfl) (by kernel_rfl) (fun _ _ _ h => h) (by rfl) ?hyf23 (by assumption) ?_
                    case hyf23 => (intro w hSw; (try dsimp only at hSw); go_simp <;> with_reducible rfl)
                    (try simp only [Act.put, List.setIfInBounds_toArray, List.set_cons_zero, List.set_cons_succ])
                    refine wpAnyH_tk 24 (v := ?vf24) rfl (by kernel_rfl) (by kernel_rfl) (by kernel_rfl) (fun _ _ _ h => h) (by rfl) ?hyf24 (by assumption) ?_
                    case hyf24 => (intro w hSw; (try dsimp only at hSw); go_simp <;> with_reducible rfl)
                    (try simp only [Act.put, List.setIfInBounds_toArray, List.set_cons_zero, List.set_cons_succ])
                    refine wpAnyH_tk 25 (v := ?vf25) rfl (by kernel_rfl) (by kernel_rfl) (by kernel_rfl) (fun _ _ _ h => h) (by rfl) ?hyf25 (by assumption) ?_
                    case hyf25 => (intro w hSw; (try dsimp only at hSw); go_simp <;> with_reducible rfl)
                    (try simp only [Act.put, List.setIfInBounds_toArray, List.set_cons_zero, List.set_cons_succ])
                    refine wpAnyH_tk 26 (v := ?vf26) rfl (by kernel_rfl) (by kernel_rfl) (by kernel_rfl) (fun _ _ _ h => h) (by rfl) ?hyf26 (by assumption) ?_
                    case hyf26 => (intro w hSw; (try dsimp only at hSw); go_simp <;> with_reducible rfl)
                    (try simp only [Act.put, List.setIfInBounds_toArray, List.set_cons_zero, List.set_cons_succ])
                    refine wpAnyH_tk 27 (v := ?vf27) rfl (by kernel_rfl) (by kernel_rfl) (by kernel_rfl) (fun _ _ _ h => h) (by rfl) ?hyf27 (by assumption) ?_
                    case hyf27 => (intro w hSw; (try dsimp only at hSw); go_simp <;> with_reducible rfl)
                    (try simp only [Act.put, List.setIfInBounds_toArray, List.set_cons_zero, List.set_cons_succ])
                    refine wpAnyH_tk 28 (v := ?vf28) rfl (by kernel_rfl) (by kernel_rfl) (by kernel_rfl) (fun _ _ _ h => h) (by rfl) ?hyf28 (by assumption) ?_
                    case hyf28 => (intro w hSw; (try dsimp only at hSw); go_simp <;> with_reducible rfl)
                    (try simp only [Act.put, List.setIfInBounds_toArray, List.set_cons_zero, List.set_cons_succ])
                    refine wpAnyH_tk 29 (v := ?vf29) rfl (by kernel_rfl) (by kernel_rfl) (by kernel_rfl) (fun _ _ _ h => h) (by rfl) ?hyf29 (by assumption) ?_
                    case hyf29 => (intro w hSw; (try dsimp only at hSw); go_simp <;> with_reducible rfl)
                    (try simp only [Act.put, List.setIfInBounds_toArray, List.set_cons_zero, List.set_cons_succ])
                    refine wpAnyH_tk 30 (v := ?vf30) rfl (by kernel_rfl) (by kernel_rfl) (by kernel_rfl) (fun _ _ _ h => h) (by rfl) ?hyf30 (by assumption) ?_
                    case hyf30 => (intro w hSw; (try dsimp only at hSw); go_simp <;> with_reducible rfl)
                    (try simp only [Act.put, List.setIfInBounds_toArray, List.set_cons_zero, List.set_cons_succ])
                    refine wpAnyH_tk 31 (v := ?vf31) rfl (by kernel_rfl) (by kernel_rfl) (by kernel_rfl) (fun _ _ _ h => h) (by rfl) ?hyf31 (by assumption) ?_
                    case hyf31 => (intro w hSw; (try dsimp only at hSw); go_simp <;> with_reducible rfl)
                    (try simp only [Act.put, List.setIfInBounds_toArray, List.set_cons_zero, List.set_cons_succ])
                    refine wpAnyH_tk 32 (v := ?vf32) rfl (by kernel_rfl) (by kernel_rfl) (by kernel_rfl) (fun _ _ _ h => h) (by rfl) ?hyf32 (by assumption) ?_
                    case hyf32 => (intro w hSw; (try dsimp only at hSw); go_simp <;> with_reducible rfl)
                    (try simp only [Act.put, List.setIfInBounds_toArray, List.set_cons_zero, List.set_cons_succ])
                    refine wpAnyH_tk 33 (v := ?vf33) rfl (by kernel_rfl) (by kernel_rfl) (by kernel_rfl) (fun _ _ _ h => h) (by rfl) ?hyf33 (by assumption) ?_
                    case hyf33 => (intro w hSw; (try dsimp only at hSw); go_simp <;> with_reducible rfl)
                    (try simp only [Act.put, List.setIfInBounds_toArray, List.set_cons_zero, List.set_cons_succ])
                    refine wpAnyH_tk 34 (v := ?vf34) rfl (by kernel_rfl) (by kernel_rfl) (by kernel_rfl) (fun _ _ _ h => h) (by rfl) ?hyf34 (by assumption) ?_
                    case hyf34 => (intro w hSw; (try dsimp only at hSw); go_simp <;> with_reducible rfl)
                    (try simp only [Act.put, List.setIfInBounds_toArray, List.set_cons_zero, List.set_cons_succ])
                    refine wpAnyH_done (by kernel_rfl) ?_ _
                    clear hHeld b0 b1 cn e0 e1
                    go_wp2
                    go_ret2
                    exact ⟨by rw [HC.out.1, HC.out.2, HR.out.1, HR.out.2]; rfl, HE0.out.trans EA2.out⟩
                  · have z5b : decide (1000 < x.width) = false := decide_eq_false z5
                    have OK2 : Hid (∀ y ∈ ms.take (k + 1), moatP N stops y) := by
                      intro y hy
                      rw [Htk.out] at hy
                      rcases List.mem_append.1 hy with h | h
                      · exact OKS.out y h
                      · simp only [List.mem_singleton] at h
                        subst h
                        exact ⟨by omega, by rw [Int.toNat_natCast, ← Hpw.out]; omega, z2, z3, by omega, by omega⟩
                    have SUM2 : Hid (s + x.width = sumW (ms.take (k + 1))) := by show _ = _; rw [Hs.out, SUM.out]
                    have hwx : 1 ≤ x.width ∧ x.width ≤ 1000 := by omega
                    clear z0 z1 z2 z3 z4 z5
                    go_wp2
                    refine wp_region_held_drew (S := (fun w' => w'.cell? ⟨wr.heap.size, 0, none⟩ = some (.int .i64 x.set) ∧ w'.cell? ⟨wr.heap.size, 1, none⟩ = some (.int .i64 x.width) ∧ w'.cell? ⟨w.heap.size, 0, none⟩ = some (.int .i64 N))) (by kernel_rfl) ?hSg0 (fun hHeld => ?_)
                    case hSg0 => (first | (exact ⟨b0, b1, cn⟩) | ((try dsimp only); exact ⟨b0, b1, cn⟩))
                    refine wpAnyH_tk 0 (v := ?vg0) rfl (by kernel_rfl) (by kernel_rfl) (by kernel_rfl) (fun _ _ _ h => h) (by rfl) ?hyg0 (by assumption) ?_
                    case hyg0 => (intro w hSw; (try dsimp only at hSw); go_simp <;> with_reducible rfl)
                    (try simp only [Act.put, List.setIfInBounds_toArray, List.set_cons_zero, List.set_cons_succ])
                    refine wpAnyH_tk 1 (v := ?vg1) rfl (by kernel_rfl) (by kernel_rfl) (by kernel_rfl) (fun _ _ _ h => h) (by rfl) ?hyg1 (by assumption) ?_
                    case hyg1 => (intro w hSw; (try dsimp only at hSw); go_simp <;> with_reducible rfl)
                    (try simp only [Act.put, List.setIfInBounds_toArray, List.set_cons_zero, List.set_cons_succ])
                    refine wpAnyH_tk 2 (v := ?vg2) rfl (by kernel_rfl) (by kernel_rfl) (by kernel_rfl) (fun _ _ _ h => h) (by rfl) ?hyg2 (by assumption) ?_
                    case hyg2 => (intro w hSw; (try dsimp only at hSw); go_simp <;> with_reducible rfl)
                    (try simp only [Act.put, List.setIfInBounds_toArray, List.set_cons_zero, List.set_cons_succ])
                    refine wpAnyH_tk 3 (v := ?vg3) rfl (by kernel_rfl) (by kernel_rfl) (by kernel_rfl) (fun _ _ _ h => h) (by rfl) ?hyg3 (by assumption) ?_
                    case hyg3 => (intro w hSw; (try dsimp only at hSw); go_simp <;> with_reducible rfl)
                    (try simp only [Act.put, List.setIfInBounds_toArray, List.set_cons_zero, List.set_cons_succ])
                    refine wpAnyH_tk 4 (v := ?vg4) rfl (by kernel_rfl) (by kernel_rfl) (by kernel_rfl) (fun _ _ _ h => h) (by rfl) ?hyg4 (by assumption) ?_
                    case hyg4 => (intro w hSw; (try dsimp only at hSw); go_simp <;> with_reducible rfl)
                    (try simp only [Act.put, List.setIfInBounds_toArray, List.set_cons_zero, List.set_cons_succ])
                    refine wpAnyH_tk 5 (v := ?vg5) rfl (by kernel_rfl) (by kernel_rfl) (by kernel_rfl) (fun _ _ _ h => h) (by rfl) ?hyg5 (by assumption) ?_
                    case hyg5 => (intro w hSw; (try dsimp only at hSw); go_simp <;> with_reducible rfl)
                    (try simp only [Act.put, List.setIfInBounds_toArray, List.set_cons_zero, List.set_cons_succ])
                    refine wpAnyH_tk 6 (v := ?vg6) rfl (by kernel_rfl) (by kernel_rfl) (by kernel_rfl) (fun _ _ _ h => h) (by rfl) ?hyg6 (by assumption) ?_
                    case hyg6 => (intro w hSw; (try dsimp only at hSw); go_simp <;> with_reducible rfl)
                    (try simp only [Act.put, List.setIfInBounds_toArray, List.set_cons_zero, List.set_cons_succ])
                    refine wpAnyH_tk 7 (v := ?vg7) rfl (by kernel_rfl) (by kernel_rfl) (by kernel_rfl) (fun _ _ _ h => h) (by rfl) ?hyg7 (by assumption) ?_
                    case hyg7 => (intro w hSw; (try dsimp only at hSw); go_simp <;> with_reducible rfl)
                    (try simp only [Act.put, List.setIfInBounds_toArray, List.set_cons_zero, List.set_cons_succ])
                    refine wpAnyH_tk 8 (v := ?vg8) rfl (by kernel_rfl) (by kernel_rfl) (by kernel_rfl) (fun _ _ _ h => h) (by rfl) ?hyg8 (by assumption) ?_
                    case hyg8 => (intro w hSw; (try dsimp only at hSw); go_simp <;> with_reducible rfl)
                    (try simp only [Act.put, List.setIfInBounds_toArray, List.set_cons_zero, List.set_cons_succ])
                    refine wpAnyH_tk 9 (v := ?vg9) rfl (by kernel_rfl) (by kernel_rfl) (by kernel_rfl) (fun _ _ _ h => h) (by rfl) ?hyg9 (by assumption) ?_
                    case hyg9 => (intro w hSw; (try dsimp only at hSw); go_simp <;> with_reducible rfl)
                    (try simp only [Act.put, List.setIfInBounds_toArray, List.set_cons_zero, List.set_cons_succ])
                    refine wpAnyH_tk 10 (v := ?vg10) rfl (by kernel_rfl) (by kernel_rfl) (by kernel_rfl) (fun _ _ _ h => h) (by rfl) ?hyg10 (by assumption) ?_
                    case hyg10 => (intro w hSw; (try dsimp only at hSw); go_simp <;> with_reducible rfl)
                    (try simp only [Act.put, List.setIfInBounds_toArray, List.set_cons_zero, List.set_cons_succ])
                    refine wpAnyH_tk 11 (v := ?vg11) rfl (by kernel_rfl) (by kernel_rfl) (by kernel_rfl) (fun _ _ _ h => h) (by rfl) ?hyg11 (by assumption) ?_
                    case hyg11 => (intro w hSw; (try dsimp only at hSw); go_simp <;> with_reducible rfl)
                    (try simp only [Act.put, List.setIfInBounds_toArray, List.set_cons_zero, List.set_cons_succ])
                    refine wpAnyH_tk 12 (v := ?vg12) rfl (by kernel_rfl) (by kernel_rfl) (by kernel_rfl) (fun _ _ _ h => h) (by rfl) ?hyg12 (by assumption) ?_
                    case hyg12 => (intro w hSw; (try dsimp only at hSw); go_simp <;> with_reducible rfl)
                    (try simp only [Act.put, List.setIfInBounds_toArray, List.set_cons_zero, List.set_cons_succ])
                    refine wpAnyH_tk 13 (v := ?vg13) rfl (by kernel_rfl) (by kernel_rfl) (by kernel_rfl) (fun _ _ _ h => h) (by rfl) ?hyg13 (by assumption) ?_
                    case hyg13 => (intro w hSw; (try dsimp only at hSw); go_simp <;> with_reducible rfl)
                    (try simp only [Act.put, List.setIfInBounds_toArray, List.set_cons_zero, List.set_cons_succ])
                    refine wpAnyH_tk 14 (v := ?vg14) rfl (by kernel_rfl) (by kernel_rfl) (by kernel_rfl) (fun _ _ _ h => h) (by rfl) ?hyg14 (by assumption) ?_
                    case hyg14 => (intro w hSw; (try dsimp only at hSw); go_simp <;> with_reducible rfl)
                    (try simp only [Act.put, List.setIfInBounds_toArray, List.set_cons_zero, List.set_cons_succ])
                    refine wpAnyH_tk 15 (v := ?vg15) rfl (by kernel_rfl) (by kernel_rfl) (by kernel_rfl) (fun _ _ _ h => h) (by rfl) ?hyg15 (by assumption) ?_
                    case hyg15 => (intro w hSw; (try dsimp only at hSw); go_simp <;> with_reducible rfl)
                    (try simp only [Act.put, List.setIfInBounds_toArray, List.set_cons_zero, List.set_cons_succ])
                    refine wpAnyH_tk 16 (v := ?vg16) rfl (by kernel_rfl) (by kernel_rfl) (by kernel_rfl) (fun _ _ _ h => h) (by rfl) ?hyg16 (by assumption) ?_
                    case hyg16 => (intro w hSw; (try dsimp only at hSw); go_simp <;> with_reducible rfl)
                    (try simp only [Act.put, List.setIfInBounds_toArray, List.set_cons_zero, List.set_cons_succ])
                    refine wpAnyH_tk 17 (v := ?vg17) rfl (by kernel_rfl) (by kernel_rfl) (by kernel_rfl) (fun _ _ _ h => h) (by rfl) ?hyg17 (by assumption) ?_
                    case hyg17 => (intro w hSw; (try dsimp only at hSw); go_simp <;> with_reducible rfl)
                    (try simp only [Act.put, List.setIfInBounds_toArray, List.set_cons_zero, List.set_cons_succ])
                    refine wpAnyH_tk 18 (v := ?vg18) rfl (by kernel_rfl) (by kernel_rfl) (by kernel_rfl) (fun _ _ _ h => h) (by rfl) ?hyg18 (by assumption) ?_
                    case hyg18 => (intro w hSw; (try dsimp only at hSw); go_simp <;> with_reducible rfl)
                    (try simp only [Act.put, List.setIfInBounds_toArray, List.set_cons_zero, List.set_cons_succ])
                    refine wpAnyH_tk 19 (v := ?vg19) rfl (by kernel_rfl) (by kernel_rfl) (by kernel_rfl) (fun _ _ _ h => h) (by rfl) ?hyg19 (by assumption) ?_
                    case hyg19 => (intro w hSw; (try dsimp only at hSw); go_simp <;> with_reducible rfl)
                    (try simp only [Act.put, List.setIfInBounds_toArray, List.set_cons_zero, List.set_cons_succ])
                    refine wpAnyH_tk 20 (v := ?vg20) rfl (by kernel_rfl) (by kernel_rfl) (by kernel_rfl) (fun _ _ _ h => h) (by rfl) ?hyg20 (by assumption) ?_
                    case hyg20 => (intro w hSw; (try dsimp only at hSw); go_simp <;> with_reducible rfl)
                    (try simp only [Act.put, List.setIfInBounds_toArray, List.set_cons_zero, List.set_cons_succ])
                    refine wpAnyH_tk 21 (v := ?vg21) rfl (by kernel_rfl) (by kernel_rfl) (by kernel_rfl) (fun _ _ _ h => h) (by rfl) ?hyg21 (by assumption) ?_
                    case hyg21 => (intro w hSw; (try dsimp only at hSw); go_simp <;> with_reducible rfl)
                    (try simp only [Act.put, List.setIfInBounds_toArray, List.set_cons_zero, List.set_cons_succ])
                    refine wpAnyH_tk 22 (v := ?vg22) rfl (by kernel_rfl) (by kernel_rfl) (by kernel_rfl) (fun _ _ _ h => h) (by rfl) ?hyg22 (by assumption) ?_
                    case hyg22 => (intro w hSw; (try dsimp only at hSw); go_simp <;> with_reducible rfl)
                    (try simp only [Act.put, List.setIfInBounds_toArray, List.set_cons_zero, List.set_cons_succ])
                    refine wpAnyH_tk 23 (v := ?vg23) rfl (by kernel_rfl) (by kernel_rfl) (by kernel_rfl) (fun _ _ _ h => h) (by rfl) ?hyg23 (by assumption) ?_
                    case hyg23 => (intro w hSw; (try dsimp only at hSw); go_simp <;> with_reducible rfl)
                    (try simp only [Act.put, List.setIfInBounds_toArray, List.set_cons_zero, List.set_cons_succ])
                    refine wpAnyH_tk 24 (v := ?vg24) rfl (by kernel_rfl) (by kernel_rfl) (by kernel_rfl) (fun _ _ _ h => h) (by rfl) ?hyg24 (by assumption) ?_
                    case hyg24 => (intro w hSw; (try dsimp only at hSw); go_simp <;> with_reducible rfl)
                    (try simp only [Act.put, List.setIfInBounds_toArray, List.set_cons_zero, List.set_cons_succ])
                    refine wpAnyH_tk 25 (v := ?vg25) rfl (by kernel_rfl) (by kernel_rfl) (by kernel_rfl) (fun _ _ _ h => h) (by rfl) ?hyg25 (by assumption) ?_
                    case hyg25 => (intro w hSw; (try dsimp only at hSw); go_simp <;> with_reducible rfl)
                    (try simp only [Act.put, List.setIfInBounds_toArray, List.set_cons_zero, List.set_cons_succ])
                    refine wpAnyH_tk 26 (v := ?vg26) rfl (by kernel_rfl) (by kernel_rfl) (by kernel_rfl) (fun _ _ _ h => h) (by rfl) ?hyg26 (by assumption) ?_
                    case hyg26 => (intro w hSw; (try dsimp only at hSw); go_simp <;> with_reducible rfl)
                    (try simp only [Act.put, List.setIfInBounds_toArray, List.set_cons_zero, List.set_cons_succ])
                    refine wpAnyH_tk 27 (v := ?vg27) rfl (by kernel_rfl) (by kernel_rfl) (by kernel_rfl) (fun _ _ _ h => h) (by rfl) ?hyg27 (by assumption) ?_
                    case hyg27 => (intro w hSw; (try dsimp only at hSw); go_simp <;> with_reducible rfl)
                    (try simp only [Act.put, List.setIfInBounds_toArray, List.set_cons_zero, List.set_cons_succ])
                    refine wpAnyH_tk 28 (v := ?vg28) rfl (by kernel_rfl) (by kernel_rfl) (by kernel_rfl) (fun _ _ _ h => h) (by rfl) ?hyg28 (by assumption) ?_
                    case hyg28 => (intro w hSw; (try dsimp only at hSw); go_simp <;> with_reducible rfl)
                    (try simp only [Act.put, List.setIfInBounds_toArray, List.set_cons_zero, List.set_cons_succ])
                    refine wpAnyH_tk 29 (v := ?vg29) rfl (by kernel_rfl) (by kernel_rfl) (by kernel_rfl) (fun _ _ _ h => h) (by rfl) ?hyg29 (by assumption) ?_
                    case hyg29 => (intro w hSw; (try dsimp only at hSw); go_simp <;> with_reducible rfl)
                    (try simp only [Act.put, List.setIfInBounds_toArray, List.set_cons_zero, List.set_cons_succ])
                    refine wpAnyH_tk 30 (v := ?vg30) rfl (by kernel_rfl) (by kernel_rfl) (by kernel_rfl) (fun _ _ _ h => h) (by rfl) ?hyg30 (by assumption) ?_
                    case hyg30 => (intro w hSw; (try dsimp only at hSw); go_simp <;> with_reducible rfl)
                    (try simp only [Act.put, List.setIfInBounds_toArray, List.set_cons_zero, List.set_cons_succ])
                    refine wpAnyH_tk 31 (v := ?vg31) rfl (by kernel_rfl) (by kernel_rfl) (by kernel_rfl) (fun _ _ _ h => h) (by rfl) ?hyg31 (by assumption) ?_
                    case hyg31 => (intro w hSw; (try dsimp only at hSw); go_simp <;> with_reducible rfl)
                    (try simp only [Act.put, List.setIfInBounds_toArray, List.set_cons_zero, List.set_cons_succ])
                    refine wpAnyH_tk 32 (v := ?vg32) rfl (by kernel_rfl) (by kernel_rfl) (by kernel_rfl) (fun _ _ _ h => h) (by rfl) ?hyg32 (by assumption) ?_
                    case hyg32 => (intro w hSw; (try dsimp only at hSw); go_simp <;> with_reducible rfl)
                    (try simp only [Act.put, List.setIfInBounds_toArray, List.set_cons_zero, List.set_cons_succ])
                    refine wpAnyH_tk 33 (v := ?vg33) rfl (by kernel_rfl) (by kernel_rfl) (by kernel_rfl) (fun _ _ _ h => h) (by rfl) ?hyg33 (by assumption) ?_
                    case hyg33 => (intro w hSw; (try dsimp only at hSw); go_simp <;> with_reducible rfl)
                    (try simp only [Act.put, List.setIfInBounds_toArray, List.set_cons_zero, List.set_cons_succ])
                    refine wpAnyH_tk 34 (v := ?vg34) rfl (by kernel_rfl) (by kernel_rfl) (by kernel_rfl) (fun _ _ _ h => h) (by rfl) ?hyg34 (by assumption) ?_
                    case hyg34 => (intro w hSw; (try dsimp only at hSw); go_simp <;> with_reducible rfl)
                    (try simp only [Act.put, List.setIfInBounds_toArray, List.set_cons_zero, List.set_cons_succ])
                    refine wpAnyH_done (by kernel_rfl) ?_ _
                    have b1d := (Ext.refl (wr.alloc (.cells #[.int .i64 x.set, .int .i64 x.width] 74))).drew.cell B1.out
                    clear hHeld b0 b1 cn e0 e1 z0b z1b z2b z3b z4b z5b
                    generalize (wr.alloc (.cells #[.int .i64 x.set, .int .i64 x.width] 74)).drew = wz at b1d EA2 ⊢
                    go_wp2
                    go_roundg (gk - 1)
                    case rel => exact ⟨k + 1, s + x.width, by have := Hk.out; omega, by go_num, by go_num, by omega, by omega, SUM2.out, OK2.out, EA2.out⟩
                    case measure => have := Hk.out; omega
      · have ek : k = ms.length := by omega
        have h1 := SUM.out
        have h2 := OKS.out
        rw [ek, List.take_length] at h1 h2
        have HS := hid h1
        have HMP := hid h2
        obtain ⟨c0, c1⟩ := (X0.out.ext E.out).cells
        clear h1 h2 SUM OKS
        go_wp2
        clear c0 c1 ek
        generalize wr = V at *
        go_loopg [68] rs.length (fun g i wr => ∃ j : Nat, j + g = rs.length ∧ i = .int .i64 j ∧ Hid (∀ r ∈ rs.take j, overR r ms ≤ 2 * r.cost) ∧ Hid (Ext V wr))
        case atStart => exact ⟨0, by omega, rfl, fun r hr => by simp at hr, Ext.refl _⟩
        case round =>
          obtain ⟨j, hj, rfl, ROK, E2⟩ := hrel
          have hjl : j ≤ rs.length := by omega
          have Hj := hid hj
          clear hj
          by_cases hjlt : j < rs.length
          · obtain ⟨bb, off, rfl, -, hcc⟩ := Roads.get HV.out j hjlt
            obtain ⟨r0, r1, r2⟩ := hcc _ (HE0.out.trans (E.out.trans E2.out))
            have Hrm := hid (roadAt_mem hjlt)
            obtain ⟨q1, q2, q3, q4, -, q6, q7⟩ := roadOk_iff.1 (HAll.out _ (roadAt_mem hjlt))
            have Htk : Hid (rs.take (j + 1) = rs.take j ++ [roadAt rs j]) := by
              show _ = _
              rw [List.take_succ_eq_append_getElem hjlt, roadAt_get hjlt]
            generalize roadAt rs j = r at *
            have EB := hid (E2.out.alloc (.cells #[.int .i64 r.a, .int .i64 r.b, .int .i64 r.cost] 55))
            have RB := hid (Box3.alloc wr 55 (.int .i64 r.a) (.int .i64 r.b) (.int .i64 r.cost))
            clear hcc
            go_wp2
            generalize wr.alloc (.cells #[.int .i64 r.a, .int .i64 r.b, .int .i64 r.cost] 55) = WB at EB RB ⊢
            generalize wr.heap.size = gx at RB ⊢
            clear r0 r1 r2
            go_loopg [74, 13] ms.length (fun g i v wq => ∃ (n : Nat) (t : Int), n + g = ms.length ∧ i = .int .i64 n ∧ v = .int .i64 t ∧ 0 ≤ t ∧ t ≤ 1000 * (n : Int) ∧ Hid (t = overR r (ms.take n)) ∧ Hid (Ext WB wq))
            case atStart => exact ⟨0, 0, by omega, rfl, rfl, by omega, by omega, rfl, Ext.refl _⟩
            case round =>
              obtain ⟨n, t, hn, rfl, rfl, ht0, ht1, OV, E3⟩ := hrel
              have hnl : n ≤ ms.length := by omega
              have Hn := hid hn
              clear hn
              have ROADC := hid (RB.out.ext E3.out)
              by_cases hnlt : n < ms.length
              · obtain ⟨bm, om, rfl, hce⟩ := Moats.get HM.out n hnlt
                obtain ⟨e0, e1⟩ := hce _ (HE0.out.trans (E.out.trans (EB.out.trans E3.out)))
                have Ho := hid (overR_succ (r := r) hnlt)
                obtain ⟨m1, m2, -, -, m5, m6⟩ := HMP.out _ (moatAt_mem hnlt)
                rw [Int.toNat_natCast, ← Hpw.out] at m2
                generalize moatAt ms n = x at *
                have EC := hid (E3.out.alloc (.cells #[.int .i64 x.set, .int .i64 x.width] 74))
                obtain ⟨b0, b1⟩ := (Box2.alloc wr 74 (.int .i64 x.set) (.int .i64 x.width)).cells
                obtain ⟨d0, d1, d2⟩ := (ROADC.out.ext (Ext.ofAlloc wr (.cells #[.int .i64 x.set, .int .i64 x.width] 74))).cells
                have B1 := hid b1
                obtain ⟨u0, u1⟩ := div_in x.set r.a.toNat m1 (by omega)
                obtain ⟨v0, v1⟩ := div_in x.set r.b.toNat m1 (by omega)
                clear hce
                go_wp2_with (fail)
                refine (crosses_any r x.set _ q1 q3 (by omega) (by omega) m1 (by omega)).mono ?_
                rintro e w9 ⟨rfl, he⟩
                have E9 := hid (EC.out.trans he)
                have b1d := he.cell B1.out
                clear he b0 b1 d0 d1 d2 e0 e1 u0 u1 v0 v1
                cases hcr : crossB r x.set
                · have OV2 : Hid (t = overR r (ms.take (n + 1))) := by show _ = _; rw [Ho.out, ← OV.out]; unfold overF; rw [hcr]; rfl
                  clear hcr
                  go_wp2
                  go_roundg (ms.length - (n + 1))
                  case rel => exact ⟨n + 1, t, by omega, by go_num, rfl, by omega, by omega, OV2.out, E9.out⟩
                  case measure => have := Hn.out; omega
                · have OV2 : Hid (t + x.width = overR r (ms.take (n + 1))) := by show _ = _; rw [Ho.out, ← OV.out]; unfold overF; rw [hcr]; rfl
                  clear hcr
                  go_wp2
                  go_roundg (ms.length - (n + 1))
                  case rel => exact ⟨n + 1, t + x.width, by omega, by go_num, by go_num, by omega, by omega, OV2.out, E9.out⟩
                  case measure => have := Hn.out; omega
              · have en : n = ms.length := by omega
                have h1 := OV.out
                rw [en, List.take_length] at h1
                have HO := hid h1
                obtain ⟨d0, d1, d2⟩ := ROADC.out.cells
                have hmw : IntKind.i64.wrap (2 * r.cost) = 2 * r.cost := by rw [IntKind.wrap_i64]; omega
                clear h1 en
                by_cases hov : 2 * r.cost < t
                · have HR := hid (fit_over (n := (N : Int)) (stops := stops) (ms := ms) Hrm.out (by rw [← HO.out]; omega))
                  go_wp2
                  go_ret2
                  exact ⟨by rw [HC.out.1, HC.out.2, HR.out.1, HR.out.2]; rfl, HE0.out.trans (E.out.trans (EB.out.trans E3.out))⟩
                · have ROK2 : Hid (∀ r' ∈ rs.take (j + 1), overR r' ms ≤ 2 * r'.cost) := by
                    intro r' hr'
                    rw [Htk.out] at hr'
                    rcases List.mem_append.1 hr' with h | h
                    · exact ROK.out r' h
                    · simp only [List.mem_singleton] at h
                      subst h
                      rw [← HO.out]; omega
                  have EF := hid (EB.out.trans E3.out)
                  go_wp2
                  go_roundg (rs.length - (j + 1))
                  case rel => exact ⟨j + 1, by omega, by go_num, ROK2.out, EF.out⟩
                  case measure => have := Hj.out; omega
          · have HRO : Hid (∀ r ∈ rs, overR r ms ≤ 2 * r.cost) := by
              have h := ROK.out
              rw [List.take_of_length_le (by omega)] at h
              exact h
            have HR := hid (fit_yes HMP.out HRO.out)
            clear ROK
            go_wp2
            go_ret2
            exact ⟨by rw [HC.out.1, HC.out.2, HR.out.1, HR.out.2, ← HS.out]; rfl, HE0.out.trans (E.out.trans E2.out)⟩
  · have hl1 : (200 : Int) < ms.length := by omega
    have HC : Hid (chkV N rs stops ms = 0 ∧ chkB N rs stops ms = false) := by
      unfold chkV chkB
      rw [if_neg h200, if_neg h200]; exact ⟨rfl, rfl⟩
    clear h200
    go_enter Tryd.func46, Tryd.ntmps46
    go_wp2
    go_ret2
    exact ⟨by rw [HC.out.1, HC.out.2]; rfl, HE0.out⟩

end Go.Proofs.YtkbkgkmogbkabaaDoor

/-
  Contract of CheckMoats.
-/
namespace Go.Proofs.YtkbkgkmogbkabaaDoor
open Go.RowKit

set_option maxRecDepth 20000 in
set_option maxHeartbeats 4000000 in
theorem CheckMoats_bad (vr vm : Value) (m : MapD) (s : Int) (ms : List MoatD) (w : World) (hm : MapR w vr m) (hmo : Moats w vm ms) (hb : mapOk m = false ∨ (mapOk m = true ∧ stopsB m.n s = false)) :
    Calls Tryd.prog 25 #[.agg #[.int .i64 m.n, vr], .int .i64 s, vm] w fun e w' => e = .returned (.tuple #[.int .i64 0, .bool false, .int .i64 2]) ∧ Ext w w' := by
  obtain ⟨ao, cap, rfl⟩ := hm.shape
  obtain ⟨am, cm, rfl⟩ := hmo.shape
  have HV := hid hm
  have X0 := hid (Box2.alloc w 31 (.int .i64 m.n) (.slice ao m.roads.length cap))
  clear hm hmo
  go_enter Tryd.func25, Tryd.ntmps25
  go_wp2_with (fail)
  refine (valid_any _ m _ (MapR.ext HV.out (Ext.ofAlloc _ _))).mono ?_
  rintro e w1 ⟨rfl, he⟩
  have HE := hid ((Ext.ofAlloc w _).trans he)
  obtain ⟨c0, c1⟩ := (X0.out.ext he).cells
  clear he
  rcases hb with h1 | ⟨h1, h2⟩
  · rw [h1]
    clear h1
    go_wp2
    refine bodyPost_ret (v := .tuple #[.int .i64 0, .bool false, .int .i64 2]) (by simp [results, Tryd.results25, go_sem]) rfl ?_
    exact ⟨rfl, HE.out⟩
  · have hok2 := h1
    unfold mapOk at hok2
    rw [Bool.and_eq_true, decide_eq_true_iff] at hok2
    obtain ⟨⟨k1, k8, -⟩, -⟩ := hok2
    rw [h1]
    clear h1
    have HS := hid h2
    clear h2
    go_wp2_with (fail)
    refine (stops_any _ m s _ (MapR.ext HV.out HE.out) (by omega) k8).mono ?_
    rw [HS.out]
    rintro e w2 ⟨rfl, he⟩
    replace HE := hid (HE.out.trans he)
    clear he c0 c1
    go_wp2
    refine bodyPost_ret (v := .tuple #[.int .i64 0, .bool false, .int .i64 2]) (by simp [results, Tryd.results25, go_sem]) rfl ?_
    exact ⟨rfl, HE.out⟩

set_option maxRecDepth 20000 in
set_option maxHeartbeats 4000000 in
theorem CheckMoats_ok (vr vm : Value) (N : Nat) (rs : List RoadD) (s : Int) (ms : List MoatD) (w : World) (hv : Roads w vr rs) (hmo : Moats w vm ms) (hok : mapOk ⟨N, rs⟩ = true) (hs : stopsB N s = true) :
    Calls Tryd.prog 25 #[.agg #[.int .i64 N, vr], .int .i64 s, vm] w fun e w' => e = .returned (.tuple #[.int .i64 (chkV N rs s ms), .bool (chkB N rs s ms), .int .i64 0]) ∧ Ext w w' := by
  obtain ⟨ao, cap, rfl⟩ := hv.shape
  have HM := hid hmo
  obtain ⟨am, cm, rfl⟩ := hmo.shape
  have HV := hid hv
  have HOk := hid hok
  have HS := hid hs
  have hok2 := hok
  unfold mapOk at hok2
  rw [Bool.and_eq_true, decide_eq_true_iff, List.all_eq_true] at hok2
  obtain ⟨⟨h1, h8, h16⟩, hall⟩ := hok2
  dsimp only at h1 h8 h16 hall
  have HAll := hid hall
  have X0 := hid (Box2.alloc w 31 (.int .i64 N) (.slice ao rs.length cap))
  clear hv hmo hok hs hall
  go_enter Tryd.func25, Tryd.ntmps25
  go_wp2_with (fail)
  refine (valid_any _ ⟨N, rs⟩ _ (Roads.ext HV.out (Ext.ofAlloc _ _))).mono ?_
  rw [HOk.out]
  rintro e w1 ⟨rfl, he⟩
  have HE := hid ((Ext.ofAlloc w _).trans he)
  obtain ⟨c0, c1⟩ := (X0.out.ext he).cells
  clear he
  go_wp2_with (fail)
  refine (stops_any _ ⟨N, rs⟩ s _ (Roads.ext HV.out HE.out) (by show (0 : Int) ≤ N; omega) (by show (N : Int) ≤ 8; omega)).mono ?_
  rw [HS.out]
  rintro e w2 ⟨rfl, he⟩
  replace HE := hid (HE.out.trans he)
  replace c0 := he.cell c0
  replace c1 := he.cell c1
  clear he
  go_wp2_with (fail)
  refine (Moats_any _ _ N rs s ms _ (Roads.ext HV.out HE.out) (Moats.ext HM.out HE.out) HAll.out (by omega)).mono ?_
  rintro e w3 ⟨rfl, he⟩
  replace HE := hid (HE.out.trans he)
  obtain ⟨cv, hcv⟩ : ∃ cv, cv = chkV N rs s ms := ⟨_, rfl⟩
  obtain ⟨cb, hcb⟩ : ∃ cb, cb = chkB N rs s ms := ⟨_, rfl⟩
  rw [← hcv, ← hcb]
  have HCV := hid hcv
  have HCB := hid hcb
  clear he c0 c1 hcv hcb
  go_wp2
  refine bodyPost_ret (v := .tuple #[.int .i64 cv, .bool cb, .int .i64 0]) (by simp [results, Tryd.results25, go_sem]) rfl ?_
  exact ⟨by rw [HCV.out, HCB.out], HE.out⟩

end Go.Proofs.YtkbkgkmogbkabaaDoor

/-
  The statement RouteBounds: its walk.
-/
namespace Go.Proofs.YtkbkgkmogbkabaaDoor
open Go.RowKit

/-- What the check of moats that came in answers. -/
theorem chk_len {n : Int} {rs : List RoadD} {s : Int} {ms : List MoatD} : chkB n rs s ms = false → True := fun _ => trivial
theorem tree_cn {rs : List RoadD} {s : Nat} {l : List Int} (h : treeP rs s l) : Cn rs s := fun x y hx hy => (treeP_cn h x y hx hy).mono (treeP_in h)

set_option maxRecDepth 20000 in
set_option maxHeartbeats 32000000 in
theorem RouteBounds_any (vr vm vt : Value) (m : MapD) (st : Int) (ms : List MoatD) (l : List Int) (w : World) (hm : MapR w vr m) (hmo : Moats w vm ms) (hl : Ints w vt l) (hTZ : TZ w) :
    Calls Tryd.prog 7 #[.agg #[.int .i64 m.n, vr], .int .i64 st, vm, vt] w fun e w' => e = .returned (.bool true) ∧ Ext w w' := by
  obtain ⟨ao, cap, rfl⟩ := hm.shape
  obtain ⟨a1m, c1m, rfl⟩ := hmo.shape
  have HM := hid hm
  have HMS := hid hmo
  have HLS := hid hl
  have HTZ := hid hTZ
  obtain ⟨-, a1t, c1t, rfl, -⟩ := hl
  have X0 := Box2.alloc w 24 (.int .i64 m.n) (.slice ao m.roads.length cap)
  clear hm hmo hTZ
  by_cases hb : mapOk m = true
  · obtain ⟨n, rs⟩ := m
    have hok2 := hb
    unfold mapOk at hok2
    rw [Bool.and_eq_true, decide_eq_true_iff, List.all_eq_true] at hok2
    obtain ⟨⟨h1, h8, h16⟩, hall⟩ := hok2
    dsimp only at h1 h8 h16 hall
    obtain ⟨N, rfl⟩ := Int.eq_ofNat_of_zero_le (show 0 ≤ n by omega)
    have hN1 : 1 ≤ N := by omega
    have hN8 : N ≤ 8 := by omega
    have HB := hid hb
    have HAll := hid hall
    have HTK : Hid (rs.take 18 = rs) := congrArg MapD.roads (cutM_id hb)
    dsimp only at X0 HM
    clear hb hall
    by_cases hst : stopsB N st = true
    · obtain ⟨s, rfl⟩ := Int.eq_ofNat_of_zero_le (show 0 ≤ st by unfold stopsB at hst; rw [decide_eq_true_iff] at hst; omega)
      have HST := hid hst
      obtain ⟨-, -, -, -, s0, sN⟩ := ok_parts HB.out hst
      have HSN := hid sN
      obtain ⟨q1, q2⟩ := chk_cut N rs s ms
      obtain ⟨sv, hsv⟩ : ∃ x, x = chkV N rs s ms := ⟨_, rfl⟩
      obtain ⟨ok, hok⟩ : ∃ x, x = chkB N rs s ms := ⟨_, rfl⟩
      have HSV : Hid (chkV N rs s ms = sv) := hsv.symm
      rw [← hsv] at q1
      rw [← hok] at q2
      have HCV := hid q1
      have HCB := hid q2
      obtain ⟨c, b, htv⟩ := TreeVal.ex rs s l
      have HTV := hid htv
      clear hst sN q1 q2 hsv htv
      cases b
      · cases ok
        · by_cases hcn : Cn rs s
          · have HCN := hid hcn
            clear hcn hok
            go_enter Tryd.func7, Tryd.ntmps7
            go_wp2_with (fail)
            refine (Of_any _ ⟨N, rs⟩ _ (MapR.ext HM.out (Ext.ofAlloc w _))).mono ?_
            rintro e w1 ⟨uU, rfl, hu, he1⟩
            dsimp only at hu
            rw [HTK.out] at hu
            have X1 := hid (X0.ext he1)
            have E1 := hid ((Ext.ofAlloc w _).trans he1)
            clear he1
            obtain ⟨c0, c1⟩ := X1.out.cells
            have U_1 := hid (hu.roads (by omega))
            clear hu
            go_wp2_with (fail)
            refine (moats_any _ ms _ (HMS.out.ext E1.out)).mono ?_
            rintro e w2 ⟨um, rfl, hmm, he2⟩
            have hmr := hmm.moats (by rw [List.length_take]; omega)
            obtain ⟨a1, c1x, rfl⟩ := hmr.shape
            generalize (ms.take 202).length = n1 at hmr ⊢
            clear hmm
            clear c0 c1
            have X2 := hid (X1.out.ext he2)
            have U_2 := hid (U_1.out.ext he2)
            have E2 := hid (E1.out.trans he2)
            clear he2
            obtain ⟨c0, c1⟩ := X2.out.cells
            have O_2 := hid (hmr)
            clear hmr
            go_wp2_with (fail)
            refine (CheckMoats_ok _ _ N rs s _ _ U_2.out O_2.out HB.out HST.out).mono ?_
            rw [HCV.out, HCB.out]
            rintro e w3 ⟨rfl, he3⟩
            clear c0 c1
            have X3 := hid (X2.out.ext he3)
            have U_3 := hid (U_2.out.ext he3)
            have O_3 := hid (O_2.out.ext he3)
            have E3 := hid (E2.out.trans he3)
            clear he3
            obtain ⟨c0, c1⟩ := X3.out.cells
            go_wp2_with (fail)
            refine (Of_any _ ⟨N, rs⟩ _ (MapR.ext HM.out E3.out)).mono ?_
            rintro e w4 ⟨uU, rfl, hu, he4⟩
            dsimp only at hu
            rw [HTK.out] at hu
            clear c0 c1
            have X4 := hid (X3.out.ext he4)
            have E4 := hid (E3.out.trans he4)
            clear he4
            obtain ⟨c0, c1⟩ := X4.out.cells
            have U_4 := hid (hu.roads (by omega))
            clear hu
            go_wp2_with (fail)
            refine (list_any _ l _ (HLS.out.ext E4.out)).mono ?_
            rintro e w5 ⟨uL, rfl, hll, he5⟩
            obtain ⟨-, a2, c2x, rfl, -⟩ := id hll
            generalize (l.take 18).length = n2 at hll ⊢
            clear c0 c1
            have X5 := hid (X4.out.ext he5)
            have U_5 := hid (U_4.out.ext he5)
            have E5 := hid (E4.out.trans he5)
            clear he5
            obtain ⟨c0, c1⟩ := X5.out.cells
            have L_5 := hid (hll)
            clear hll
            go_wp2_with (fail)
            refine (CheckTree_ok _ _ N rs s _ _ U_5.out L_5.out HB.out HST.out (HTZ.out.ext E5.out) (treeP_cut h16 HTV.out)).mono ?_
            rintro e w6 ⟨rfl, he6⟩
            clear c0 c1
            have X6 := hid (X5.out.ext he6)
            have U_6 := hid (U_5.out.ext he6)
            have L_6 := hid (L_5.out.ext he6)
            have E6 := hid (E5.out.trans he6)
            clear he6
            obtain ⟨c0, c1⟩ := X6.out.cells
            go_wp2_with (fail)
            refine (Of_any _ ⟨N, rs⟩ _ (MapR.ext HM.out E6.out)).mono ?_
            rintro e w7 ⟨uU, rfl, hu, he7⟩
            dsimp only at hu
            rw [HTK.out] at hu
            clear c0 c1
            have X7 := hid (X6.out.ext he7)
            have E7 := hid (E6.out.trans he7)
            clear he7
            obtain ⟨c0, c1⟩ := X7.out.cells
            have U_7 := hid (hu.roads (by omega))
            clear hu
            go_wp2_with (fail)
            refine (Tree_ok _ N rs s _ U_7.out HB.out HST.out (HTZ.out.ext E7.out) HCN.out).mono ?_
            rintro e w8 ⟨va, la, rfl, hoa, hba, he8⟩
            have HBA := hid hba.out
            obtain ⟨aa, ca, rfl⟩ := own_len hoa
            have HOA := hid (hoa.ints (by have := treeP_len HBA.out.1; omega))
            clear hoa hba
            clear c0 c1
            have X8 := hid (X7.out.ext he8)
            have U_8 := hid (U_7.out.ext he8)
            have E8 := hid (E7.out.trans he8)
            clear he8
            obtain ⟨c0, c1⟩ := X8.out.cells
            have OA_8 := hid (HOA.out)
            clear HOA
            go_wp2_with (fail)
            refine (Of_any _ ⟨N, rs⟩ _ (MapR.ext HM.out E8.out)).mono ?_
            rintro e w9 ⟨uU, rfl, hu, he9⟩
            dsimp only at hu
            rw [HTK.out] at hu
            clear c0 c1
            have X9 := hid (X8.out.ext he9)
            have OA_9 := hid (OA_8.out.ext he9)
            have E9 := hid (E8.out.trans he9)
            clear he9
            obtain ⟨c0, c1⟩ := X9.out.cells
            have U_9 := hid (hu.roads (by omega))
            clear hu
            go_wp2_with (fail)
            refine (MoatsT_ok _ N rs s _ U_9.out HB.out HST.out (HTZ.out.ext E9.out) HCN.out).mono ?_
            rintro e w10 ⟨vo, mo, rfl, hom, hfit, he10⟩
            obtain ⟨f1, f2, f3⟩ := hfit.out
            obtain ⟨am, cm, rfl⟩ := own_len hom
            have HMO := hid (OwnMt.moats hom (by omega))
            have HF1 := hid f1
            have HF2 := hid f2
            have HF3 := hid f3
            clear hom hfit f1 f2 f3
            clear c0 c1
            have X10 := hid (X9.out.ext he10)
            have OA_10 := hid (OA_9.out.ext he10)
            have U_10 := hid (U_9.out.ext he10)
            have E10 := hid (E9.out.trans he10)
            clear he10
            obtain ⟨c0, c1⟩ := X10.out.cells
            have MO_10 := hid (HMO.out)
            clear HMO
            go_wp2_with (fail)
            refine (Of_any _ ⟨N, rs⟩ _ (MapR.ext HM.out E10.out)).mono ?_
            rintro e w11 ⟨uU, rfl, hu, he11⟩
            dsimp only at hu
            rw [HTK.out] at hu
            clear c0 c1
            have X11 := hid (X10.out.ext he11)
            have OA_11 := hid (OA_10.out.ext he11)
            have MO_11 := hid (MO_10.out.ext he11)
            have E11 := hid (E10.out.trans he11)
            clear he11
            obtain ⟨c0, c1⟩ := X11.out.cells
            have U_11 := hid (hu.roads (by omega))
            clear hu
            go_wp2_with (fail)
            refine (CheckTree_ok _ _ N rs s _ _ U_11.out OA_11.out HB.out HST.out (HTZ.out.ext E11.out) (.inl ⟨HBA.out.1, rfl, rfl⟩)).mono ?_
            rintro e w12 ⟨rfl, he12⟩
            clear c0 c1
            have X12 := hid (X11.out.ext he12)
            have OA_12 := hid (OA_11.out.ext he12)
            have MO_12 := hid (MO_11.out.ext he12)
            have U_12 := hid (U_11.out.ext he12)
            have E12 := hid (E11.out.trans he12)
            clear he12
            obtain ⟨c0, c1⟩ := X12.out.cells
            go_wp2_with (fail)
            refine (Of_any _ ⟨N, rs⟩ _ (MapR.ext HM.out E12.out)).mono ?_
            rintro e w13 ⟨uU, rfl, hu, he13⟩
            dsimp only at hu
            rw [HTK.out] at hu
            clear c0 c1
            have X13 := hid (X12.out.ext he13)
            have MO_13 := hid (MO_12.out.ext he13)
            have E13 := hid (E12.out.trans he13)
            clear he13
            obtain ⟨c0, c1⟩ := X13.out.cells
            have U_13 := hid (hu.roads (by omega))
            clear hu
            obtain ⟨v1, v2⟩ := chk_yes HF1.out HF2.out
            have hbd := moat_bound hN8 HSN.out HF2.out HBA.out.1
            have hcost := best_cost HB.out HST.out HCN.out HBA.out
            have hge := HF3.out
            rw [← hcost] at hge
            obtain ⟨k0, k1⟩ := treeP_cost HAll.out h16 HBA.out.1
            obtain ⟨cb, hcb⟩ : ∃ x, x = costL rs la := ⟨_, rfl⟩
            obtain ⟨sw, hsw⟩ : ∃ x, x = sumW mo := ⟨_, rfl⟩
            rw [← hsw] at v1 hbd hge
            rw [← hcb] at hbd hge k0 k1
            have HV1 := hid v1
            have HV2 := hid v2
            have HCB2 := hid hcb
            clear v1 v2 hcost hcb hsw
            go_wp2_with (fail)
            refine (CheckMoats_ok _ _ N rs s _ _ U_13.out MO_13.out HB.out HST.out).mono ?_
            rw [HV1.out, HV2.out]
            rintro e w14 ⟨rfl, he14⟩
            clear c0 c1
            have X14 := hid (X13.out.ext he14)
            have MO_14 := hid (MO_13.out.ext he14)
            have U_14 := hid (U_13.out.ext he14)
            have E14 := hid (E13.out.trans he14)
            clear he14
            obtain ⟨c0, c1⟩ := X14.out.cells
            rw [← HCB2.out]
            have hw3 : IntKind.i64.wrap (2 * cb) = 2 * cb := wraps_i64_62 _ (by omega) (by omega)
            have hw4 : wrap64 (2 * cb) = 2 * cb := IntWalk.wrap64_in _ (by omega)
            have hgeb : decide (sw ≥ cb) = true := decide_eq_true (by omega)
            go_wp2_with (fail)
            refine (awake_any _).mono ?_
            rintro e w15 ⟨rfl, he15⟩
            clear c0 c1
            have E15 := hid (E14.out.trans he15)
            clear he15
            go_wp2
            go_ret
            exact ⟨rfl, E15.out⟩
          · have HCN := hid hcn
            clear hcn hok
            go_enter Tryd.func7, Tryd.ntmps7
            go_wp2_with (fail)
            refine (Of_any _ ⟨N, rs⟩ _ (MapR.ext HM.out (Ext.ofAlloc w _))).mono ?_
            rintro e w1 ⟨uU, rfl, hu, he1⟩
            dsimp only at hu
            rw [HTK.out] at hu
            have X1 := hid (X0.ext he1)
            have E1 := hid ((Ext.ofAlloc w _).trans he1)
            clear he1
            obtain ⟨c0, c1⟩ := X1.out.cells
            have U_1 := hid (hu.roads (by omega))
            clear hu
            go_wp2_with (fail)
            refine (moats_any _ ms _ (HMS.out.ext E1.out)).mono ?_
            rintro e w2 ⟨um, rfl, hmm, he2⟩
            have hmr := hmm.moats (by rw [List.length_take]; omega)
            obtain ⟨a1, c1x, rfl⟩ := hmr.shape
            generalize (ms.take 202).length = n1 at hmr ⊢
            clear hmm
            clear c0 c1
            have X2 := hid (X1.out.ext he2)
            have U_2 := hid (U_1.out.ext he2)
            have E2 := hid (E1.out.trans he2)
            clear he2
            obtain ⟨c0, c1⟩ := X2.out.cells
            have O_2 := hid (hmr)
            clear hmr
            go_wp2_with (fail)
            refine (CheckMoats_ok _ _ N rs s _ _ U_2.out O_2.out HB.out HST.out).mono ?_
            rw [HCV.out, HCB.out]
            rintro e w3 ⟨rfl, he3⟩
            clear c0 c1
            have X3 := hid (X2.out.ext he3)
            have U_3 := hid (U_2.out.ext he3)
            have O_3 := hid (O_2.out.ext he3)
            have E3 := hid (E2.out.trans he3)
            clear he3
            obtain ⟨c0, c1⟩ := X3.out.cells
            go_wp2_with (fail)
            refine (Of_any _ ⟨N, rs⟩ _ (MapR.ext HM.out E3.out)).mono ?_
            rintro e w4 ⟨uU, rfl, hu, he4⟩
            dsimp only at hu
            rw [HTK.out] at hu
            clear c0 c1
            have X4 := hid (X3.out.ext he4)
            have E4 := hid (E3.out.trans he4)
            clear he4
            obtain ⟨c0, c1⟩ := X4.out.cells
            have U_4 := hid (hu.roads (by omega))
            clear hu
            go_wp2_with (fail)
            refine (list_any _ l _ (HLS.out.ext E4.out)).mono ?_
            rintro e w5 ⟨uL, rfl, hll, he5⟩
            obtain ⟨-, a2, c2x, rfl, -⟩ := id hll
            generalize (l.take 18).length = n2 at hll ⊢
            clear c0 c1
            have X5 := hid (X4.out.ext he5)
            have U_5 := hid (U_4.out.ext he5)
            have E5 := hid (E4.out.trans he5)
            clear he5
            obtain ⟨c0, c1⟩ := X5.out.cells
            have L_5 := hid (hll)
            clear hll
            go_wp2_with (fail)
            refine (CheckTree_ok _ _ N rs s _ _ U_5.out L_5.out HB.out HST.out (HTZ.out.ext E5.out) (treeP_cut h16 HTV.out)).mono ?_
            rintro e w6 ⟨rfl, he6⟩
            clear c0 c1
            have X6 := hid (X5.out.ext he6)
            have U_6 := hid (U_5.out.ext he6)
            have L_6 := hid (L_5.out.ext he6)
            have E6 := hid (E5.out.trans he6)
            clear he6
            obtain ⟨c0, c1⟩ := X6.out.cells
            go_wp2_with (fail)
            refine (Of_any _ ⟨N, rs⟩ _ (MapR.ext HM.out E6.out)).mono ?_
            rintro e w7 ⟨uU, rfl, hu, he7⟩
            dsimp only at hu
            rw [HTK.out] at hu
            clear c0 c1
            have X7 := hid (X6.out.ext he7)
            have E7 := hid (E6.out.trans he7)
            clear he7
            obtain ⟨c0, c1⟩ := X7.out.cells
            have U_7 := hid (hu.roads (by omega))
            clear hu
            go_wp2_with (fail)
            refine (Tree_none _ N rs s _ U_7.out HB.out HST.out (HTZ.out.ext E7.out) HCN.out).mono ?_
            rintro e w8 ⟨rfl, he8⟩
            clear c0 c1
            have X8 := hid (X7.out.ext he8)
            have U_8 := hid (U_7.out.ext he8)
            have E8 := hid (E7.out.trans he8)
            clear he8
            obtain ⟨c0, c1⟩ := X8.out.cells
            go_wp2_with (fail)
            refine (Of_any _ ⟨N, rs⟩ _ (MapR.ext HM.out E8.out)).mono ?_
            rintro e w9 ⟨uU, rfl, hu, he9⟩
            dsimp only at hu
            rw [HTK.out] at hu
            clear c0 c1
            have X9 := hid (X8.out.ext he9)
            have E9 := hid (E8.out.trans he9)
            clear he9
            obtain ⟨c0, c1⟩ := X9.out.cells
            have U_9 := hid (hu.roads (by omega))
            clear hu
            go_wp2_with (fail)
            refine (MoatsT_none _ N rs s _ U_9.out HB.out HST.out (HTZ.out.ext E9.out) HCN.out).mono ?_
            rintro e w10 ⟨rfl, he10⟩
            clear c0 c1
            have X10 := hid (X9.out.ext he10)
            have U_10 := hid (U_9.out.ext he10)
            have E10 := hid (E9.out.trans he10)
            clear he10
            obtain ⟨c0, c1⟩ := X10.out.cells
            go_wp2_with (fail)
            refine (awake_any _).mono ?_
            rintro e w11 ⟨rfl, he11⟩
            clear c0 c1
            have E11 := hid (E10.out.trans he11)
            clear he11
            go_wp2
            go_ret
            exact ⟨rfl, E11.out⟩
        · have HOK : Hid (chkB N rs s ms = true) := hok.symm
          by_cases hcn : Cn rs s
          · have HCN := hid hcn
            clear hcn hok
            go_enter Tryd.func7, Tryd.ntmps7
            go_wp2_with (fail)
            refine (Of_any _ ⟨N, rs⟩ _ (MapR.ext HM.out (Ext.ofAlloc w _))).mono ?_
            rintro e w1 ⟨uU, rfl, hu, he1⟩
            dsimp only at hu
            rw [HTK.out] at hu
            have X1 := hid (X0.ext he1)
            have E1 := hid ((Ext.ofAlloc w _).trans he1)
            clear he1
            obtain ⟨c0, c1⟩ := X1.out.cells
            have U_1 := hid (hu.roads (by omega))
            clear hu
            go_wp2_with (fail)
            refine (moats_any _ ms _ (HMS.out.ext E1.out)).mono ?_
            rintro e w2 ⟨um, rfl, hmm, he2⟩
            have hmr := hmm.moats (by rw [List.length_take]; omega)
            obtain ⟨a1, c1x, rfl⟩ := hmr.shape
            generalize (ms.take 202).length = n1 at hmr ⊢
            clear hmm
            clear c0 c1
            have X2 := hid (X1.out.ext he2)
            have U_2 := hid (U_1.out.ext he2)
            have E2 := hid (E1.out.trans he2)
            clear he2
            obtain ⟨c0, c1⟩ := X2.out.cells
            have O_2 := hid (hmr)
            clear hmr
            go_wp2_with (fail)
            refine (CheckMoats_ok _ _ N rs s _ _ U_2.out O_2.out HB.out HST.out).mono ?_
            rw [HCV.out, HCB.out]
            rintro e w3 ⟨rfl, he3⟩
            clear c0 c1
            have X3 := hid (X2.out.ext he3)
            have U_3 := hid (U_2.out.ext he3)
            have O_3 := hid (O_2.out.ext he3)
            have E3 := hid (E2.out.trans he3)
            clear he3
            obtain ⟨c0, c1⟩ := X3.out.cells
            go_wp2_with (fail)
            refine (Of_any _ ⟨N, rs⟩ _ (MapR.ext HM.out E3.out)).mono ?_
            rintro e w4 ⟨uU, rfl, hu, he4⟩
            dsimp only at hu
            rw [HTK.out] at hu
            clear c0 c1
            have X4 := hid (X3.out.ext he4)
            have E4 := hid (E3.out.trans he4)
            clear he4
            obtain ⟨c0, c1⟩ := X4.out.cells
            have U_4 := hid (hu.roads (by omega))
            clear hu
            go_wp2_with (fail)
            refine (list_any _ l _ (HLS.out.ext E4.out)).mono ?_
            rintro e w5 ⟨uL, rfl, hll, he5⟩
            obtain ⟨-, a2, c2x, rfl, -⟩ := id hll
            generalize (l.take 18).length = n2 at hll ⊢
            clear c0 c1
            have X5 := hid (X4.out.ext he5)
            have U_5 := hid (U_4.out.ext he5)
            have E5 := hid (E4.out.trans he5)
            clear he5
            obtain ⟨c0, c1⟩ := X5.out.cells
            have L_5 := hid (hll)
            clear hll
            go_wp2_with (fail)
            refine (CheckTree_ok _ _ N rs s _ _ U_5.out L_5.out HB.out HST.out (HTZ.out.ext E5.out) (treeP_cut h16 HTV.out)).mono ?_
            rintro e w6 ⟨rfl, he6⟩
            clear c0 c1
            have X6 := hid (X5.out.ext he6)
            have U_6 := hid (U_5.out.ext he6)
            have L_6 := hid (L_5.out.ext he6)
            have E6 := hid (E5.out.trans he6)
            clear he6
            obtain ⟨c0, c1⟩ := X6.out.cells
            go_wp2_with (fail)
            refine (Of_any _ ⟨N, rs⟩ _ (MapR.ext HM.out E6.out)).mono ?_
            rintro e w7 ⟨uU, rfl, hu, he7⟩
            dsimp only at hu
            rw [HTK.out] at hu
            clear c0 c1
            have X7 := hid (X6.out.ext he7)
            have E7 := hid (E6.out.trans he7)
            clear he7
            obtain ⟨c0, c1⟩ := X7.out.cells
            have U_7 := hid (hu.roads (by omega))
            clear hu
            go_wp2_with (fail)
            refine (Tree_ok _ N rs s _ U_7.out HB.out HST.out (HTZ.out.ext E7.out) HCN.out).mono ?_
            rintro e w8 ⟨va, la, rfl, hoa, hba, he8⟩
            have HBA := hid hba.out
            obtain ⟨aa, ca, rfl⟩ := own_len hoa
            have HOA := hid (hoa.ints (by have := treeP_len HBA.out.1; omega))
            clear hoa hba
            clear c0 c1
            have X8 := hid (X7.out.ext he8)
            have U_8 := hid (U_7.out.ext he8)
            have E8 := hid (E7.out.trans he8)
            clear he8
            obtain ⟨c0, c1⟩ := X8.out.cells
            have OA_8 := hid (HOA.out)
            clear HOA
            go_wp2_with (fail)
            refine (Of_any _ ⟨N, rs⟩ _ (MapR.ext HM.out E8.out)).mono ?_
            rintro e w9 ⟨uU, rfl, hu, he9⟩
            dsimp only at hu
            rw [HTK.out] at hu
            clear c0 c1
            have X9 := hid (X8.out.ext he9)
            have OA_9 := hid (OA_8.out.ext he9)
            have E9 := hid (E8.out.trans he9)
            clear he9
            obtain ⟨c0, c1⟩ := X9.out.cells
            have U_9 := hid (hu.roads (by omega))
            clear hu
            go_wp2_with (fail)
            refine (MoatsT_ok _ N rs s _ U_9.out HB.out HST.out (HTZ.out.ext E9.out) HCN.out).mono ?_
            rintro e w10 ⟨vo, mo, rfl, hom, hfit, he10⟩
            obtain ⟨f1, f2, f3⟩ := hfit.out
            obtain ⟨am, cm, rfl⟩ := own_len hom
            have HMO := hid (OwnMt.moats hom (by omega))
            have HF1 := hid f1
            have HF2 := hid f2
            have HF3 := hid f3
            clear hom hfit f1 f2 f3
            clear c0 c1
            have X10 := hid (X9.out.ext he10)
            have OA_10 := hid (OA_9.out.ext he10)
            have U_10 := hid (U_9.out.ext he10)
            have E10 := hid (E9.out.trans he10)
            clear he10
            obtain ⟨c0, c1⟩ := X10.out.cells
            have MO_10 := hid (HMO.out)
            clear HMO
            go_wp2_with (fail)
            refine (Of_any _ ⟨N, rs⟩ _ (MapR.ext HM.out E10.out)).mono ?_
            rintro e w11 ⟨uU, rfl, hu, he11⟩
            dsimp only at hu
            rw [HTK.out] at hu
            clear c0 c1
            have X11 := hid (X10.out.ext he11)
            have OA_11 := hid (OA_10.out.ext he11)
            have MO_11 := hid (MO_10.out.ext he11)
            have E11 := hid (E10.out.trans he11)
            clear he11
            obtain ⟨c0, c1⟩ := X11.out.cells
            have U_11 := hid (hu.roads (by omega))
            clear hu
            go_wp2_with (fail)
            refine (CheckTree_ok _ _ N rs s _ _ U_11.out OA_11.out HB.out HST.out (HTZ.out.ext E11.out) (.inl ⟨HBA.out.1, rfl, rfl⟩)).mono ?_
            rintro e w12 ⟨rfl, he12⟩
            clear c0 c1
            have X12 := hid (X11.out.ext he12)
            have OA_12 := hid (OA_11.out.ext he12)
            have MO_12 := hid (MO_11.out.ext he12)
            have U_12 := hid (U_11.out.ext he12)
            have E12 := hid (E11.out.trans he12)
            clear he12
            obtain ⟨c0, c1⟩ := X12.out.cells
            go_wp2_with (fail)
            refine (Of_any _ ⟨N, rs⟩ _ (MapR.ext HM.out E12.out)).mono ?_
            rintro e w13 ⟨uU, rfl, hu, he13⟩
            dsimp only at hu
            rw [HTK.out] at hu
            clear c0 c1
            have X13 := hid (X12.out.ext he13)
            have MO_13 := hid (MO_12.out.ext he13)
            have E13 := hid (E12.out.trans he13)
            clear he13
            obtain ⟨c0, c1⟩ := X13.out.cells
            have U_13 := hid (hu.roads (by omega))
            clear hu
            obtain ⟨v1, v2⟩ := chk_yes HF1.out HF2.out
            have hbd := moat_bound hN8 HSN.out HF2.out HBA.out.1
            have hcost := best_cost HB.out HST.out HCN.out HBA.out
            have hge := HF3.out
            rw [← hcost] at hge
            obtain ⟨k0, k1⟩ := treeP_cost HAll.out h16 HBA.out.1
            obtain ⟨cb, hcb⟩ : ∃ x, x = costL rs la := ⟨_, rfl⟩
            obtain ⟨sw, hsw⟩ : ∃ x, x = sumW mo := ⟨_, rfl⟩
            rw [← hsw] at v1 hbd hge
            rw [← hcb] at hbd hge k0 k1
            have HV1 := hid v1
            have HV2 := hid v2
            have HCB2 := hid hcb
            clear v1 v2 hcost hcb hsw
            go_wp2_with (fail)
            refine (CheckMoats_ok _ _ N rs s _ _ U_13.out MO_13.out HB.out HST.out).mono ?_
            rw [HV1.out, HV2.out]
            rintro e w14 ⟨rfl, he14⟩
            clear c0 c1
            have X14 := hid (X13.out.ext he14)
            have MO_14 := hid (MO_13.out.ext he14)
            have U_14 := hid (U_13.out.ext he14)
            have E14 := hid (E13.out.trans he14)
            clear he14
            obtain ⟨c0, c1⟩ := X14.out.cells
            rw [← HCB2.out]
            have hw3 : IntKind.i64.wrap (2 * cb) = 2 * cb := wraps_i64_62 _ (by omega) (by omega)
            have hw4 : wrap64 (2 * cb) = 2 * cb := IntWalk.wrap64_in _ (by omega)
            have hgeb : decide (sw ≥ cb) = true := decide_eq_true (by omega)
            have hsb : sv ≤ 2 * cb := by
              have h := chk_bound hN8 HSN.out HOK.out HBA.out.1
              rw [← HCB2.out, HSV.out] at h
              exact h
            go_wp2_with (fail)
            refine (awake_any _).mono ?_
            rintro e w15 ⟨rfl, he15⟩
            clear c0 c1
            have E15 := hid (E14.out.trans he15)
            clear he15
            go_wp2
            go_ret
            exact ⟨rfl, E15.out⟩
          · have HCN := hid hcn
            clear hcn hok
            go_enter Tryd.func7, Tryd.ntmps7
            go_wp2_with (fail)
            refine (Of_any _ ⟨N, rs⟩ _ (MapR.ext HM.out (Ext.ofAlloc w _))).mono ?_
            rintro e w1 ⟨uU, rfl, hu, he1⟩
            dsimp only at hu
            rw [HTK.out] at hu
            have X1 := hid (X0.ext he1)
            have E1 := hid ((Ext.ofAlloc w _).trans he1)
            clear he1
            obtain ⟨c0, c1⟩ := X1.out.cells
            have U_1 := hid (hu.roads (by omega))
            clear hu
            go_wp2_with (fail)
            refine (moats_any _ ms _ (HMS.out.ext E1.out)).mono ?_
            rintro e w2 ⟨um, rfl, hmm, he2⟩
            have hmr := hmm.moats (by rw [List.length_take]; omega)
            obtain ⟨a1, c1x, rfl⟩ := hmr.shape
            generalize (ms.take 202).length = n1 at hmr ⊢
            clear hmm
            clear c0 c1
            have X2 := hid (X1.out.ext he2)
            have U_2 := hid (U_1.out.ext he2)
            have E2 := hid (E1.out.trans he2)
            clear he2
            obtain ⟨c0, c1⟩ := X2.out.cells
            have O_2 := hid (hmr)
            clear hmr
            go_wp2_with (fail)
            refine (CheckMoats_ok _ _ N rs s _ _ U_2.out O_2.out HB.out HST.out).mono ?_
            rw [HCV.out, HCB.out]
            rintro e w3 ⟨rfl, he3⟩
            clear c0 c1
            have X3 := hid (X2.out.ext he3)
            have U_3 := hid (U_2.out.ext he3)
            have O_3 := hid (O_2.out.ext he3)
            have E3 := hid (E2.out.trans he3)
            clear he3
            obtain ⟨c0, c1⟩ := X3.out.cells
            go_wp2_with (fail)
            refine (Of_any _ ⟨N, rs⟩ _ (MapR.ext HM.out E3.out)).mono ?_
            rintro e w4 ⟨uU, rfl, hu, he4⟩
            dsimp only at hu
            rw [HTK.out] at hu
            clear c0 c1
            have X4 := hid (X3.out.ext he4)
            have E4 := hid (E3.out.trans he4)
            clear he4
            obtain ⟨c0, c1⟩ := X4.out.cells
            have U_4 := hid (hu.roads (by omega))
            clear hu
            go_wp2_with (fail)
            refine (list_any _ l _ (HLS.out.ext E4.out)).mono ?_
            rintro e w5 ⟨uL, rfl, hll, he5⟩
            obtain ⟨-, a2, c2x, rfl, -⟩ := id hll
            generalize (l.take 18).length = n2 at hll ⊢
            clear c0 c1
            have X5 := hid (X4.out.ext he5)
            have U_5 := hid (U_4.out.ext he5)
            have E5 := hid (E4.out.trans he5)
            clear he5
            obtain ⟨c0, c1⟩ := X5.out.cells
            have L_5 := hid (hll)
            clear hll
            go_wp2_with (fail)
            refine (CheckTree_ok _ _ N rs s _ _ U_5.out L_5.out HB.out HST.out (HTZ.out.ext E5.out) (treeP_cut h16 HTV.out)).mono ?_
            rintro e w6 ⟨rfl, he6⟩
            clear c0 c1
            have X6 := hid (X5.out.ext he6)
            have U_6 := hid (U_5.out.ext he6)
            have L_6 := hid (L_5.out.ext he6)
            have E6 := hid (E5.out.trans he6)
            clear he6
            obtain ⟨c0, c1⟩ := X6.out.cells
            go_wp2_with (fail)
            refine (Of_any _ ⟨N, rs⟩ _ (MapR.ext HM.out E6.out)).mono ?_
            rintro e w7 ⟨uU, rfl, hu, he7⟩
            dsimp only at hu
            rw [HTK.out] at hu
            clear c0 c1
            have X7 := hid (X6.out.ext he7)
            have E7 := hid (E6.out.trans he7)
            clear he7
            obtain ⟨c0, c1⟩ := X7.out.cells
            have U_7 := hid (hu.roads (by omega))
            clear hu
            go_wp2_with (fail)
            refine (Tree_none _ N rs s _ U_7.out HB.out HST.out (HTZ.out.ext E7.out) HCN.out).mono ?_
            rintro e w8 ⟨rfl, he8⟩
            clear c0 c1
            have X8 := hid (X7.out.ext he8)
            have U_8 := hid (U_7.out.ext he8)
            have E8 := hid (E7.out.trans he8)
            clear he8
            obtain ⟨c0, c1⟩ := X8.out.cells
            go_wp2_with (fail)
            refine (Of_any _ ⟨N, rs⟩ _ (MapR.ext HM.out E8.out)).mono ?_
            rintro e w9 ⟨uU, rfl, hu, he9⟩
            dsimp only at hu
            rw [HTK.out] at hu
            clear c0 c1
            have X9 := hid (X8.out.ext he9)
            have E9 := hid (E8.out.trans he9)
            clear he9
            obtain ⟨c0, c1⟩ := X9.out.cells
            have U_9 := hid (hu.roads (by omega))
            clear hu
            go_wp2_with (fail)
            refine (MoatsT_none _ N rs s _ U_9.out HB.out HST.out (HTZ.out.ext E9.out) HCN.out).mono ?_
            rintro e w10 ⟨rfl, he10⟩
            clear c0 c1
            have X10 := hid (X9.out.ext he10)
            have U_10 := hid (U_9.out.ext he10)
            have E10 := hid (E9.out.trans he10)
            clear he10
            obtain ⟨c0, c1⟩ := X10.out.cells
            go_wp2_with (fail)
            refine (awake_any _).mono ?_
            rintro e w11 ⟨rfl, he11⟩
            clear c0 c1
            have E11 := hid (E10.out.trans he11)
            clear he11
            go_wp2
            go_ret
            exact ⟨rfl, E11.out⟩
      · have htr : treeP rs s l ∧ c = costL rs l := by
          rcases HTV.out with ⟨h1, h2, -⟩ | ⟨-, -, h⟩
          · exact ⟨h1, h2⟩
          · simp at h
        have HTREE := hid htr.1
        have HCC := hid htr.2
        have HCN := hid (tree_cn htr.1)
        obtain ⟨k2, k3⟩ := treeP_cost HAll.out h16 htr.1
        rw [← htr.2] at k2 k3
        clear htr
        cases ok
        · clear hok
          go_enter Tryd.func7, Tryd.ntmps7
          go_wp2_with (fail)
          refine (Of_any _ ⟨N, rs⟩ _ (MapR.ext HM.out (Ext.ofAlloc w _))).mono ?_
          rintro e w1 ⟨uU, rfl, hu, he1⟩
          dsimp only at hu
          rw [HTK.out] at hu
          have X1 := hid (X0.ext he1)
          have E1 := hid ((Ext.ofAlloc w _).trans he1)
          clear he1
          obtain ⟨c0, c1⟩ := X1.out.cells
          have U_1 := hid (hu.roads (by omega))
          clear hu
          go_wp2_with (fail)
          refine (moats_any _ ms _ (HMS.out.ext E1.out)).mono ?_
          rintro e w2 ⟨um, rfl, hmm, he2⟩
          have hmr := hmm.moats (by rw [List.length_take]; omega)
          obtain ⟨a1, c1x, rfl⟩ := hmr.shape
          generalize (ms.take 202).length = n1 at hmr ⊢
          clear hmm
          clear c0 c1
          have X2 := hid (X1.out.ext he2)
          have U_2 := hid (U_1.out.ext he2)
          have E2 := hid (E1.out.trans he2)
          clear he2
          obtain ⟨c0, c1⟩ := X2.out.cells
          have O_2 := hid (hmr)
          clear hmr
          go_wp2_with (fail)
          refine (CheckMoats_ok _ _ N rs s _ _ U_2.out O_2.out HB.out HST.out).mono ?_
          rw [HCV.out, HCB.out]
          rintro e w3 ⟨rfl, he3⟩
          clear c0 c1
          have X3 := hid (X2.out.ext he3)
          have U_3 := hid (U_2.out.ext he3)
          have O_3 := hid (O_2.out.ext he3)
          have E3 := hid (E2.out.trans he3)
          clear he3
          obtain ⟨c0, c1⟩ := X3.out.cells
          go_wp2_with (fail)
          refine (Of_any _ ⟨N, rs⟩ _ (MapR.ext HM.out E3.out)).mono ?_
          rintro e w4 ⟨uU, rfl, hu, he4⟩
          dsimp only at hu
          rw [HTK.out] at hu
          clear c0 c1
          have X4 := hid (X3.out.ext he4)
          have E4 := hid (E3.out.trans he4)
          clear he4
          obtain ⟨c0, c1⟩ := X4.out.cells
          have U_4 := hid (hu.roads (by omega))
          clear hu
          go_wp2_with (fail)
          refine (list_any _ l _ (HLS.out.ext E4.out)).mono ?_
          rintro e w5 ⟨uL, rfl, hll, he5⟩
          obtain ⟨-, a2, c2x, rfl, -⟩ := id hll
          generalize (l.take 18).length = n2 at hll ⊢
          clear c0 c1
          have X5 := hid (X4.out.ext he5)
          have U_5 := hid (U_4.out.ext he5)
          have E5 := hid (E4.out.trans he5)
          clear he5
          obtain ⟨c0, c1⟩ := X5.out.cells
          have L_5 := hid (hll)
          clear hll
          go_wp2_with (fail)
          refine (CheckTree_ok _ _ N rs s _ _ U_5.out L_5.out HB.out HST.out (HTZ.out.ext E5.out) (treeP_cut h16 HTV.out)).mono ?_
          rintro e w6 ⟨rfl, he6⟩
          clear c0 c1
          have X6 := hid (X5.out.ext he6)
          have U_6 := hid (U_5.out.ext he6)
          have L_6 := hid (L_5.out.ext he6)
          have E6 := hid (E5.out.trans he6)
          clear he6
          obtain ⟨c0, c1⟩ := X6.out.cells
          have hw1 : IntKind.i64.wrap (2 * c) = 2 * c := wraps_i64_62 _ (by omega) (by omega)
          have hw2 : wrap64 (2 * c) = 2 * c := IntWalk.wrap64_in _ (by omega)
          go_wp2_with (fail)
          refine (Of_any _ ⟨N, rs⟩ _ (MapR.ext HM.out E6.out)).mono ?_
          rintro e w7 ⟨uU, rfl, hu, he7⟩
          dsimp only at hu
          rw [HTK.out] at hu
          clear c0 c1
          have X7 := hid (X6.out.ext he7)
          have E7 := hid (E6.out.trans he7)
          clear he7
          obtain ⟨c0, c1⟩ := X7.out.cells
          have U_7 := hid (hu.roads (by omega))
          clear hu
          go_wp2_with (fail)
          refine (Tree_ok _ N rs s _ U_7.out HB.out HST.out (HTZ.out.ext E7.out) HCN.out).mono ?_
          rintro e w8 ⟨va, la, rfl, hoa, hba, he8⟩
          have HBA := hid hba.out
          obtain ⟨aa, ca, rfl⟩ := own_len hoa
          have HOA := hid (hoa.ints (by have := treeP_len HBA.out.1; omega))
          clear hoa hba
          clear c0 c1
          have X8 := hid (X7.out.ext he8)
          have U_8 := hid (U_7.out.ext he8)
          have E8 := hid (E7.out.trans he8)
          clear he8
          obtain ⟨c0, c1⟩ := X8.out.cells
          have OA_8 := hid (HOA.out)
          clear HOA
          go_wp2_with (fail)
          refine (Of_any _ ⟨N, rs⟩ _ (MapR.ext HM.out E8.out)).mono ?_
          rintro e w9 ⟨uU, rfl, hu, he9⟩
          dsimp only at hu
          rw [HTK.out] at hu
          clear c0 c1
          have X9 := hid (X8.out.ext he9)
          have OA_9 := hid (OA_8.out.ext he9)
          have E9 := hid (E8.out.trans he9)
          clear he9
          obtain ⟨c0, c1⟩ := X9.out.cells
          have U_9 := hid (hu.roads (by omega))
          clear hu
          go_wp2_with (fail)
          refine (MoatsT_ok _ N rs s _ U_9.out HB.out HST.out (HTZ.out.ext E9.out) HCN.out).mono ?_
          rintro e w10 ⟨vo, mo, rfl, hom, hfit, he10⟩
          obtain ⟨f1, f2, f3⟩ := hfit.out
          obtain ⟨am, cm, rfl⟩ := own_len hom
          have HMO := hid (OwnMt.moats hom (by omega))
          have HF1 := hid f1
          have HF2 := hid f2
          have HF3 := hid f3
          clear hom hfit f1 f2 f3
          clear c0 c1
          have X10 := hid (X9.out.ext he10)
          have OA_10 := hid (OA_9.out.ext he10)
          have U_10 := hid (U_9.out.ext he10)
          have E10 := hid (E9.out.trans he10)
          clear he10
          obtain ⟨c0, c1⟩ := X10.out.cells
          have MO_10 := hid (HMO.out)
          clear HMO
          go_wp2_with (fail)
          refine (Of_any _ ⟨N, rs⟩ _ (MapR.ext HM.out E10.out)).mono ?_
          rintro e w11 ⟨uU, rfl, hu, he11⟩
          dsimp only at hu
          rw [HTK.out] at hu
          clear c0 c1
          have X11 := hid (X10.out.ext he11)
          have OA_11 := hid (OA_10.out.ext he11)
          have MO_11 := hid (MO_10.out.ext he11)
          have E11 := hid (E10.out.trans he11)
          clear he11
          obtain ⟨c0, c1⟩ := X11.out.cells
          have U_11 := hid (hu.roads (by omega))
          clear hu
          go_wp2_with (fail)
          refine (CheckTree_ok _ _ N rs s _ _ U_11.out OA_11.out HB.out HST.out (HTZ.out.ext E11.out) (.inl ⟨HBA.out.1, rfl, rfl⟩)).mono ?_
          rintro e w12 ⟨rfl, he12⟩
          clear c0 c1
          have X12 := hid (X11.out.ext he12)
          have OA_12 := hid (OA_11.out.ext he12)
          have MO_12 := hid (MO_11.out.ext he12)
          have U_12 := hid (U_11.out.ext he12)
          have E12 := hid (E11.out.trans he12)
          clear he12
          obtain ⟨c0, c1⟩ := X12.out.cells
          go_wp2_with (fail)
          refine (Of_any _ ⟨N, rs⟩ _ (MapR.ext HM.out E12.out)).mono ?_
          rintro e w13 ⟨uU, rfl, hu, he13⟩
          dsimp only at hu
          rw [HTK.out] at hu
          clear c0 c1
          have X13 := hid (X12.out.ext he13)
          have MO_13 := hid (MO_12.out.ext he13)
          have E13 := hid (E12.out.trans he13)
          clear he13
          obtain ⟨c0, c1⟩ := X13.out.cells
          have U_13 := hid (hu.roads (by omega))
          clear hu
          obtain ⟨v1, v2⟩ := chk_yes HF1.out HF2.out
          have hbd := moat_bound hN8 HSN.out HF2.out HBA.out.1
          have hcost := best_cost HB.out HST.out HCN.out HBA.out
          have hge := HF3.out
          rw [← hcost] at hge
          obtain ⟨k0, k1⟩ := treeP_cost HAll.out h16 HBA.out.1
          obtain ⟨cb, hcb⟩ : ∃ x, x = costL rs la := ⟨_, rfl⟩
          obtain ⟨sw, hsw⟩ : ∃ x, x = sumW mo := ⟨_, rfl⟩
          rw [← hsw] at v1 hbd hge
          rw [← hcb] at hbd hge k0 k1
          have HV1 := hid v1
          have HV2 := hid v2
          have HCB2 := hid hcb
          clear v1 v2 hcost hcb hsw
          go_wp2_with (fail)
          refine (CheckMoats_ok _ _ N rs s _ _ U_13.out MO_13.out HB.out HST.out).mono ?_
          rw [HV1.out, HV2.out]
          rintro e w14 ⟨rfl, he14⟩
          clear c0 c1
          have X14 := hid (X13.out.ext he14)
          have MO_14 := hid (MO_13.out.ext he14)
          have U_14 := hid (U_13.out.ext he14)
          have E14 := hid (E13.out.trans he14)
          clear he14
          obtain ⟨c0, c1⟩ := X14.out.cells
          rw [← HCB2.out]
          have hw3 : IntKind.i64.wrap (2 * cb) = 2 * cb := wraps_i64_62 _ (by omega) (by omega)
          have hw4 : wrap64 (2 * cb) = 2 * cb := IntWalk.wrap64_in _ (by omega)
          have hgeb : decide (sw ≥ cb) = true := decide_eq_true (by omega)
          have hcb2 : cb ≤ c := by
            have h := HBA.out.2 l HTREE.out
            rw [← HCB2.out, ← HCC.out] at h
            omega
          go_wp2_with (fail)
          refine (awake_any _).mono ?_
          rintro e w15 ⟨rfl, he15⟩
          clear c0 c1
          have E15 := hid (E14.out.trans he15)
          clear he15
          go_wp2
          go_ret
          exact ⟨rfl, E15.out⟩
        · have HOK : Hid (chkB N rs s ms = true) := hok.symm
          have hsc : sv ≤ 2 * c := by
            have h := chk_bound hN8 HSN.out HOK.out HTREE.out
            rw [← HCC.out, HSV.out] at h
            exact h
          have hscb : decide (sv > 2 * c) = false := decide_eq_false (by omega)
          clear hok
          go_enter Tryd.func7, Tryd.ntmps7
          go_wp2_with (fail)
          refine (Of_any _ ⟨N, rs⟩ _ (MapR.ext HM.out (Ext.ofAlloc w _))).mono ?_
          rintro e w1 ⟨uU, rfl, hu, he1⟩
          dsimp only at hu
          rw [HTK.out] at hu
          have X1 := hid (X0.ext he1)
          have E1 := hid ((Ext.ofAlloc w _).trans he1)
          clear he1
          obtain ⟨c0, c1⟩ := X1.out.cells
          have U_1 := hid (hu.roads (by omega))
          clear hu
          go_wp2_with (fail)
          refine (moats_any _ ms _ (HMS.out.ext E1.out)).mono ?_
          rintro e w2 ⟨um, rfl, hmm, he2⟩
          have hmr := hmm.moats (by rw [List.length_take]; omega)
          obtain ⟨a1, c1x, rfl⟩ := hmr.shape
          generalize (ms.take 202).length = n1 at hmr ⊢
          clear hmm
          clear c0 c1
          have X2 := hid (X1.out.ext he2)
          have U_2 := hid (U_1.out.ext he2)
          have E2 := hid (E1.out.trans he2)
          clear he2
          obtain ⟨c0, c1⟩ := X2.out.cells
          have O_2 := hid (hmr)
          clear hmr
          go_wp2_with (fail)
          refine (CheckMoats_ok _ _ N rs s _ _ U_2.out O_2.out HB.out HST.out).mono ?_
          rw [HCV.out, HCB.out]
          rintro e w3 ⟨rfl, he3⟩
          clear c0 c1
          have X3 := hid (X2.out.ext he3)
          have U_3 := hid (U_2.out.ext he3)
          have O_3 := hid (O_2.out.ext he3)
          have E3 := hid (E2.out.trans he3)
          clear he3
          obtain ⟨c0, c1⟩ := X3.out.cells
          go_wp2_with (fail)
          refine (Of_any _ ⟨N, rs⟩ _ (MapR.ext HM.out E3.out)).mono ?_
          rintro e w4 ⟨uU, rfl, hu, he4⟩
          dsimp only at hu
          rw [HTK.out] at hu
          clear c0 c1
          have X4 := hid (X3.out.ext he4)
          have E4 := hid (E3.out.trans he4)
          clear he4
          obtain ⟨c0, c1⟩ := X4.out.cells
          have U_4 := hid (hu.roads (by omega))
          clear hu
          go_wp2_with (fail)
          refine (list_any _ l _ (HLS.out.ext E4.out)).mono ?_
          rintro e w5 ⟨uL, rfl, hll, he5⟩
          obtain ⟨-, a2, c2x, rfl, -⟩ := id hll
          generalize (l.take 18).length = n2 at hll ⊢
          clear c0 c1
          have X5 := hid (X4.out.ext he5)
          have U_5 := hid (U_4.out.ext he5)
          have E5 := hid (E4.out.trans he5)
          clear he5
          obtain ⟨c0, c1⟩ := X5.out.cells
          have L_5 := hid (hll)
          clear hll
          go_wp2_with (fail)
          refine (CheckTree_ok _ _ N rs s _ _ U_5.out L_5.out HB.out HST.out (HTZ.out.ext E5.out) (treeP_cut h16 HTV.out)).mono ?_
          rintro e w6 ⟨rfl, he6⟩
          clear c0 c1
          have X6 := hid (X5.out.ext he6)
          have U_6 := hid (U_5.out.ext he6)
          have L_6 := hid (L_5.out.ext he6)
          have E6 := hid (E5.out.trans he6)
          clear he6
          obtain ⟨c0, c1⟩ := X6.out.cells
          have hw1 : IntKind.i64.wrap (2 * c) = 2 * c := wraps_i64_62 _ (by omega) (by omega)
          have hw2 : wrap64 (2 * c) = 2 * c := IntWalk.wrap64_in _ (by omega)
          go_wp2_with (fail)
          refine (Of_any _ ⟨N, rs⟩ _ (MapR.ext HM.out E6.out)).mono ?_
          rintro e w7 ⟨uU, rfl, hu, he7⟩
          dsimp only at hu
          rw [HTK.out] at hu
          clear c0 c1
          have X7 := hid (X6.out.ext he7)
          have E7 := hid (E6.out.trans he7)
          clear he7
          obtain ⟨c0, c1⟩ := X7.out.cells
          have U_7 := hid (hu.roads (by omega))
          clear hu
          go_wp2_with (fail)
          refine (Tree_ok _ N rs s _ U_7.out HB.out HST.out (HTZ.out.ext E7.out) HCN.out).mono ?_
          rintro e w8 ⟨va, la, rfl, hoa, hba, he8⟩
          have HBA := hid hba.out
          obtain ⟨aa, ca, rfl⟩ := own_len hoa
          have HOA := hid (hoa.ints (by have := treeP_len HBA.out.1; omega))
          clear hoa hba
          clear c0 c1
          have X8 := hid (X7.out.ext he8)
          have U_8 := hid (U_7.out.ext he8)
          have E8 := hid (E7.out.trans he8)
          clear he8
          obtain ⟨c0, c1⟩ := X8.out.cells
          have OA_8 := hid (HOA.out)
          clear HOA
          go_wp2_with (fail)
          refine (Of_any _ ⟨N, rs⟩ _ (MapR.ext HM.out E8.out)).mono ?_
          rintro e w9 ⟨uU, rfl, hu, he9⟩
          dsimp only at hu
          rw [HTK.out] at hu
          clear c0 c1
          have X9 := hid (X8.out.ext he9)
          have OA_9 := hid (OA_8.out.ext he9)
          have E9 := hid (E8.out.trans he9)
          clear he9
          obtain ⟨c0, c1⟩ := X9.out.cells
          have U_9 := hid (hu.roads (by omega))
          clear hu
          go_wp2_with (fail)
          refine (MoatsT_ok _ N rs s _ U_9.out HB.out HST.out (HTZ.out.ext E9.out) HCN.out).mono ?_
          rintro e w10 ⟨vo, mo, rfl, hom, hfit, he10⟩
          obtain ⟨f1, f2, f3⟩ := hfit.out
          obtain ⟨am, cm, rfl⟩ := own_len hom
          have HMO := hid (OwnMt.moats hom (by omega))
          have HF1 := hid f1
          have HF2 := hid f2
          have HF3 := hid f3
          clear hom hfit f1 f2 f3
          clear c0 c1
          have X10 := hid (X9.out.ext he10)
          have OA_10 := hid (OA_9.out.ext he10)
          have U_10 := hid (U_9.out.ext he10)
          have E10 := hid (E9.out.trans he10)
          clear he10
          obtain ⟨c0, c1⟩ := X10.out.cells
          have MO_10 := hid (HMO.out)
          clear HMO
          go_wp2_with (fail)
          refine (Of_any _ ⟨N, rs⟩ _ (MapR.ext HM.out E10.out)).mono ?_
          rintro e w11 ⟨uU, rfl, hu, he11⟩
          dsimp only at hu
          rw [HTK.out] at hu
          clear c0 c1
          have X11 := hid (X10.out.ext he11)
          have OA_11 := hid (OA_10.out.ext he11)
          have MO_11 := hid (MO_10.out.ext he11)
          have E11 := hid (E10.out.trans he11)
          clear he11
          obtain ⟨c0, c1⟩ := X11.out.cells
          have U_11 := hid (hu.roads (by omega))
          clear hu
          go_wp2_with (fail)
          refine (CheckTree_ok _ _ N rs s _ _ U_11.out OA_11.out HB.out HST.out (HTZ.out.ext E11.out) (.inl ⟨HBA.out.1, rfl, rfl⟩)).mono ?_
          rintro e w12 ⟨rfl, he12⟩
          clear c0 c1
          have X12 := hid (X11.out.ext he12)
          have OA_12 := hid (OA_11.out.ext he12)
          have MO_12 := hid (MO_11.out.ext he12)
          have U_12 := hid (U_11.out.ext he12)
          have E12 := hid (E11.out.trans he12)
          clear he12
          obtain ⟨c0, c1⟩ := X12.out.cells
          go_wp2_with (fail)
          refine (Of_any _ ⟨N, rs⟩ _ (MapR.ext HM.out E12.out)).mono ?_
          rintro e w13 ⟨uU, rfl, hu, he13⟩
          dsimp only at hu
          rw [HTK.out] at hu
          clear c0 c1
          have X13 := hid (X12.out.ext he13)
          have MO_13 := hid (MO_12.out.ext he13)
          have E13 := hid (E12.out.trans he13)
          clear he13
          obtain ⟨c0, c1⟩ := X13.out.cells
          have U_13 := hid (hu.roads (by omega))
          clear hu
          obtain ⟨v1, v2⟩ := chk_yes HF1.out HF2.out
          have hbd := moat_bound hN8 HSN.out HF2.out HBA.out.1
          have hcost := best_cost HB.out HST.out HCN.out HBA.out
          have hge := HF3.out
          rw [← hcost] at hge
          obtain ⟨k0, k1⟩ := treeP_cost HAll.out h16 HBA.out.1
          obtain ⟨cb, hcb⟩ : ∃ x, x = costL rs la := ⟨_, rfl⟩
          obtain ⟨sw, hsw⟩ : ∃ x, x = sumW mo := ⟨_, rfl⟩
          rw [← hsw] at v1 hbd hge
          rw [← hcb] at hbd hge k0 k1
          have HV1 := hid v1
          have HV2 := hid v2
          have HCB2 := hid hcb
          clear v1 v2 hcost hcb hsw
          go_wp2_with (fail)
          refine (CheckMoats_ok _ _ N rs s _ _ U_13.out MO_13.out HB.out HST.out).mono ?_
          rw [HV1.out, HV2.out]
          rintro e w14 ⟨rfl, he14⟩
          clear c0 c1
          have X14 := hid (X13.out.ext he14)
          have MO_14 := hid (MO_13.out.ext he14)
          have U_14 := hid (U_13.out.ext he14)
          have E14 := hid (E13.out.trans he14)
          clear he14
          obtain ⟨c0, c1⟩ := X14.out.cells
          rw [← HCB2.out]
          have hw3 : IntKind.i64.wrap (2 * cb) = 2 * cb := wraps_i64_62 _ (by omega) (by omega)
          have hw4 : wrap64 (2 * cb) = 2 * cb := IntWalk.wrap64_in _ (by omega)
          have hgeb : decide (sw ≥ cb) = true := decide_eq_true (by omega)
          have hsb : sv ≤ 2 * cb := by
            have h := chk_bound hN8 HSN.out HOK.out HBA.out.1
            rw [← HCB2.out, HSV.out] at h
            exact h
          have hcb2 : cb ≤ c := by
            have h := HBA.out.2 l HTREE.out
            rw [← HCB2.out, ← HCC.out] at h
            omega
          go_wp2_with (fail)
          refine (awake_any _).mono ?_
          rintro e w15 ⟨rfl, he15⟩
          clear c0 c1
          have E15 := hid (E14.out.trans he15)
          clear he15
          go_wp2
          go_ret
          exact ⟨rfl, E15.out⟩
    · have hsf : stopsB N st = false := by rw [Bool.eq_false_iff]; exact hst
      have HST := hid hsf
      clear hst hsf
      go_enter Tryd.func7, Tryd.ntmps7
      go_wp2_with (fail)
      refine (Of_any _ ⟨N, rs⟩ _ (MapR.ext HM.out (Ext.ofAlloc w _))).mono ?_
      rintro e w1 ⟨uU, rfl, hu, he1⟩
      dsimp only at hu
      rw [HTK.out] at hu
      have X1 := hid (X0.ext he1)
      have E1 := hid ((Ext.ofAlloc w _).trans he1)
      clear he1
      obtain ⟨c0, c1⟩ := X1.out.cells
      have U_1 := hid (hu.roads (by omega))
      clear hu
      go_wp2_with (fail)
      refine (moats_any _ ms _ (HMS.out.ext E1.out)).mono ?_
      rintro e w2 ⟨um, rfl, hmm, he2⟩
      have hmr := hmm.moats (by rw [List.length_take]; omega)
      obtain ⟨a1, c1x, rfl⟩ := hmr.shape
      generalize (ms.take 202).length = n1 at hmr ⊢
      clear hmm
      clear c0 c1
      have X2 := hid (X1.out.ext he2)
      have U_2 := hid (U_1.out.ext he2)
      have E2 := hid (E1.out.trans he2)
      clear he2
      obtain ⟨c0, c1⟩ := X2.out.cells
      have O_2 := hid (hmr)
      clear hmr
      go_wp2_with (fail)
      refine (CheckMoats_bad _ _ ⟨N, rs⟩ st _ _ U_2.out O_2.out (.inr ⟨HB.out, HST.out⟩)).mono ?_
      rintro e w3 ⟨rfl, he3⟩
      clear c0 c1
      have X3 := hid (X2.out.ext he3)
      have U_3 := hid (U_2.out.ext he3)
      have O_3 := hid (O_2.out.ext he3)
      have E3 := hid (E2.out.trans he3)
      clear he3
      obtain ⟨c0, c1⟩ := X3.out.cells
      go_wp2_with (fail)
      refine (Of_any _ ⟨N, rs⟩ _ (MapR.ext HM.out E3.out)).mono ?_
      rintro e w4 ⟨uU, rfl, hu, he4⟩
      dsimp only at hu
      rw [HTK.out] at hu
      clear c0 c1
      have X4 := hid (X3.out.ext he4)
      have E4 := hid (E3.out.trans he4)
      clear he4
      obtain ⟨c0, c1⟩ := X4.out.cells
      have U_4 := hid (hu.roads (by omega))
      clear hu
      go_wp2_with (fail)
      refine (list_any _ l _ (HLS.out.ext E4.out)).mono ?_
      rintro e w5 ⟨uL, rfl, hll, he5⟩
      obtain ⟨-, a2, c2x, rfl, -⟩ := id hll
      generalize (l.take 18).length = n2 at hll ⊢
      clear c0 c1
      have X5 := hid (X4.out.ext he5)
      have U_5 := hid (U_4.out.ext he5)
      have E5 := hid (E4.out.trans he5)
      clear he5
      obtain ⟨c0, c1⟩ := X5.out.cells
      have L_5 := hid (hll)
      clear hll
      go_wp2_with (fail)
      refine (CheckTree_bad _ _ ⟨N, rs⟩ st _ _ U_5.out L_5.out (.inr ⟨HB.out, HST.out⟩)).mono ?_
      rintro e w6 ⟨rfl, he6⟩
      clear c0 c1
      have X6 := hid (X5.out.ext he6)
      have U_6 := hid (U_5.out.ext he6)
      have L_6 := hid (L_5.out.ext he6)
      have E6 := hid (E5.out.trans he6)
      clear he6
      obtain ⟨c0, c1⟩ := X6.out.cells
      go_wp2_with (fail)
      refine (awake_any _).mono ?_
      rintro e w7 ⟨rfl, he7⟩
      clear c0 c1
      have E7 := hid (E6.out.trans he7)
      clear he7
      go_wp2
      go_ret
      exact ⟨rfl, E7.out⟩
  · have hbf : mapOk m = false := by rw [Bool.eq_false_iff]; exact hb
    have HBC : Hid (mapOk (cutM m) = false) := by show _ = _; rw [mapOk_cut, hbf]
    clear hb hbf
    go_enter Tryd.func7, Tryd.ntmps7
    go_wp2_with (fail)
    refine (Of_any _ m _ (MapR.ext HM.out (Ext.ofAlloc w _))).mono ?_
    rintro e w1 ⟨uU, rfl, hu, he1⟩
    have X1 := hid (X0.ext he1)
    have E1 := hid ((Ext.ofAlloc w _).trans he1)
    clear he1
    obtain ⟨c0, c1⟩ := X1.out.cells
    have U_1 := hid (hu.roads (by rw [List.length_take]; omega))
    clear hu
    go_wp2_with (fail)
    refine (moats_any _ ms _ (HMS.out.ext E1.out)).mono ?_
    rintro e w2 ⟨um, rfl, hmm, he2⟩
    have hmr := hmm.moats (by rw [List.length_take]; omega)
    obtain ⟨a1, c1x, rfl⟩ := hmr.shape
    generalize (ms.take 202).length = n1 at hmr ⊢
    clear hmm
    clear c0 c1
    have X2 := hid (X1.out.ext he2)
    have U_2 := hid (U_1.out.ext he2)
    have E2 := hid (E1.out.trans he2)
    clear he2
    obtain ⟨c0, c1⟩ := X2.out.cells
    have O_2 := hid (hmr)
    clear hmr
    go_wp2_with (fail)
    refine (CheckMoats_bad _ _ (cutM m) st _ _ U_2.out O_2.out (.inl HBC.out)).mono ?_
    rintro e w3 ⟨rfl, he3⟩
    clear c0 c1
    have X3 := hid (X2.out.ext he3)
    have U_3 := hid (U_2.out.ext he3)
    have O_3 := hid (O_2.out.ext he3)
    have E3 := hid (E2.out.trans he3)
    clear he3
    obtain ⟨c0, c1⟩ := X3.out.cells
    go_wp2_with (fail)
    refine (Of_any _ m _ (MapR.ext HM.out E3.out)).mono ?_
    rintro e w4 ⟨uU, rfl, hu, he4⟩
    clear c0 c1
    have X4 := hid (X3.out.ext he4)
    have E4 := hid (E3.out.trans he4)
    clear he4
    obtain ⟨c0, c1⟩ := X4.out.cells
    have U_4 := hid (hu.roads (by rw [List.length_take]; omega))
    clear hu
    go_wp2_with (fail)
    refine (list_any _ l _ (HLS.out.ext E4.out)).mono ?_
    rintro e w5 ⟨uL, rfl, hll, he5⟩
    obtain ⟨-, a2, c2x, rfl, -⟩ := id hll
    generalize (l.take 18).length = n2 at hll ⊢
    clear c0 c1
    have X5 := hid (X4.out.ext he5)
    have U_5 := hid (U_4.out.ext he5)
    have E5 := hid (E4.out.trans he5)
    clear he5
    obtain ⟨c0, c1⟩ := X5.out.cells
    have L_5 := hid (hll)
    clear hll
    go_wp2_with (fail)
    refine (CheckTree_bad _ _ (cutM m) st _ _ U_5.out L_5.out (.inl HBC.out)).mono ?_
    rintro e w6 ⟨rfl, he6⟩
    clear c0 c1
    have X6 := hid (X5.out.ext he6)
    have U_6 := hid (U_5.out.ext he6)
    have L_6 := hid (L_5.out.ext he6)
    have E6 := hid (E5.out.trans he6)
    clear he6
    obtain ⟨c0, c1⟩ := X6.out.cells
    go_wp2_with (fail)
    refine (awake_any _).mono ?_
    rintro e w7 ⟨rfl, he7⟩
    clear c0 c1
    have E7 := hid (E6.out.trans he7)
    clear he7
    go_wp2
    go_ret
    exact ⟨rfl, E7.out⟩

end Go.Proofs.YtkbkgkmogbkabaaDoor
