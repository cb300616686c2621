/-
  Contracts of the disk's Crash.
-/
import Derived.Test.YteiamhapplnlaaaGreatDoorBkRead
import Derived.Test.YteiamhapplnlaaaGreatDoorBkRefA
namespace Go.Proofs.YteiamhapplnlaaaGreatDoor
open Go.RowKit

/-- The operations that may come up are two. -/
theorem wpAnyH_two {P : Program} {md : Region.Mode} {ops : Array Oper} {Q : Exit → Act → World → Prop} {S : World → Prop} {w : World} (i j : Nat) {o o2 : Oper} {fuel : Nat} {listed : Array Bool} {a : Act} (hi : ops.toList[i]? = some o) (hj : ops.toList[j]? = some o2)
    (hr : Region.ready md ops listed = [i, j]) (hw : Region.wanted o (yielded ops a.tmps) = true) (hw2 : Region.wanted o2 (yielded ops a.tmps) = true)
    (h : ∀ K' : Act → World → Prop, Shut (∀ a w, S w → (S w → wpAnyH P md ops Q S fuel (listed.setIfInBounds i true) a w) → K' a w) → Oper.wp P o a w K' Q)
    (h2 : ∀ K' : Act → World → Prop, Shut (∀ a w, S w → (S w → wpAnyH P md ops Q S fuel (listed.setIfInBounds j true) a w) → K' a w) → Oper.wp P o2 a w K' Q) : wpAnyH P md ops Q S (fuel + 1) listed a w :=
  wpAnyH_ready hr (by simp) (AllReadyH.cons (by rw [← Array.getElem?_toList]; exact hi) (fun K' hK => by rw [if_pos hw]; exact h K' hK) (AllReadyH.cons (by rw [← Array.getElem?_toList]; exact hj) (fun K' hK => by rw [if_pos hw2]; exact h2 K' hK) AllReadyH.nil))

theorem kept_nat {d : DD} (h : DOk d) (keep : Int) : ∃ k : Nat, d.kept keep = k ∧ k ≤ d.bytes.length ∧ (d.bytes.take k).length = k := by
  have h0 := h.f0
  have h1 := h.fl
  have hk : 0 ≤ d.kept keep ∧ d.kept keep ≤ d.bytes.length := by
    unfold DD.kept
    constructor <;> (split <;> (try split) <;> omega)
  obtain ⟨k, e⟩ := Int.eq_ofNat_of_zero_le hk.1
  refine ⟨k, e, by omega, ?_⟩
  rw [List.length_take]; omega

set_option maxHeartbeats 4000000 in
theorem Crash_any {B : Nat} (b : Nat) (v : Value) (keep : Int) (d : DD) (w : World) (hd : DiskP B w b v d) (hk0 : -9223372036854775808 ≤ keep) (hk1 : keep ≤ 9223372036854775807) :
    Calls Tryz.prog 18 #[.pointer (some ⟨b, 0, none⟩), .int .i64 keep] w fun e w' => e = .returned (.tuple #[]) ∧ ∃ v', DiskP B w' b v' (d.crash keep) ∧ Near w v v' ∧ Moved (fp b v) w w' := by
  have HD := hid hd
  have hls := hd.ok.ls
  have hsm := hd.ok.sm
  have hsf := hd.ok.f0
  have hfl := hd.ok.fl
  obtain ⟨k, hk, hkl, hlt⟩ := kept_nat hd.ok keep
  have HOK : Hid (DOk (d.crash keep)) := hd.ok.crash
  obtain ⟨c0, c1, c2, c3, c4⟩ := hd.box.cells
  have f2 := hd.box.free 2
  obtain ⟨av, cv, hv, hcv⟩ := ownB_len hd.own
  subst hv
  have HB5 := hid hd.box
  have OW0 := hid hd.own
  have hE : IntKind.i64.wrap (d.safe + if 0 < if IntKind.i64.wrap (d.bytes.length - d.safe) < keep then IntKind.i64.wrap (d.bytes.length - d.safe) else keep then if IntKind.i64.wrap (d.bytes.length - d.safe) < keep then IntKind.i64.wrap (d.bytes.length - d.safe) else keep else 0) = (k : Int) := by
    have e1 : IntKind.i64.wrap (d.bytes.length - d.safe) = d.bytes.length - d.safe := IntWalk.i64_in _ (by omega)
    rw [e1]
    have e2 : (d.safe + if 0 < if (d.bytes.length : Int) - d.safe < keep then (d.bytes.length : Int) - d.safe else keep then if (d.bytes.length : Int) - d.safe < keep then (d.bytes.length : Int) - d.safe else keep else 0) = (k : Int) := by
      rw [← hk]; unfold DD.kept
      split <;> split <;> (try split) <;> omega
    rw [e2]; exact IntWalk.i64_in _ (by omega)
  have HE := hid hE
  have HK := hid hk
  have hki : (k : Int) ≤ cv := by omega
  have hkc : k ≤ cv := by omega
  have hkn : ¬ (k : Int) < 0 := by omega
  clear hd c1 c3 c4 hlt hE hk
  go_enter Tryz.func18, Tryz.ntmps18
  go_wp2_with (fail)
  refine (none_any b _ d w HD.out).mono ?_
  rintro e w' ⟨rfl, rfl⟩
  go_wp2
  refine wp_region_held_drew (S := (fun w' => w'.cell? ⟨b, 0, none⟩ = some (.slice av d.bytes.length cv))) (by kernel_rfl) ?hSa0 (fun hHeld => ?_)
  case hSa0 => (first | exact c0 | (show (World.setCell w _ _).cell? _ = _; exact ((HB5.out.set2 _).cells).1))
  refine wpAnyH_tk 0 (v := ?va0x1) rfl (by kernel_rfl) (by kernel_rfl) (by kernel_rfl) (fun _ _ _ h => h) (by rfl) ?hya0x1 (by assumption) ?_
  case hya0x1 => (intro w hSw; (try dsimp only at hSw); go_simp <;> with_reducible rfl)
  (try simp only [Act.put, List.setIfInBounds_toArray, List.set_cons_zero, List.set_cons_succ])
  refine wpAnyH_tk 1 (v := ?va1x2) rfl (by kernel_rfl) (by kernel_rfl) (by kernel_rfl) (fun _ _ _ h => h) (by rfl) ?hya1x2 (by assumption) ?_
  case hya1x2 => (intro w hSw; (try dsimp only at hSw); go_simp <;> with_reducible rfl)
  (try simp only [Act.put, List.setIfInBounds_toArray, List.set_cons_zero, List.set_cons_succ])
  refine wpAnyH_tk 2 (v := ?va2x3) rfl (by kernel_rfl) (by kernel_rfl) (by kernel_rfl) (fun _ _ _ h => h) (by rfl) ?hya2x3 (by assumption) ?_
  case hya2x3 => (intro w hSw; (try dsimp only at hSw); go_simp <;> with_reducible rfl)
  (try simp only [Act.put, List.setIfInBounds_toArray, List.set_cons_zero, List.set_cons_succ])
  refine wpAnyH_tk 4 (v := ?va4x4) rfl (by kernel_rfl) (by kernel_rfl) (by kernel_rfl) (fun _ _ _ h => h) (by rfl) ?hya4x4 (by assumption) ?_
  case hya4x4 => (intro w hSw; (try dsimp only at hSw); go_simp <;> with_reducible rfl)
  (try simp only [Act.put, List.setIfInBounds_toArray, List.set_cons_zero, List.set_cons_succ])
  refine wpAnyH_tk 5 (v := ?va5x5) rfl (by kernel_rfl) (by kernel_rfl) (by kernel_rfl) (fun _ _ _ h => h) (by rfl) ?hya5x5 (by assumption) ?_
  case hya5x5 => (intro w hSw; (try dsimp only at hSw); go_simp <;> with_reducible rfl)
  (try simp only [Act.put, List.setIfInBounds_toArray, List.set_cons_zero, List.set_cons_succ])
  refine wpAnyH_tk 6 (v := ?va6x6) rfl (by kernel_rfl) (by kernel_rfl) (by kernel_rfl) (fun _ _ _ h => h) (by rfl) ?hya6x6 (by assumption) ?_
  case hya6x6 => (intro w hSw; (try dsimp only at hSw); go_simp <;> with_reducible rfl)
  (try simp only [Act.put, List.setIfInBounds_toArray, List.set_cons_zero, List.set_cons_succ])
  refine wpAnyH_tk 7 (v := ?va7x7) rfl (by kernel_rfl) (by kernel_rfl) (by kernel_rfl) (fun _ _ _ h => h) (by rfl) ?hya7x7 (by assumption) ?_
  case hya7x7 => (intro w hSw; (try dsimp only at hSw); go_simp <;> with_reducible rfl)
  (try simp only [Act.put, List.setIfInBounds_toArray, List.set_cons_zero, List.set_cons_succ])
  refine wpAnyH_tk 8 (v := ?va8x8) rfl (by kernel_rfl) (by kernel_rfl) (by kernel_rfl) (fun _ _ _ h => h) (by rfl) ?hya8x8 (by assumption) ?_
  case hya8x8 => (intro w hSw; (try dsimp only at hSw); go_simp <;> with_reducible rfl)
  (try simp only [Act.put, List.setIfInBounds_toArray, List.set_cons_zero, List.set_cons_succ])
  refine wpAnyH_tk 9 (v := ?va9x9) rfl (by kernel_rfl) (by kernel_rfl) (by kernel_rfl) (fun _ _ _ h => h) (by rfl) ?hya9x9 (by assumption) ?_
  case hya9x9 => (intro w hSw; (try dsimp only at hSw); go_simp <;> with_reducible rfl)
  (try simp only [Act.put, List.setIfInBounds_toArray, List.set_cons_zero, List.set_cons_succ])
  refine wpAnyH_tk 10 (v := ?va10x10) rfl (by kernel_rfl) (by kernel_rfl) (by kernel_rfl) (fun _ _ _ h => h) (by rfl) ?hya10x10 (by assumption) ?_
  case hya10x10 => (intro w hSw; (try dsimp only at hSw); go_simp <;> with_reducible rfl)
  (try simp only [Act.put, List.setIfInBounds_toArray, List.set_cons_zero, List.set_cons_succ])
  refine wpAnyH_tk 11 (v := ?va11x11) rfl (by kernel_rfl) (by kernel_rfl) (by kernel_rfl) (fun _ _ _ h => h) (by rfl) ?hya11x11 (by assumption) ?_
  case hya11x11 => (intro w hSw; (try dsimp only at hSw); go_simp <;> with_reducible rfl)
  (try simp only [Act.put, List.setIfInBounds_toArray, List.set_cons_zero, List.set_cons_succ])
  refine wpAnyH_tk 12 (v := ?va12x12) rfl (by kernel_rfl) (by kernel_rfl) (by kernel_rfl) (fun _ _ _ h => h) (by rfl) ?hya12x12 (by assumption) ?_
  case hya12x12 => (intro w hSw; (try dsimp only at hSw); go_simp <;> with_reducible rfl)
  (try simp only [Act.put, List.setIfInBounds_toArray, List.set_cons_zero, List.set_cons_succ])
  refine wpAnyH_two 3 13 rfl rfl (by kernel_rfl) (by rfl) (by rfl) (fun K hK => ?_) (fun K hK => ?_)
  · skip
    go_simp
    refine hK.out _ _ ?hSa3x13 (fun hHeld => ?_)
    case hSa3x13 => (first | exact c0 | (show (World.setCell w _ _).cell? _ = _; exact ((HB5.out.set2 _).cells).1))
    clear hK K
    (try simp only [Act.put, List.setIfInBounds_toArray, List.set_cons_zero, List.set_cons_succ])
    refine wpAnyH_one 13 rfl (by kernel_rfl) (by rfl) (fun K hK => ?_)
    go_simp
    refine hK.out _ _ ?hSa13x14 (fun hHeld => ?_)
    case hSa13x14 => (first | exact c0 | (show (World.setCell w _ _).cell? _ = _; exact ((HB5.out.set2 _).cells).1))
    clear hK K
    (try simp only [Act.put, List.setIfInBounds_toArray, List.set_cons_zero, List.set_cons_succ])
    refine wpAnyH_tk 14 (v := ?va14x15) rfl (by kernel_rfl) (by kernel_rfl) (by kernel_rfl) (fun _ _ _ h => h) (by rfl) ?hya14x15 (by assumption) ?_
    case hya14x15 => (intro w hSw; (try dsimp only at hSw); go_simp <;> with_reducible rfl)
    (try simp only [Act.put, List.setIfInBounds_toArray, List.set_cons_zero, List.set_cons_succ])
    refine wpAnyH_tk 15 (v := ?va15x16) rfl (by kernel_rfl) (by kernel_rfl) (by kernel_rfl) (fun _ _ _ h => h) (by rfl) ?hya15x16 (by assumption) ?_
    case hya15x16 => (intro w hSw; (try dsimp only at hSw); go_simp <;> with_reducible rfl)
    (try simp only [Act.put, List.setIfInBounds_toArray, List.set_cons_zero, List.set_cons_succ])
    refine wpAnyH_tk 16 (v := ?va16x17) rfl (by kernel_rfl) (by kernel_rfl) (by kernel_rfl) (fun _ _ _ h => h) (by rfl) ?hya16x17 (by assumption) ?_
    case hya16x17 => (intro w hSw; (try dsimp only at hSw); go_simp <;> with_reducible rfl)
    (try simp only [Act.put, List.setIfInBounds_toArray, List.set_cons_zero, List.set_cons_succ])
    refine wpAnyH_tk 17 (v := ?va17x18) rfl (by kernel_rfl) (by kernel_rfl) (by kernel_rfl) (fun _ _ _ h => h) (by rfl) ?hya17x18 (by assumption) ?_
    case hya17x18 => (intro w hSw; (try dsimp only at hSw); go_simp <;> with_reducible rfl)
    (try simp only [Act.put, List.setIfInBounds_toArray, List.set_cons_zero, List.set_cons_succ])
    refine wpAnyH_tk 18 (v := ?va18x19) rfl (by kernel_rfl) (by kernel_rfl) (by kernel_rfl) (fun _ _ _ h => h) (by rfl) ?hya18x19 (by assumption) ?_
    case hya18x19 => (intro w hSw; (try dsimp only at hSw); go_simp <;> with_reducible rfl)
    (try simp only [Act.put, List.setIfInBounds_toArray, List.set_cons_zero, List.set_cons_succ])
    refine wpAnyH_tk 19 (v := ?va19x20) rfl (by kernel_rfl) (by kernel_rfl) (by kernel_rfl) (fun _ _ _ h => h) (by rfl) ?hya19x20 (by assumption) ?_
    case hya19x20 => (intro w hSw; (try dsimp only at hSw); go_simp <;> with_reducible rfl)
    (try simp only [Act.put, List.setIfInBounds_toArray, List.set_cons_zero, List.set_cons_succ])
    refine wpAnyH_one 20 rfl (by kernel_rfl) (by rfl) (fun K hK => ?_)
    go_simp
    refine hK.out _ _ ?hSa20x21 (fun hHeld => ?_)
    case hSa20x21 => (first | exact c0 | (show (World.setCell w _ _).cell? _ = _; exact ((HB5.out.set2 _).cells).1))
    clear hK K
    (try simp only [Act.put, List.setIfInBounds_toArray, List.set_cons_zero, List.set_cons_succ])
    refine wpAnyH_done (by kernel_rfl) ?_ _
    simp only [HE.out]
    generalize (if IntKind.i64.wrap ((d.bytes.length : Int) - d.safe) < keep then IntKind.i64.wrap ((d.bytes.length : Int) - d.safe) else keep) = q1
    generalize (if 0 < q1 then q1 else 0) = q2
    have B5 : Hid (Box5 (w.setCell ⟨b, 2, none⟩ (.int .i64 k)).drew b 75 (.slice av d.bytes.length cv) (.int .i64 d.size) (.int .i64 k) (.bool d.dark) (.int .i64 d.left)) := (HB5.out.set2 _).ext (Ext.refl _).drew
    have OW1 : OwnB B (w.setCell ⟨b, 2, none⟩ (.int .i64 k)).drew (.slice av d.bytes.length cv) d.bytes := ownsRow_ext (ownB_set OW0.out HB5.out (by decide)) (Ext.refl _).drew
    have M : Hid (Moved (fp b (.slice av d.bytes.length cv)) w (w.setCell ⟨b, 2, none⟩ (.int .i64 k)).drew) := ((Moved.refl _ w).set (.inl (.inl rfl)) 2 _).thenExt (Ext.refl _).drew
    have OW : Hid (OwnB B (w.setCell ⟨b, 2, none⟩ (.int .i64 k)).drew (.slice av k cv) (d.bytes.take k)) := OW1.take hkl
    clear OW1
    generalize (w.setCell ⟨b, 2, none⟩ (.int .i64 k)).drew = W1 at B5 OW M ⊢
    obtain ⟨e0, -, c2, -, -⟩ := B5.out.cells
    go_wp2
    refine wp_region_held_drew (S := (fun w' => w'.cell? ⟨b, 2, none⟩ = some (.int .i64 k))) (by kernel_rfl) ?hSb0 (fun hHeld => ?_)
    case hSb0 => exact c2
    refine wpAnyH_tk 0 (v := ?vb0x1) rfl (by kernel_rfl) (by kernel_rfl) (by kernel_rfl) (fun _ _ _ h => h) (by rfl) ?hyb0x1 (by assumption) ?_
    case hyb0x1 => (intro w hSw; (try dsimp only at hSw); go_simp <;> with_reducible rfl)
    (try simp only [Act.put, List.setIfInBounds_toArray, List.set_cons_zero, List.set_cons_succ])
    refine wpAnyH_tk 1 (v := ?vb1x2) rfl (by kernel_rfl) (by kernel_rfl) (by kernel_rfl) (fun _ _ _ h => h) (by rfl) ?hyb1x2 (by assumption) ?_
    case hyb1x2 => (intro w hSw; (try dsimp only at hSw); go_simp <;> with_reducible rfl)
    (try simp only [Act.put, List.setIfInBounds_toArray, List.set_cons_zero, List.set_cons_succ])
    refine wpAnyH_tk 2 (v := ?vb2x3) rfl (by kernel_rfl) (by kernel_rfl) (by kernel_rfl) (fun _ _ _ h => h) (by rfl) ?hyb2x3 (by assumption) ?_
    case hyb2x3 => (intro w hSw; (try dsimp only at hSw); go_simp <;> with_reducible rfl)
    (try simp only [Act.put, List.setIfInBounds_toArray, List.set_cons_zero, List.set_cons_succ])
    refine wpAnyH_tk 3 (v := ?vb3x4) rfl (by kernel_rfl) (by kernel_rfl) (by kernel_rfl) (fun _ _ _ h => h) (by rfl) ?hyb3x4 (by assumption) ?_
    case hyb3x4 => (intro w hSw; (try dsimp only at hSw); go_simp <;> with_reducible rfl)
    (try simp only [Act.put, List.setIfInBounds_toArray, List.set_cons_zero, List.set_cons_succ])
    refine wpAnyH_tk 4 (v := ?vb4x5) rfl (by kernel_rfl) (by kernel_rfl) (by kernel_rfl) (fun _ _ _ h => h) (by rfl) ?hyb4x5 (by assumption) ?_
    case hyb4x5 => (intro w hSw; (try dsimp only at hSw); go_simp <;> with_reducible rfl)
    (try simp only [Act.put, List.setIfInBounds_toArray, List.set_cons_zero, List.set_cons_succ])
    refine wpAnyH_tk 5 (v := ?vb5x6) rfl (by kernel_rfl) (by kernel_rfl) (by kernel_rfl) (fun _ _ _ h => h) (by rfl) ?hyb5x6 (by assumption) ?_
    case hyb5x6 => (intro w hSw; (try dsimp only at hSw); go_simp <;> with_reducible rfl)
    (try simp only [Act.put, List.setIfInBounds_toArray, List.set_cons_zero, List.set_cons_succ])
    refine wpAnyH_tk 7 (v := ?vb7x7) rfl (by kernel_rfl) (by kernel_rfl) (by kernel_rfl) (fun _ _ _ h => h) (by rfl) ?hyb7x7 (by assumption) ?_
    case hyb7x7 => (intro w hSw; (try dsimp only at hSw); go_simp <;> with_reducible rfl)
    (try simp only [Act.put, List.setIfInBounds_toArray, List.set_cons_zero, List.set_cons_succ])
    refine wpAnyH_tk 8 (v := ?vb8x8) rfl (by kernel_rfl) (by kernel_rfl) (by kernel_rfl) (fun _ _ _ h => h) (by rfl) ?hyb8x8 (by assumption) ?_
    case hyb8x8 => (intro w hSw; (try dsimp only at hSw); go_simp <;> with_reducible rfl)
    (try simp only [Act.put, List.setIfInBounds_toArray, List.set_cons_zero, List.set_cons_succ])
    refine wpAnyH_tk 9 (v := ?vb9x9) rfl (by kernel_rfl) (by kernel_rfl) (by kernel_rfl) (fun _ _ _ h => h) (by rfl) ?hyb9x9 (by assumption) ?_
    case hyb9x9 => (intro w hSw; (try dsimp only at hSw); go_simp <;> with_reducible rfl)
    (try simp only [Act.put, List.setIfInBounds_toArray, List.set_cons_zero, List.set_cons_succ])
    refine wpAnyH_tk 10 (v := ?vb10x10) rfl (by kernel_rfl) (by kernel_rfl) (by kernel_rfl) (fun _ _ _ h => h) (by rfl) ?hyb10x10 (by assumption) ?_
    case hyb10x10 => (intro w hSw; (try dsimp only at hSw); go_simp <;> with_reducible rfl)
    (try simp only [Act.put, List.setIfInBounds_toArray, List.set_cons_zero, List.set_cons_succ])
    refine wpAnyH_one 6 rfl (by kernel_rfl) (by rfl) (fun K hK => ?_)
    go_simp
    clear e0
    refine hK.out _ _ ?hSb6x11 (fun hHeld => ?_)
    case hSb6x11 => exact c2
    clear hK K
    (try simp only [Act.put, List.setIfInBounds_toArray, List.set_cons_zero, List.set_cons_succ])
    refine wpAnyH_tk 11 (v := ?vb11x12) rfl (by kernel_rfl) (by kernel_rfl) (by kernel_rfl) (fun _ _ _ h => h) (by rfl) ?hyb11x12 (by assumption) ?_
    case hyb11x12 => (intro w hSw; (try dsimp only at hSw); go_simp <;> with_reducible rfl)
    (try simp only [Act.put, List.setIfInBounds_toArray, List.set_cons_zero, List.set_cons_succ])
    refine wpAnyH_tk 12 (v := ?vb12x13) rfl (by kernel_rfl) (by kernel_rfl) (by kernel_rfl) (fun _ _ _ h => h) (by rfl) ?hyb12x13 (by assumption) ?_
    case hyb12x13 => (intro w hSw; (try dsimp only at hSw); go_simp <;> with_reducible rfl)
    (try simp only [Act.put, List.setIfInBounds_toArray, List.set_cons_zero, List.set_cons_succ])
    refine wpAnyH_tk 13 (v := ?vb13x14) rfl (by kernel_rfl) (by kernel_rfl) (by kernel_rfl) (fun _ _ _ h => h) (by rfl) ?hyb13x14 (by assumption) ?_
    case hyb13x14 => (intro w hSw; (try dsimp only at hSw); go_simp <;> with_reducible rfl)
    (try simp only [Act.put, List.setIfInBounds_toArray, List.set_cons_zero, List.set_cons_succ])
    obtain ⟨e0, e1, e2, e3, e4⟩ := B5.out.cells
    have f0 := B5.out.free 0
    have f3 := B5.out.free 3
    have f4 := B5.out.free 4
    refine wpAnyH_one 14 rfl (by kernel_rfl) (by rfl) (fun K hK => ?_)
    go_simp
    replace OW := hid (ownB_set (i := 0) (u := (.slice av k cv)) OW.out B5.out (by decide))
    replace M := hid (M.out.set (g := b) (.inl (.inl rfl)) 0 (.slice av k cv))
    replace B5 := hid (B5.out.set0 (.slice av k cv))
    clear e0 e1 e2 e3 e4 f0 f3 f4
    refine hK.out _ _ ?hSb14x15 (fun hHeld => ?_)
    case hSb14x15 => exact B5.out.cells.2.2.1
    clear hK K
    (try simp only [Act.put, List.setIfInBounds_toArray, List.set_cons_zero, List.set_cons_succ])
    refine wpAnyH_tk 15 (v := ?vb15x16) rfl (by kernel_rfl) (by kernel_rfl) (by kernel_rfl) (fun _ _ _ h => h) (by rfl) ?hyb15x16 (by assumption) ?_
    case hyb15x16 => (intro w hSw; (try dsimp only at hSw); go_simp <;> with_reducible rfl)
    (try simp only [Act.put, List.setIfInBounds_toArray, List.set_cons_zero, List.set_cons_succ])
    refine wpAnyH_tk 16 (v := ?vb16x17) rfl (by kernel_rfl) (by kernel_rfl) (by kernel_rfl) (fun _ _ _ h => h) (by rfl) ?hyb16x17 (by assumption) ?_
    case hyb16x17 => (intro w hSw; (try dsimp only at hSw); go_simp <;> with_reducible rfl)
    (try simp only [Act.put, List.setIfInBounds_toArray, List.set_cons_zero, List.set_cons_succ])
    obtain ⟨e0, e1, e2, e3, e4⟩ := B5.out.cells
    have f0 := B5.out.free 0
    have f3 := B5.out.free 3
    have f4 := B5.out.free 4
    refine wpAnyH_one 17 rfl (by kernel_rfl) (by rfl) (fun K hK => ?_)
    go_simp
    replace OW := hid (ownB_set (i := 3) (u := (.bool false)) OW.out B5.out (by decide))
    replace M := hid (M.out.set (g := b) (.inl (.inl rfl)) 3 (.bool false))
    replace B5 := hid (B5.out.set3 (.bool false))
    clear e0 e1 e2 e3 e4 f0 f3 f4
    refine hK.out _ _ ?hSb17x18 (fun hHeld => ?_)
    case hSb17x18 => exact B5.out.cells.2.2.1
    clear hK K
    (try simp only [Act.put, List.setIfInBounds_toArray, List.set_cons_zero, List.set_cons_succ])
    refine wpAnyH_tk 18 (v := ?vb18x19) rfl (by kernel_rfl) (by kernel_rfl) (by kernel_rfl) (fun _ _ _ h => h) (by rfl) ?hyb18x19 (by assumption) ?_
    case hyb18x19 => (intro w hSw; (try dsimp only at hSw); go_simp <;> with_reducible rfl)
    (try simp only [Act.put, List.setIfInBounds_toArray, List.set_cons_zero, List.set_cons_succ])
    refine wpAnyH_tk 19 (v := ?vb19x20) rfl (by kernel_rfl) (by kernel_rfl) (by kernel_rfl) (fun _ _ _ h => h) (by rfl) ?hyb19x20 (by assumption) ?_
    case hyb19x20 => (intro w hSw; (try dsimp only at hSw); go_simp <;> with_reducible rfl)
    (try simp only [Act.put, List.setIfInBounds_toArray, List.set_cons_zero, List.set_cons_succ])
    obtain ⟨e0, e1, e2, e3, e4⟩ := B5.out.cells
    have f0 := B5.out.free 0
    have f3 := B5.out.free 3
    have f4 := B5.out.free 4
    refine wpAnyH_one 20 rfl (by kernel_rfl) (by rfl) (fun K hK => ?_)
    go_simp
    replace OW := hid (ownB_set (i := 4) (u := (.int .i64 (-1))) OW.out B5.out (by decide))
    replace M := hid (M.out.set (g := b) (.inl (.inl rfl)) 4 (.int .i64 (-1)))
    replace B5 := hid (B5.out.set4 (.int .i64 (-1)))
    clear e0 e1 e2 e3 e4 f0 f3 f4
    refine hK.out _ _ ?hSb20x21 (fun hHeld => ?_)
    case hSb20x21 => exact B5.out.cells.2.2.1
    clear hK K
    (try simp only [Act.put, List.setIfInBounds_toArray, List.set_cons_zero, List.set_cons_succ])
    refine wpAnyH_done (by kernel_rfl) ?_ _
    go_wp2
    go_end0
    have e : d.crash keep = { d with bytes := d.bytes.take k, safe := (k : Int), dark := false, left := -1 } := by unfold DD.crash; rw [HK.out]; rfl
    rw [e] at HOK ⊢
    exact ⟨rfl, _, DiskP.ext ⟨HD.out.lo, B5.out, OW.out, HOK.out⟩ (Ext.refl _).drew, fun k hk => .inl (by cases av <;> first | exact hk | (simp [Value.ownBlock] at hk)), M.out.thenExt (Ext.refl _).drew⟩
  · skip
    go_simp
    refine hK.out _ _ ?hSa13x22 (fun hHeld => ?_)
    case hSa13x22 => (first | exact c0 | (show (World.setCell w _ _).cell? _ = _; exact ((HB5.out.set2 _).cells).1))
    clear hK K
    (try simp only [Act.put, List.setIfInBounds_toArray, List.set_cons_zero, List.set_cons_succ])
    refine wpAnyH_tk 14 (v := ?va14x23) rfl (by kernel_rfl) (by kernel_rfl) (by kernel_rfl) (fun _ _ _ h => h) (by rfl) ?hya14x23 (by assumption) ?_
    case hya14x23 => (intro w hSw; (try dsimp only at hSw); go_simp <;> with_reducible rfl)
    (try simp only [Act.put, List.setIfInBounds_toArray, List.set_cons_zero, List.set_cons_succ])
    refine wpAnyH_tk 15 (v := ?va15x24) rfl (by kernel_rfl) (by kernel_rfl) (by kernel_rfl) (fun _ _ _ h => h) (by rfl) ?hya15x24 (by assumption) ?_
    case hya15x24 => (intro w hSw; (try dsimp only at hSw); go_simp <;> with_reducible rfl)
    (try simp only [Act.put, List.setIfInBounds_toArray, List.set_cons_zero, List.set_cons_succ])
    refine wpAnyH_tk 16 (v := ?va16x25) rfl (by kernel_rfl) (by kernel_rfl) (by kernel_rfl) (fun _ _ _ h => h) (by rfl) ?hya16x25 (by assumption) ?_
    case hya16x25 => (intro w hSw; (try dsimp only at hSw); go_simp <;> with_reducible rfl)
    (try simp only [Act.put, List.setIfInBounds_toArray, List.set_cons_zero, List.set_cons_succ])
    refine wpAnyH_one 3 rfl (by kernel_rfl) (by rfl) (fun K hK => ?_)
    go_simp
    refine hK.out _ _ ?hSa3x26 (fun hHeld => ?_)
    case hSa3x26 => (first | exact c0 | (show (World.setCell w _ _).cell? _ = _; exact ((HB5.out.set2 _).cells).1))
    clear hK K
    (try simp only [Act.put, List.setIfInBounds_toArray, List.set_cons_zero, List.set_cons_succ])
    refine wpAnyH_tk 17 (v := ?va17x27) rfl (by kernel_rfl) (by kernel_rfl) (by kernel_rfl) (fun _ _ _ h => h) (by rfl) ?hya17x27 (by assumption) ?_
    case hya17x27 => (intro w hSw; (try dsimp only at hSw); go_simp <;> with_reducible rfl)
    (try simp only [Act.put, List.setIfInBounds_toArray, List.set_cons_zero, List.set_cons_succ])
    refine wpAnyH_tk 18 (v := ?va18x28) rfl (by kernel_rfl) (by kernel_rfl) (by kernel_rfl) (fun _ _ _ h => h) (by rfl) ?hya18x28 (by assumption) ?_
    case hya18x28 => (intro w hSw; (try dsimp only at hSw); go_simp <;> with_reducible rfl)
    (try simp only [Act.put, List.setIfInBounds_toArray, List.set_cons_zero, List.set_cons_succ])
    refine wpAnyH_tk 19 (v := ?va19x29) rfl (by kernel_rfl) (by kernel_rfl) (by kernel_rfl) (fun _ _ _ h => h) (by rfl) ?hya19x29 (by assumption) ?_
    case hya19x29 => (intro w hSw; (try dsimp only at hSw); go_simp <;> with_reducible rfl)
    (try simp only [Act.put, List.setIfInBounds_toArray, List.set_cons_zero, List.set_cons_succ])
    refine wpAnyH_one 20 rfl (by kernel_rfl) (by rfl) (fun K hK => ?_)
    go_simp
    refine hK.out _ _ ?hSa20x30 (fun hHeld => ?_)
    case hSa20x30 => (first | exact c0 | (show (World.setCell w _ _).cell? _ = _; exact ((HB5.out.set2 _).cells).1))
    clear hK K
    (try simp only [Act.put, List.setIfInBounds_toArray, List.set_cons_zero, List.set_cons_succ])
    refine wpAnyH_done (by kernel_rfl) ?_ _
    simp only [HE.out]
    generalize (if IntKind.i64.wrap ((d.bytes.length : Int) - d.safe) < keep then IntKind.i64.wrap ((d.bytes.length : Int) - d.safe) else keep) = q1
    generalize (if 0 < q1 then q1 else 0) = q2
    have B5 : Hid (Box5 (w.setCell ⟨b, 2, none⟩ (.int .i64 k)).drew b 75 (.slice av d.bytes.length cv) (.int .i64 d.size) (.int .i64 k) (.bool d.dark) (.int .i64 d.left)) := (HB5.out.set2 _).ext (Ext.refl _).drew
    have OW1 : OwnB B (w.setCell ⟨b, 2, none⟩ (.int .i64 k)).drew (.slice av d.bytes.length cv) d.bytes := ownsRow_ext (ownB_set OW0.out HB5.out (by decide)) (Ext.refl _).drew
    have M : Hid (Moved (fp b (.slice av d.bytes.length cv)) w (w.setCell ⟨b, 2, none⟩ (.int .i64 k)).drew) := ((Moved.refl _ w).set (.inl (.inl rfl)) 2 _).thenExt (Ext.refl _).drew
    have OW : Hid (OwnB B (w.setCell ⟨b, 2, none⟩ (.int .i64 k)).drew (.slice av k cv) (d.bytes.take k)) := OW1.take hkl
    clear OW1
    generalize (w.setCell ⟨b, 2, none⟩ (.int .i64 k)).drew = W1 at B5 OW M ⊢
    obtain ⟨e0, -, c2, -, -⟩ := B5.out.cells
    go_wp2
    refine wp_region_held_drew (S := (fun w' => w'.cell? ⟨b, 2, none⟩ = some (.int .i64 k))) (by kernel_rfl) ?hSc0 (fun hHeld => ?_)
    case hSc0 => exact c2
    refine wpAnyH_tk 0 (v := ?vc0x1) rfl (by kernel_rfl) (by kernel_rfl) (by kernel_rfl) (fun _ _ _ h => h) (by rfl) ?hyc0x1 (by assumption) ?_
    case hyc0x1 => (intro w hSw; (try dsimp only at hSw); go_simp <;> with_reducible rfl)
    (try simp only [Act.put, List.setIfInBounds_toArray, List.set_cons_zero, List.set_cons_succ])
    refine wpAnyH_tk 1 (v := ?vc1x2) rfl (by kernel_rfl) (by kernel_rfl) (by kernel_rfl) (fun _ _ _ h => h) (by rfl) ?hyc1x2 (by assumption) ?_
    case hyc1x2 => (intro w hSw; (try dsimp only at hSw); go_simp <;> with_reducible rfl)
    (try simp only [Act.put, List.setIfInBounds_toArray, List.set_cons_zero, List.set_cons_succ])
    refine wpAnyH_tk 2 (v := ?vc2x3) rfl (by kernel_rfl) (by kernel_rfl) (by kernel_rfl) (fun _ _ _ h => h) (by rfl) ?hyc2x3 (by assumption) ?_
    case hyc2x3 => (intro w hSw; (try dsimp only at hSw); go_simp <;> with_reducible rfl)
    (try simp only [Act.put, List.setIfInBounds_toArray, List.set_cons_zero, List.set_cons_succ])
    refine wpAnyH_tk 3 (v := ?vc3x4) rfl (by kernel_rfl) (by kernel_rfl) (by kernel_rfl) (fun _ _ _ h => h) (by rfl) ?hyc3x4 (by assumption) ?_
    case hyc3x4 => (intro w hSw; (try dsimp only at hSw); go_simp <;> with_reducible rfl)
    (try simp only [Act.put, List.setIfInBounds_toArray, List.set_cons_zero, List.set_cons_succ])
    refine wpAnyH_tk 4 (v := ?vc4x5) rfl (by kernel_rfl) (by kernel_rfl) (by kernel_rfl) (fun _ _ _ h => h) (by rfl) ?hyc4x5 (by assumption) ?_
    case hyc4x5 => (intro w hSw; (try dsimp only at hSw); go_simp <;> with_reducible rfl)
    (try simp only [Act.put, List.setIfInBounds_toArray, List.set_cons_zero, List.set_cons_succ])
    refine wpAnyH_tk 5 (v := ?vc5x6) rfl (by kernel_rfl) (by kernel_rfl) (by kernel_rfl) (fun _ _ _ h => h) (by rfl) ?hyc5x6 (by assumption) ?_
    case hyc5x6 => (intro w hSw; (try dsimp only at hSw); go_simp <;> with_reducible rfl)
    (try simp only [Act.put, List.setIfInBounds_toArray, List.set_cons_zero, List.set_cons_succ])
    refine wpAnyH_tk 7 (v := ?vc7x7) rfl (by kernel_rfl) (by kernel_rfl) (by kernel_rfl) (fun _ _ _ h => h) (by rfl) ?hyc7x7 (by assumption) ?_
    case hyc7x7 => (intro w hSw; (try dsimp only at hSw); go_simp <;> with_reducible rfl)
    (try simp only [Act.put, List.setIfInBounds_toArray, List.set_cons_zero, List.set_cons_succ])
    refine wpAnyH_tk 8 (v := ?vc8x8) rfl (by kernel_rfl) (by kernel_rfl) (by kernel_rfl) (fun _ _ _ h => h) (by rfl) ?hyc8x8 (by assumption) ?_
    case hyc8x8 => (intro w hSw; (try dsimp only at hSw); go_simp <;> with_reducible rfl)
    (try simp only [Act.put, List.setIfInBounds_toArray, List.set_cons_zero, List.set_cons_succ])
    refine wpAnyH_tk 9 (v := ?vc9x9) rfl (by kernel_rfl) (by kernel_rfl) (by kernel_rfl) (fun _ _ _ h => h) (by rfl) ?hyc9x9 (by assumption) ?_
    case hyc9x9 => (intro w hSw; (try dsimp only at hSw); go_simp <;> with_reducible rfl)
    (try simp only [Act.put, List.setIfInBounds_toArray, List.set_cons_zero, List.set_cons_succ])
    refine wpAnyH_tk 10 (v := ?vc10x10) rfl (by kernel_rfl) (by kernel_rfl) (by kernel_rfl) (fun _ _ _ h => h) (by rfl) ?hyc10x10 (by assumption) ?_
    case hyc10x10 => (intro w hSw; (try dsimp only at hSw); go_simp <;> with_reducible rfl)
    (try simp only [Act.put, List.setIfInBounds_toArray, List.set_cons_zero, List.set_cons_succ])
    refine wpAnyH_one 6 rfl (by kernel_rfl) (by rfl) (fun K hK => ?_)
    go_simp
    clear e0
    refine hK.out _ _ ?hSc6x11 (fun hHeld => ?_)
    case hSc6x11 => exact c2
    clear hK K
    (try simp only [Act.put, List.setIfInBounds_toArray, List.set_cons_zero, List.set_cons_succ])
    refine wpAnyH_tk 11 (v := ?vc11x12) rfl (by kernel_rfl) (by kernel_rfl) (by kernel_rfl) (fun _ _ _ h => h) (by rfl) ?hyc11x12 (by assumption) ?_
    case hyc11x12 => (intro w hSw; (try dsimp only at hSw); go_simp <;> with_reducible rfl)
    (try simp only [Act.put, List.setIfInBounds_toArray, List.set_cons_zero, List.set_cons_succ])
    refine wpAnyH_tk 12 (v := ?vc12x13) rfl (by kernel_rfl) (by kernel_rfl) (by kernel_rfl) (fun _ _ _ h => h) (by rfl) ?hyc12x13 (by assumption) ?_
    case hyc12x13 => (intro w hSw; (try dsimp only at hSw); go_simp <;> with_reducible rfl)
    (try simp only [Act.put, List.setIfInBounds_toArray, List.set_cons_zero, List.set_cons_succ])
    refine wpAnyH_tk 13 (v := ?vc13x14) rfl (by kernel_rfl) (by kernel_rfl) (by kernel_rfl) (fun _ _ _ h => h) (by rfl) ?hyc13x14 (by assumption) ?_
    case hyc13x14 => (intro w hSw; (try dsimp only at hSw); go_simp <;> with_reducible rfl)
    (try simp only [Act.put, List.setIfInBounds_toArray, List.set_cons_zero, List.set_cons_succ])
    obtain ⟨e0, e1, e2, e3, e4⟩ := B5.out.cells
    have f0 := B5.out.free 0
    have f3 := B5.out.free 3
    have f4 := B5.out.free 4
    refine wpAnyH_one 14 rfl (by kernel_rfl) (by rfl) (fun K hK => ?_)
    go_simp
    replace OW := hid (ownB_set (i := 0) (u := (.slice av k cv)) OW.out B5.out (by decide))
    replace M := hid (M.out.set (g := b) (.inl (.inl rfl)) 0 (.slice av k cv))
    replace B5 := hid (B5.out.set0 (.slice av k cv))
    clear e0 e1 e2 e3 e4 f0 f3 f4
    refine hK.out _ _ ?hSc14x15 (fun hHeld => ?_)
    case hSc14x15 => exact B5.out.cells.2.2.1
    clear hK K
    (try simp only [Act.put, List.setIfInBounds_toArray, List.set_cons_zero, List.set_cons_succ])
    refine wpAnyH_tk 15 (v := ?vc15x16) rfl (by kernel_rfl) (by kernel_rfl) (by kernel_rfl) (fun _ _ _ h => h) (by rfl) ?hyc15x16 (by assumption) ?_
    case hyc15x16 => (intro w hSw; (try dsimp only at hSw); go_simp <;> with_reducible rfl)
    (try simp only [Act.put, List.setIfInBounds_toArray, List.set_cons_zero, List.set_cons_succ])
    refine wpAnyH_tk 16 (v := ?vc16x17) rfl (by kernel_rfl) (by kernel_rfl) (by kernel_rfl) (fun _ _ _ h => h) (by rfl) ?hyc16x17 (by assumption) ?_
    case hyc16x17 => (intro w hSw; (try dsimp only at hSw); go_simp <;> with_reducible rfl)
    (try simp only [Act.put, List.setIfInBounds_toArray, List.set_cons_zero, List.set_cons_succ])
    obtain ⟨e0, e1, e2, e3, e4⟩ := B5.out.cells
    have f0 := B5.out.free 0
    have f3 := B5.out.free 3
    have f4 := B5.out.free 4
    refine wpAnyH_one 17 rfl (by kernel_rfl) (by rfl) (fun K hK => ?_)
    go_simp
    replace OW := hid (ownB_set (i := 3) (u := (.bool false)) OW.out B5.out (by decide))
    replace M := hid (M.out.set (g := b) (.inl (.inl rfl)) 3 (.bool false))
    replace B5 := hid (B5.out.set3 (.bool false))
    clear e0 e1 e2 e3 e4 f0 f3 f4
    refine hK.out _ _ ?hSc17x18 (fun hHeld => ?_)
    case hSc17x18 => exact B5.out.cells.2.2.1
    clear hK K
    (try simp only [Act.put, List.setIfInBounds_toArray, List.set_cons_zero, List.set_cons_succ])
    refine wpAnyH_tk 18 (v := ?vc18x19) rfl (by kernel_rfl) (by kernel_rfl) (by kernel_rfl) (fun _ _ _ h => h) (by rfl) ?hyc18x19 (by assumption) ?_
    case hyc18x19 => (intro w hSw; (try dsimp only at hSw); go_simp <;> with_reducible rfl)
    (try simp only [Act.put, List.setIfInBounds_toArray, List.set_cons_zero, List.set_cons_succ])
    refine wpAnyH_tk 19 (v := ?vc19x20) rfl (by kernel_rfl) (by kernel_rfl) (by kernel_rfl) (fun _ _ _ h => h) (by rfl) ?hyc19x20 (by assumption) ?_
    case hyc19x20 => (intro w hSw; (try dsimp only at hSw); go_simp <;> with_reducible rfl)
    (try simp only [Act.put, List.setIfInBounds_toArray, List.set_cons_zero, List.set_cons_succ])
    obtain ⟨e0, e1, e2, e3, e4⟩ := B5.out.cells
    have f0 := B5.out.free 0
    have f3 := B5.out.free 3
    have f4 := B5.out.free 4
    refine wpAnyH_one 20 rfl (by kernel_rfl) (by rfl) (fun K hK => ?_)
    go_simp
    replace OW := hid (ownB_set (i := 4) (u := (.int .i64 (-1))) OW.out B5.out (by decide))
    replace M := hid (M.out.set (g := b) (.inl (.inl rfl)) 4 (.int .i64 (-1)))
    replace B5 := hid (B5.out.set4 (.int .i64 (-1)))
    clear e0 e1 e2 e3 e4 f0 f3 f4
    refine hK.out _ _ ?hSc20x21 (fun hHeld => ?_)
    case hSc20x21 => exact B5.out.cells.2.2.1
    clear hK K
    (try simp only [Act.put, List.setIfInBounds_toArray, List.set_cons_zero, List.set_cons_succ])
    refine wpAnyH_done (by kernel_rfl) ?_ _
    go_wp2
    go_end0
    have e : d.crash keep = { d with bytes := d.bytes.take k, safe := (k : Int), dark := false, left := -1 } := by unfold DD.crash; rw [HK.out]; rfl
    rw [e] at HOK ⊢
    exact ⟨rfl, _, DiskP.ext ⟨HD.out.lo, B5.out, OW.out, HOK.out⟩ (Ext.refl _).drew, fun k hk => .inl (by cases av <;> first | exact hk | (simp [Value.ownBlock] at hk)), M.out.thenExt (Ext.refl _).drew⟩
set_option maxHeartbeats 4000000 in
theorem RCrash_any {B : Nat} (b : Nat) (v : Value) (keep : Int) (d : DD) (w : World) (hd : DiskR B w b v d) (hk0 : -9223372036854775808 ≤ keep) (hk1 : keep ≤ 9223372036854775807) :
    Calls Tryz.prog 27 #[.pointer (some ⟨b, 0, none⟩), .int .i64 keep] w fun e w' => e = .returned (.tuple #[]) ∧ ∃ v', DiskR B w' b v' (d.crash keep) ∧ Near w v v' ∧ Moved (fp b v) w w' := by
  have HD := hid hd
  have hls := hd.ok.ls
  have hsm := hd.ok.sm
  have hsf := hd.ok.f0
  have hfl := hd.ok.fl
  obtain ⟨k, hk, hkl, hlt⟩ := kept_nat hd.ok keep
  have HOK : Hid (DOk (d.crash keep)) := hd.ok.crash
  obtain ⟨c0, c1, c2, c3, c4⟩ := hd.box.cells
  have f1 := hd.box.free 1
  obtain ⟨av, cv, hv, hcv⟩ := ownB_len hd.own
  subst hv
  have B5 := hid hd.box
  have HOW := hid hd.own
  have OW : Hid (OwnB B w (.slice av k cv) (d.bytes.take k)) := hd.own.take hkl
  have M : Hid (Moved (fp b (.slice av d.bytes.length cv)) w w) := Moved.refl _ _
  have HK := hid hk
  have hki : (k : Int) ≤ cv := by omega
  have hkc : k ≤ cv := by omega
  have hkn : ¬ (k : Int) < 0 := by omega
  have hE : IntKind.i64.wrap (d.safe + if IntKind.i64.wrap (d.bytes.length - d.safe) < (if keep < 0 then 0 else keep) then IntKind.i64.wrap (d.bytes.length - d.safe) else if keep < 0 then 0 else keep) = (k : Int) := by
    have e1 : IntKind.i64.wrap (d.bytes.length - d.safe) = d.bytes.length - d.safe := IntWalk.i64_in _ (by omega)
    rw [e1]
    have e2 : (d.safe + if (d.bytes.length : Int) - d.safe < (if keep < 0 then 0 else keep) then (d.bytes.length : Int) - d.safe else if keep < 0 then 0 else keep) = (k : Int) := by
      rw [← hk]; unfold DD.kept
      split <;> split <;> (try split) <;> omega
    rw [e2]; exact IntWalk.i64_in _ (by omega)
  have HE := hid hE
  clear hd c0 c3 c4 hlt hk hE
  go_enter Tryz.func27, Tryz.ntmps27
  go_wp2
  refine wp_region_held_drew (S := (fun w' => w'.cell? ⟨b, 2, none⟩ = some (.int .i64 d.safe))) (by kernel_rfl) ?hSd0 (fun hHeld => ?_)
  case hSd0 => exact c2
  refine wpAnyH_tk 0 (v := ?vd0x1) rfl (by kernel_rfl) (by kernel_rfl) (by kernel_rfl) (fun _ _ _ h => h) (by rfl) ?hyd0x1 (by assumption) ?_
  case hyd0x1 => (intro w hSw; (try dsimp only at hSw); go_simp <;> with_reducible rfl)
  (try simp only [Act.put, List.setIfInBounds_toArray, List.set_cons_zero, List.set_cons_succ])
  refine wpAnyH_tk 1 (v := ?vd1x2) rfl (by kernel_rfl) (by kernel_rfl) (by kernel_rfl) (fun _ _ _ h => h) (by rfl) ?hyd1x2 (by assumption) ?_
  case hyd1x2 => (intro w hSw; (try dsimp only at hSw); go_simp <;> with_reducible rfl)
  (try simp only [Act.put, List.setIfInBounds_toArray, List.set_cons_zero, List.set_cons_succ])
  refine wpAnyH_tk 2 (v := ?vd2x3) rfl (by kernel_rfl) (by kernel_rfl) (by kernel_rfl) (fun _ _ _ h => h) (by rfl) ?hyd2x3 (by assumption) ?_
  case hyd2x3 => (intro w hSw; (try dsimp only at hSw); go_simp <;> with_reducible rfl)
  (try simp only [Act.put, List.setIfInBounds_toArray, List.set_cons_zero, List.set_cons_succ])
  refine wpAnyH_tk 3 (v := ?vd3x4) rfl (by kernel_rfl) (by kernel_rfl) (by kernel_rfl) (fun _ _ _ h => h) (by rfl) ?hyd3x4 (by assumption) ?_
  case hyd3x4 => (intro w hSw; (try dsimp only at hSw); go_simp <;> with_reducible rfl)
  (try simp only [Act.put, List.setIfInBounds_toArray, List.set_cons_zero, List.set_cons_succ])
  refine wpAnyH_tk 5 (v := ?vd5x5) rfl (by kernel_rfl) (by kernel_rfl) (by kernel_rfl) (fun _ _ _ h => h) (by rfl) ?hyd5x5 (by assumption) ?_
  case hyd5x5 => (intro w hSw; (try dsimp only at hSw); go_simp <;> with_reducible rfl)
  (try simp only [Act.put, List.setIfInBounds_toArray, List.set_cons_zero, List.set_cons_succ])
  refine wpAnyH_tk 6 (v := ?vd6x6) rfl (by kernel_rfl) (by kernel_rfl) (by kernel_rfl) (fun _ _ _ h => h) (by rfl) ?hyd6x6 (by assumption) ?_
  case hyd6x6 => (intro w hSw; (try dsimp only at hSw); go_simp <;> with_reducible rfl)
  (try simp only [Act.put, List.setIfInBounds_toArray, List.set_cons_zero, List.set_cons_succ])
  refine wpAnyH_tk 7 (v := ?vd7x7) rfl (by kernel_rfl) (by kernel_rfl) (by kernel_rfl) (fun _ _ _ h => h) (by rfl) ?hyd7x7 (by assumption) ?_
  case hyd7x7 => (intro w hSw; (try dsimp only at hSw); go_simp <;> with_reducible rfl)
  (try simp only [Act.put, List.setIfInBounds_toArray, List.set_cons_zero, List.set_cons_succ])
  refine wpAnyH_tk 8 (v := ?vd8x8) rfl (by kernel_rfl) (by kernel_rfl) (by kernel_rfl) (fun _ _ _ h => h) (by rfl) ?hyd8x8 (by assumption) ?_
  case hyd8x8 => (intro w hSw; (try dsimp only at hSw); go_simp <;> with_reducible rfl)
  (try simp only [Act.put, List.setIfInBounds_toArray, List.set_cons_zero, List.set_cons_succ])
  refine wpAnyH_tk 9 (v := ?vd9x9) rfl (by kernel_rfl) (by kernel_rfl) (by kernel_rfl) (fun _ _ _ h => h) (by rfl) ?hyd9x9 (by assumption) ?_
  case hyd9x9 => (intro w hSw; (try dsimp only at hSw); go_simp <;> with_reducible rfl)
  (try simp only [Act.put, List.setIfInBounds_toArray, List.set_cons_zero, List.set_cons_succ])
  refine wpAnyH_tk 10 (v := ?vd10x10) rfl (by kernel_rfl) (by kernel_rfl) (by kernel_rfl) (fun _ _ _ h => h) (by rfl) ?hyd10x10 (by assumption) ?_
  case hyd10x10 => (intro w hSw; (try dsimp only at hSw); go_simp <;> with_reducible rfl)
  (try simp only [Act.put, List.setIfInBounds_toArray, List.set_cons_zero, List.set_cons_succ])
  refine wpAnyH_tk 11 (v := ?vd11x11) rfl (by kernel_rfl) (by kernel_rfl) (by kernel_rfl) (fun _ _ _ h => h) (by rfl) ?hyd11x11 (by assumption) ?_
  case hyd11x11 => (intro w hSw; (try dsimp only at hSw); go_simp <;> with_reducible rfl)
  (try simp only [Act.put, List.setIfInBounds_toArray, List.set_cons_zero, List.set_cons_succ])
  refine wpAnyH_tk 12 (v := ?vd12x12) rfl (by kernel_rfl) (by kernel_rfl) (by kernel_rfl) (fun _ _ _ h => h) (by rfl) ?hyd12x12 (by assumption) ?_
  case hyd12x12 => (intro w hSw; (try dsimp only at hSw); go_simp <;> with_reducible rfl)
  (try simp only [Act.put, List.setIfInBounds_toArray, List.set_cons_zero, List.set_cons_succ])
  refine wpAnyH_tk 13 (v := ?vd13x13) rfl (by kernel_rfl) (by kernel_rfl) (by kernel_rfl) (fun _ _ _ h => h) (by rfl) ?hyd13x13 (by assumption) ?_
  case hyd13x13 => (intro w hSw; (try dsimp only at hSw); go_simp <;> with_reducible rfl)
  (try simp only [Act.put, List.setIfInBounds_toArray, List.set_cons_zero, List.set_cons_succ])
  refine wpAnyH_tk 16 (v := ?vd16x14) rfl (by kernel_rfl) (by kernel_rfl) (by kernel_rfl) (fun _ _ _ h => h) (by rfl) ?hyd16x14 (by assumption) ?_
  case hyd16x14 => (intro w hSw; (try dsimp only at hSw); go_simp <;> with_reducible rfl)
  (try simp only [Act.put, List.setIfInBounds_toArray, List.set_cons_zero, List.set_cons_succ])
  refine wpAnyH_tk 17 (v := ?vd17x15) rfl (by kernel_rfl) (by kernel_rfl) (by kernel_rfl) (fun _ _ _ h => h) (by rfl) ?hyd17x15 (by assumption) ?_
  case hyd17x15 => (intro w hSw; (try dsimp only at hSw); go_simp <;> with_reducible rfl)
  (try simp only [Act.put, List.setIfInBounds_toArray, List.set_cons_zero, List.set_cons_succ])
  refine wpAnyH_tk 18 (v := ?vd18x16) rfl (by kernel_rfl) (by kernel_rfl) (by kernel_rfl) (fun _ _ _ h => h) (by rfl) ?hyd18x16 (by assumption) ?_
  case hyd18x16 => (intro w hSw; (try dsimp only at hSw); go_simp <;> with_reducible rfl)
  (try simp only [Act.put, List.setIfInBounds_toArray, List.set_cons_zero, List.set_cons_succ])
  refine wpAnyH_tk 19 (v := ?vd19x17) rfl (by kernel_rfl) (by kernel_rfl) (by kernel_rfl) (fun _ _ _ h => h) (by rfl) ?hyd19x17 (by assumption) ?_
  case hyd19x17 => (intro w hSw; (try dsimp only at hSw); go_simp <;> with_reducible rfl)
  (try simp only [Act.put, List.setIfInBounds_toArray, List.set_cons_zero, List.set_cons_succ])
  refine wpAnyH_two 4 14 rfl rfl (by kernel_rfl) (by rfl) (by rfl) (fun K hK => ?_) (fun K hK => ?_)
  · skip
    go_simp
    refine hK.out _ _ ?hSd4x18 (fun hHeld => ?_)
    case hSd4x18 => exact c2
    clear hK K
    (try simp only [Act.put, List.setIfInBounds_toArray, List.set_cons_zero, List.set_cons_succ])
    refine wpAnyH_one 14 rfl (by kernel_rfl) (by rfl) (fun K hK => ?_)
    go_simp
    refine hK.out _ _ ?hSd14x19 (fun hHeld => ?_)
    case hSd14x19 => exact c2
    clear hK K
    (try simp only [Act.put, List.setIfInBounds_toArray, List.set_cons_zero, List.set_cons_succ])
    refine wpAnyH_tk 15 (v := ?vd15x20) rfl (by kernel_rfl) (by kernel_rfl) (by kernel_rfl) (fun _ _ _ h => h) (by rfl) ?hyd15x20 (by assumption) ?_
    case hyd15x20 => (intro w hSw; (try dsimp only at hSw); go_simp <;> with_reducible rfl)
    (try simp only [Act.put, List.setIfInBounds_toArray, List.set_cons_zero, List.set_cons_succ])
    refine wpAnyH_tk 20 (v := ?vd20x21) rfl (by kernel_rfl) (by kernel_rfl) (by kernel_rfl) (fun _ _ _ h => h) (by rfl) ?hyd20x21 (by assumption) ?_
    case hyd20x21 => (intro w hSw; (try dsimp only at hSw); go_simp <;> with_reducible rfl)
    (try simp only [Act.put, List.setIfInBounds_toArray, List.set_cons_zero, List.set_cons_succ])
    refine wpAnyH_tk 21 (v := ?vd21x22) rfl (by kernel_rfl) (by kernel_rfl) (by kernel_rfl) (fun _ _ _ h => h) (by rfl) ?hyd21x22 (by assumption) ?_
    case hyd21x22 => (intro w hSw; (try dsimp only at hSw); go_simp <;> with_reducible rfl)
    (try simp only [Act.put, List.setIfInBounds_toArray, List.set_cons_zero, List.set_cons_succ])
    refine wpAnyH_one 22 rfl (by kernel_rfl) (by rfl) (fun K hK => ?_)
    go_simp
    simp only [HE.out]
    generalize (if IntKind.i64.wrap ((d.bytes.length : Int) - d.safe) < (if keep < 0 then 0 else keep) then IntKind.i64.wrap ((d.bytes.length : Int) - d.safe) else if keep < 0 then 0 else keep) = q1
    generalize (if keep < 0 then 0 else keep) = q2
    refine hK.out _ _ ?hSd22x23 (fun hHeld => ?_)
    case hSd22x23 => exact c2
    clear hK K
    (try simp only [Act.put, List.setIfInBounds_toArray, List.set_cons_zero, List.set_cons_succ])
    refine wpAnyH_tk 23 (v := ?vd23x24) rfl (by kernel_rfl) (by kernel_rfl) (by kernel_rfl) (fun _ _ _ h => h) (by rfl) ?hyd23x24 (by assumption) ?_
    case hyd23x24 => (intro w hSw; (try dsimp only at hSw); go_simp <;> with_reducible rfl)
    (try simp only [Act.put, List.setIfInBounds_toArray, List.set_cons_zero, List.set_cons_succ])
    refine wpAnyH_tk 24 (v := ?vd24x25) rfl (by kernel_rfl) (by kernel_rfl) (by kernel_rfl) (fun _ _ _ h => h) (by rfl) ?hyd24x25 (by assumption) ?_
    case hyd24x25 => (intro w hSw; (try dsimp only at hSw); go_simp <;> with_reducible rfl)
    (try simp only [Act.put, List.setIfInBounds_toArray, List.set_cons_zero, List.set_cons_succ])
    refine wpAnyH_tk 25 (v := ?vd25x26) rfl (by kernel_rfl) (by kernel_rfl) (by kernel_rfl) (fun _ _ _ h => h) (by rfl) ?hyd25x26 (by assumption) ?_
    case hyd25x26 => (intro w hSw; (try dsimp only at hSw); go_simp <;> with_reducible rfl)
    (try simp only [Act.put, List.setIfInBounds_toArray, List.set_cons_zero, List.set_cons_succ])
    refine wpAnyH_one 26 rfl (by kernel_rfl) (by rfl) (fun K hK => ?_)
    go_simp
    replace OW := hid (ownB_set (i := 1) (u := (.slice av k cv)) OW.out B5.out (by decide))
    replace M := hid (M.out.set (g := b) (.inl (.inl rfl)) 1 (.slice av k cv))
    replace B5 := hid (B5.out.set1 (.slice av k cv))
    refine hK.out _ _ ?hSd26x27 (fun hHeld => ?_)
    case hSd26x27 => exact B5.out.cells.2.2.1
    clear hK K
    (try simp only [Act.put, List.setIfInBounds_toArray, List.set_cons_zero, List.set_cons_succ])
    refine wpAnyH_done (by kernel_rfl) ?_ _
    replace B5 : Hid (Box5 (w.setCell ⟨b, 1, none⟩ (.slice av k cv)).drew b 72 _ _ _ _ _) := B5.out.ext (Ext.refl _).drew
    replace OW : Hid (OwnB B (w.setCell ⟨b, 1, none⟩ (.slice av k cv)).drew (.slice av k cv) (d.bytes.take k)) := ownsRow_ext OW.out (Ext.refl _).drew
    replace M : Hid (Moved (fp b (.slice av d.bytes.length cv)) w (w.setCell ⟨b, 1, none⟩ (.slice av k cv)).drew) := M.out.thenExt (Ext.refl _).drew
    generalize (w.setCell ⟨b, 1, none⟩ (.slice av k cv)).drew = W1 at B5 OW M ⊢
    clear c1 c2 f1
    obtain ⟨e0, e1, e2, e3, e4⟩ := B5.out.cells
    have f2 := B5.out.free 2
    have f3 := B5.out.free 3
    have f4 := B5.out.free 4
    go_wp2
    go_end0
    have e : d.crash keep = { d with bytes := d.bytes.take k, safe := (k : Int), dark := false, left := -1 } := by unfold DD.crash; rw [HK.out]; rfl
    rw [e] at HOK ⊢
    have OWa := ownB_set (i := 2) (u := .int .i64 k) OW.out B5.out (by decide)
    have B5a := B5.out.set2 (.int .i64 k)
    have OWb := ownB_set (i := 3) (u := .bool false) OWa B5a (by decide)
    have B5b := B5a.set3 (.bool false)
    have OWc := ownB_set (i := 4) (u := .int .i64 (-1)) OWb B5b (by decide)
    have B5c := B5b.set4 (.int .i64 (-1))
    exact ⟨rfl, _, ⟨HD.out.lo, B5c, OWc, HOK.out⟩, fun k hk => .inl (by cases av <;> first | exact hk | (simp [Value.ownBlock] at hk)), ((M.out.set (.inl (.inl rfl)) 2 _).set (.inl (.inl rfl)) 3 _).set (.inl (.inl rfl)) 4 _⟩
  · skip
    go_simp
    refine hK.out _ _ ?hSd14x28 (fun hHeld => ?_)
    case hSd14x28 => exact c2
    clear hK K
    (try simp only [Act.put, List.setIfInBounds_toArray, List.set_cons_zero, List.set_cons_succ])
    refine wpAnyH_tk 15 (v := ?vd15x29) rfl (by kernel_rfl) (by kernel_rfl) (by kernel_rfl) (fun _ _ _ h => h) (by rfl) ?hyd15x29 (by assumption) ?_
    case hyd15x29 => (intro w hSw; (try dsimp only at hSw); go_simp <;> with_reducible rfl)
    (try simp only [Act.put, List.setIfInBounds_toArray, List.set_cons_zero, List.set_cons_succ])
    refine wpAnyH_tk 20 (v := ?vd20x30) rfl (by kernel_rfl) (by kernel_rfl) (by kernel_rfl) (fun _ _ _ h => h) (by rfl) ?hyd20x30 (by assumption) ?_
    case hyd20x30 => (intro w hSw; (try dsimp only at hSw); go_simp <;> with_reducible rfl)
    (try simp only [Act.put, List.setIfInBounds_toArray, List.set_cons_zero, List.set_cons_succ])
    refine wpAnyH_tk 21 (v := ?vd21x31) rfl (by kernel_rfl) (by kernel_rfl) (by kernel_rfl) (fun _ _ _ h => h) (by rfl) ?hyd21x31 (by assumption) ?_
    case hyd21x31 => (intro w hSw; (try dsimp only at hSw); go_simp <;> with_reducible rfl)
    (try simp only [Act.put, List.setIfInBounds_toArray, List.set_cons_zero, List.set_cons_succ])
    refine wpAnyH_two 4 22 rfl rfl (by kernel_rfl) (by rfl) (by rfl) (fun K hK => ?_) (fun K hK => ?_)
    · skip
      go_simp
      refine hK.out _ _ ?hSd4x32 (fun hHeld => ?_)
      case hSd4x32 => exact c2
      clear hK K
      (try simp only [Act.put, List.setIfInBounds_toArray, List.set_cons_zero, List.set_cons_succ])
      refine wpAnyH_one 22 rfl (by kernel_rfl) (by rfl) (fun K hK => ?_)
      go_simp
      simp only [HE.out]
      generalize (if IntKind.i64.wrap ((d.bytes.length : Int) - d.safe) < (if keep < 0 then 0 else keep) then IntKind.i64.wrap ((d.bytes.length : Int) - d.safe) else if keep < 0 then 0 else keep) = q1
      generalize (if keep < 0 then 0 else keep) = q2
      refine hK.out _ _ ?hSd22x33 (fun hHeld => ?_)
      case hSd22x33 => exact c2
      clear hK K
      (try simp only [Act.put, List.setIfInBounds_toArray, List.set_cons_zero, List.set_cons_succ])
      refine wpAnyH_tk 23 (v := ?vd23x34) rfl (by kernel_rfl) (by kernel_rfl) (by kernel_rfl) (fun _ _ _ h => h) (by rfl) ?hyd23x34 (by assumption) ?_
      case hyd23x34 => (intro w hSw; (try dsimp only at hSw); go_simp <;> with_reducible rfl)
      (try simp only [Act.put, List.setIfInBounds_toArray, List.set_cons_zero, List.set_cons_succ])
      refine wpAnyH_tk 24 (v := ?vd24x35) rfl (by kernel_rfl) (by kernel_rfl) (by kernel_rfl) (fun _ _ _ h => h) (by rfl) ?hyd24x35 (by assumption) ?_
      case hyd24x35 => (intro w hSw; (try dsimp only at hSw); go_simp <;> with_reducible rfl)
      (try simp only [Act.put, List.setIfInBounds_toArray, List.set_cons_zero, List.set_cons_succ])
      refine wpAnyH_tk 25 (v := ?vd25x36) rfl (by kernel_rfl) (by kernel_rfl) (by kernel_rfl) (fun _ _ _ h => h) (by rfl) ?hyd25x36 (by assumption) ?_
      case hyd25x36 => (intro w hSw; (try dsimp only at hSw); go_simp <;> with_reducible rfl)
      (try simp only [Act.put, List.setIfInBounds_toArray, List.set_cons_zero, List.set_cons_succ])
      refine wpAnyH_one 26 rfl (by kernel_rfl) (by rfl) (fun K hK => ?_)
      go_simp
      replace OW := hid (ownB_set (i := 1) (u := (.slice av k cv)) OW.out B5.out (by decide))
      replace M := hid (M.out.set (g := b) (.inl (.inl rfl)) 1 (.slice av k cv))
      replace B5 := hid (B5.out.set1 (.slice av k cv))
      refine hK.out _ _ ?hSd26x37 (fun hHeld => ?_)
      case hSd26x37 => exact B5.out.cells.2.2.1
      clear hK K
      (try simp only [Act.put, List.setIfInBounds_toArray, List.set_cons_zero, List.set_cons_succ])
      refine wpAnyH_done (by kernel_rfl) ?_ _
      replace B5 : Hid (Box5 (w.setCell ⟨b, 1, none⟩ (.slice av k cv)).drew b 72 _ _ _ _ _) := B5.out.ext (Ext.refl _).drew
      replace OW : Hid (OwnB B (w.setCell ⟨b, 1, none⟩ (.slice av k cv)).drew (.slice av k cv) (d.bytes.take k)) := ownsRow_ext OW.out (Ext.refl _).drew
      replace M : Hid (Moved (fp b (.slice av d.bytes.length cv)) w (w.setCell ⟨b, 1, none⟩ (.slice av k cv)).drew) := M.out.thenExt (Ext.refl _).drew
      generalize (w.setCell ⟨b, 1, none⟩ (.slice av k cv)).drew = W1 at B5 OW M ⊢
      clear c1 c2 f1
      obtain ⟨e0, e1, e2, e3, e4⟩ := B5.out.cells
      have f2 := B5.out.free 2
      have f3 := B5.out.free 3
      have f4 := B5.out.free 4
      go_wp2
      go_end0
      have e : d.crash keep = { d with bytes := d.bytes.take k, safe := (k : Int), dark := false, left := -1 } := by unfold DD.crash; rw [HK.out]; rfl
      rw [e] at HOK ⊢
      have OWa := ownB_set (i := 2) (u := .int .i64 k) OW.out B5.out (by decide)
      have B5a := B5.out.set2 (.int .i64 k)
      have OWb := ownB_set (i := 3) (u := .bool false) OWa B5a (by decide)
      have B5b := B5a.set3 (.bool false)
      have OWc := ownB_set (i := 4) (u := .int .i64 (-1)) OWb B5b (by decide)
      have B5c := B5b.set4 (.int .i64 (-1))
      exact ⟨rfl, _, ⟨HD.out.lo, B5c, OWc, HOK.out⟩, fun k hk => .inl (by cases av <;> first | exact hk | (simp [Value.ownBlock] at hk)), ((M.out.set (.inl (.inl rfl)) 2 _).set (.inl (.inl rfl)) 3 _).set (.inl (.inl rfl)) 4 _⟩
    · skip
      go_simp
      simp only [HE.out]
      generalize (if IntKind.i64.wrap ((d.bytes.length : Int) - d.safe) < (if keep < 0 then 0 else keep) then IntKind.i64.wrap ((d.bytes.length : Int) - d.safe) else if keep < 0 then 0 else keep) = q1
      generalize (if keep < 0 then 0 else keep) = q2
      refine hK.out _ _ ?hSd22x38 (fun hHeld => ?_)
      case hSd22x38 => exact c2
      clear hK K
      (try simp only [Act.put, List.setIfInBounds_toArray, List.set_cons_zero, List.set_cons_succ])
      refine wpAnyH_one 4 rfl (by kernel_rfl) (by rfl) (fun K hK => ?_)
      go_simp
      refine hK.out _ _ ?hSd4x39 (fun hHeld => ?_)
      case hSd4x39 => exact c2
      clear hK K
      (try simp only [Act.put, List.setIfInBounds_toArray, List.set_cons_zero, List.set_cons_succ])
      refine wpAnyH_tk 23 (v := ?vd23x40) rfl (by kernel_rfl) (by kernel_rfl) (by kernel_rfl) (fun _ _ _ h => h) (by rfl) ?hyd23x40 (by assumption) ?_
      case hyd23x40 => (intro w hSw; (try dsimp only at hSw); go_simp <;> with_reducible rfl)
      (try simp only [Act.put, List.setIfInBounds_toArray, List.set_cons_zero, List.set_cons_succ])
      refine wpAnyH_tk 24 (v := ?vd24x41) rfl (by kernel_rfl) (by kernel_rfl) (by kernel_rfl) (fun _ _ _ h => h) (by rfl) ?hyd24x41 (by assumption) ?_
      case hyd24x41 => (intro w hSw; (try dsimp only at hSw); go_simp <;> with_reducible rfl)
      (try simp only [Act.put, List.setIfInBounds_toArray, List.set_cons_zero, List.set_cons_succ])
      refine wpAnyH_tk 25 (v := ?vd25x42) rfl (by kernel_rfl) (by kernel_rfl) (by kernel_rfl) (fun _ _ _ h => h) (by rfl) ?hyd25x42 (by assumption) ?_
      case hyd25x42 => (intro w hSw; (try dsimp only at hSw); go_simp <;> with_reducible rfl)
      (try simp only [Act.put, List.setIfInBounds_toArray, List.set_cons_zero, List.set_cons_succ])
      refine wpAnyH_one 26 rfl (by kernel_rfl) (by rfl) (fun K hK => ?_)
      go_simp
      replace OW := hid (ownB_set (i := 1) (u := (.slice av k cv)) OW.out B5.out (by decide))
      replace M := hid (M.out.set (g := b) (.inl (.inl rfl)) 1 (.slice av k cv))
      replace B5 := hid (B5.out.set1 (.slice av k cv))
      refine hK.out _ _ ?hSd26x43 (fun hHeld => ?_)
      case hSd26x43 => exact B5.out.cells.2.2.1
      clear hK K
      (try simp only [Act.put, List.setIfInBounds_toArray, List.set_cons_zero, List.set_cons_succ])
      refine wpAnyH_done (by kernel_rfl) ?_ _
      replace B5 : Hid (Box5 (w.setCell ⟨b, 1, none⟩ (.slice av k cv)).drew b 72 _ _ _ _ _) := B5.out.ext (Ext.refl _).drew
      replace OW : Hid (OwnB B (w.setCell ⟨b, 1, none⟩ (.slice av k cv)).drew (.slice av k cv) (d.bytes.take k)) := ownsRow_ext OW.out (Ext.refl _).drew
      replace M : Hid (Moved (fp b (.slice av d.bytes.length cv)) w (w.setCell ⟨b, 1, none⟩ (.slice av k cv)).drew) := M.out.thenExt (Ext.refl _).drew
      generalize (w.setCell ⟨b, 1, none⟩ (.slice av k cv)).drew = W1 at B5 OW M ⊢
      clear c1 c2 f1
      obtain ⟨e0, e1, e2, e3, e4⟩ := B5.out.cells
      have f2 := B5.out.free 2
      have f3 := B5.out.free 3
      have f4 := B5.out.free 4
      go_wp2
      go_end0
      have e : d.crash keep = { d with bytes := d.bytes.take k, safe := (k : Int), dark := false, left := -1 } := by unfold DD.crash; rw [HK.out]; rfl
      rw [e] at HOK ⊢
      have OWa := ownB_set (i := 2) (u := .int .i64 k) OW.out B5.out (by decide)
      have B5a := B5.out.set2 (.int .i64 k)
      have OWb := ownB_set (i := 3) (u := .bool false) OWa B5a (by decide)
      have B5b := B5a.set3 (.bool false)
      have OWc := ownB_set (i := 4) (u := .int .i64 (-1)) OWb B5b (by decide)
      have B5c := B5b.set4 (.int .i64 (-1))
      exact ⟨rfl, _, ⟨HD.out.lo, B5c, OWc, HOK.out⟩, fun k hk => .inl (by cases av <;> first | exact hk | (simp [Value.ownBlock] at hk)), ((M.out.set (.inl (.inl rfl)) 2 _).set (.inl (.inl rfl)) 3 _).set (.inl (.inl rfl)) 4 _⟩
end Go.Proofs.YteiamhapplnlaaaGreatDoor
