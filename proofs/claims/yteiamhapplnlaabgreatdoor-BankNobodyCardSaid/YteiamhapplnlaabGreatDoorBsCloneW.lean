/-
  Contract of clone: a state of the call's own that reads alike.
-/
import Derived.Test.YteiamhapplnlaabGreatDoorBsIter
import Derived.Test.YteiamhapplnlaabGreatDoorSkips
namespace Go.Proofs.YteiamhapplnlaabGreatDoor
open Go.RowKit

set_option maxHeartbeats 4000000 in
set_option maxRecDepth 100000 in
theorem clone_any (b : Nat) (S : SD) (w : World) (hs : StR w b S) :
    Calls Tryz.prog 41 #[.pointer (some ⟨b, 0, none⟩)] w fun e w' => ∃ b', e = .returned (.pointer (some ⟨b', 0, none⟩)) ∧ StO w w' b' S := by
  obtain ⟨ok, bm, vl, vh, vb, es, us, bs, P⟩ := hs
  have HOK := hid ok
  obtain ⟨c0, c1, c2, c3, c4⟩ := P.box.cells
  obtain ⟨al, cl, rfl⟩ := P.lots.shape
  obtain ⟨ah, ch, rfl⟩ := P.hands.shape
  obtain ⟨ab, cb, rfl⟩ := P.balls.shape
  have HP := hid P
  obtain ⟨nm, hnm, hown⟩ := P.pans
  have EW0 : Hid (Ext w ((w.alloc (.cells #[.int .i64 S.day, .map (some (w.heap.size + 1)), .slice al S.lots.length cl, .slice ah S.hands.length ch, .slice ab S.ballots.length cb] 84)).alloc (.map #[] 0))) := (Ext.ofAlloc w _).alloc _
  have c1' : ((w.alloc (.cells #[.int .i64 S.day, .map (some (w.heap.size + 1)), .slice al S.lots.length cl, .slice ah S.hands.length ch, .slice ab S.ballots.length cb] 84)).alloc (.map #[] 0)).cell? ⟨b, 1, none⟩ = some (.map (some bm)) := EW0.out.cell c1
  have hown' := ownsMap_ext hown EW0.out
  have B3 : Hid (Box5 ((w.alloc (.cells #[.int .i64 S.day, .map (some (w.heap.size + 1)), .slice al S.lots.length cl, .slice ah S.hands.length ch, .slice ab S.ballots.length cb] 84)).alloc (.map #[] 0)) w.heap.size 84 (.int .i64 S.day) (.map (some (w.heap.size + 1))) (.slice al S.lots.length cl) (.slice ah S.hands.length ch) (.slice ab S.ballots.length cb)) := Box5.ext (Box5.alloc w _ _ _ _ _ _) (Ext.ofAlloc _ _)
  have HM0 : Hid (((w.alloc (.cells #[.int .i64 S.day, .map (some (w.heap.size + 1)), .slice al S.lots.length cl, .slice ah S.hands.length ch, .slice ab S.ballots.length cb] 84)).alloc (.map #[] 0)).ownsMap Tryz.prog 9 rawV (w.heap.size + 1) 0 (mapD .held [])) := by
    have := World.ownsMap_made (w.alloc (.cells #[.int .i64 S.day, .map (some (w.heap.size + 1)), .slice al S.lots.length cl, .slice ah S.hands.length ch, .slice ab S.ballots.length cb] 84)) Tryz.prog 9 rawV
    rw [World.size_alloc] at this
    exact this
  have HSZ : Hid (((w.alloc (.cells #[.int .i64 S.day, .map (some (w.heap.size + 1)), .slice al S.lots.length cl, .slice ah S.hands.length ch, .slice ab S.ballots.length cb] 84)).alloc (.map #[] 0)).heap.size = w.heap.size + 2) := by show _ = _; simp
  clear P ok hown
  have hmm := @run_makeMap Tryz.prog
  go_enter Tryz.func41, Tryz.ntmps41
  go_wp2_with (first
    | (at_range; refine wpList_range_own _ rfl _ 80 rfl 9 111 kstr tpan rawV bm nm (mapD .held es) rfl hown' ?_
       intro w0 hrg0 hg0 hs0)
    | go_in)
  go_frame
  have HR0 := hid hrg0
  have E00 : Hid (Ext ((w.alloc (.cells #[.int .i64 S.day, .map (some (w.heap.size + 1)), .slice al S.lots.length cl, .slice ah S.hands.length ch, .slice ab S.ballots.length cb] 84)).alloc (.map #[] 0)) w0) := ⟨hg0.os, hg0.tape, hg0.output, hg0.size, fun j hj => hg0.block j hj (by simp)⟩
  have hs1 : w0.heap.size = w.heap.size + 3 := by rw [hs0, HSZ.out]
  have hr0 : ((w.alloc (.cells #[.int .i64 S.day, .map (some (w.heap.size + 1)), .slice al S.lots.length cl, .slice ah S.hands.length ch, .slice ab S.ballots.length cb] 84)).alloc (.map #[] 0)).heap.size = w.heap.size + 2 := HSZ.out
  rw [hr0] at HR0
  rw [hr0]
  replace B3 := hid (B3.out.ext E00.out)
  replace HM0 := hid (ownsMap_ext HM0.out E00.out)
  have E0 := hid (EW0.out.trans E00.out)
  have hlb : bm < w.heap.size := HP.out.pans.choose_spec.2.lt
  clear hrg0 hg0 hs0 c0 c1 c2 c3 c4 c1' hown' hmm E00 EW0 HSZ
  have HE4 : Hid (es.length ≤ 4) := by show _ ≤ _; rw [HP.out.pan2.len]; exact HOK.out.pans4
  go_loopw [4] (fun c wr => ∃ (left : Lit → Bool) (cnt n1 : Nat) (es1 : List (Bs × Value)), Hid (wr.ranges Tryz.prog 9 rawV bm (w.heap.size + 2) nm (mapD .held es) left cnt) ∧ Hid (wr.ownsMap Tryz.prog 9 rawV (w.heap.size + 1) n1 (mapD .held es1)) ∧ Hid (n1 + cnt ≤ 4)
    ∧ Hid (Pan2 wr es1 (S.pans.filter fun p => !left (.string p.name))) ∧ Hid (∀ k ∈ wblocks es1, w.heap.size + 3 ≤ k ∧ k < wr.heap.size) ∧ Hid ((wblocks es1).Nodup) ∧ Hid (Ext w wr) ∧ Hid (w.heap.size + 3 ≤ wr.heap.size)
    ∧ Hid (Box5 wr w.heap.size 84 (.int .i64 S.day) (.map (some (w.heap.size + 1))) (.slice al S.lots.length cl) (.slice ah S.hands.length ch) (.slice ab S.ballots.length cb))) (fun c wr => wr.rangeLeft bm (w.heap.size + 2))
  case atStart =>
    refine ⟨_, _, 0, [], HR0, HM0, ?_, ?_, fun k hk => absurd hk (List.not_mem_nil), List.nodup_nil, E0, ?_, B3⟩
    · show 0 + Maps.size (mapD DataW.held es) ≤ 4
      rw [mapD_size, Nat.zero_add]; exact HE4.out
    · have e : S.pans.filter (fun p => !Maps.has (mapD DataW.held es) (.string p.name)) = [] := by
        rw [List.filter_eq_nil_iff]
        intro p hp
        rw [mapD_has]
        rcases HP.out.pan2.at (n := p.name) with ⟨h, -⟩ | ⟨q, v, b1, -, h, -⟩
        · have := List.find?_eq_none.1 h p hp
          simp at this
        · rw [h]; simp
      show Pan2 _ _ _
      rw [e]; trivial
    · show _ ≤ _
      omega
  case round =>
    obtain ⟨left, cnt, n1, es1, HR, HM, HN, HQ, HLO, HND, HX, HSZ, HB⟩ := hrel
    have HPr : Hid (Pan2 wr es S.pans) := HP.out.pan2.ext HX.out
    go_wp2_with (first
      | (at_next; refine wpl_next_pan rfl _ rfl rfl HR.out HPr.out (fun HL => ?_) (fun p b0 w1 cnt1 HPm HL HW HR1 HLT HG1 HS1 hen => ?_))
      | go_in)
    · have HF : Hid (Pan2 wr es1 S.pans) := by
        show Pan2 wr es1 S.pans
        have := HQ.out
        rwa [List.filter_eq_self.2 (fun p _ => by rw [HL.out]; rfl)] at this
      have EV0 := hid (HX.out.drew)
      have HKEEP : Hid (∀ W', Ext w W' → (fun w' => w'.cell? ⟨b, 2, none⟩ = some (.slice al S.lots.length cl) ∧ w'.cell? ⟨b, 3, none⟩ = some (.slice ah S.hands.length ch) ∧ w'.cell? ⟨b, 4, none⟩ = some (.slice ab S.ballots.length cb)) W') := by
        intro W' e'
        obtain ⟨-, -, d2, d3, d4⟩ := HP.out.box.cells
        exact ⟨e'.cell d2, e'.cell d3, e'.cell d4⟩
      have hnl : S.lots.length ≤ 1000000 := by have := HOK.out.lots20; omega
      have hnh : S.hands.length ≤ 1000000 := by have := HOK.out.hands6; omega
      have hnb : S.ballots.length ≤ 1000000 := by have := HOK.out.ball9; omega
      have hbl : bs.length = S.ballots.length * 1 := by rw [HP.out.ballsI.1, Nat.mul_one]
      have HBL := hid hbl
      clear hbl
      refine wp_region_held_drew (S := (fun w' => w'.cell? ⟨b, 2, none⟩ = some (.slice al S.lots.length cl) ∧ w'.cell? ⟨b, 3, none⟩ = some (.slice ah S.hands.length ch) ∧ w'.cell? ⟨b, 4, none⟩ = some (.slice ab S.ballots.length cb))) (by kernel_rfl) ?hSb0 (fun hHeld => ?_)
      case hSb0 => (first | (exact HKEEP.out _ EV0.out) | ((try dsimp only); exact HKEEP.out _ EV0.out))
      refine wpAnyH_tk 0 (v := ?vb0) rfl (by kernel_rfl) (by kernel_rfl) (by kernel_rfl) (fun _ _ _ h => h) (by rfl) ?hyb0 (by assumption) ?_
      case hyb0 => (intro w hSw; (try dsimp only at hSw); go_simp <;> with_reducible rfl)
      (try simp only [Act.put, List.setIfInBounds_toArray, List.set_cons_zero, List.set_cons_succ])
      refine wpAnyH_tk 1 (v := ?vb1) rfl (by kernel_rfl) (by kernel_rfl) (by kernel_rfl) (fun _ _ _ h => h) (by rfl) ?hyb1 (by assumption) ?_
      case hyb1 => (intro w hSw; (try dsimp only at hSw); go_simp <;> with_reducible rfl)
      (try simp only [Act.put, List.setIfInBounds_toArray, List.set_cons_zero, List.set_cons_succ])
      refine wpAnyH_tk 2 (v := ?vb2) rfl (by kernel_rfl) (by kernel_rfl) (by kernel_rfl) (fun _ _ _ h => h) (by rfl) ?hyb2 (by assumption) ?_
      case hyb2 => (intro w hSw; (try dsimp only at hSw); go_simp <;> with_reducible rfl)
      (try simp only [Act.put, List.setIfInBounds_toArray, List.set_cons_zero, List.set_cons_succ])
      refine wpAnyH_tk 3 (v := ?vb3) rfl (by kernel_rfl) (by kernel_rfl) (by kernel_rfl) (fun _ _ _ h => h) (by rfl) ?hyb3 (by assumption) ?_
      case hyb3 => (intro w hSw; (try dsimp only at hSw); go_simp <;> with_reducible rfl)
      (try simp only [Act.put, List.setIfInBounds_toArray, List.set_cons_zero, List.set_cons_succ])
      refine wpAnyH_tk 5 (v := ?vb5) rfl (by kernel_rfl) (by kernel_rfl) (by kernel_rfl) (fun _ _ _ h => h) (by rfl) ?hyb5 (by assumption) ?_
      case hyb5 => (intro w hSw; (try dsimp only at hSw); go_simp <;> with_reducible rfl)
      (try simp only [Act.put, List.setIfInBounds_toArray, List.set_cons_zero, List.set_cons_succ])
      refine wpAnyH_tk 6 (v := ?vb6) rfl (by kernel_rfl) (by kernel_rfl) (by kernel_rfl) (fun _ _ _ h => h) (by rfl) ?hyb6 (by assumption) ?_
      case hyb6 => (intro w hSw; (try dsimp only at hSw); go_simp <;> with_reducible rfl)
      (try simp only [Act.put, List.setIfInBounds_toArray, List.set_cons_zero, List.set_cons_succ])
      refine wpAnyH_tk 7 (v := ?vb7) rfl (by kernel_rfl) (by kernel_rfl) (by kernel_rfl) (fun _ _ _ h => h) (by rfl) ?hyb7 (by assumption) ?_
      case hyb7 => (intro w hSw; (try dsimp only at hSw); go_simp <;> with_reducible rfl)
      (try simp only [Act.put, List.setIfInBounds_toArray, List.set_cons_zero, List.set_cons_succ])
      refine wpAnyH_tk 8 (v := ?vb8) rfl (by kernel_rfl) (by kernel_rfl) (by kernel_rfl) (fun _ _ _ h => h) (by rfl) ?hyb8 (by assumption) ?_
      case hyb8 => (intro w hSw; (try dsimp only at hSw); go_simp <;> with_reducible rfl)
      (try simp only [Act.put, List.setIfInBounds_toArray, List.set_cons_zero, List.set_cons_succ])
      refine wpAnyH_tk 10 (v := ?vb10) rfl (by kernel_rfl) (by kernel_rfl) (by kernel_rfl) (fun _ _ _ h => h) (by rfl) ?hyb10 (by assumption) ?_
      case hyb10 => (intro w hSw; (try dsimp only at hSw); go_simp <;> with_reducible rfl)
      (try simp only [Act.put, List.setIfInBounds_toArray, List.set_cons_zero, List.set_cons_succ])
      refine wpAnyH_tk 11 (v := ?vb11) rfl (by kernel_rfl) (by kernel_rfl) (by kernel_rfl) (fun _ _ _ h => h) (by rfl) ?hyb11 (by assumption) ?_
      case hyb11 => (intro w hSw; (try dsimp only at hSw); go_simp <;> with_reducible rfl)
      (try simp only [Act.put, List.setIfInBounds_toArray, List.set_cons_zero, List.set_cons_succ])
      refine wpAnyH_tk 12 (v := ?vb12) rfl (by kernel_rfl) (by kernel_rfl) (by kernel_rfl) (fun _ _ _ h => h) (by rfl) ?hyb12 (by assumption) ?_
      case hyb12 => (intro w hSw; (try dsimp only at hSw); go_simp <;> with_reducible rfl)
      (try simp only [Act.put, List.setIfInBounds_toArray, List.set_cons_zero, List.set_cons_succ])
      refine wpAnyH_tk 13 (v := ?vb13) rfl (by kernel_rfl) (by kernel_rfl) (by kernel_rfl) (fun _ _ _ h => h) (by rfl) ?hyb13 (by assumption) ?_
      case hyb13 => (intro w hSw; (try dsimp only at hSw); go_simp <;> with_reducible rfl)
      (try simp only [Act.put, List.setIfInBounds_toArray, List.set_cons_zero, List.set_cons_succ])
      refine wpAnyH_one 4 rfl (by kernel_rfl) (by rfl) (fun K hK => ?_)
      go_simp
      ((refine (cloneLot_any _ _ _ _ (HP.out.lots.ext EV0.out) (lcells_len _) hnl (lcells_one _)).mono ?_; rintro e w4 ⟨v4, rfl, h4, he4⟩; obtain ⟨a4, d4, rfl⟩ := h4.shape; have O4 := hid h4; clear h4; have EV4 := hid (EV0.out.trans he4)))
      refine hK.out _ _ ?hSb5 (fun hHeld => ?_)
      case hSb5 => (first | (exact HKEEP.out _ EV4.out) | ((try dsimp only); exact HKEEP.out _ EV4.out))
      clear hK K
      (try simp only [Act.put, List.setIfInBounds_toArray, List.set_cons_zero, List.set_cons_succ])
      refine wpAnyH_one 9 rfl (by kernel_rfl) (by rfl) (fun K hK => ?_)
      go_simp
      ((refine (cloneVol_any _ _ _ _ (HP.out.hands.ext EV4.out) (hcells_len _ _ HP.out.handsI.1) hnh (hcells_one _ _ HP.out.handsI.one)).mono ?_; rintro e w9 ⟨v9, rfl, h9, he9⟩; obtain ⟨a9, d9, rfl⟩ := h9.shape; have O9 := hid h9; clear h9; have EV9 := hid (EV4.out.trans he9)))
      refine hK.out _ _ ?hSb10 (fun hHeld => ?_)
      case hSb10 => (first | (exact HKEEP.out _ EV9.out) | ((try dsimp only); exact HKEEP.out _ EV9.out))
      clear hK K
      (try simp only [Act.put, List.setIfInBounds_toArray, List.set_cons_zero, List.set_cons_succ])
      refine wpAnyH_one 14 rfl (by kernel_rfl) (by rfl) (fun K hK => ?_)
      go_simp
      ((refine (cloneRows_any _ _ _ _ (HP.out.balls.ext EV9.out) HBL.out hnb HP.out.ballsI.one).mono ?_; rintro e w14 ⟨v14, rfl, h14, he14⟩; obtain ⟨a14, d14, rfl⟩ := h14.shape; have O14 := hid h14; clear h14; have EV14 := hid (EV9.out.trans he14); have B14 := hid (((HB.out.ext (Ext.refl wr).drew).ext he4).ext (he9.trans he14)); obtain ⟨-, -, q2, q3, q4⟩ := B14.out.cells; have g2 := B14.out.free 2; have g3 := B14.out.free 3; have g4 := B14.out.free 4))
      refine hK.out _ _ ?hSb15 (fun hHeld => ?_)
      case hSb15 => (first | (exact HKEEP.out _ EV14.out) | ((try dsimp only); exact HKEEP.out _ EV14.out))
      clear hK K
      (try simp only [Act.put, List.setIfInBounds_toArray, List.set_cons_zero, List.set_cons_succ])
      refine wpAnyH_tk 15 (v := ?vb15) rfl (by kernel_rfl) (by kernel_rfl) (by kernel_rfl) (fun _ _ _ h => h) (by rfl) ?hyb15 (by assumption) ?_
      case hyb15 => (intro w hSw; (try dsimp only at hSw); go_simp <;> with_reducible rfl)
      (try simp only [Act.put, List.setIfInBounds_toArray, List.set_cons_zero, List.set_cons_succ])
      refine wpAnyH_one 16 rfl (by kernel_rfl) (by rfl) (fun K hK => ?_)
      go_simp
      (skip)
      refine hK.out _ _ ?hSb17 (fun hHeld => ?_)
      case hSb17 => (first | (exact HKEEP.out _ (ext_moved EV14.out ((Moved.refl (fun j => j = w.heap.size) w14).set (.inl rfl) 2 _) (fun j e => by omega))) | ((try dsimp only); exact HKEEP.out _ (ext_moved EV14.out ((Moved.refl (fun j => j = w.heap.size) w14).set (.inl rfl) 2 _) (fun j e => by omega))))
      clear hK K
      (try simp only [Act.put, List.setIfInBounds_toArray, List.set_cons_zero, List.set_cons_succ])
      refine wpAnyH_tk 17 (v := ?vb17) rfl (by kernel_rfl) (by kernel_rfl) (by kernel_rfl) (fun _ _ _ h => h) (by rfl) ?hyb17 (by assumption) ?_
      case hyb17 => (intro w hSw; (try dsimp only at hSw); go_simp <;> with_reducible rfl)
      (try simp only [Act.put, List.setIfInBounds_toArray, List.set_cons_zero, List.set_cons_succ])
      refine wpAnyH_one 18 rfl (by kernel_rfl) (by rfl) (fun K hK => ?_)
      go_simp
      (skip)
      refine hK.out _ _ ?hSb19 (fun hHeld => ?_)
      case hSb19 => (first | (exact HKEEP.out _ (ext_moved EV14.out (((Moved.refl (fun j => j = w.heap.size) w14).set (.inl rfl) 2 _).set (.inl rfl) 3 _) (fun j e => by omega))) | ((try dsimp only); exact HKEEP.out _ (ext_moved EV14.out (((Moved.refl (fun j => j = w.heap.size) w14).set (.inl rfl) 2 _).set (.inl rfl) 3 _) (fun j e => by omega))))
      clear hK K
      (try simp only [Act.put, List.setIfInBounds_toArray, List.set_cons_zero, List.set_cons_succ])
      refine wpAnyH_tk 19 (v := ?vb19) rfl (by kernel_rfl) (by kernel_rfl) (by kernel_rfl) (fun _ _ _ h => h) (by rfl) ?hyb19 (by assumption) ?_
      case hyb19 => (intro w hSw; (try dsimp only at hSw); go_simp <;> with_reducible rfl)
      (try simp only [Act.put, List.setIfInBounds_toArray, List.set_cons_zero, List.set_cons_succ])
      refine wpAnyH_one 20 rfl (by kernel_rfl) (by rfl) (fun K hK => ?_)
      go_simp
      (skip)
      refine hK.out _ _ ?hSb21 (fun hHeld => ?_)
      case hSb21 => (first | (exact HKEEP.out _ (ext_moved EV14.out ((((Moved.refl (fun j => j = w.heap.size) w14).set (.inl rfl) 2 _).set (.inl rfl) 3 _).set (.inl rfl) 4 _) (fun j e => by omega))) | ((try dsimp only); exact HKEEP.out _ (ext_moved EV14.out ((((Moved.refl (fun j => j = w.heap.size) w14).set (.inl rfl) 2 _).set (.inl rfl) 3 _).set (.inl rfl) 4 _) (fun j e => by omega))))
      clear hK K
      (try simp only [Act.put, List.setIfInBounds_toArray, List.set_cons_zero, List.set_cons_succ])
      refine wpAnyH_done (by kernel_rfl) ?_ _
      have hw : Hid (Ext w (((w14.setCell ⟨w.heap.size, 2, none⟩ (.slice a4 S.lots.length d4)).setCell ⟨w.heap.size, 3, none⟩ (.slice a9 S.hands.length d9)).setCell ⟨w.heap.size, 4, none⟩ (.slice a14 S.ballots.length d14))) := (ext_moved EV14.out ((((Moved.refl (fun j => j = w.heap.size) w14).set (.inl rfl) 2 _).set (.inl rfl) 3 _).set (.inl rfl) 4 _) (fun j e => by omega))
      have M20 : Hid (Moved (fun j => j = w.heap.size) w14 (((w14.setCell ⟨w.heap.size, 2, none⟩ (.slice a4 S.lots.length d4)).setCell ⟨w.heap.size, 3, none⟩ (.slice a9 S.hands.length d9)).setCell ⟨w.heap.size, 4, none⟩ (.slice a14 S.ballots.length d14))) :=
        (((Moved.refl (fun j => j = w.heap.size) w14).set (.inl rfl) 2 _).set (.inl rfl) 3 _).set (.inl rfl) 4 _
      have B20 : Hid (Box5 (((w14.setCell ⟨w.heap.size, 2, none⟩ (.slice a4 S.lots.length d4)).setCell ⟨w.heap.size, 3, none⟩ (.slice a9 S.hands.length d9)).setCell ⟨w.heap.size, 4, none⟩ (.slice a14 S.ballots.length d14)) w.heap.size 84 (.int .i64 S.day) (.map (some (w.heap.size + 1))) (.slice a4 S.lots.length d4) (.slice a9 S.hands.length d9) (.slice a14 S.ballots.length d14)) := ((B14.out.set2 _).set3 _).set4 _
      have X14 : Hid (Ext wr w14) := (((Ext.refl wr).drew.trans he4).trans he9).trans he14
      generalize ((w14.setCell ⟨w.heap.size, 2, none⟩ (.slice a4 S.lots.length d4)).setCell ⟨w.heap.size, 3, none⟩ (.slice a9 S.hands.length d9)).setCell ⟨w.heap.size, 4, none⟩ (.slice a14 S.ballots.length d14) = w20 at hw M20 B20 ⊢
      clear q2 q3 q4 g2 g3 g4
      go_wp2
      go_ret
      have hne : ∀ {e size n : Nat} {v : Value} {xs : List Value}, OwnN w.heap.size e size w14 v n xs → e ≠ 84 → OwnN w.heap.size e size w20 v n xs := fun h hne => h.moved M20.out (fun j hj e => by subst e; exact h.notBox B14.out hne hj)
      have hmv : ∀ {k n : Nat} {R : Value → Option (DataW Value × List MemPlace)} {D : DataW Value}, wr.ownsMap Tryz.prog k R k n D → True := fun _ => trivial
      refine ⟨w.heap.size, rfl, HOK.out, w.heap.size + 1, _, _, _, es1, us, bs, hw.out, Nat.le_refl _, B20.out, Nat.le_succ _, ⟨n1, by have := HN.out; omega, ownsMap_moved (ownsMap_ext HM.out X14.out) M20.out (by omega)⟩, pan2_moved (HF.out.ext X14.out) M20.out (fun k hk => by have := (HLO.out k hk).1; omega), fun k hk => ⟨by have := (HLO.out k hk).1; omega, by have := (HLO.out k hk).1; omega⟩, HND.out, ?_, ?_, HP.out.handsI, ?_, HP.out.ballsI⟩
      · exact hne ((O4.out.ext (he9.trans he14)).base (by have := HX.out.size; simpa using this)) (by decide)
      · exact hne ((O9.out.ext he14).base (by have := (EV0.out.trans he4).size; exact this)) (by decide)
      · exact hne (O14.out.base (by have := ((EV0.out.trans he4).trans he9).size; exact this)) (by decide)
    · have hb0 : b0 < w1.heap.size := by
        obtain ⟨_, -, h⟩ := HW.out
        have := h.lt
        rw [HS1.out]; exact this
      have G1 : Hid (Moved (fun j => j = w.heap.size + 2) wr w1) := ⟨HG1.out.os, HG1.out.tape, HG1.out.output, HG1.out.size, fun j hj hne => HG1.out.block j hj (fun e => hne (by cases e; rfl))⟩
      have EW1 : Hid (Ext w w1) := ext_moved HX.out G1.out (fun j e => by omega)
      have HB1 := hid (HB.out.moved G1.out (by omega))
      have HM1 := hid (ownsMap_moved HM.out G1.out (by omega))
      have HQ1 := hid (pan2_moved HQ.out G1.out (fun k hk => by have := (HLO.out k hk).1; omega))
      have HW1 : Hid (WorthM w1 b0 p.worth) := by
        obtain ⟨n2, hn2, h⟩ := HW.out
        exact ⟨n2, hn2, ownsMap_moved h G1.out (by have := HR.out.lt; have hb2 := h.lt; intro e; subst e; obtain ⟨es2, c2, h2, -⟩ := h; obtain ⟨_, _, _, _, _, _, _, _, _, h3, -⟩ := HR.out; rw [h2] at h3; cases h3)⟩
      have hsz1 : w1.heap.size = wr.heap.size := HS1.out
      have hszl := HSZ.out
      obtain ⟨W5, hW5⟩ : ∃ W5, W5 = w1.alloc (.cells #[.int .i64 p.stop, .map (some b0)] 111) := ⟨_, rfl⟩
      have E15 : Hid (Ext w1 W5) := by rw [hW5]; exact Ext.ofAlloc _ _
      have hbx : Box2 W5 w1.heap.size 111 (.int .i64 p.stop) (.map (some b0)) := by rw [hW5]; exact heap_alloc_new w1 _
      have hs5 : W5.heap.size = w1.heap.size + 1 := by rw [hW5]; simp
      have HBX := hid hbx
      have HS5 := hid hs5
      have EW5 := hid (EW1.out.trans E15.out)
      have HKEEP : Hid (∀ W', Ext W5 W' → (fun w' => w'.cell? ⟨w.heap.size, 1, none⟩ = some (.map (some (w.heap.size + 1))) ∧ w'.cell? ⟨w1.heap.size, 0, none⟩ = some (.int .i64 p.stop) ∧ w'.cell? ⟨w1.heap.size, 1, none⟩ = some (.map (some b0))) W') := by
        intro W' e'
        obtain ⟨-, d1, -, -, -⟩ := (HB1.out.ext (E15.out.trans e')).cells
        obtain ⟨e0, e1⟩ := (HBX.out.ext e').cells
        exact ⟨d1, e0, e1⟩
      have hpn : p.name.length ≤ 1000000 := by
        have := HOK.out.pname p HPm.out
        unfold nameB at this
        simp at this
        omega
      have HPN := hid hpn
      have hn4 : n1 < maxLen := by have := HN.out; unfold maxLen; omega
      have HN4 := hid hn4
      rw [← hW5]
      clear hW5 hbx hs5 hb0 hsz1 hpn hn4 hen
      refine wp_region_held_drew (S := (fun w' => w'.cell? ⟨w.heap.size, 1, none⟩ = some (.map (some (w.heap.size + 1))) ∧ w'.cell? ⟨w1.heap.size, 0, none⟩ = some (.int .i64 p.stop) ∧ w'.cell? ⟨w1.heap.size, 1, none⟩ = some (.map (some b0)))) (by kernel_rfl) ?hSa0 (fun hHeld => ?_)
      case hSa0 => (first | (exact HKEEP.out _ (Ext.refl W5).drew) | ((try dsimp only); exact HKEEP.out _ (Ext.refl W5).drew))
      refine wpAnyH_tk 0 (v := ?va0) rfl (by kernel_rfl) (by kernel_rfl) (by kernel_rfl) (fun _ _ _ h => h) (by rfl) ?hya0 (by assumption) ?_
      case hya0 => (intro w hSw; (try dsimp only at hSw); go_simp <;> with_reducible rfl)
      (try simp only [Act.put, List.setIfInBounds_toArray, List.set_cons_zero, List.set_cons_succ])
      refine wpAnyH_tk 1 (v := ?va1) rfl (by kernel_rfl) (by kernel_rfl) (by kernel_rfl) (fun _ _ _ h => h) (by rfl) ?hya1 (by assumption) ?_
      case hya1 => (intro w hSw; (try dsimp only at hSw); go_simp <;> with_reducible rfl)
      (try simp only [Act.put, List.setIfInBounds_toArray, List.set_cons_zero, List.set_cons_succ])
      refine wpAnyH_tk 2 (v := ?va2) rfl (by kernel_rfl) (by kernel_rfl) (by kernel_rfl) (fun _ _ _ h => h) (by rfl) ?hya2 (by assumption) ?_
      case hya2 => (intro w hSw; (try dsimp only at hSw); go_simp <;> with_reducible rfl)
      (try simp only [Act.put, List.setIfInBounds_toArray, List.set_cons_zero, List.set_cons_succ])
      refine wpAnyH_tk 3 (v := ?va3) rfl (by kernel_rfl) (by kernel_rfl) (by kernel_rfl) (fun _ _ _ h => h) (by rfl) ?hya3 (by assumption) ?_
      case hya3 => (intro w hSw; (try dsimp only at hSw); go_simp <;> with_reducible rfl)
      (try simp only [Act.put, List.setIfInBounds_toArray, List.set_cons_zero, List.set_cons_succ])
      refine wpAnyH_tk 4 (v := ?va4) rfl (by kernel_rfl) (by kernel_rfl) (by kernel_rfl) (fun _ _ _ h => h) (by rfl) ?hya4 (by assumption) ?_
      case hya4 => (intro w hSw; (try dsimp only at hSw); go_simp <;> with_reducible rfl)
      (try simp only [Act.put, List.setIfInBounds_toArray, List.set_cons_zero, List.set_cons_succ])
      refine wpAnyH_tk 5 (v := ?va5) rfl (by kernel_rfl) (by kernel_rfl) (by kernel_rfl) (fun _ _ _ h => h) (by rfl) ?hya5 (by assumption) ?_
      case hya5 => (intro w hSw; (try dsimp only at hSw); go_simp <;> with_reducible rfl)
      (try simp only [Act.put, List.setIfInBounds_toArray, List.set_cons_zero, List.set_cons_succ])
      refine wpAnyH_tk 6 (v := ?va6) rfl (by kernel_rfl) (by kernel_rfl) (by kernel_rfl) (fun _ _ _ h => h) (by rfl) ?hya6 (by assumption) ?_
      case hya6 => (intro w hSw; (try dsimp only at hSw); go_simp <;> with_reducible rfl)
      (try simp only [Act.put, List.setIfInBounds_toArray, List.set_cons_zero, List.set_cons_succ])
      refine wpAnyH_one 7 rfl (by kernel_rfl) (by rfl) (fun K hK => ?_)
      go_simp
      ((refine (cloneMap_any b0 p.worth _ (HW1.out.ext (E15.out.drew))).mono ?_; rintro e w7 ⟨rfl, hw7, he7, hs7⟩; have HW7 : Hid (WorthM w7 W5.heap.size p.worth) := hw7; clear hw7; replace hs7 : W5.heap.size < w7.heap.size := hs7; rw [show W5.drew.heap.size = W5.heap.size from rfl]))
      refine hK.out _ _ ?hSa8 (fun hHeld => ?_)
      case hSa8 => (first | (exact HKEEP.out _ ((Ext.refl W5).drew.trans he7)) | ((try dsimp only); exact HKEEP.out _ ((Ext.refl W5).drew.trans he7)))
      clear hK K
      (try simp only [Act.put, List.setIfInBounds_toArray, List.set_cons_zero, List.set_cons_succ])
      refine wpAnyH_tk 8 (v := ?va8) rfl (by kernel_rfl) (by kernel_rfl) (by kernel_rfl) (fun _ _ _ h => h) (by rfl) ?hya8 (by assumption) ?_
      case hya8 => (intro w hSw; (try dsimp only at hSw); go_simp <;> with_reducible rfl)
      (try simp only [Act.put, List.setIfInBounds_toArray, List.set_cons_zero, List.set_cons_succ])
      refine wpAnyH_one 9 rfl (by kernel_rfl) (by rfl) (fun K hK => ?_)
      ((refine wp_mapUpdate _ _ _ 80 rfl 9 111 kstr tpan rawV (w.heap.size + 1) n1 (mapD .held es1) rfl (ownsMap_ext HM1.out ((E15.out.drew).trans he7)) HN4.out (.string (strB p.name)) (.agg #[.int .i64 p.stop, .map (some W5.heap.size)]) (.string p.name) (by rfl) (by rfl) (key_str HPN.out) (.held (.agg #[.int .i64 p.stop, .map (some W5.heap.size)])) [] (by rfl) ?_; intro w9 hm9 hmv9))
      refine hK.out _ _ ?hSa10 (fun hHeld => ?_)
      case hSa10 => (first | (exact (by have h7 := HKEEP.out _ ((Ext.refl W5).drew.trans he7); exact ⟨hmv9.cell (by show ¬ w.heap.size = _; omega) h7.1, hmv9.cell (by show ¬ w1.heap.size = _; have := HS1.out; omega) h7.2.1, hmv9.cell (by show ¬ w1.heap.size = _; have := HS1.out; omega) h7.2.2⟩)) | ((try dsimp only); exact (by have h7 := HKEEP.out _ ((Ext.refl W5).drew.trans he7); exact ⟨hmv9.cell (by show ¬ w.heap.size = _; omega) h7.1, hmv9.cell (by show ¬ w1.heap.size = _; have := HS1.out; omega) h7.2.1, hmv9.cell (by show ¬ w1.heap.size = _; have := HS1.out; omega) h7.2.2⟩)))
      clear hK K
      (try simp only [Act.put])
      refine wpAnyH_done (by kernel_rfl) ?_ _
      have M9 := hid hm9
      have HMV := hid hmv9
      clear hm9 hmv9
      have hq2 : (fun z : PanD => !(left (.string z.name) && !(Lit.string z.name).sameKey (.string p.name))) = fun z => (!left (.string z.name)) || (z.name == p.name) := by
        funext z
        rw [same_str]
        cases left (.string z.name) <;> simp
      have hE9 : Hid (Ext w w9) := ext_moved (((EW5.out).drew.trans he7)) HMV.out (fun j e => by omega)
      have hne1 : ∀ e ∈ es1, e.1 ≠ p.name := by
        intro e he hen
        have hk : e.1 ∈ es1.map (·.1) := List.mem_map.2 ⟨e, he, rfl⟩
        rw [HQ1.out.keys] at hk
        obtain ⟨z, hz, hz2⟩ := List.mem_map.1 hk
        have := (List.mem_filter.1 hz).2
        rw [hz2, hen, HL.out] at this
        cases this
      have hw7 : WorthM w9 W5.heap.size p.worth := by
        obtain ⟨n2, hn2, h⟩ := HW7.out
        exact ⟨n2, hn2, ownsMap_moved h HMV.out (by have := HS5.out; have := HS1.out; omega)⟩
      have hq9 : Pan2 w9 es1 (S.pans.filter fun z => !left (.string z.name)) := pan2_moved (((HQ1.out.ext E15.out).ext (Ext.refl W5).drew).ext he7) HMV.out (fun k hk => by have := (HLO.out k hk).1; omega)
      have hput := pan2_put (v := .agg #[.int .i64 p.stop, .map (some W5.heap.size)]) (q := fun z => !left (.string z.name)) ⟨rfl, _, rfl, hw7⟩ HOK.out.sorted HPm.out (by simp [HL.out]) hq9
      rw [← hq2] at hput
      have HPUT := hid hput
      have hperm := wblocks_set (x := p.name) (s := p.stop) (b := W5.heap.size) hne1
      have HPERM := hid hperm
      have HM9 : Hid (w9.ownsMap Tryz.prog 9 rawV (w.heap.size + 1) (n1 + 1) (mapD .held (setS es1 p.name (.agg #[.int .i64 p.stop, .map (some W5.heap.size)])))) := by
        have h1 := M9.out
        rwa [mapD_put DataW.held (HQ1.out.ris (List.Pairwise.filter _ HOK.out.sorted))] at h1
      have HB9 : Hid (Box5 w9 w.heap.size 84 (.int .i64 S.day) (.map (some (w.heap.size + 1))) (.slice al S.lots.length cl) (.slice ah S.hands.length ch) (.slice ab S.ballots.length cb)) := (((HB1.out.ext E15.out).ext (Ext.refl W5).drew).ext he7).moved HMV.out (by omega)
      have HR9 : Hid (w9.ranges Tryz.prog 9 rawV bm (w.heap.size + 2) nm (mapD .held es) (fun x => left x && !x.sameKey (.string p.name)) cnt1) := by
        have g1 := ranges_ext HR1.out ((E15.out.drew).trans he7)
        exact ranges_moved g1 HMV.out (by omega) (by omega)
      have h9s : w7.heap.size ≤ w9.heap.size := HMV.out.size
      have h7s : W5.heap.size < w7.heap.size := hs7
      have HH9 := hid h9s
      have HH7 := hid h7s
      have HE7 := hid he7.size
      clear hq2 hne1 hw7 hq9 hput hperm h9s h7s hs7 he7
      go_wp2
      go_roundw
      case rel =>
        refine ⟨_, cnt1, n1 + 1, _, HR9, HM9, ?_, HPUT, ?_, ?_, hE9, ?_, HB9⟩
        · show n1 + 1 + cnt1 ≤ 4
          have := HN.out; have := HLT.out; omega
        · intro k hk
          rcases List.mem_cons.1 (HPERM.out.mem_iff.1 hk) with rfl | hk'
          · have h5 := HS5.out; have h1 := HS1.out; have := HH9.out; have := HH7.out
            have e5 : W5.heap.size = W5.heap.size := rfl
            omega
          · have h2 := HLO.out k hk'; have h5 := HS5.out; have h1 := HS1.out; have := HH9.out; have := HH7.out
            have e5 : W5.heap.size = W5.heap.size := rfl
            omega
        · refine HPERM.out.nodup_iff.2 (List.nodup_cons.2 ⟨fun hk => ?_, HND.out⟩)
          have h2 := HLO.out _ hk; have h5 := HS5.out; have h1 := HS1.out
          have e5 : W5.heap.size = W5.heap.size := rfl
          omega
        · have h5 := HS5.out; have h1 := HS1.out; have := HH9.out; have := HH7.out
          have e5 : W5.heap.size = W5.heap.size := rfl
          show _ ≤ _
          omega
      case measure => rw [HR9.out.left_eq, HR.out.left_eq]; exact HLT.out

end Go.Proofs.YteiamhapplnlaabGreatDoor
