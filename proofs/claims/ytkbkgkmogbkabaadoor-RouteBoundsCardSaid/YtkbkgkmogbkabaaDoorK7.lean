/-
  Texts of this claim, part 7: RtCosts, RtDist, RtPlain, RtDistances, RtStop, RtWayPlain.
-/
import Derived.Maps.AppendAt
import Derived.Test.YtkbkgkmogbkabaaDoorK6
/-
  Contract of costs.
-/
namespace Go.Proofs.YtkbkgkmogbkabaaDoor
open Go.RowKit

def far : Int := 1048576
def cost0 : Nat → Nat → Int := fun i j => if j = i then 0 else far
/-- Go's min. -/
def mn (a b : Int) : Int := if b < a then b else a
def costStep (D : Nat → Nat → Int) (r : RoadD) : Nat → Nat → Int :=
  updM (updM D r.a.toNat r.b.toNat (mn (D r.a.toNat r.b.toNat) r.cost)) r.b.toNat r.a.toNat (mn (D r.a.toNat r.b.toNat) r.cost)
def costTo (rs : List RoadD) : Nat → Nat → Int := rs.foldl costStep cost0
theorem costTo_succ {rs : List RoadD} {k : Nat} (hk : k < rs.length) : costTo (rs.take (k + 1)) = costStep (costTo (rs.take k)) (roadAt rs k) := by
  unfold costTo; rw [List.take_succ_eq_append_getElem hk, List.foldl_append, roadAt_get hk]; rfl

set_option maxRecDepth 20000 in
set_option maxHeartbeats 4000000 in
theorem costs_any (vr : Value) (N : Nat) (rs : List RoadD) (w : World) (hv : Roads w vr rs) (hN1 : 1 ≤ N) (hN : N ≤ 8) (hl : rs.length ≤ 16) (hok : ∀ r ∈ rs, roadOk N r = true) :
    Calls Tryd.prog 53 #[.agg #[.int .i64 N, vr]] w fun e w' => ∃ v, e = .returned v ∧ Mat w.heap.size w' v N N (costTo rs) ∧ Ext w w' := by
  obtain ⟨ao, cap, rfl⟩ := hv.shape
  have HV := hid hv
  have Hok := hid hok
  have HB := hid (Box2.alloc w 31 (.int .i64 N) (.slice ao rs.length cap))
  have hE := Ext.ofAlloc w (.cells #[.int .i64 N, .slice ao rs.length cap] 31)
  obtain ⟨i0, hi, hz0, hz1, hz2⟩ := info_parts info_ints
  clear hv hok
  go_enter Tryd.func53, Tryd.ntmps53
  go_wp2
  generalize w.alloc (.cells #[.int .i64 N, .slice ao rs.length cap] 31) = W at *
  have HE := hid hE
  have hszW := hE.size
  clear hE
  go_loopg [9, 3] N (fun g i v wr => ∃ k : Nat, k + g = N ∧ i = .int .i64 k ∧ Hid (Mat W.heap.size wr v k N cost0) ∧ Hid (Ext W wr))
  case atStart => exact ⟨0, by omega, rfl, Mat.nil _ _ _ _, Ext.refl _⟩
  case round =>
    obtain ⟨k, hk, rfl, MAT, E⟩ := hrel
    have hkl : k ≤ N := by omega
    have Hk := hid hk
    clear hk
    by_cases hlt : k < N
    · have hszr := E.out.size
      obtain ⟨us, hul, hus, hpush⟩ := MAT.out.push hszr
      have E1 := hid (E.out.alloc (.cells #[.int .i64 1048576] 3))
      obtain ⟨c0, c1⟩ := (HB.out.ext E1.out).cells
      have HUS := hid hus
      have HP := hid hpush
      have hfar : Ints (wr.alloc (.cells #[.int .i64 1048576] 3)) (.slice (some ⟨wr.heap.size, 0, none⟩) 1 1) [far] := OwnI.ints (World.ownsRow_lit (base := 0) (e := 3) (size := 1) wr #[.int .i64 1048576] 1 (Nat.zero_le _) (by decide) rfl) (by simp)
      have HF := hid hfar
      obtain ⟨av, cv, rfl⟩ := MAT.out.shape
      clear hus hpush hfar
      go_wp2_with (fail)
      refine (Repeat_any _ far N _ HF.out hN).mono ?_
      rintro e w1 ⟨g, rfl, hg, hb, he⟩
      rw [rowL_rep] at hb
      have HG := hid hg
      have HBk := hid hb
      have HW1 := hid ((Ext.ofAlloc wr (.cells #[.int .i64 1048576] 3)).trans he)
      have HUS1 := hid (ownsRow_ext HUS.out HW1.out)
      have hkk : us.length ≤ 8 := by omega
      clear hg hb he c0 c1
      go_wp2_with (at_builtin; go_must (refine wpList_append_own_at _ rfl _ _ 52 rfl W.heap.size 25 i0 (.slice none 0 0) 1 24 Tryd.underlying52 hi hz0 hz1 hz2 rfl (by decide) _ _ _ rfl (HUS1.out.alloc _) ⟨w1.heap.size, 0, none⟩ 1 1 [.slice (some ⟨g, 0, none⟩) N N] rfl rfl (cell_one_new _ _ _) (by intro u hu; simp at hu; subst hu; rfl) (by unfold maxLen; omega) (by omega) (by have := HW1.out.size; simp; omega) ?_))
      intro v' w2 hown hgr _ hat
      have hszw1 := HW1.out.size
      have M2 := HP.out (w1.alloc (.cells #[.slice (some ⟨g, 0, none⟩) N N] 25)) w2 v' g (fun _ => far) (HW1.out.alloc _) (by have := HG.out; simp at this; omega) (HBk.out.ext (Ext.ofAlloc _ _)) hown hgr (hat.imp id (fun h => ⟨_, h, by simp⟩))
      have HE2 := hid (Ext.push (E.out.trans HW1.out) HUS1.out (Nat.le_refl _) hgr)
      obtain ⟨b, c, rfl, hbB⟩ := M2.head (by omega)
      obtain ⟨gg, hcell, hblk, hBg, hne, hset, -⟩ := M2.row (i := k) (by omega)
      have M3 : Hid (Mat W.heap.size (w2.setCell ⟨gg, k, none⟩ (.int .i64 0)) (.slice (some ⟨b, 0, none⟩) (k + 1) c) (k + 1) N cost0) := (hset k 0 hlt).congr (fun x y hx hy => by
        unfold updM cost0 updF
        by_cases e : x = k
        · subst e; rw [if_pos rfl]; by_cases e2 : y = x
          · simp [e2]
          · simp [e2]
        · rw [if_neg e]; simp only [if_neg e])
      have HBg := hid hBg
      have d0 := hblk.cell (i := k) (by rw [rowL_len]; exact hlt)
      have d1 := hblk.free k
      have hcell' : w2.cell? ⟨b, k, none⟩ = some (.slice (some ⟨gg, 0, none⟩) N N) := hcell
      have HE3 := hid (HE2.out.setCell HBg.out k (.int .i64 0))
      clear hown hgr hat M2 hcell hblk hne hset
      go_wp2
      go_roundg (gk - 1)
      case rel => exact ⟨k + 1, by have := Hk.out; omega, by go_num, M3.out, HE3.out⟩
      case measure => have := Hk.out; omega
    · have ek : k = N := by omega
      have hM := MAT.out
      rw [ek] at hM
      have HM := hid hM
      obtain ⟨b, c, rfl, hbB⟩ := hM.head (by omega)
      obtain ⟨c0, c1⟩ := (HB.out.ext E.out).cells
      clear hM MAT ek
      go_wp2
      generalize wr = V at *
      clear c0 c1
      have HE4 := hid (HE.out.trans E.out)
      go_loopg [29] rs.length (fun g i wr => ∃ k : Nat, k + g = rs.length ∧ i = .int .i64 k ∧ Hid (Mat W.heap.size wr (.slice (some ⟨b, 0, none⟩) N c) N N (costTo (rs.take k))) ∧ Hid (Ext W wr))
      case atStart => exact ⟨0, by omega, rfl, HM, E⟩
      case round =>
        clear HE4
        obtain ⟨k, hk, rfl, MAT, E⟩ := hrel
        have hkl : k ≤ rs.length := by omega
        have Hk := hid hk
        clear hk
        by_cases hlt : k < rs.length
        · obtain ⟨bR, oR, rfl, -, hcc⟩ := Roads.get HV.out k hlt
          obtain ⟨c0, c1, c2⟩ := hcc _ (HE.out.trans E.out)
          have Hs := hid (costTo_succ hlt)
          have hrk := roadOk_iff.1 (Hok.out _ (roadAt_mem hlt))
          generalize roadAt rs k = r at *
          obtain ⟨ra, rb, rc⟩ := r
          obtain ⟨p1, p2, p3, p4, p5, p6, p7⟩ := hrk
          dsimp only at p1 p2 p3 p4 p5 p6 p7 c0 c1 c2
          obtain ⟨A, rfl⟩ := Int.eq_ofNat_of_zero_le p1
          obtain ⟨Z, rfl⟩ := Int.eq_ofNat_of_zero_le p3
          have hA : A < N := by omega
          have hZ : Z < N := by omega
          have hAZ : A ≠ Z := by omega
          clear hcc p1 p3
          have e012 := (Box3.alloc wr 55 (.int .i64 A) (.int .i64 Z) (.int .i64 rc)).cells
          have M1 := MAT.out.ext (Ext.ofAlloc wr (.cells #[.int .i64 A, .int .i64 Z, .int .i64 rc] 55))
          have E1 := hid (E.out.alloc (.cells #[.int .i64 A, .int .i64 Z, .int .i64 rc] 55))
          have hB6 := Box3.alloc wr 55 (.int .i64 A) (.int .i64 Z) (.int .i64 rc)
          obtain ⟨e0, e1, e2⟩ := e012
          go_wp2
          generalize wr.alloc (.cells #[.int .i64 A, .int .i64 Z, .int .i64 rc] 55) = V1 at *
          generalize wr.heap.size = b6 at *
          obtain ⟨D, hD⟩ : ∃ D, D = costTo (rs.take k) := ⟨_, rfl⟩
          rw [← hD] at M1
          have HD := hid hD
          clear hD
          obtain ⟨gA, cA, hblk, hBA, hneA, hset, -⟩ := M1.row hA
          have hne6 : b6 ≠ gA := by
            rintro rfl
            have h1 : V1.heap[b6]? = _ := hB6
            have h2 : V1.heap[b6]? = _ := hblk
            rw [h2] at h1
            simp at h1
          have hI := hblk.cell (i := Z) (by rw [rowL_len]; exact hZ)
          rw [rowL_fn hZ] at hI
          have hfr := hblk.free Z
          have cA' : V1.cell? ⟨b, A, none⟩ = some (.slice (some ⟨gA, 0, none⟩) N N) := cA
          have M2 : Mat W.heap.size ((V1.setCell ⟨gA, Z, none⟩ (.int .i64 (mn (D A Z) rc))).drew) (.slice (some ⟨b, 0, none⟩) N c) N N (updM D A Z (mn (D A Z) rc)) := (hset Z (mn (D A Z) rc) hZ).ext (Ext.refl _).drew
          unfold mn at M2
          have HM2 := hid M2
          have hB62 := hB6.other (g' := gA) (fun e => hne6 e.symm) Z (.int .i64 (if rc < D A Z then rc else D A Z))
          have HB62 := hid (hB62.ext (Ext.refl _).drew)
          have HE2 := hid (E1.out.setCell hBA Z (.int .i64 (if rc < D A Z then rc else D A Z))).drew
          clear hset hblk M1 M2 hBA cA hB6 hB62
          refine wp_region_held_drew (S := (fun w' => w'.cell? ⟨b6, 0, none⟩ = some (.int .i64 A) ∧ w'.cell? ⟨b6, 1, none⟩ = some (.int .i64 Z) ∧ w'.cell? ⟨b6, 2, none⟩ = some (.int .i64 rc) ∧ w'.cell? ⟨b, A, none⟩ = some (.slice (some ⟨gA, 0, none⟩) N N))) (by kernel_rfl) ?hSa0 (fun hHeld => ?_)
          case hSa0 => (first | (first | exact ⟨e0, e1, e2, cA'⟩ | exact ⟨by show (World.setCell _ ⟨gA, Z, none⟩ _).cell? _ = _; rw [World.cell?_setCell_other (h := by simp <;> omega)]; exact e0, by show (World.setCell _ ⟨gA, Z, none⟩ _).cell? _ = _; rw [World.cell?_setCell_other (h := by simp <;> omega)]; exact e1, by show (World.setCell _ ⟨gA, Z, none⟩ _).cell? _ = _; rw [World.cell?_setCell_other (h := by simp <;> omega)]; exact e2, by show (World.setCell _ ⟨gA, Z, none⟩ _).cell? _ = _; rw [World.cell?_setCell_other (h := by simp <;> omega)]; exact cA'⟩) | ((try dsimp only); first | exact ⟨e0, e1, e2, cA'⟩ | exact ⟨by show (World.setCell _ ⟨gA, Z, none⟩ _).cell? _ = _; rw [World.cell?_setCell_other (h := by simp <;> omega)]; exact e0, by show (World.setCell _ ⟨gA, Z, none⟩ _).cell? _ = _; rw [World.cell?_setCell_other (h := by simp <;> omega)]; exact e1, by show (World.setCell _ ⟨gA, Z, none⟩ _).cell? _ = _; rw [World.cell?_setCell_other (h := by simp <;> omega)]; exact e2, by show (World.setCell _ ⟨gA, Z, none⟩ _).cell? _ = _; rw [World.cell?_setCell_other (h := by simp <;> omega)]; exact cA'⟩))
          refine wpAnyH_tk 0 (v := ?va0) rfl (by kernel_rfl) (by kernel_rfl) (by kernel_rfl) (fun _ _ _ h => h) (by rfl) ?hya0 (by assumption) ?_
          case hya0 => (intro w hSw; (try dsimp only at hSw); go_simp <;> with_reducible rfl)
          (try simp only [Act.put, List.setIfInBounds_toArray, List.set_cons_zero, List.set_cons_succ])
          refine wpAnyH_tk 1 (v := ?va1) rfl (by kernel_rfl) (by kernel_rfl) (by kernel_rfl) (fun _ _ _ h => h) (by rfl) ?hya1 (by assumption) ?_
          case hya1 => (intro w hSw; (try dsimp only at hSw); go_simp <;> with_reducible rfl)
          (try simp only [Act.put, List.setIfInBounds_toArray, List.set_cons_zero, List.set_cons_succ])
          refine wpAnyH_tk 2 (v := ?va2) rfl (by kernel_rfl) (by kernel_rfl) (by kernel_rfl) (fun _ _ _ h => h) (by rfl) ?hya2 (by assumption) ?_
          case hya2 => (intro w hSw; (try dsimp only at hSw); go_simp <;> with_reducible rfl)
          (try simp only [Act.put, List.setIfInBounds_toArray, List.set_cons_zero, List.set_cons_succ])
          refine wpAnyH_tk 3 (v := ?va3) rfl (by kernel_rfl) (by kernel_rfl) (by kernel_rfl) (fun _ _ _ h => h) (by rfl) ?hya3 (by assumption) ?_
          case hya3 => (intro w hSw; (try dsimp only at hSw); go_simp <;> with_reducible rfl)
          (try simp only [Act.put, List.setIfInBounds_toArray, List.set_cons_zero, List.set_cons_succ])
          refine wpAnyH_tk 4 (v := ?va4) rfl (by kernel_rfl) (by kernel_rfl) (by kernel_rfl) (fun _ _ _ h => h) (by rfl) ?hya4 (by assumption) ?_
          case hya4 => (intro w hSw; (try dsimp only at hSw); go_simp <;> with_reducible rfl)
          (try simp only [Act.put, List.setIfInBounds_toArray, List.set_cons_zero, List.set_cons_succ])
          refine wpAnyH_tk 5 (v := ?va5) rfl (by kernel_rfl) (by kernel_rfl) (by kernel_rfl) (fun _ _ _ h => h) (by rfl) ?hya5 (by assumption) ?_
          case hya5 => (intro w hSw; (try dsimp only at hSw); go_simp <;> with_reducible rfl)
          (try simp only [Act.put, List.setIfInBounds_toArray, List.set_cons_zero, List.set_cons_succ])
          refine wpAnyH_tk 6 (v := ?va6) rfl (by kernel_rfl) (by kernel_rfl) (by kernel_rfl) (fun _ _ _ h => h) (by rfl) ?hya6 (by assumption) ?_
          case hya6 => (intro w hSw; (try dsimp only at hSw); go_simp <;> with_reducible rfl)
          (try simp only [Act.put, List.setIfInBounds_toArray, List.set_cons_zero, List.set_cons_succ])
          refine wpAnyH_tk 7 (v := ?va7) rfl (by kernel_rfl) (by kernel_rfl) (by kernel_rfl) (fun _ _ _ h => h) (by rfl) ?hya7 (by assumption) ?_
          case hya7 => (intro w hSw; (try dsimp only at hSw); go_simp <;> with_reducible rfl)
          (try simp only [Act.put, List.setIfInBounds_toArray, List.set_cons_zero, List.set_cons_succ])
          refine wpAnyH_tk 8 (v := ?va8) rfl (by kernel_rfl) (by kernel_rfl) (by kernel_rfl) (fun _ _ _ h => h) (by rfl) ?hya8 (by assumption) ?_
          case hya8 => (intro w hSw; (try dsimp only at hSw); go_simp <;> with_reducible rfl)
          (try simp only [Act.put, List.setIfInBounds_toArray, List.set_cons_zero, List.set_cons_succ])
          refine wpAnyH_tk 9 (v := ?va9) rfl (by kernel_rfl) (by kernel_rfl) (by kernel_rfl) (fun _ _ _ h => h) (by rfl) ?hya9 (by assumption) ?_
          case hya9 => (intro w hSw; (try dsimp only at hSw); go_simp <;> with_reducible rfl)
          (try simp only [Act.put, List.setIfInBounds_toArray, List.set_cons_zero, List.set_cons_succ])
          refine wpAnyH_tk 10 (v := ?va10) rfl (by kernel_rfl) (by kernel_rfl) (by kernel_rfl) (fun _ _ _ h => h) (by rfl) ?hya10 (by assumption) ?_
          case hya10 => (intro w hSw; (try dsimp only at hSw); go_simp <;> with_reducible rfl)
          (try simp only [Act.put, List.setIfInBounds_toArray, List.set_cons_zero, List.set_cons_succ])
          refine wpAnyH_tk 11 (v := ?va11) rfl (by kernel_rfl) (by kernel_rfl) (by kernel_rfl) (fun _ _ _ h => h) (by rfl) ?hya11 (by assumption) ?_
          case hya11 => (intro w hSw; (try dsimp only at hSw); go_simp <;> with_reducible rfl)
          (try simp only [Act.put, List.setIfInBounds_toArray, List.set_cons_zero, List.set_cons_succ])
          refine wpAnyH_tk 12 (v := ?va12) rfl (by kernel_rfl) (by kernel_rfl) (by kernel_rfl) (fun _ _ _ h => h) (by rfl) ?hya12 (by assumption) ?_
          case hya12 => (intro w hSw; (try dsimp only at hSw); go_simp <;> with_reducible rfl)
          (try simp only [Act.put, List.setIfInBounds_toArray, List.set_cons_zero, List.set_cons_succ])
          refine wpAnyH_tk 13 (v := ?va13) rfl (by kernel_rfl) (by kernel_rfl) (by kernel_rfl) (fun _ _ _ h => h) (by rfl) ?hya13 (by assumption) ?_
          case hya13 => (intro w hSw; (try dsimp only at hSw); go_simp <;> with_reducible rfl)
          (try simp only [Act.put, List.setIfInBounds_toArray, List.set_cons_zero, List.set_cons_succ])
          refine wpAnyH_tk 14 (v := ?va14) rfl (by kernel_rfl) (by kernel_rfl) (by kernel_rfl) (fun _ _ _ h => h) (by rfl) ?hya14 (by assumption) ?_
          case hya14 => (intro w hSw; (try dsimp only at hSw); go_simp <;> with_reducible rfl)
          (try simp only [Act.put, List.setIfInBounds_toArray, List.set_cons_zero, List.set_cons_succ])
          refine wpAnyH_tk 16 (v := ?va16) rfl (by kernel_rfl) (by kernel_rfl) (by kernel_rfl) (fun _ _ _ h => h) (by rfl) ?hya16 (by assumption) ?_
          case hya16 => (intro w hSw; (try dsimp only at hSw); go_simp <;> with_reducible rfl)
          (try simp only [Act.put, List.setIfInBounds_toArray, List.set_cons_zero, List.set_cons_succ])
          refine wpAnyH_tk 17 (v := ?va17) rfl (by kernel_rfl) (by kernel_rfl) (by kernel_rfl) (fun _ _ _ h => h) (by rfl) ?hya17 (by assumption) ?_
          case hya17 => (intro w hSw; (try dsimp only at hSw); go_simp <;> with_reducible rfl)
          (try simp only [Act.put, List.setIfInBounds_toArray, List.set_cons_zero, List.set_cons_succ])
          refine wpAnyH_one 15 rfl (by kernel_rfl) (by rfl) (fun K hK => ?_)
          go_simp
          (skip)
          refine hK.out _ _ ?hSa16 (fun hHeld => ?_)
          case hSa16 => (first | (first | exact ⟨e0, e1, e2, cA'⟩ | exact ⟨by show (World.setCell _ ⟨gA, Z, none⟩ _).cell? _ = _; rw [World.cell?_setCell_other (h := by simp <;> omega)]; exact e0, by show (World.setCell _ ⟨gA, Z, none⟩ _).cell? _ = _; rw [World.cell?_setCell_other (h := by simp <;> omega)]; exact e1, by show (World.setCell _ ⟨gA, Z, none⟩ _).cell? _ = _; rw [World.cell?_setCell_other (h := by simp <;> omega)]; exact e2, by show (World.setCell _ ⟨gA, Z, none⟩ _).cell? _ = _; rw [World.cell?_setCell_other (h := by simp <;> omega)]; exact cA'⟩) | ((try dsimp only); first | exact ⟨e0, e1, e2, cA'⟩ | exact ⟨by show (World.setCell _ ⟨gA, Z, none⟩ _).cell? _ = _; rw [World.cell?_setCell_other (h := by simp <;> omega)]; exact e0, by show (World.setCell _ ⟨gA, Z, none⟩ _).cell? _ = _; rw [World.cell?_setCell_other (h := by simp <;> omega)]; exact e1, by show (World.setCell _ ⟨gA, Z, none⟩ _).cell? _ = _; rw [World.cell?_setCell_other (h := by simp <;> omega)]; exact e2, by show (World.setCell _ ⟨gA, Z, none⟩ _).cell? _ = _; rw [World.cell?_setCell_other (h := by simp <;> omega)]; exact cA'⟩))
          clear hK K
          (try simp only [Act.put, List.setIfInBounds_toArray, List.set_cons_zero, List.set_cons_succ])
          refine wpAnyH_tk 18 (v := ?va18) rfl (by kernel_rfl) (by kernel_rfl) (by kernel_rfl) (fun _ _ _ h => h) (by rfl) ?hya18 (by assumption) ?_
          case hya18 => (intro w hSw; (try dsimp only at hSw); go_simp <;> with_reducible rfl)
          (try simp only [Act.put, List.setIfInBounds_toArray, List.set_cons_zero, List.set_cons_succ])
          refine wpAnyH_tk 19 (v := ?va19) rfl (by kernel_rfl) (by kernel_rfl) (by kernel_rfl) (fun _ _ _ h => h) (by rfl) ?hya19 (by assumption) ?_
          case hya19 => (intro w hSw; (try dsimp only at hSw); go_simp <;> with_reducible rfl)
          (try simp only [Act.put, List.setIfInBounds_toArray, List.set_cons_zero, List.set_cons_succ])
          refine wpAnyH_one 20 rfl (by kernel_rfl) (by rfl) (fun K hK => ?_)
          go_simp
          (skip)
          refine hK.out _ _ ?hSa21 (fun hHeld => ?_)
          case hSa21 => (first | (first | exact ⟨e0, e1, e2, cA'⟩ | exact ⟨by show (World.setCell _ ⟨gA, Z, none⟩ _).cell? _ = _; rw [World.cell?_setCell_other (h := by simp <;> omega)]; exact e0, by show (World.setCell _ ⟨gA, Z, none⟩ _).cell? _ = _; rw [World.cell?_setCell_other (h := by simp <;> omega)]; exact e1, by show (World.setCell _ ⟨gA, Z, none⟩ _).cell? _ = _; rw [World.cell?_setCell_other (h := by simp <;> omega)]; exact e2, by show (World.setCell _ ⟨gA, Z, none⟩ _).cell? _ = _; rw [World.cell?_setCell_other (h := by simp <;> omega)]; exact cA'⟩) | ((try dsimp only); first | exact ⟨e0, e1, e2, cA'⟩ | exact ⟨by show (World.setCell _ ⟨gA, Z, none⟩ _).cell? _ = _; rw [World.cell?_setCell_other (h := by simp <;> omega)]; exact e0, by show (World.setCell _ ⟨gA, Z, none⟩ _).cell? _ = _; rw [World.cell?_setCell_other (h := by simp <;> omega)]; exact e1, by show (World.setCell _ ⟨gA, Z, none⟩ _).cell? _ = _; rw [World.cell?_setCell_other (h := by simp <;> omega)]; exact e2, by show (World.setCell _ ⟨gA, Z, none⟩ _).cell? _ = _; rw [World.cell?_setCell_other (h := by simp <;> omega)]; exact cA'⟩))
          clear hK K
          (try simp only [Act.put, List.setIfInBounds_toArray, List.set_cons_zero, List.set_cons_succ])
          refine wpAnyH_done (by kernel_rfl) ?_ _
          clear e0 e1 e2 cA' hI hfr hne6 hneA
          generalize hx : (if rc < D A Z then rc else D A Z) = x at *
          have Hx := hid hx
          clear hx
          generalize (V1.setCell ⟨gA, Z, none⟩ (.int .i64 x)).drew = V2 at *
          obtain ⟨e0, e1, e2⟩ := HB62.out.cells
          obtain ⟨gZ, cZ, hblk, hBZ, hneZ, hset, hoth⟩ := HM2.out.row hZ
          obtain ⟨gB, hgB, cB, hblkB⟩ := hoth A hA hAZ
          have hne6 : b6 ≠ gZ := by
            rintro rfl
            have h1 : V2.heap[b6]? = _ := HB62.out
            have h2 : V2.heap[b6]? = _ := hblk
            rw [h2] at h1
            simp at h1
          have hI := hblkB.cell (i := Z) (by rw [rowL_len]; exact hZ)
          rw [rowL_fn hZ, show updM D A Z x A Z = x by simp [updM, updF]] at hI
          have hJ := hblk.cell (i := A) (by rw [rowL_len]; exact hA)
          have hfr := hblk.free A
          have cZ' : V2.cell? ⟨b, Z, none⟩ = some (.slice (some ⟨gZ, 0, none⟩) N N) := cZ
          have cB' : V2.cell? ⟨b, A, none⟩ = some (.slice (some ⟨gB, 0, none⟩) N N) := cB
          have HM3 : Hid (Mat W.heap.size ((V2.setCell ⟨gZ, A, none⟩ (.int .i64 x)).drew) (.slice (some ⟨b, 0, none⟩) N c) N N (updM (updM D A Z x) Z A x)) := (hset A x hA).ext (Ext.refl _).drew
          have HE3 := hid (HE2.out.setCell hBZ A (.int .i64 x)).drew
          clear hset hblk hblkB hoth hBZ cZ cB
          go_wp2
          refine wp_region_held_drew (S := (fun w' => w'.cell? ⟨b6, 0, none⟩ = some (.int .i64 A) ∧ w'.cell? ⟨b6, 1, none⟩ = some (.int .i64 Z) ∧ w'.cell? ⟨b6, 2, none⟩ = some (.int .i64 rc) ∧ w'.cell? ⟨b, Z, none⟩ = some (.slice (some ⟨gZ, 0, none⟩) N N) ∧ w'.cell? ⟨b, A, none⟩ = some (.slice (some ⟨gB, 0, none⟩) N N))) (by kernel_rfl) ?hSb0 (fun hHeld => ?_)
          case hSb0 => (first | (first | exact ⟨e0, e1, e2, cZ', cB'⟩ | exact ⟨by show (World.setCell _ ⟨gZ, A, none⟩ _).cell? _ = _; rw [World.cell?_setCell_other (h := by simp <;> omega)]; exact e0, by show (World.setCell _ ⟨gZ, A, none⟩ _).cell? _ = _; rw [World.cell?_setCell_other (h := by simp <;> omega)]; exact e1, by show (World.setCell _ ⟨gZ, A, none⟩ _).cell? _ = _; rw [World.cell?_setCell_other (h := by simp <;> omega)]; exact e2, by show (World.setCell _ ⟨gZ, A, none⟩ _).cell? _ = _; rw [World.cell?_setCell_other (h := by simp <;> omega)]; exact cZ', by show (World.setCell _ ⟨gZ, A, none⟩ _).cell? _ = _; rw [World.cell?_setCell_other (h := by simp <;> omega)]; exact cB'⟩) | ((try dsimp only); first | exact ⟨e0, e1, e2, cZ', cB'⟩ | exact ⟨by show (World.setCell _ ⟨gZ, A, none⟩ _).cell? _ = _; rw [World.cell?_setCell_other (h := by simp <;> omega)]; exact e0, by show (World.setCell _ ⟨gZ, A, none⟩ _).cell? _ = _; rw [World.cell?_setCell_other (h := by simp <;> omega)]; exact e1, by show (World.setCell _ ⟨gZ, A, none⟩ _).cell? _ = _; rw [World.cell?_setCell_other (h := by simp <;> omega)]; exact e2, by show (World.setCell _ ⟨gZ, A, none⟩ _).cell? _ = _; rw [World.cell?_setCell_other (h := by simp <;> omega)]; exact cZ', by show (World.setCell _ ⟨gZ, A, none⟩ _).cell? _ = _; rw [World.cell?_setCell_other (h := by simp <;> omega)]; exact cB'⟩))
          refine wpAnyH_tk 0 (v := ?vb0) rfl (by kernel_rfl) (by kernel_rfl) (by kernel_rfl) (fun _ _ _ h => h) (by rfl) ?hyb0 (by assumption) ?_
          case hyb0 => (intro w hSw; (try dsimp only at hSw); go_simp <;> with_reducible rfl)
          (try simp only [Act.put, List.setIfInBounds_toArray, List.set_cons_zero, List.set_cons_succ])
          refine wpAnyH_tk 1 (v := ?vb1) rfl (by kernel_rfl) (by kernel_rfl) (by kernel_rfl) (fun _ _ _ h => h) (by rfl) ?hyb1 (by assumption) ?_
          case hyb1 => (intro w hSw; (try dsimp only at hSw); go_simp <;> with_reducible rfl)
          (try simp only [Act.put, List.setIfInBounds_toArray, List.set_cons_zero, List.set_cons_succ])
          refine wpAnyH_tk 2 (v := ?vb2) rfl (by kernel_rfl) (by kernel_rfl) (by kernel_rfl) (fun _ _ _ h => h) (by rfl) ?hyb2 (by assumption) ?_
          case hyb2 => (intro w hSw; (try dsimp only at hSw); go_simp <;> with_reducible rfl)
          (try simp only [Act.put, List.setIfInBounds_toArray, List.set_cons_zero, List.set_cons_succ])
          refine wpAnyH_tk 3 (v := ?vb3) rfl (by kernel_rfl) (by kernel_rfl) (by kernel_rfl) (fun _ _ _ h => h) (by rfl) ?hyb3 (by assumption) ?_
          case hyb3 => (intro w hSw; (try dsimp only at hSw); go_simp <;> with_reducible rfl)
          (try simp only [Act.put, List.setIfInBounds_toArray, List.set_cons_zero, List.set_cons_succ])
          refine wpAnyH_tk 4 (v := ?vb4) rfl (by kernel_rfl) (by kernel_rfl) (by kernel_rfl) (fun _ _ _ h => h) (by rfl) ?hyb4 (by assumption) ?_
          case hyb4 => (intro w hSw; (try dsimp only at hSw); go_simp <;> with_reducible rfl)
          (try simp only [Act.put, List.setIfInBounds_toArray, List.set_cons_zero, List.set_cons_succ])
          refine wpAnyH_tk 5 (v := ?vb5) rfl (by kernel_rfl) (by kernel_rfl) (by kernel_rfl) (fun _ _ _ h => h) (by rfl) ?hyb5 (by assumption) ?_
          case hyb5 => (intro w hSw; (try dsimp only at hSw); go_simp <;> with_reducible rfl)
          (try simp only [Act.put, List.setIfInBounds_toArray, List.set_cons_zero, List.set_cons_succ])
          refine wpAnyH_tk 6 (v := ?vb6) rfl (by kernel_rfl) (by kernel_rfl) (by kernel_rfl) (fun _ _ _ h => h) (by rfl) ?hyb6 (by assumption) ?_
          case hyb6 => (intro w hSw; (try dsimp only at hSw); go_simp <;> with_reducible rfl)
          (try simp only [Act.put, List.setIfInBounds_toArray, List.set_cons_zero, List.set_cons_succ])
          refine wpAnyH_tk 7 (v := ?vb7) rfl (by kernel_rfl) (by kernel_rfl) (by kernel_rfl) (fun _ _ _ h => h) (by rfl) ?hyb7 (by assumption) ?_
          case hyb7 => (intro w hSw; (try dsimp only at hSw); go_simp <;> with_reducible rfl)
          (try simp only [Act.put, List.setIfInBounds_toArray, List.set_cons_zero, List.set_cons_succ])
          refine wpAnyH_tk 8 (v := ?vb8) rfl (by kernel_rfl) (by kernel_rfl) (by kernel_rfl) (fun _ _ _ h => h) (by rfl) ?hyb8 (by assumption) ?_
          case hyb8 => (intro w hSw; (try dsimp only at hSw); go_simp <;> with_reducible rfl)
          (try simp only [Act.put, List.setIfInBounds_toArray, List.set_cons_zero, List.set_cons_succ])
          refine wpAnyH_tk 9 (v := ?vb9) rfl (by kernel_rfl) (by kernel_rfl) (by kernel_rfl) (fun _ _ _ h => h) (by rfl) ?hyb9 (by assumption) ?_
          case hyb9 => (intro w hSw; (try dsimp only at hSw); go_simp <;> with_reducible rfl)
          (try simp only [Act.put, List.setIfInBounds_toArray, List.set_cons_zero, List.set_cons_succ])
          refine wpAnyH_tk 10 (v := ?vb10) rfl (by kernel_rfl) (by kernel_rfl) (by kernel_rfl) (fun _ _ _ h => h) (by rfl) ?hyb10 (by assumption) ?_
          case hyb10 => (intro w hSw; (try dsimp only at hSw); go_simp <;> with_reducible rfl)
          (try simp only [Act.put, List.setIfInBounds_toArray, List.set_cons_zero, List.set_cons_succ])
          refine wpAnyH_tk 11 (v := ?vb11) rfl (by kernel_rfl) (by kernel_rfl) (by kernel_rfl) (fun _ _ _ h => h) (by rfl) ?hyb11 (by assumption) ?_
          case hyb11 => (intro w hSw; (try dsimp only at hSw); go_simp <;> with_reducible rfl)
          (try simp only [Act.put, List.setIfInBounds_toArray, List.set_cons_zero, List.set_cons_succ])
          refine wpAnyH_tk 12 (v := ?vb12) rfl (by kernel_rfl) (by kernel_rfl) (by kernel_rfl) (fun _ _ _ h => h) (by rfl) ?hyb12 (by assumption) ?_
          case hyb12 => (intro w hSw; (try dsimp only at hSw); go_simp <;> with_reducible rfl)
          (try simp only [Act.put, List.setIfInBounds_toArray, List.set_cons_zero, List.set_cons_succ])
          refine wpAnyH_tk 13 (v := ?vb13) rfl (by kernel_rfl) (by kernel_rfl) (by kernel_rfl) (fun _ _ _ h => h) (by rfl) ?hyb13 (by assumption) ?_
          case hyb13 => (intro w hSw; (try dsimp only at hSw); go_simp <;> with_reducible rfl)
          (try simp only [Act.put, List.setIfInBounds_toArray, List.set_cons_zero, List.set_cons_succ])
          refine wpAnyH_tk 14 (v := ?vb14) rfl (by kernel_rfl) (by kernel_rfl) (by kernel_rfl) (fun _ _ _ h => h) (by rfl) ?hyb14 (by assumption) ?_
          case hyb14 => (intro w hSw; (try dsimp only at hSw); go_simp <;> with_reducible rfl)
          (try simp only [Act.put, List.setIfInBounds_toArray, List.set_cons_zero, List.set_cons_succ])
          refine wpAnyH_one 15 rfl (by kernel_rfl) (by rfl) (fun K hK => ?_)
          go_simp
          (skip)
          refine hK.out _ _ ?hSb16 (fun hHeld => ?_)
          case hSb16 => (first | (first | exact ⟨e0, e1, e2, cZ', cB'⟩ | exact ⟨by show (World.setCell _ ⟨gZ, A, none⟩ _).cell? _ = _; rw [World.cell?_setCell_other (h := by simp <;> omega)]; exact e0, by show (World.setCell _ ⟨gZ, A, none⟩ _).cell? _ = _; rw [World.cell?_setCell_other (h := by simp <;> omega)]; exact e1, by show (World.setCell _ ⟨gZ, A, none⟩ _).cell? _ = _; rw [World.cell?_setCell_other (h := by simp <;> omega)]; exact e2, by show (World.setCell _ ⟨gZ, A, none⟩ _).cell? _ = _; rw [World.cell?_setCell_other (h := by simp <;> omega)]; exact cZ', by show (World.setCell _ ⟨gZ, A, none⟩ _).cell? _ = _; rw [World.cell?_setCell_other (h := by simp <;> omega)]; exact cB'⟩) | ((try dsimp only); first | exact ⟨e0, e1, e2, cZ', cB'⟩ | exact ⟨by show (World.setCell _ ⟨gZ, A, none⟩ _).cell? _ = _; rw [World.cell?_setCell_other (h := by simp <;> omega)]; exact e0, by show (World.setCell _ ⟨gZ, A, none⟩ _).cell? _ = _; rw [World.cell?_setCell_other (h := by simp <;> omega)]; exact e1, by show (World.setCell _ ⟨gZ, A, none⟩ _).cell? _ = _; rw [World.cell?_setCell_other (h := by simp <;> omega)]; exact e2, by show (World.setCell _ ⟨gZ, A, none⟩ _).cell? _ = _; rw [World.cell?_setCell_other (h := by simp <;> omega)]; exact cZ', by show (World.setCell _ ⟨gZ, A, none⟩ _).cell? _ = _; rw [World.cell?_setCell_other (h := by simp <;> omega)]; exact cB'⟩))
          clear hK K
          (try simp only [Act.put, List.setIfInBounds_toArray, List.set_cons_zero, List.set_cons_succ])
          refine wpAnyH_tk 16 (v := ?vb16) rfl (by kernel_rfl) (by kernel_rfl) (by kernel_rfl) (fun _ _ _ h => h) (by rfl) ?hyb16 (by assumption) ?_
          case hyb16 => (intro w hSw; (try dsimp only at hSw); go_simp <;> with_reducible rfl)
          (try simp only [Act.put, List.setIfInBounds_toArray, List.set_cons_zero, List.set_cons_succ])
          refine wpAnyH_one 17 rfl (by kernel_rfl) (by rfl) (fun K hK => ?_)
          go_simp
          (skip)
          refine hK.out _ _ ?hSb18 (fun hHeld => ?_)
          case hSb18 => (first | (first | exact ⟨e0, e1, e2, cZ', cB'⟩ | exact ⟨by show (World.setCell _ ⟨gZ, A, none⟩ _).cell? _ = _; rw [World.cell?_setCell_other (h := by simp <;> omega)]; exact e0, by show (World.setCell _ ⟨gZ, A, none⟩ _).cell? _ = _; rw [World.cell?_setCell_other (h := by simp <;> omega)]; exact e1, by show (World.setCell _ ⟨gZ, A, none⟩ _).cell? _ = _; rw [World.cell?_setCell_other (h := by simp <;> omega)]; exact e2, by show (World.setCell _ ⟨gZ, A, none⟩ _).cell? _ = _; rw [World.cell?_setCell_other (h := by simp <;> omega)]; exact cZ', by show (World.setCell _ ⟨gZ, A, none⟩ _).cell? _ = _; rw [World.cell?_setCell_other (h := by simp <;> omega)]; exact cB'⟩) | ((try dsimp only); first | exact ⟨e0, e1, e2, cZ', cB'⟩ | exact ⟨by show (World.setCell _ ⟨gZ, A, none⟩ _).cell? _ = _; rw [World.cell?_setCell_other (h := by simp <;> omega)]; exact e0, by show (World.setCell _ ⟨gZ, A, none⟩ _).cell? _ = _; rw [World.cell?_setCell_other (h := by simp <;> omega)]; exact e1, by show (World.setCell _ ⟨gZ, A, none⟩ _).cell? _ = _; rw [World.cell?_setCell_other (h := by simp <;> omega)]; exact e2, by show (World.setCell _ ⟨gZ, A, none⟩ _).cell? _ = _; rw [World.cell?_setCell_other (h := by simp <;> omega)]; exact cZ', by show (World.setCell _ ⟨gZ, A, none⟩ _).cell? _ = _; rw [World.cell?_setCell_other (h := by simp <;> omega)]; exact cB'⟩))
          clear hK K
          (try simp only [Act.put, List.setIfInBounds_toArray, List.set_cons_zero, List.set_cons_succ])
          refine wpAnyH_done (by kernel_rfl) ?_ _
          clear e0 e1 e2 cZ' cB' hI hJ hfr hne6 hneZ hgB
          go_wp2
          go_roundg (gk - 1)
          case rel => exact ⟨k + 1, by have := Hk.out; omega, by go_num, by rw [Hs.out, ← HD.out]; show Mat _ _ _ _ _ (updM (updM D A Z (mn (D A Z) rc)) Z A (mn (D A Z) rc)); unfold mn; rw [Hx.out]; exact HM3.out, HE3.out⟩
          case measure => have := Hk.out; omega
        · have ek : k = rs.length := by omega
          have hM := MAT.out
          rw [ek, List.take_of_length_le (Nat.le_refl _)] at hM
          have HM2 := hid hM
          clear ek hM
          go_wp2
          go_ret
          exact ⟨_, rfl, HM2.out.base hszW, HE.out.trans E.out⟩

end Go.Proofs.YtkbkgkmogbkabaaDoor

/-
  Contract of distances.
-/
namespace Go.Proofs.YtkbkgkmogbkabaaDoor
open Go.RowKit

def fwStep (D : Nat → Nat → Int) (k : Nat) : Nat → Nat → Int := fun i j => mn (D i j) (D i k + D k j)
def fw (D : Nat → Nat → Int) : Nat → Nat → Nat → Int
  | 0 => D
  | k + 1 => fwStep (fw D k) k
/-- What holds all along. -/
structure Good (N : Nat) (D : Nat → Nat → Int) : Prop where
  diag : ∀ i, i < N → D i i = 0
  lo : ∀ i j, i < N → j < N → 0 ≤ D i j
  hi : ∀ i j, i < N → j < N → D i j ≤ far
theorem mn_le (a b : Int) : mn a b ≤ a ∧ mn a b ≤ b := by unfold mn; split <;> omega
theorem mn_or (a b : Int) : mn a b = a ∨ mn a b = b := by unfold mn; split <;> simp
theorem mn_left {a b : Int} (h : a ≤ b) : mn a b = a := by unfold mn; rw [if_neg (by omega)]
theorem Good.step {N : Nat} {D : Nat → Nat → Int} (h : Good N D) {k : Nat} (hk : k < N) : Good N (fwStep D k) := by
  refine ⟨fun i hi => ?_, fun i j hi hj => ?_, fun i j hi hj => ?_⟩
  · show mn _ _ = 0
    rw [mn_left, h.diag i hi]
    have := h.lo i k hi hk; have := h.lo k i hk hi; have := h.diag i hi; omega
  · show 0 ≤ mn _ _
    have := h.lo i j hi hj; have := h.lo i k hi hk; have := h.lo k j hk hj
    rcases mn_or (D i j) (D i k + D k j) with e | e <;> rw [e] <;> omega
  · show mn _ _ ≤ far
    have := (mn_le (D i j) (D i k + D k j)).1
    have := h.hi i j hi hj; omega
theorem Good.fw {N : Nat} {D : Nat → Nat → Int} (h : Good N D) : ∀ k, k ≤ N → Good N (fw D k)
  | 0, _ => h
  | k + 1, hk => (Good.fw h k (by omega)).step (by omega)
/-- In the middle of a round. -/
def part (D : Nat → Nat → Int) (k i j : Nat) : Nat → Nat → Int := fun a c => if a < i ∨ (a = i ∧ c < j) then fwStep D k a c else D a c
theorem part_zero (D : Nat → Nat → Int) (k : Nat) : part D k 0 0 = D := by
  funext a c; unfold part; rw [if_neg (by omega)]
theorem part_end {D : Nat → Nat → Int} {k N : Nat} (a c : Nat) (ha : a < N) : part D k N 0 a c = fwStep D k a c := by unfold part; rw [if_pos (by omega)]
theorem part_row {D : Nat → Nat → Int} {k i N : Nat} (a c : Nat) (hc : c < N) : part D k i N a c = part D k (i + 1) 0 a c := by
  unfold part
  by_cases h : a < i ∨ (a = i ∧ c < N)
  · rw [if_pos h, if_pos (by omega)]
  · rw [if_neg h, if_neg (by omega)]
theorem part_ij {D : Nat → Nat → Int} {k i j : Nat} : part D k i j i j = D i j := by unfold part; rw [if_neg (by omega)]
theorem part_ik {N : Nat} {D : Nat → Nat → Int} (h : Good N D) {k i j : Nat} (hk : k < N) : part D k i j i k = D i k := by
  unfold part
  split
  · show mn _ _ = _
    rw [h.diag k hk]; exact mn_left (by omega)
  · rfl
theorem part_kj {N : Nat} {D : Nat → Nat → Int} (h : Good N D) {k i j : Nat} (hk : k < N) : part D k i j k j = D k j := by
  unfold part
  split
  · show mn _ _ = _
    rw [h.diag k hk]; exact mn_left (by omega)
  · rfl
theorem part_set {D : Nat → Nat → Int} {k i j : Nat} : updM (part D k i j) i j (fwStep D k i j) = part D k i (j + 1) := by
  funext a c
  unfold updM updF part
  by_cases e : a = i
  · subst e
    by_cases e2 : c = j
    · subst e2; simp
    · have h : (c < j + 1) ↔ c < j := by omega
      simp [e2, h]
  · simp [e]

/-- The cells that one step reads and writes. -/
theorem Mat.cells {B : Nat} {w : World} {b c N : Nat} {P : Nat → Nat → Int} (h : Mat B w (.slice (some ⟨b, 0, none⟩) N c) N N P) {i k j : Nat} (hi : i < N) (hk : k < N) (hj : j < N) :
    ∃ gi gk, w.cell? ⟨b, i, none⟩ = some (.slice (some ⟨gi, 0, none⟩) N N) ∧ w.cell? ⟨b, k, none⟩ = some (.slice (some ⟨gk, 0, none⟩) N N) ∧
      w.cell? ⟨gi, j, none⟩ = some (.int .i64 (P i j)) ∧ w.cell? ⟨gi, k, none⟩ = some (.int .i64 (P i k)) ∧ w.cell? ⟨gk, j, none⟩ = some (.int .i64 (P k j)) ∧ w.frozen? ⟨gi, j, none⟩ = false ∧ B ≤ gi ∧
      ∀ x : Int, (k = j → x = P i k) → (i = k → x = P k j) →
        (w.setCell ⟨gi, j, none⟩ (.int .i64 x)).cell? ⟨b, i, none⟩ = some (.slice (some ⟨gi, 0, none⟩) N N) ∧ (w.setCell ⟨gi, j, none⟩ (.int .i64 x)).cell? ⟨b, k, none⟩ = some (.slice (some ⟨gk, 0, none⟩) N N) ∧
        (w.setCell ⟨gi, j, none⟩ (.int .i64 x)).cell? ⟨gi, k, none⟩ = some (.int .i64 (P i k)) ∧ (w.setCell ⟨gi, j, none⟩ (.int .i64 x)).cell? ⟨gk, j, none⟩ = some (.int .i64 (P k j)) ∧
        Mat B (w.setCell ⟨gi, j, none⟩ (.int .i64 x)) (.slice (some ⟨b, 0, none⟩) N c) N N (updM P i j x) := by
  obtain ⟨gi, ci, hblk, hB, hne, hset, hoth⟩ := h.row hi
  have cell : ∀ {g : Nat} {f : Nat → Int} {w : World}, IntBlock w g (rowL N f) → ∀ a, a < N → w.cell? ⟨g, a, none⟩ = some (.int .i64 (f a)) := by
    intro g f w hb a ha
    have := hb.cell (i := a) (by rw [rowL_len]; exact ha)
    rwa [rowL_fn ha] at this
  have hs : ∀ x, IntBlock (w.setCell ⟨gi, j, none⟩ (.int .i64 x)) gi (rowL N (updF (P i) j x)) := by
    intro x; have := hblk.set j x; rwa [rowL_set] at this
  have keepb : ∀ x a v, w.cell? ⟨b, a, none⟩ = some v → (w.setCell ⟨gi, j, none⟩ (.int .i64 x)).cell? ⟨b, a, none⟩ = some v := by
    intro x a v hv
    rw [World.cell?_setCell_other (h := by first | (simp; done) | (simp; omega) | simp [hne])]; exact hv
  by_cases e : i = k
  · subst e
    refine ⟨gi, gi, ci, ci, cell hblk j hj, cell hblk i hk, cell hblk j hj, hblk.free j, hB, fun x h1 h2 => ⟨keepb x i _ ci, keepb x i _ ci, ?_, ?_, hset j x hj⟩⟩
    · rw [cell (hs x) i hk]
      unfold updF
      by_cases e2 : i = j
      · rw [if_pos e2, h1 e2]
      · rw [if_neg e2]
    · rw [cell (hs x) j hj, h2 rfl]
      simp [updF]
  · obtain ⟨gk, hgk, ck, hblk2⟩ := hoth k hk (fun h => e h.symm)
    refine ⟨gi, gk, ci, ck, cell hblk j hj, cell hblk k hk, cell hblk2 j hj, hblk.free j, hB, fun x h1 h2 => ⟨keepb x i _ ci, keepb x k _ ck, ?_, ?_, hset j x hj⟩⟩
    · rw [cell (hs x) k hk]
      unfold updF
      by_cases e2 : k = j
      · rw [if_pos e2, h1 e2]
      · rw [if_neg e2]
    · exact cell (hblk2.other (fun h => hgk h.symm) j _) j hj

set_option maxRecDepth 20000 in
set_option maxHeartbeats 4000000 in
theorem distances_any (vr : Value) (N : Nat) (rs : List RoadD) (w : World) (hv : Roads w vr rs) (hN1 : 1 ≤ N) (hN : N ≤ 8) (hl : rs.length ≤ 16) (hok : ∀ r ∈ rs, roadOk N r = true) (hg : Good N (costTo rs)) :
    Calls Tryd.prog 43 #[.agg #[.int .i64 N, vr]] w fun e w' => ∃ v, e = .returned v ∧ Mat w.heap.size w' v N N (fw (costTo rs) N) ∧ Ext w w' := by
  obtain ⟨ao, cap, rfl⟩ := hv.shape
  have HV := hid hv
  have Hok := hid hok
  have HG := hid hg
  clear hv hok hg
  go_enter Tryd.func43, Tryd.ntmps43
  go_wp2_with (fail)
  refine (costs_any _ N rs _ (Roads.ext HV.out (Ext.ofAlloc _ _)) hN1 hN hl Hok.out).mono ?_
  rintro e W ⟨v, rfl, hm, he⟩
  obtain ⟨b, c, rfl, hbB⟩ := hm.head (by omega)
  have hB := (Ext.ofAlloc w (.cells #[.int .i64 N, .slice ao rs.length cap] 31)).size
  have HM := hid (hm.base hB)
  have HE := hid ((Ext.ofAlloc w _).trans he)
  obtain ⟨D0, hD0⟩ : ∃ D0, D0 = costTo rs := ⟨_, rfl⟩
  rw [← hD0] at HM HG
  have HD0 := hid hD0
  clear hm he hbB hD0
  go_wp2
  go_loopg [11] N (fun g i wr => ∃ k : Nat, k + g = N ∧ i = .int .i64 k ∧ Hid (Mat w.heap.size wr (.slice (some ⟨b, 0, none⟩) N c) N N (fw D0 k)) ∧ Hid (Ext w wr))
  case atStart => exact ⟨0, by omega, rfl, HM, HE⟩
  case round =>
    obtain ⟨k, hk, rfl, MAT, E⟩ := hrel
    have hkl : k ≤ N := by omega
    have Hk := hid hk
    clear hk
    by_cases hlt : k < N
    · have HGk := hid (HG.out.fw k hkl)
      obtain ⟨D, hD⟩ : ∃ D, D = fw D0 k := ⟨_, rfl⟩
      rw [← hD] at HGk MAT
      have HD := hid hD
      clear hD
      go_wp2
      go_loopg [16] N (fun g i2 wr => ∃ i : Nat, i + g = N ∧ i2 = .int .i64 i ∧ Hid (Mat w.heap.size wr (.slice (some ⟨b, 0, none⟩) N c) N N (part D k i 0)) ∧ Hid (Ext w wr))
      case atStart => exact ⟨0, by omega, rfl, by rw [part_zero]; exact MAT, E⟩
      case round =>
        clear MAT E
        obtain ⟨i, hii, rfl, MAT, E⟩ := hrel
        have hil : i ≤ N := by omega
        have Hi := hid hii
        clear hii
        by_cases hilt : i < N
        · go_wp2
          go_loopg [21] N (fun g i3 wr => ∃ j : Nat, j + g = N ∧ i3 = .int .i64 j ∧ Hid (Mat w.heap.size wr (.slice (some ⟨b, 0, none⟩) N c) N N (part D k i j)) ∧ Hid (Ext w wr))
          case atStart => exact ⟨0, by omega, rfl, MAT, E⟩
          case round =>
            clear MAT E
            obtain ⟨j, hjj, rfl, MAT, E⟩ := hrel
            have hjl : j ≤ N := by omega
            have Hj := hid hjj
            clear hjj
            by_cases hjlt : j < N
            · obtain ⟨gi, gk_, o1, o2, c0, c1, c2, hfr, hBi, hset⟩ := MAT.out.cells hilt hlt hjlt
              rw [part_ij] at c0
              rw [part_ik HGk.out hlt] at c1
              rw [part_kj HGk.out hlt] at c2
              obtain ⟨q1, q2, q3, q4, hmat⟩ := hset (fwStep D k i j) (fun e => by subst e; rw [part_ik HGk.out hlt]; show mn _ _ = _; rw [HGk.out.diag k hlt]; exact mn_left (by omega)) (fun e => by subst e; rw [part_kj HGk.out hlt]; show mn _ _ = _; rw [HGk.out.diag i hlt]; exact mn_left (by omega))
              rw [part_set] at hmat
              rw [part_ik HGk.out hlt] at q3
              rw [part_kj HGk.out hlt] at q4
              have l1 := HGk.out.lo i k hilt hlt
              have l2 := HGk.out.hi i k hilt hlt
              have l3 := HGk.out.lo k j hlt hjlt
              have l4 := HGk.out.hi k j hlt hjlt
              unfold far at l2 l4
              have hw1 : IntKind.i64.wrap (D i k + D k j) = D i k + D k j := by rw [IntKind.wrap_i64]; omega
              have HM2 := hid (hmat.ext (Ext.refl _).drew)
              have HE2 := hid (E.out.setCell hBi j (.int .i64 (fwStep D k i j))).drew
              have hst : fwStep D k i j = (if D i k + D k j < D i j then D i k + D k j else D i j) := rfl
              rw [hst] at q1 q2 q3 q4 HM2 HE2
              clear hset hmat hBi
              go_wp2
              refine wp_region_held_drew (S := (fun w' => w'.cell? ⟨b, i, none⟩ = some (.slice (some ⟨gi, 0, none⟩) N N) ∧ w'.cell? ⟨b, k, none⟩ = some (.slice (some ⟨gk_, 0, none⟩) N N) ∧ w'.cell? ⟨gi, k, none⟩ = some (.int .i64 (D i k)) ∧ w'.cell? ⟨gk_, j, none⟩ = some (.int .i64 (D k j)))) (by kernel_rfl) ?hSa0 (fun hHeld => ?_)
              case hSa0 => (first | (first | exact ⟨o1, o2, c1, c2⟩ | exact ⟨q1, q2, q3, q4⟩) | ((try dsimp only); first | exact ⟨o1, o2, c1, c2⟩ | exact ⟨q1, q2, q3, q4⟩))
              refine wpAnyH_tk 0 (v := ?va0) rfl (by kernel_rfl) (by kernel_rfl) (by kernel_rfl) (fun _ _ _ h => h) (by rfl) ?hya0 (by assumption) ?_
              case hya0 => (intro w hSw; (try dsimp only at hSw); go_simp <;> with_reducible rfl)
              (try simp only [Act.put, List.setIfInBounds_toArray, List.set_cons_zero, List.set_cons_succ])
              refine wpAnyH_tk 1 (v := ?va1) rfl (by kernel_rfl) (by kernel_rfl) (by kernel_rfl) (fun _ _ _ h => h) (by rfl) ?hya1 (by assumption) ?_
              case hya1 => (intro w hSw; (try dsimp only at hSw); go_simp <;> with_reducible rfl)
              (try simp only [Act.put, List.setIfInBounds_toArray, List.set_cons_zero, List.set_cons_succ])
              refine wpAnyH_tk 2 (v := ?va2) rfl (by kernel_rfl) (by kernel_rfl) (by kernel_rfl) (fun _ _ _ h => h) (by rfl) ?hya2 (by assumption) ?_
              case hya2 => (intro w hSw; (try dsimp only at hSw); go_simp <;> with_reducible rfl)
              (try simp only [Act.put, List.setIfInBounds_toArray, List.set_cons_zero, List.set_cons_succ])
              refine wpAnyH_tk 3 (v := ?va3) rfl (by kernel_rfl) (by kernel_rfl) (by kernel_rfl) (fun _ _ _ h => h) (by rfl) ?hya3 (by assumption) ?_
              case hya3 => (intro w hSw; (try dsimp only at hSw); go_simp <;> with_reducible rfl)
              (try simp only [Act.put, List.setIfInBounds_toArray, List.set_cons_zero, List.set_cons_succ])
              refine wpAnyH_tk 4 (v := ?va4) rfl (by kernel_rfl) (by kernel_rfl) (by kernel_rfl) (fun _ _ _ h => h) (by rfl) ?hya4 (by assumption) ?_
              case hya4 => (intro w hSw; (try dsimp only at hSw); go_simp <;> with_reducible rfl)
              (try simp only [Act.put, List.setIfInBounds_toArray, List.set_cons_zero, List.set_cons_succ])
              refine wpAnyH_tk 5 (v := ?va5) rfl (by kernel_rfl) (by kernel_rfl) (by kernel_rfl) (fun _ _ _ h => h) (by rfl) ?hya5 (by assumption) ?_
              case hya5 => (intro w hSw; (try dsimp only at hSw); go_simp <;> with_reducible rfl)
              (try simp only [Act.put, List.setIfInBounds_toArray, List.set_cons_zero, List.set_cons_succ])
              refine wpAnyH_tk 6 (v := ?va6) rfl (by kernel_rfl) (by kernel_rfl) (by kernel_rfl) (fun _ _ _ h => h) (by rfl) ?hya6 (by assumption) ?_
              case hya6 => (intro w hSw; (try dsimp only at hSw); go_simp <;> with_reducible rfl)
              (try simp only [Act.put, List.setIfInBounds_toArray, List.set_cons_zero, List.set_cons_succ])
              refine wpAnyH_tk 7 (v := ?va7) rfl (by kernel_rfl) (by kernel_rfl) (by kernel_rfl) (fun _ _ _ h => h) (by rfl) ?hya7 (by assumption) ?_
              case hya7 => (intro w hSw; (try dsimp only at hSw); go_simp <;> with_reducible rfl)
              (try simp only [Act.put, List.setIfInBounds_toArray, List.set_cons_zero, List.set_cons_succ])
              refine wpAnyH_tk 8 (v := ?va8) rfl (by kernel_rfl) (by kernel_rfl) (by kernel_rfl) (fun _ _ _ h => h) (by rfl) ?hya8 (by assumption) ?_
              case hya8 => (intro w hSw; (try dsimp only at hSw); go_simp <;> with_reducible rfl)
              (try simp only [Act.put, List.setIfInBounds_toArray, List.set_cons_zero, List.set_cons_succ])
              refine wpAnyH_tk 9 (v := ?va9) rfl (by kernel_rfl) (by kernel_rfl) (by kernel_rfl) (fun _ _ _ h => h) (by rfl) ?hya9 (by assumption) ?_
              case hya9 => (intro w hSw; (try dsimp only at hSw); go_simp <;> with_reducible rfl)
              (try simp only [Act.put, List.setIfInBounds_toArray, List.set_cons_zero, List.set_cons_succ])
              refine wpAnyH_tk 10 (v := ?va10) rfl (by kernel_rfl) (by kernel_rfl) (by kernel_rfl) (fun _ _ _ h => h) (by rfl) ?hya10 (by assumption) ?_
              case hya10 => (intro w hSw; (try dsimp only at hSw); go_simp <;> with_reducible rfl)
              (try simp only [Act.put, List.setIfInBounds_toArray, List.set_cons_zero, List.set_cons_succ])
              refine wpAnyH_tk 12 (v := ?va12) rfl (by kernel_rfl) (by kernel_rfl) (by kernel_rfl) (fun _ _ _ h => h) (by rfl) ?hya12 (by assumption) ?_
              case hya12 => (intro w hSw; (try dsimp only at hSw); go_simp <;> with_reducible rfl)
              (try simp only [Act.put, List.setIfInBounds_toArray, List.set_cons_zero, List.set_cons_succ])
              refine wpAnyH_tk 13 (v := ?va13) rfl (by kernel_rfl) (by kernel_rfl) (by kernel_rfl) (fun _ _ _ h => h) (by rfl) ?hya13 (by assumption) ?_
              case hya13 => (intro w hSw; (try dsimp only at hSw); go_simp <;> with_reducible rfl)
              (try simp only [Act.put, List.setIfInBounds_toArray, List.set_cons_zero, List.set_cons_succ])
              refine wpAnyH_tk 14 (v := ?va14) rfl (by kernel_rfl) (by kernel_rfl) (by kernel_rfl) (fun _ _ _ h => h) (by rfl) ?hya14 (by assumption) ?_
              case hya14 => (intro w hSw; (try dsimp only at hSw); go_simp <;> with_reducible rfl)
              (try simp only [Act.put, List.setIfInBounds_toArray, List.set_cons_zero, List.set_cons_succ])
              refine wpAnyH_tk 15 (v := ?va15) rfl (by kernel_rfl) (by kernel_rfl) (by kernel_rfl) (fun _ _ _ h => h) (by rfl) ?hya15 (by assumption) ?_
              case hya15 => (intro w hSw; (try dsimp only at hSw); go_simp <;> with_reducible rfl)
              (try simp only [Act.put, List.setIfInBounds_toArray, List.set_cons_zero, List.set_cons_succ])
              refine wpAnyH_tk 16 (v := ?va16) rfl (by kernel_rfl) (by kernel_rfl) (by kernel_rfl) (fun _ _ _ h => h) (by rfl) ?hya16 (by assumption) ?_
              case hya16 => (intro w hSw; (try dsimp only at hSw); go_simp <;> with_reducible rfl)
              (try simp only [Act.put, List.setIfInBounds_toArray, List.set_cons_zero, List.set_cons_succ])
              refine wpAnyH_tk 17 (v := ?va17) rfl (by kernel_rfl) (by kernel_rfl) (by kernel_rfl) (fun _ _ _ h => h) (by rfl) ?hya17 (by assumption) ?_
              case hya17 => (intro w hSw; (try dsimp only at hSw); go_simp <;> with_reducible rfl)
              (try simp only [Act.put, List.setIfInBounds_toArray, List.set_cons_zero, List.set_cons_succ])
              refine wpAnyH_tk 18 (v := ?va18) rfl (by kernel_rfl) (by kernel_rfl) (by kernel_rfl) (fun _ _ _ h => h) (by rfl) ?hya18 (by assumption) ?_
              case hya18 => (intro w hSw; (try dsimp only at hSw); go_simp <;> with_reducible rfl)
              (try simp only [Act.put, List.setIfInBounds_toArray, List.set_cons_zero, List.set_cons_succ])
              refine wpAnyH_tk 19 (v := ?va19) rfl (by kernel_rfl) (by kernel_rfl) (by kernel_rfl) (fun _ _ _ h => h) (by rfl) ?hya19 (by assumption) ?_
              case hya19 => (intro w hSw; (try dsimp only at hSw); go_simp <;> with_reducible rfl)
              (try simp only [Act.put, List.setIfInBounds_toArray, List.set_cons_zero, List.set_cons_succ])
              refine wpAnyH_tk 20 (v := ?va20) rfl (by kernel_rfl) (by kernel_rfl) (by kernel_rfl) (fun _ _ _ h => h) (by rfl) ?hya20 (by assumption) ?_
              case hya20 => (intro w hSw; (try dsimp only at hSw); go_simp <;> with_reducible rfl)
              (try simp only [Act.put, List.setIfInBounds_toArray, List.set_cons_zero, List.set_cons_succ])
              refine wpAnyH_tk 21 (v := ?va21) rfl (by kernel_rfl) (by kernel_rfl) (by kernel_rfl) (fun _ _ _ h => h) (by rfl) ?hya21 (by assumption) ?_
              case hya21 => (intro w hSw; (try dsimp only at hSw); go_simp <;> with_reducible rfl)
              (try simp only [Act.put, List.setIfInBounds_toArray, List.set_cons_zero, List.set_cons_succ])
              refine wpAnyH_tk 22 (v := ?va22) rfl (by kernel_rfl) (by kernel_rfl) (by kernel_rfl) (fun _ _ _ h => h) (by rfl) ?hya22 (by assumption) ?_
              case hya22 => (intro w hSw; (try dsimp only at hSw); go_simp <;> with_reducible rfl)
              (try simp only [Act.put, List.setIfInBounds_toArray, List.set_cons_zero, List.set_cons_succ])
              refine wpAnyH_tk 23 (v := ?va23) rfl (by kernel_rfl) (by kernel_rfl) (by kernel_rfl) (fun _ _ _ h => h) (by rfl) ?hya23 (by assumption) ?_
              case hya23 => (intro w hSw; (try dsimp only at hSw); go_simp <;> with_reducible rfl)
              (try simp only [Act.put, List.setIfInBounds_toArray, List.set_cons_zero, List.set_cons_succ])
              refine wpAnyH_tk 24 (v := ?va24) rfl (by kernel_rfl) (by kernel_rfl) (by kernel_rfl) (fun _ _ _ h => h) (by rfl) ?hya24 (by assumption) ?_
              case hya24 => (intro w hSw; (try dsimp only at hSw); go_simp <;> with_reducible rfl)
              (try simp only [Act.put, List.setIfInBounds_toArray, List.set_cons_zero, List.set_cons_succ])
              refine wpAnyH_tk 25 (v := ?va25) rfl (by kernel_rfl) (by kernel_rfl) (by kernel_rfl) (fun _ _ _ h => h) (by rfl) ?hya25 (by assumption) ?_
              case hya25 => (intro w hSw; (try dsimp only at hSw); go_simp <;> with_reducible rfl)
              (try simp only [Act.put, List.setIfInBounds_toArray, List.set_cons_zero, List.set_cons_succ])
              refine wpAnyH_tk 26 (v := ?va26) rfl (by kernel_rfl) (by kernel_rfl) (by kernel_rfl) (fun _ _ _ h => h) (by rfl) ?hya26 (by assumption) ?_
              case hya26 => (intro w hSw; (try dsimp only at hSw); go_simp <;> with_reducible rfl)
              (try simp only [Act.put, List.setIfInBounds_toArray, List.set_cons_zero, List.set_cons_succ])
              refine wpAnyH_one 11 rfl (by kernel_rfl) (by rfl) (fun K hK => ?_)
              go_simp
              (skip)
              refine hK.out _ _ ?hSa12 (fun hHeld => ?_)
              case hSa12 => (first | (first | exact ⟨o1, o2, c1, c2⟩ | exact ⟨q1, q2, q3, q4⟩) | ((try dsimp only); first | exact ⟨o1, o2, c1, c2⟩ | exact ⟨q1, q2, q3, q4⟩))
              clear hK K
              (try simp only [Act.put, List.setIfInBounds_toArray, List.set_cons_zero, List.set_cons_succ])
              refine wpAnyH_tk 27 (v := ?va27) rfl (by kernel_rfl) (by kernel_rfl) (by kernel_rfl) (fun _ _ _ h => h) (by rfl) ?hya27 (by assumption) ?_
              case hya27 => (intro w hSw; (try dsimp only at hSw); go_simp <;> with_reducible rfl)
              (try simp only [Act.put, List.setIfInBounds_toArray, List.set_cons_zero, List.set_cons_succ])
              refine wpAnyH_tk 28 (v := ?va28) rfl (by kernel_rfl) (by kernel_rfl) (by kernel_rfl) (fun _ _ _ h => h) (by rfl) ?hya28 (by assumption) ?_
              case hya28 => (intro w hSw; (try dsimp only at hSw); go_simp <;> with_reducible rfl)
              (try simp only [Act.put, List.setIfInBounds_toArray, List.set_cons_zero, List.set_cons_succ])
              refine wpAnyH_one 29 rfl (by kernel_rfl) (by rfl) (fun K hK => ?_)
              go_simp
              (skip)
              refine hK.out _ _ ?hSa30 (fun hHeld => ?_)
              case hSa30 => (first | (first | exact ⟨o1, o2, c1, c2⟩ | exact ⟨q1, q2, q3, q4⟩) | ((try dsimp only); first | exact ⟨o1, o2, c1, c2⟩ | exact ⟨q1, q2, q3, q4⟩))
              clear hK K
              (try simp only [Act.put, List.setIfInBounds_toArray, List.set_cons_zero, List.set_cons_succ])
              refine wpAnyH_done (by kernel_rfl) ?_ _
              clear o1 o2 c0 c1 c2 hfr q1 q2 q3 q4 hw1 l1 l2 l3 l4 hst
              generalize (if D i k + D k j < D i j then D i k + D k j else D i j) = x at HM2 HE2 ⊢
              go_wp2
              go_roundg (gk - 1)
              case rel => exact ⟨j + 1, by have := Hj.out; omega, by go_num, HM2.out, HE2.out⟩
              case measure => have := Hj.out; omega
            · have ej : j = N := by omega
              have hM := MAT.out
              rw [ej] at hM
              have HM2 := hid (hM.congr (fun a c _ hc => part_row a c hc))
              clear hM ej
              go_wp2
              go_roundg (N - (i + 1))
              case rel => exact ⟨i + 1, by omega, by go_num, HM2.out, E.out⟩
              case measure => have := Hi.out; omega
        · have ei : i = N := by omega
          have hM := MAT.out
          rw [ei] at hM
          have HM2 := hid (hM.congr (D' := fw D0 (k + 1)) (fun a c ha _ => by rw [part_end a c ha, HD.out]; rfl))
          clear hM ei
          go_wp2
          go_roundg (N - (k + 1))
          case rel => exact ⟨k + 1, by omega, by go_num, HM2.out, E.out⟩
          case measure => have := Hk.out; omega
    · have ek : k = N := by omega
      have hM := MAT.out
      rw [ek] at hM
      have HM2 := hid hM
      clear hM ek
      go_wp2
      go_ret
      exact ⟨_, rfl, by rw [← HD0.out]; exact HM2.out, E.out⟩

end Go.Proofs.YtkbkgkmogbkabaaDoor

/-
  Distances, in plain Lean: the same both ways, 0 from a stop to itself alone, never longer than over a third stop.
-/
namespace Go.Proofs.YtkbkgkmogbkabaaDoor
open Go.RowKit

/-- A table of distances, all finite ones at most M. -/
structure Tab (N : Nat) (M : Int) (D : Nat → Nat → Int) : Prop where
  diag : ∀ i, i < N → D i i = 0
  sym : ∀ i j, i < N → j < N → D i j = D j i
  pos : ∀ i j, i < N → j < N → i ≠ j → 1 ≤ D i j
  fin : ∀ i j, i < N → j < N → D i j = far ∨ D i j ≤ M
theorem Tab.lo {N : Nat} {M : Int} {D : Nat → Nat → Int} (h : Tab N M D) {i j : Nat} (hi : i < N) (hj : j < N) : 0 ≤ D i j := by
  by_cases e : i = j
  · subst e; rw [h.diag i hi]; omega
  · have := h.pos i j hi hj e; omega
theorem Tab.good {N : Nat} {M : Int} {D : Nat → Nat → Int} (h : Tab N M D) (hM : M ≤ far) : Good N D :=
  ⟨h.diag, fun _ _ hi hj => h.lo hi hj, fun i j hi hj => by rcases h.fin i j hi hj with e | e <;> omega⟩
theorem cost0_tab (N : Nat) : Tab N 50 cost0 := by
  refine ⟨fun i _ => by simp [cost0], fun i j _ _ => ?_, fun i j _ _ e => ?_, fun i j _ _ => ?_⟩
  · unfold cost0
    by_cases e : i = j
    · subst e; rfl
    · rw [if_neg (fun h => e h.symm), if_neg e]
  · unfold cost0 far; rw [if_neg (fun h => e h.symm)]; omega
  · unfold cost0 far
    by_cases e : j = i
    · rw [if_pos e]; omega
    · rw [if_neg e]; exact .inl rfl
theorem costStep_val {D : Nat → Nat → Int} {r : RoadD} (hne : r.a.toNat ≠ r.b.toNat) (i j : Nat) :
    costStep D r i j = if (i = r.b.toNat ∧ j = r.a.toNat) ∨ (i = r.a.toNat ∧ j = r.b.toNat) then mn (D r.a.toNat r.b.toNat) r.cost else D i j := by
  unfold costStep updM updF
  generalize mn (D r.a.toNat r.b.toNat) r.cost = x
  generalize r.a.toNat = a at *
  generalize r.b.toNat = b at *
  by_cases e1 : i = b
  · subst e1
    by_cases e2 : j = a
    · simp [e2]
    · have e3 : ¬ i = a := fun h => hne h.symm
      simp [e2, e3]
  · by_cases e3 : i = a
    · subst e3
      by_cases e4 : j = b
      · simp [e1, e4]
      · simp [e1, e4]
    · simp [e1, e3]
theorem Tab.cost {N : Nat} {D : Nat → Nat → Int} (h : Tab N 50 D) {r : RoadD} (hr : roadOk N r = true) : Tab N 50 (costStep D r) := by
  obtain ⟨p1, p2, p3, p4, p5, p6, p7⟩ := roadOk_iff.1 hr
  have hne : r.a.toNat ≠ r.b.toNat := by omega
  have ha : r.a.toNat < N := by omega
  have hb : r.b.toNat < N := by omega
  have hx := mn_or (D r.a.toNat r.b.toNat) r.cost
  have hx2 := (mn_le (D r.a.toNat r.b.toNat) r.cost).2
  have hp := h.pos _ _ ha hb hne
  refine ⟨fun i hi => ?_, fun i j hi hj => ?_, fun i j hi hj e => ?_, fun i j hi hj => ?_⟩
  · rw [costStep_val hne, if_neg (by omega)]; exact h.diag i hi
  · rw [costStep_val hne, costStep_val hne]
    by_cases c : (i = r.b.toNat ∧ j = r.a.toNat) ∨ (i = r.a.toNat ∧ j = r.b.toNat)
    · rw [if_pos c, if_pos (by omega)]
    · rw [if_neg c, if_neg (by omega)]; exact h.sym i j hi hj
  · rw [costStep_val hne]
    split
    · omega
    · exact h.pos i j hi hj e
  · rw [costStep_val hne]
    split
    · right; omega
    · exact h.fin i j hi hj
theorem costTo_tab {N : Nat} : ∀ (rs : List RoadD) (D : Nat → Nat → Int), Tab N 50 D → (∀ r ∈ rs, roadOk N r = true) → Tab N 50 (rs.foldl costStep D)
  | [], _, h, _ => h
  | r :: rs, D, h, hr => costTo_tab rs (costStep D r) (h.cost (hr r (List.mem_cons_self ..))) (fun x hx => hr x (List.mem_cons_of_mem _ hx))
theorem costs_tab {N : Nat} {rs : List RoadD} (hr : ∀ r ∈ rs, roadOk N r = true) : Tab N 50 (costTo rs) := costTo_tab rs cost0 (cost0_tab N) hr

theorem Tab.step {N : Nat} {M : Int} {D : Nat → Nat → Int} (h : Tab N M D) {k : Nat} (hk : k < N) (hM : 0 ≤ M) : Tab N (2 * M) (fwStep D k) := by
  refine ⟨fun i hi => ?_, fun i j hi hj => ?_, fun i j hi hj e => ?_, fun i j hi hj => ?_⟩
  · show mn _ _ = 0
    have := h.lo hi hk; have := h.lo hk hi; have := h.diag i hi
    rw [mn_left (by omega)]; exact this
  · show mn _ _ = mn _ _
    rw [h.sym i j hi hj, h.sym i k hi hk, h.sym k j hk hj, Int.add_comm]
  · show 1 ≤ mn _ _
    have a := h.pos i j hi hj e
    have b := h.lo hi hk
    have c := h.lo hk hj
    have d : 1 ≤ D i k + D k j := by
      by_cases e2 : i = k
      · subst e2; have := h.pos i j hi hj e; omega
      · have := h.pos i k hi hk e2; omega
    rcases mn_or (D i j) (D i k + D k j) with e | e <;> rw [e] <;> omega
  · show mn _ _ = far ∨ mn _ _ ≤ 2 * M
    have b := h.lo hi hk
    have c := h.lo hk hj
    have m1 := mn_le (D i j) (D i k + D k j)
    rcases h.fin i j hi hj with e | e
    · rcases h.fin i k hi hk with e1 | e1
      · left; rw [mn_left (by omega)]; exact e
      · rcases h.fin k j hk hj with e2 | e2
        · left; rw [mn_left (by omega)]; exact e
        · right; omega
    · right; omega
theorem Tab.fw {N : Nat} {D : Nat → Nat → Int} (h : Tab N 50 D) : ∀ k, k ≤ N → Tab N (50 * 2 ^ k) (fw D k)
  | 0, _ => by
    show Tab N (50 * 2 ^ 0) D
    rw [show (50 : Int) * 2 ^ 0 = 50 from rfl]; exact h
  | k + 1, hk => by
    have h2 := (Tab.fw h k (by omega)).step (k := k) (by omega) (Int.mul_nonneg (by omega) (Int.le_of_lt (Int.pow_pos (by omega))))
    have e : (50 : Int) * 2 ^ (k + 1) = 2 * (50 * 2 ^ k) := by rw [Int.pow_succ]; omega
    rw [e]; exact h2
theorem two_pow_le {k : Nat} (h : k ≤ 8) : (2 : Int) ^ k ≤ 256 := by
  have : k = 0 ∨ k = 1 ∨ k = 2 ∨ k = 3 ∨ k = 4 ∨ k = 5 ∨ k = 6 ∨ k = 7 ∨ k = 8 := by omega
  rcases this with rfl | rfl | rfl | rfl | rfl | rfl | rfl | rfl | rfl <;> decide

/-- Never longer than over a stop that has been. -/
theorem tri {N : Nat} {D : Nat → Nat → Int} (h : Tab N 50 D) : ∀ k, k ≤ N → ∀ i j m, i < N → j < N → m < k → fw D k i j ≤ fw D k i m + fw D k m j
  | 0, _, _, _, _, _, _, hm => by omega
  | k + 1, hk, i, j, m, hi, hj, hm => by
    have T := h.fw k (by omega)
    have IH := tri h k (by omega)
    have hkN : k < N := by omega
    show mn (fw D k i j) (fw D k i k + fw D k k j) ≤ mn (fw D k i m) (fw D k i k + fw D k k m) + mn (fw D k m j) (fw D k m k + fw D k k j)
    have hmN : m < N := by omega
    have r := mn_le (fw D k i j) (fw D k i k + fw D k k j)
    by_cases e : m = k
    · subst e
      have d := T.diag m hmN
      rw [mn_left (a := fw D m i m) (by omega), mn_left (a := fw D m m j) (by omega)]
      exact r.2
    · have hmk : m < k := by omega
      have a1 := IH i j m hi hj hmk
      have a2 := IH i k m hi hkN hmk
      have a3 := IH k j m hkN hj hmk
      have l1 := T.lo hkN hmN
      have l2 := T.lo hmN hkN
      rcases mn_or (fw D k i m) (fw D k i k + fw D k k m) with p | p <;> rcases mn_or (fw D k m j) (fw D k m k + fw D k k j) with q | q <;> rw [p, q] <;> omega

end Go.Proofs.YtkbkgkmogbkabaaDoor

/-
  Contract of Distances.
-/
namespace Go.Proofs.YtkbkgkmogbkabaaDoor
open Go.RowKit

/-- What is far is -1. -/
def nn (x : Int) : Int := if far ≤ x then -1 else x
def partN (D : Nat → Nat → Int) (i j : Nat) : Nat → Nat → Int := fun a c => if a < i ∨ (a = i ∧ c < j) then nn (D a c) else D a c
theorem partN_zero (D : Nat → Nat → Int) : partN D 0 0 = D := by
  funext a c; unfold partN; rw [if_neg (by omega)]
theorem partN_end {D : Nat → Nat → Int} {N : Nat} (a c : Nat) (ha : a < N) : partN D N 0 a c = nn (D a c) := by unfold partN; rw [if_pos (by omega)]
theorem partN_row {D : Nat → Nat → Int} {i N : Nat} (a c : Nat) (hc : c < N) : partN D i N a c = partN D (i + 1) 0 a c := by
  unfold partN
  by_cases h : a < i ∨ (a = i ∧ c < N)
  · rw [if_pos h, if_pos (by omega)]
  · rw [if_neg h, if_neg (by omega)]
theorem partN_ij {D : Nat → Nat → Int} {i j : Nat} : partN D i j i j = D i j := by unfold partN; rw [if_neg (by omega)]
theorem partN_set {D : Nat → Nat → Int} {i j : Nat} : updM (partN D i j) i j (nn (D i j)) = partN D i (j + 1) := by
  funext a c
  unfold updM updF partN
  by_cases e : a = i
  · subst e
    by_cases e2 : c = j
    · subst e2; simp
    · have h : (c < j + 1) ↔ c < j := by omega
      simp [e2, h]
  · simp [e]
theorem partN_same {D : Nat → Nat → Int} {i j : Nat} (h : nn (D i j) = D i j) (a c : Nat) : partN D i j a c = partN D i (j + 1) a c := by
  have := congrFun (congrFun (partN_set (D := D) (i := i) (j := j)) a) c
  rw [← this]
  unfold updM updF
  by_cases e : a = i
  · subst e
    by_cases e2 : c = j
    · subst e2; simp [h, partN_ij]
    · simp [e2]
  · simp [e]

set_option maxHeartbeats 1000000 in
theorem Distances_bad (vr : Value) (m : MapD) (w : World) (hm : MapR w vr m) (hb : mapOk m = false) :
    Calls Tryd.prog 23 #[.agg #[.int .i64 m.n, vr]] w fun e w' => e = .returned (.tuple #[.slice none 0 0, .int .i64 2]) ∧ Ext w w' := by
  obtain ⟨ao, cap, rfl⟩ := hm.shape
  have HM := hid hm
  clear hm
  go_enter Tryd.func23, Tryd.ntmps23
  go_wp2_with (fail)
  refine (valid_any _ m _ (MapR.ext HM.out (Ext.ofAlloc _ _))).mono ?_
  rw [hb]
  rintro e w1 ⟨rfl, he⟩
  have HE := hid ((Ext.ofAlloc w _).trans he)
  clear he
  go_wp2
  go_ret2
  exact ⟨rfl, HE.out⟩

set_option maxRecDepth 20000 in
set_option maxHeartbeats 4000000 in
theorem Distances_ok (vr : Value) (N : Nat) (rs : List RoadD) (w : World) (hv : Roads w vr rs) (hok : mapOk ⟨N, rs⟩ = true) :
    Calls Tryd.prog 23 #[.agg #[.int .i64 N, vr]] w fun e w' => ∃ v, e = .returned (.tuple #[v, .int .i64 0]) ∧ Mat w.heap.size w' v N N (fun i j => nn (fw (costTo rs) N i j)) ∧ Ext w w' := by
  obtain ⟨ao, cap, rfl⟩ := hv.shape
  have HV := hid hv
  have hok2 := hok
  unfold mapOk at hok2
  rw [Bool.and_eq_true, decide_eq_true_iff, List.all_eq_true] at hok2
  obtain ⟨⟨h1, h8, h16⟩, hall⟩ := hok2
  dsimp only at h1 h8 h16 hall
  have hN1 : 1 ≤ N := by omega
  have hN8 : N ≤ 8 := by omega
  have HAll := hid hall
  have HOk := hid hok
  have X0 := hid (Box2.alloc w 31 (.int .i64 N) (.slice ao rs.length cap))
  clear hv hok hall
  go_enter Tryd.func23, Tryd.ntmps23
  go_wp2_with (fail)
  refine (valid_any _ ⟨N, rs⟩ _ (Roads.ext HV.out (Ext.ofAlloc _ _))).mono ?_
  rw [HOk.out]
  rintro e w1 ⟨rfl, he⟩
  have HE := hid ((Ext.ofAlloc w _).trans he)
  obtain ⟨c0, c1⟩ := (X0.out.ext he).cells
  clear he
  go_wp2_with (fail)
  refine (distances_any _ N rs _ (Roads.ext HV.out HE.out) hN1 hN8 h16 HAll.out ((costs_tab HAll.out).good (by decide))).mono ?_
  rintro e W ⟨v, rfl, hm, he⟩
  obtain ⟨b, c, rfl, hbB⟩ := hm.head (by omega)
  have HM := hid (hm.base HE.out.size)
  have HE2 := hid (HE.out.trans he)
  obtain ⟨D, hD⟩ : ∃ D, D = fw (costTo rs) N := ⟨_, rfl⟩
  rw [← hD] at HM
  have HD := hid hD
  clear hm he hbB hD c0 c1
  go_wp2
  go_loopg [16] N (fun g i2 wr => ∃ i : Nat, i + g = N ∧ i2 = .int .i64 i ∧ Hid (Mat w.heap.size wr (.slice (some ⟨b, 0, none⟩) N c) N N (partN D i 0)) ∧ Hid (Ext w wr))
  case atStart => exact ⟨0, by omega, rfl, by rw [partN_zero]; exact HM, HE2⟩
  case round =>
    obtain ⟨i, hii, rfl, MAT, E⟩ := hrel
    have hil : i ≤ N := by omega
    have Hi := hid hii
    clear hii
    by_cases hilt : i < N
    · obtain ⟨gi, ci, -⟩ := MAT.out.row hilt
      have ci' : wr.cell? ⟨b, i, none⟩ = some (.slice (some ⟨gi, 0, none⟩) N N) := ci
      have CI := hid ci'
      clear ci
      go_wp2
      clear ci'
      go_loopg [22] N (fun g i3 wr => ∃ j : Nat, j + g = N ∧ i3 = .int .i64 j ∧ Hid (Mat w.heap.size wr (.slice (some ⟨b, 0, none⟩) N c) N N (partN D i j)) ∧ Hid (wr.cell? ⟨b, i, none⟩ = some (.slice (some ⟨gi, 0, none⟩) N N)) ∧ Hid (Ext w wr))
      case atStart => exact ⟨0, by omega, rfl, MAT, CI, E⟩
      case round =>
        clear MAT E CI
        obtain ⟨j, hjj, rfl, MAT, CI, E⟩ := hrel
        have hjl : j ≤ N := by omega
        have Hj := hid hjj
        clear hjj
        by_cases hjlt : j < N
        · obtain ⟨g2, cg, hblk, hBg, hne, hset, -⟩ := MAT.out.row hilt
          have hg2 : g2 = gi := by
            have h := CI.out
            rw [cg] at h
            unfold rowV at h
            simpa using h
          subst hg2
          have d0 := hblk.cell (i := j) (by rw [rowL_len]; exact hjlt)
          rw [rowL_fn hjlt, partN_ij] at d0
          by_cases hfar : far ≤ D i j
          · have hM := hset j (-1) hjlt
            have e1 : nn (D i j) = -1 := by unfold nn; rw [if_pos hfar]
            rw [← e1, partN_set, e1] at hM
            have HM2 := hid hM
            have HC2 : Hid ((wr.setCell ⟨g2, j, none⟩ (.int .i64 (-1))).cell? ⟨b, i, none⟩ = some (.slice (some ⟨g2, 0, none⟩) N N)) := by
              show _ = _
              rw [World.cell?_setCell_other (h := by first | (simp; done) | (simp; omega) | simp [hne])]; exact CI.out
            have HE3 := hid (E.out.setCell hBg j (.int .i64 (-1)))
            have hfr := hblk.free j
            have hf2 : 1048576 ≤ D i j := hfar
            clear hM e1 hset hblk hBg hne cg hfar
            go_wp2
            go_roundg (gk - 1)
            case rel => exact ⟨j + 1, by have := Hj.out; omega, by go_num, HM2.out, HC2.out, HE3.out⟩
            case measure => have := Hj.out; omega
          · have e1 : nn (D i j) = D i j := by unfold nn; rw [if_neg hfar]
            have HM2 := hid (MAT.out.congr (fun a c _ _ => partN_same e1 a c))
            have hf2 : ¬ 1048576 ≤ D i j := hfar
            clear e1 hset hblk hBg hne cg hfar
            go_wp2
            go_roundg (gk - 1)
            case rel => exact ⟨j + 1, by have := Hj.out; omega, by go_num, HM2.out, CI.out, E.out⟩
            case measure => have := Hj.out; omega
        · have ej : j = N := by omega
          have hM := MAT.out
          rw [ej] at hM
          have HM2 := hid (hM.congr (fun a c _ hc => partN_row a c hc))
          clear hM ej
          go_wp2
          go_roundg (N - (i + 1))
          case rel => exact ⟨i + 1, by omega, by go_num, HM2.out, E.out⟩
          case measure => have := Hi.out; omega
    · have ei : i = N := by omega
      have hM := MAT.out
      rw [ei] at hM
      have HM2 := hid (hM.congr (D' := fun i j => nn (fw (costTo rs) N i j)) (fun a c ha _ => by rw [partN_end a c ha, HD.out]))
      clear hM ei
      go_wp2
      go_ret2
      exact ⟨_, rfl, HM2.out, E.out⟩

end Go.Proofs.YtkbkgkmogbkabaaDoor

/-
  Contracts of stop, of the program and of the statements.
-/
namespace Go.Proofs.YtkbkgkmogbkabaaDoor
open Go.RowKit

/-- A stop of a map. -/
def stopB (n a : Int) : Bool := decide (0 ≤ a ∧ a < n)

set_option maxHeartbeats 1000000 in
theorem stop_any (vr : Value) (m : MapD) (a : Int) (w : World) (hm : MapR w vr m) :
    Calls Tryd.prog 52 #[.agg #[.int .i64 m.n, vr], .int .i64 a] w fun e w' => e = .returned (.bool (stopB m.n a)) ∧ Ext w w' := by
  obtain ⟨ao, cap, rfl⟩ := hm.shape
  go_enter Tryd.func52, Tryd.ntmps52
  go_wp2
  all_goals
    go_ret
    refine ⟨ret_bool ?_, Ext.ofAlloc _ _⟩
    unfold stopB
    rw [Bool.eq_iff_iff]
    simp only [decide_eq_true_iff, false_iff, Bool.false_eq_true, not_and]
    omega

end Go.Proofs.YtkbkgkmogbkabaaDoor

/-
  Ways, in plain Lean: the search step by step, and that it finds one.
-/
namespace Go.Proofs.YtkbkgkmogbkabaaDoor
open Go.RowKit

/-- The search for a way of a given length: f stops more. -/
def growP (c d : Nat → Nat → Int) (n b : Nat) (tot : Int) : Nat → List Int → Nat → Int → Option (List Int)
  | 0, way, last, _ => if last = b then some way else none
  | f + 1, way, last, cost => (List.range n).findSome? fun x =>
      if x ≠ last ∧ c last x < far ∧ cost + c last x + d x b = tot ∧ (x : Int) ∉ way then growP c d n b tot f (way ++ [(x : Int)]) x (cost + c last x) else none

theorem fw_le (D : Nat → Nat → Int) (k i j : Nat) : ∀ m, fw D (k + m) i j ≤ fw D k i j
  | 0 => Int.le_refl _
  | m + 1 => by
    have h1 := fw_le D k i j m
    have h2 : fw D (k + m + 1) i j ≤ fw D (k + m) i j := (mn_le _ _).1
    show fw D (k + m + 1) i j ≤ _
    omega
theorem next_stop {N : Nat} {c : Nat → Nat → Int} (h : Tab N 50 c) (hN : N ≤ 8) : ∀ k, k ≤ N → ∀ i j, i < N → j < N → i ≠ j → fw c k i j < far →
    ∃ x, x < N ∧ x ≠ i ∧ c i x < far ∧ c i x + fw c N x j ≤ fw c k i j
  | 0, _, i, j, hi, hj, hne, hf => by
    refine ⟨j, hj, fun e => hne e.symm, hf, ?_⟩
    have := (h.fw N (Nat.le_refl _)).diag j hj
    show c i j + fw c N j j ≤ c i j
    omega
  | k + 1, hk, i, j, hi, hj, hne, hf => by
    have T := h.fw k (by omega)
    have hkN : k < N := by omega
    have hv : fw c (k + 1) i j = mn (fw c k i j) (fw c k i k + fw c k k j) := rfl
    rw [hv] at hf ⊢
    rcases mn_or (fw c k i j) (fw c k i k + fw c k k j) with e | e
    · rw [e] at hf ⊢
      exact next_stop h hN k (by omega) i j hi hj hne hf
    · rw [e] at hf ⊢
      have l2 := T.lo hkN hj
      have l1 := T.lo hi hkN
      by_cases ei : i = k
      · subst ei
        have hd := T.diag i hi
        obtain ⟨x, hx, hxi, hc, hle⟩ := next_stop h hN i (by omega) i j hi hj hne (by omega)
        exact ⟨x, hx, hxi, hc, by omega⟩
      · obtain ⟨x, hx, hxi, hc, hle⟩ := next_stop h hN k (by omega) i k hi hkN ei (by omega)
        have t := tri h N (Nat.le_refl _) x j k hx hj hkN
        have m := fw_le c k k j (N - k)
        rw [show k + (N - k) = N from by omega] at m
        exact ⟨x, hx, hxi, hc, by omega⟩
theorem step_eq {N : Nat} {c : Nat → Nat → Int} (h : Tab N 50 c) (hN : N ≤ 8) {i j : Nat} (hi : i < N) (hj : j < N) (hne : i ≠ j) (hf : fw c N i j < far) :
    ∃ x, x < N ∧ x ≠ i ∧ c i x < far ∧ c i x + fw c N x j = fw c N i j ∧ fw c N x j < fw c N i j := by
  obtain ⟨x, hx, hxi, hc, hle⟩ := next_stop h hN N (Nat.le_refl _) i j hi hj hne hf
  have t := tri h N (Nat.le_refl _) i j x hi hj hx
  have m := fw_le c 0 i x N
  rw [Nat.zero_add] at m
  have m2 : fw c 0 i x = c i x := rfl
  have p := h.pos i x hi hx (fun e => hxi e.symm)
  exact ⟨x, hx, hxi, hc, by omega, by omega⟩
theorem grow_some {N : Nat} {c : Nat → Nat → Int} (h : Tab N 50 c) (hN : N ≤ 8) {b : Nat} (hb : b < N) (tot : Int) : ∀ (M : Nat) (i : Nat) (way : List Int) (cost : Int), i < N → fw c N i b < far → (fw c N i b).toNat ≤ M → cost + fw c N i b = tot →
    (∀ y : Nat, (y : Int) ∈ way → fw c N i b ≤ fw c N y b) → ∃ f r, f ≤ M ∧ growP c (fw c N) N b tot f way i cost = some r
  | M, i, way, cost, hi, hf, hM, ht, hw => by
    by_cases e : i = b
    · exact ⟨0, way, Nat.zero_le _, by simp [growP, e]⟩
    · obtain ⟨x, hx, hxi, hc, heq, hlt⟩ := step_eq h hN hi hb e hf
      have T := h.fw N (Nat.le_refl _)
      have l := T.lo hx hb
      have hxw : (x : Int) ∉ way := fun hm => by have := hw x hm; omega
      cases M with
      | zero => omega
      | succ M =>
        obtain ⟨f, r, hfM, hr⟩ := grow_some h hN hb tot M x (way ++ [(x : Int)]) (cost + c i x) hx (by omega) (by omega) (by omega) (fun y hy => by
          rcases List.mem_append.1 hy with hy | hy
          · have := hw y hy; omega
          · have hyx : y = x := Int.ofNat_inj.1 (List.mem_singleton.1 hy)
            rw [hyx]; exact Int.le_refl _)
        have hs : (growP c (fw c N) N b tot (f + 1) way i cost).isSome = true := by
          unfold growP
          rw [List.findSome?_isSome_iff]
          refine ⟨x, List.mem_range.2 hx, ?_⟩
          rw [if_pos ⟨hxi, hc, by omega, hxw⟩, hr]; rfl
        obtain ⟨r2, hr2⟩ := Option.isSome_iff_exists.1 hs
        exact ⟨f + 1, r2, by omega, hr2⟩

/-- One step of the search. -/
def growF (c d : Nat → Nat → Int) (n b : Nat) (tot : Int) (f : Nat) (way : List Int) (last : Nat) (cost : Int) (x : Nat) : Option (List Int) :=
  if x ≠ last ∧ c last x < far ∧ cost + c last x + d x b = tot ∧ (x : Int) ∉ way then growP c d n b tot f (way ++ [(x : Int)]) x (cost + c last x) else none
theorem growP_succ (c d : Nat → Nat → Int) (n b : Nat) (tot : Int) (f : Nat) (way : List Int) (last : Nat) (cost : Int) :
    growP c d n b tot (f + 1) way last cost = (List.range n).findSome? (growF c d n b tot f way last cost) := rfl
theorem find_none {F : Nat → Option (List Int)} {x : Nat} (h : (List.range x).findSome? F = none) (hx : F x = none) : (List.range (x + 1)).findSome? F = none := by
  rw [List.range_succ, List.findSome?_append, h]; simp [hx]
theorem find_first {F : Nat → Option (List Int)} {n x : Nat} {r : List Int} (hxn : x < n) (h : (List.range x).findSome? F = none) (hx : F x = some r) : (List.range n).findSome? F = some r := by
  obtain ⟨k, rfl⟩ : ∃ k, n = x + 1 + k := ⟨n - (x + 1), by omega⟩
  have h1 : (List.range (x + 1)).findSome? F = some r := by rw [List.range_succ, List.findSome?_append, h]; simp [hx]
  rw [List.range_add, List.findSome?_append, h1]; rfl

end Go.Proofs.YtkbkgkmogbkabaaDoor
