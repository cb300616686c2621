/-
  Contract of costs.
-/
import Derived.Test.YteiamhapplnlaabGreatDoorRtRValid
import Derived.Test.YteiamhapplnlaabGreatDoorRtMat
import Derived.Maps.AppendAt
namespace Go.Proofs.YteiamhapplnlaabGreatDoor
open Go.RowKit

def far : Int := 1048576
def cost0 : Nat → Nat → Int := fun i j => if j = i then 0 else far
/-- Go's min. -/
def mn (a b : Int) : Int := if b < a then b else a
def costStep (D : Nat → Nat → Int) (r : RoadD) : Nat → Nat → Int :=
  updM (updM D r.a.toNat r.b.toNat (mn (D r.a.toNat r.b.toNat) r.cost)) r.b.toNat r.a.toNat (mn (D r.a.toNat r.b.toNat) r.cost)
def costTo (rs : List RoadD) : Nat → Nat → Int := rs.foldl costStep cost0
theorem costTo_succ {rs : List RoadD} {k : Nat} (hk : k < rs.length) : costTo (rs.take (k + 1)) = costStep (costTo (rs.take k)) (roadAt rs k) := by
  unfold costTo; rw [List.take_succ_eq_append_getElem hk, List.foldl_append, roadAt_get hk]; rfl

set_option maxRecDepth 20000 in
set_option maxHeartbeats 4000000 in
theorem costs_any (vr : Value) (N : Nat) (rs : List RoadD) (w : World) (hv : Roads w vr rs) (hN1 : 1 ≤ N) (hN : N ≤ 8) (hl : rs.length ≤ 16) (hok : ∀ r ∈ rs, roadOk N r = true) :
    Calls Tryz.prog 66 #[.agg #[.int .i64 N, vr]] w fun e w' => ∃ v, e = .returned v ∧ Mat w.heap.size w' v N N (costTo rs) ∧ Ext w w' := by
  obtain ⟨ao, cap, rfl⟩ := hv.shape
  have HV := hid hv
  have Hok := hid hok
  have HB := hid (Box2.alloc w 39 (.int .i64 N) (.slice ao rs.length cap))
  have hE := Ext.ofAlloc w (.cells #[.int .i64 N, .slice ao rs.length cap] 39)
  obtain ⟨i0, hi, hz0, hz1, hz2⟩ := info_parts info_ints
  clear hv hok
  go_enter Tryz.func66, Tryz.ntmps66
  go_wp2
  generalize w.alloc (.cells #[.int .i64 N, .slice ao rs.length cap] 39) = W at *
  have HE := hid hE
  have hszW := hE.size
  clear hE
  go_loopg [9, 3] N (fun g i v wr => ∃ k : Nat, k + g = N ∧ i = .int .i64 k ∧ Hid (Mat W.heap.size wr v k N cost0) ∧ Hid (Ext W wr))
  case atStart => exact ⟨0, by omega, rfl, Mat.nil _ _ _ _, Ext.refl _⟩
  case round =>
    obtain ⟨k, hk, rfl, MAT, E⟩ := hrel
    have hkl : k ≤ N := by omega
    have Hk := hid hk
    clear hk
    by_cases hlt : k < N
    · have hszr := E.out.size
      obtain ⟨us, hul, hus, hpush⟩ := MAT.out.push hszr
      have E1 := hid (E.out.alloc (.cells #[.int .i64 1048576] 3))
      obtain ⟨c0, c1⟩ := (HB.out.ext E1.out).cells
      have HUS := hid hus
      have HP := hid hpush
      have hfar : Ints (wr.alloc (.cells #[.int .i64 1048576] 3)) (.slice (some ⟨wr.heap.size, 0, none⟩) 1 1) [far] := OwnI.ints (World.ownsRow_lit (base := 0) (e := 3) (size := 1) wr #[.int .i64 1048576] 1 (Nat.zero_le _) (by decide) rfl) (by simp)
      have HF := hid hfar
      obtain ⟨av, cv, rfl⟩ := MAT.out.shape
      clear hus hpush hfar
      go_wp2_with (fail)
      refine (Repeat_any _ far N _ HF.out hN).mono ?_
      rintro e w1 ⟨g, rfl, hg, hb, he⟩
      rw [rowL_rep] at hb
      have HG := hid hg
      have HBk := hid hb
      have HW1 := hid ((Ext.ofAlloc wr (.cells #[.int .i64 1048576] 3)).trans he)
      have HUS1 := hid (ownsRow_ext HUS.out HW1.out)
      have hkk : us.length ≤ 8 := by omega
      clear hg hb he c0 c1
      go_wp2_with (at_builtin; go_must (refine wpList_append_own_at _ rfl _ _ 56 rfl W.heap.size 79 i0 (.slice none 0 0) 1 24 Tryz.underlying56 hi hz0 hz1 hz2 rfl (by decide) _ _ _ rfl (HUS1.out.alloc _) ⟨w1.heap.size, 0, none⟩ 1 1 [.slice (some ⟨g, 0, none⟩) N N] rfl rfl (cell_one_new _ _ _) (by intro u hu; simp at hu; subst hu; rfl) (by unfold maxLen; omega) (by omega) (by have := HW1.out.size; simp; omega) ?_))
      intro v' w2 hown hgr _ hat
      have hszw1 := HW1.out.size
      have M2 := HP.out (w1.alloc (.cells #[.slice (some ⟨g, 0, none⟩) N N] 79)) w2 v' g (fun _ => far) (HW1.out.alloc _) (by have := HG.out; simp at this; omega) (HBk.out.ext (Ext.ofAlloc _ _)) hown hgr (hat.imp id (fun h => ⟨_, h, by simp⟩))
      have HE2 := hid (Ext.push (E.out.trans HW1.out) HUS1.out (Nat.le_refl _) hgr)
      obtain ⟨b, c, rfl, hbB⟩ := M2.head (by omega)
      obtain ⟨gg, hcell, hblk, hBg, hne, hset, -⟩ := M2.row (i := k) (by omega)
      have M3 : Hid (Mat W.heap.size (w2.setCell ⟨gg, k, none⟩ (.int .i64 0)) (.slice (some ⟨b, 0, none⟩) (k + 1) c) (k + 1) N cost0) := (hset k 0 hlt).congr (fun x y hx hy => by
        unfold updM cost0 updF
        by_cases e : x = k
        · subst e; rw [if_pos rfl]; by_cases e2 : y = x
          · simp [e2]
          · simp [e2]
        · rw [if_neg e]; simp only [if_neg e])
      have HBg := hid hBg
      have d0 := hblk.cell (i := k) (by rw [rowL_len]; exact hlt)
      have d1 := hblk.free k
      have hcell' : w2.cell? ⟨b, k, none⟩ = some (.slice (some ⟨gg, 0, none⟩) N N) := hcell
      have HE3 := hid (HE2.out.setCell HBg.out k (.int .i64 0))
      clear hown hgr hat M2 hcell hblk hne hset
      go_wp2
      go_roundg (gk - 1)
      case rel => exact ⟨k + 1, by have := Hk.out; omega, by go_num, M3.out, HE3.out⟩
      case measure => have := Hk.out; omega
    · have ek : k = N := by omega
      have hM := MAT.out
      rw [ek] at hM
      have HM := hid hM
      obtain ⟨b, c, rfl, hbB⟩ := hM.head (by omega)
      obtain ⟨c0, c1⟩ := (HB.out.ext E.out).cells
      clear hM MAT ek
      go_wp2
      generalize wr = V at *
      clear c0 c1
      have HE4 := hid (HE.out.trans E.out)
      go_loopg [29] rs.length (fun g i wr => ∃ k : Nat, k + g = rs.length ∧ i = .int .i64 k ∧ Hid (Mat W.heap.size wr (.slice (some ⟨b, 0, none⟩) N c) N N (costTo (rs.take k))) ∧ Hid (Ext W wr))
      case atStart => exact ⟨0, by omega, rfl, HM, E⟩
      case round =>
        clear HE4
        obtain ⟨k, hk, rfl, MAT, E⟩ := hrel
        have hkl : k ≤ rs.length := by omega
        have Hk := hid hk
        clear hk
        by_cases hlt : k < rs.length
        · obtain ⟨bR, oR, rfl, -, hcc⟩ := Roads.get HV.out k hlt
          obtain ⟨c0, c1, c2⟩ := hcc _ (HE.out.trans E.out)
          have Hs := hid (costTo_succ hlt)
          have hrk := roadOk_iff.1 (Hok.out _ (roadAt_mem hlt))
          generalize roadAt rs k = r at *
          obtain ⟨ra, rb, rc⟩ := r
          obtain ⟨p1, p2, p3, p4, p5, p6, p7⟩ := hrk
          dsimp only at p1 p2 p3 p4 p5 p6 p7 c0 c1 c2
          obtain ⟨A, rfl⟩ := Int.eq_ofNat_of_zero_le p1
          obtain ⟨Z, rfl⟩ := Int.eq_ofNat_of_zero_le p3
          have hA : A < N := by omega
          have hZ : Z < N := by omega
          have hAZ : A ≠ Z := by omega
          clear hcc p1 p3
          have e012 := (Box3.alloc wr 64 (.int .i64 A) (.int .i64 Z) (.int .i64 rc)).cells
          have M1 := MAT.out.ext (Ext.ofAlloc wr (.cells #[.int .i64 A, .int .i64 Z, .int .i64 rc] 64))
          have E1 := hid (E.out.alloc (.cells #[.int .i64 A, .int .i64 Z, .int .i64 rc] 64))
          have hB6 := Box3.alloc wr 64 (.int .i64 A) (.int .i64 Z) (.int .i64 rc)
          obtain ⟨e0, e1, e2⟩ := e012
          go_wp2
          generalize wr.alloc (.cells #[.int .i64 A, .int .i64 Z, .int .i64 rc] 64) = V1 at *
          generalize wr.heap.size = b6 at *
          obtain ⟨D, hD⟩ : ∃ D, D = costTo (rs.take k) := ⟨_, rfl⟩
          rw [← hD] at M1
          have HD := hid hD
          clear hD
          obtain ⟨gA, cA, hblk, hBA, hneA, hset, -⟩ := M1.row hA
          have hne6 : b6 ≠ gA := by
            rintro rfl
            have h1 : V1.heap[b6]? = _ := hB6
            have h2 : V1.heap[b6]? = _ := hblk
            rw [h2] at h1
            simp at h1
          have hI := hblk.cell (i := Z) (by rw [rowL_len]; exact hZ)
          rw [rowL_fn hZ] at hI
          have hfr := hblk.free Z
          have cA' : V1.cell? ⟨b, A, none⟩ = some (.slice (some ⟨gA, 0, none⟩) N N) := cA
          have M2 : Mat W.heap.size ((V1.setCell ⟨gA, Z, none⟩ (.int .i64 (mn (D A Z) rc))).drew) (.slice (some ⟨b, 0, none⟩) N c) N N (updM D A Z (mn (D A Z) rc)) := (hset Z (mn (D A Z) rc) hZ).ext (Ext.refl _).drew
          unfold mn at M2
          have HM2 := hid M2
          have hB62 := hB6.other (g' := gA) (fun e => hne6 e.symm) Z (.int .i64 (if rc < D A Z then rc else D A Z))
          have HB62 := hid (hB62.ext (Ext.refl _).drew)
          have HE2 := hid (E1.out.setCell hBA Z (.int .i64 (if rc < D A Z then rc else D A Z))).drew
          clear hset hblk M1 M2 hBA cA hB6 hB62
          refine wp_region_held_drew (S := (fun w' => w'.cell? ⟨b6, 0, none⟩ = some (.int .i64 A) ∧ w'.cell? ⟨b6, 1, none⟩ = some (.int .i64 Z) ∧ w'.cell? ⟨b6, 2, none⟩ = some (.int .i64 rc) ∧ w'.cell? ⟨b, A, none⟩ = some (.slice (some ⟨gA, 0, none⟩) N N))) (by kernel_rfl) ?hSa0 (fun hHeld => ?_)
          case hSa0 => (first | (first | exact ⟨e0, e1, e2, cA'⟩ | exact ⟨by show (World.setCell _ ⟨gA, Z, none⟩ _).cell? _ = _; rw [World.cell?_setCell_other (h := by simp <;> omega)]; exact e0, by show (World.setCell _ ⟨gA, Z, none⟩ _).cell? _ = _; rw [World.cell?_setCell_other (h := by simp <;> omega)]; exact e1, by show (World.setCell _ ⟨gA, Z, none⟩ _).cell? _ = _; rw [World.cell?_setCell_other (h := by simp <;> omega)]; exact e2, by show (World.setCell _ ⟨gA, Z, none⟩ _).cell? _ = _; rw [World.cell?_setCell_other (h := by simp <;> omega)]; exact cA'⟩) | ((try dsimp only); first | exact ⟨e0, e1, e2, cA'⟩ | exact ⟨by show (World.setCell _ ⟨gA, Z, none⟩ _).cell? _ = _; rw [World.cell?_setCell_other (h := by simp <;> omega)]; exact e0, by show (World.setCell _ ⟨gA, Z, none⟩ _).cell? _ = _; rw [World.cell?_setCell_other (h := by simp <;> omega)]; exact e1, by show (World.setCell _ ⟨gA, Z, none⟩ _).cell? _ = _; rw [World.cell?_setCell_other (h := by simp <;> omega)]; exact e2, by show (World.setCell _ ⟨gA, Z, none⟩ _).cell? _ = _; rw [World.cell?_setCell_other (h := by simp <;> omega)]; exact cA'⟩))
          refine wpAnyH_tk 0 (v := ?va0) rfl (by kernel_rfl) (by kernel_rfl) (by kernel_rfl) (fun _ _ _ h => h) (by rfl) ?hya0 (by assumption) ?_
          case hya0 => (intro w hSw; (try dsimp only at hSw); go_simp <;> with_reducible rfl)
          (try simp only [Act.put, List.setIfInBounds_toArray, List.set_cons_zero, List.set_cons_succ])
          refine wpAnyH_tk 1 (v := ?va1) rfl (by kernel_rfl) (by kernel_rfl) (by kernel_rfl) (fun _ _ _ h => h) (by rfl) ?hya1 (by assumption) ?_
          case hya1 => (intro w hSw; (try dsimp only at hSw); go_simp <;> with_reducible rfl)
          (try simp only [Act.put, List.setIfInBounds_toArray, List.set_cons_zero, List.set_cons_succ])
          refine wpAnyH_tk 2 (v := ?va2) rfl (by kernel_rfl) (by kernel_rfl) (by kernel_rfl) (fun _ _ _ h => h) (by rfl) ?hya2 (by assumption) ?_
          case hya2 => (intro w hSw; (try dsimp only at hSw); go_simp <;> with_reducible rfl)
          (try simp only [Act.put, List.setIfInBounds_toArray, List.set_cons_zero, List.set_cons_succ])
          refine wpAnyH_tk 3 (v := ?va3) rfl (by kernel_rfl) (by kernel_rfl) (by kernel_rfl) (fun _ _ _ h => h) (by rfl) ?hya3 (by assumption) ?_
          case hya3 => (intro w hSw; (try dsimp only at hSw); go_simp <;> with_reducible rfl)
          (try simp only [Act.put, List.setIfInBounds_toArray, List.set_cons_zero, List.set_cons_succ])
          refine wpAnyH_tk 4 (v := ?va4) rfl (by kernel_rfl) (by kernel_rfl) (by kernel_rfl) (fun _ _ _ h => h) (by rfl) ?hya4 (by assumption) ?_
          case hya4 => (intro w hSw; (try dsimp only at hSw); go_simp <;> with_reducible rfl)
          (try simp only [Act.put, List.setIfInBounds_toArray, List.set_cons_zero, List.set_cons_succ])
          refine wpAnyH_tk 5 (v := ?va5) rfl (by kernel_rfl) (by kernel_rfl) (by kernel_rfl) (fun _ _ _ h => h) (by rfl) ?hya5 (by assumption) ?_
          case hya5 => (intro w hSw; (try dsimp only at hSw); go_simp <;> with_reducible rfl)
          (try simp only [Act.put, List.setIfInBounds_toArray, List.set_cons_zero, List.set_cons_succ])
          refine wpAnyH_tk 6 (v := ?va6) rfl (by kernel_rfl) (by kernel_rfl) (by kernel_rfl) (fun _ _ _ h => h) (by rfl) ?hya6 (by assumption) ?_
          case hya6 => (intro w hSw; (try dsimp only at hSw); go_simp <;> with_reducible rfl)
          (try simp only [Act.put, List.setIfInBounds_toArray, List.set_cons_zero, List.set_cons_succ])
          refine wpAnyH_tk 7 (v := ?va7) rfl (by kernel_rfl) (by kernel_rfl) (by kernel_rfl) (fun _ _ _ h => h) (by rfl) ?hya7 (by assumption) ?_
          case hya7 => (intro w hSw; (try dsimp only at hSw); go_simp <;> with_reducible rfl)
          (try simp only [Act.put, List.setIfInBounds_toArray, List.set_cons_zero, List.set_cons_succ])
          refine wpAnyH_tk 8 (v := ?va8) rfl (by kernel_rfl) (by kernel_rfl) (by kernel_rfl) (fun _ _ _ h => h) (by rfl) ?hya8 (by assumption) ?_
          case hya8 => (intro w hSw; (try dsimp only at hSw); go_simp <;> with_reducible rfl)
          (try simp only [Act.put, List.setIfInBounds_toArray, List.set_cons_zero, List.set_cons_succ])
          refine wpAnyH_tk 9 (v := ?va9) rfl (by kernel_rfl) (by kernel_rfl) (by kernel_rfl) (fun _ _ _ h => h) (by rfl) ?hya9 (by assumption) ?_
          case hya9 => (intro w hSw; (try dsimp only at hSw); go_simp <;> with_reducible rfl)
          (try simp only [Act.put, List.setIfInBounds_toArray, List.set_cons_zero, List.set_cons_succ])
          refine wpAnyH_tk 10 (v := ?va10) rfl (by kernel_rfl) (by kernel_rfl) (by kernel_rfl) (fun _ _ _ h => h) (by rfl) ?hya10 (by assumption) ?_
          case hya10 => (intro w hSw; (try dsimp only at hSw); go_simp <;> with_reducible rfl)
          (try simp only [Act.put, List.setIfInBounds_toArray, List.set_cons_zero, List.set_cons_succ])
          refine wpAnyH_tk 11 (v := ?va11) rfl (by kernel_rfl) (by kernel_rfl) (by kernel_rfl) (fun _ _ _ h => h) (by rfl) ?hya11 (by assumption) ?_
          case hya11 => (intro w hSw; (try dsimp only at hSw); go_simp <;> with_reducible rfl)
          (try simp only [Act.put, List.setIfInBounds_toArray, List.set_cons_zero, List.set_cons_succ])
          refine wpAnyH_tk 12 (v := ?va12) rfl (by kernel_rfl) (by kernel_rfl) (by kernel_rfl) (fun _ _ _ h => h) (by rfl) ?hya12 (by assumption) ?_
          case hya12 => (intro w hSw; (try dsimp only at hSw); go_simp <;> with_reducible rfl)
          (try simp only [Act.put, List.setIfInBounds_toArray, List.set_cons_zero, List.set_cons_succ])
          refine wpAnyH_tk 13 (v := ?va13) rfl (by kernel_rfl) (by kernel_rfl) (by kernel_rfl) (fun _ _ _ h => h) (by rfl) ?hya13 (by assumption) ?_
          case hya13 => (intro w hSw; (try dsimp only at hSw); go_simp <;> with_reducible rfl)
          (try simp only [Act.put, List.setIfInBounds_toArray, List.set_cons_zero, List.set_cons_succ])
          refine wpAnyH_tk 14 (v := ?va14) rfl (by kernel_rfl) (by kernel_rfl) (by kernel_rfl) (fun _ _ _ h => h) (by rfl) ?hya14 (by assumption) ?_
          case hya14 => (intro w hSw; (try dsimp only at hSw); go_simp <;> with_reducible rfl)
          (try simp only [Act.put, List.setIfInBounds_toArray, List.set_cons_zero, List.set_cons_succ])
          refine wpAnyH_tk 16 (v := ?va16) rfl (by kernel_rfl) (by kernel_rfl) (by kernel_rfl) (fun _ _ _ h => h) (by rfl) ?hya16 (by assumption) ?_
          case hya16 => (intro w hSw; (try dsimp only at hSw); go_simp <;> with_reducible rfl)
          (try simp only [Act.put, List.setIfInBounds_toArray, List.set_cons_zero, List.set_cons_succ])
          refine wpAnyH_tk 17 (v := ?va17) rfl (by kernel_rfl) (by kernel_rfl) (by kernel_rfl) (fun _ _ _ h => h) (by rfl) ?hya17 (by assumption) ?_
          case hya17 => (intro w hSw; (try dsimp only at hSw); go_simp <;> with_reducible rfl)
          (try simp only [Act.put, List.setIfInBounds_toArray, List.set_cons_zero, List.set_cons_succ])
          refine wpAnyH_one 15 rfl (by kernel_rfl) (by rfl) (fun K hK => ?_)
          go_simp
          (skip)
          refine hK.out _ _ ?hSa16 (fun hHeld => ?_)
          case hSa16 => (first | (first | exact ⟨e0, e1, e2, cA'⟩ | exact ⟨by show (World.setCell _ ⟨gA, Z, none⟩ _).cell? _ = _; rw [World.cell?_setCell_other (h := by simp <;> omega)]; exact e0, by show (World.setCell _ ⟨gA, Z, none⟩ _).cell? _ = _; rw [World.cell?_setCell_other (h := by simp <;> omega)]; exact e1, by show (World.setCell _ ⟨gA, Z, none⟩ _).cell? _ = _; rw [World.cell?_setCell_other (h := by simp <;> omega)]; exact e2, by show (World.setCell _ ⟨gA, Z, none⟩ _).cell? _ = _; rw [World.cell?_setCell_other (h := by simp <;> omega)]; exact cA'⟩) | ((try dsimp only); first | exact ⟨e0, e1, e2, cA'⟩ | exact ⟨by show (World.setCell _ ⟨gA, Z, none⟩ _).cell? _ = _; rw [World.cell?_setCell_other (h := by simp <;> omega)]; exact e0, by show (World.setCell _ ⟨gA, Z, none⟩ _).cell? _ = _; rw [World.cell?_setCell_other (h := by simp <;> omega)]; exact e1, by show (World.setCell _ ⟨gA, Z, none⟩ _).cell? _ = _; rw [World.cell?_setCell_other (h := by simp <;> omega)]; exact e2, by show (World.setCell _ ⟨gA, Z, none⟩ _).cell? _ = _; rw [World.cell?_setCell_other (h := by simp <;> omega)]; exact cA'⟩))
          clear hK K
          (try simp only [Act.put, List.setIfInBounds_toArray, List.set_cons_zero, List.set_cons_succ])
          refine wpAnyH_tk 18 (v := ?va18) rfl (by kernel_rfl) (by kernel_rfl) (by kernel_rfl) (fun _ _ _ h => h) (by rfl) ?hya18 (by assumption) ?_
          case hya18 => (intro w hSw; (try dsimp only at hSw); go_simp <;> with_reducible rfl)
          (try simp only [Act.put, List.setIfInBounds_toArray, List.set_cons_zero, List.set_cons_succ])
          refine wpAnyH_tk 19 (v := ?va19) rfl (by kernel_rfl) (by kernel_rfl) (by kernel_rfl) (fun _ _ _ h => h) (by rfl) ?hya19 (by assumption) ?_
          case hya19 => (intro w hSw; (try dsimp only at hSw); go_simp <;> with_reducible rfl)
          (try simp only [Act.put, List.setIfInBounds_toArray, List.set_cons_zero, List.set_cons_succ])
          refine wpAnyH_one 20 rfl (by kernel_rfl) (by rfl) (fun K hK => ?_)
          go_simp
          (skip)
          refine hK.out _ _ ?hSa21 (fun hHeld => ?_)
          case hSa21 => (first | (first | exact ⟨e0, e1, e2, cA'⟩ | exact ⟨by show (World.setCell _ ⟨gA, Z, none⟩ _).cell? _ = _; rw [World.cell?_setCell_other (h := by simp <;> omega)]; exact e0, by show (World.setCell _ ⟨gA, Z, none⟩ _).cell? _ = _; rw [World.cell?_setCell_other (h := by simp <;> omega)]; exact e1, by show (World.setCell _ ⟨gA, Z, none⟩ _).cell? _ = _; rw [World.cell?_setCell_other (h := by simp <;> omega)]; exact e2, by show (World.setCell _ ⟨gA, Z, none⟩ _).cell? _ = _; rw [World.cell?_setCell_other (h := by simp <;> omega)]; exact cA'⟩) | ((try dsimp only); first | exact ⟨e0, e1, e2, cA'⟩ | exact ⟨by show (World.setCell _ ⟨gA, Z, none⟩ _).cell? _ = _; rw [World.cell?_setCell_other (h := by simp <;> omega)]; exact e0, by show (World.setCell _ ⟨gA, Z, none⟩ _).cell? _ = _; rw [World.cell?_setCell_other (h := by simp <;> omega)]; exact e1, by show (World.setCell _ ⟨gA, Z, none⟩ _).cell? _ = _; rw [World.cell?_setCell_other (h := by simp <;> omega)]; exact e2, by show (World.setCell _ ⟨gA, Z, none⟩ _).cell? _ = _; rw [World.cell?_setCell_other (h := by simp <;> omega)]; exact cA'⟩))
          clear hK K
          (try simp only [Act.put, List.setIfInBounds_toArray, List.set_cons_zero, List.set_cons_succ])
          refine wpAnyH_done (by kernel_rfl) ?_ _
          clear e0 e1 e2 cA' hI hfr hne6 hneA
          generalize hx : (if rc < D A Z then rc else D A Z) = x at *
          have Hx := hid hx
          clear hx
          generalize (V1.setCell ⟨gA, Z, none⟩ (.int .i64 x)).drew = V2 at *
          obtain ⟨e0, e1, e2⟩ := HB62.out.cells
          obtain ⟨gZ, cZ, hblk, hBZ, hneZ, hset, hoth⟩ := HM2.out.row hZ
          obtain ⟨gB, hgB, cB, hblkB⟩ := hoth A hA hAZ
          have hne6 : b6 ≠ gZ := by
            rintro rfl
            have h1 : V2.heap[b6]? = _ := HB62.out
            have h2 : V2.heap[b6]? = _ := hblk
            rw [h2] at h1
            simp at h1
          have hI := hblkB.cell (i := Z) (by rw [rowL_len]; exact hZ)
          rw [rowL_fn hZ, show updM D A Z x A Z = x by simp [updM, updF]] at hI
          have hJ := hblk.cell (i := A) (by rw [rowL_len]; exact hA)
          have hfr := hblk.free A
          have cZ' : V2.cell? ⟨b, Z, none⟩ = some (.slice (some ⟨gZ, 0, none⟩) N N) := cZ
          have cB' : V2.cell? ⟨b, A, none⟩ = some (.slice (some ⟨gB, 0, none⟩) N N) := cB
          have HM3 : Hid (Mat W.heap.size ((V2.setCell ⟨gZ, A, none⟩ (.int .i64 x)).drew) (.slice (some ⟨b, 0, none⟩) N c) N N (updM (updM D A Z x) Z A x)) := (hset A x hA).ext (Ext.refl _).drew
          have HE3 := hid (HE2.out.setCell hBZ A (.int .i64 x)).drew
          clear hset hblk hblkB hoth hBZ cZ cB
          go_wp2
          refine wp_region_held_drew (S := (fun w' => w'.cell? ⟨b6, 0, none⟩ = some (.int .i64 A) ∧ w'.cell? ⟨b6, 1, none⟩ = some (.int .i64 Z) ∧ w'.cell? ⟨b6, 2, none⟩ = some (.int .i64 rc) ∧ w'.cell? ⟨b, Z, none⟩ = some (.slice (some ⟨gZ, 0, none⟩) N N) ∧ w'.cell? ⟨b, A, none⟩ = some (.slice (some ⟨gB, 0, none⟩) N N))) (by kernel_rfl) ?hSb0 (fun hHeld => ?_)
          case hSb0 => (first | (first | exact ⟨e0, e1, e2, cZ', cB'⟩ | exact ⟨by show (World.setCell _ ⟨gZ, A, none⟩ _).cell? _ = _; rw [World.cell?_setCell_other (h := by simp <;> omega)]; exact e0, by show (World.setCell _ ⟨gZ, A, none⟩ _).cell? _ = _; rw [World.cell?_setCell_other (h := by simp <;> omega)]; exact e1, by show (World.setCell _ ⟨gZ, A, none⟩ _).cell? _ = _; rw [World.cell?_setCell_other (h := by simp <;> omega)]; exact e2, by show (World.setCell _ ⟨gZ, A, none⟩ _).cell? _ = _; rw [World.cell?_setCell_other (h := by simp <;> omega)]; exact cZ', by show (World.setCell _ ⟨gZ, A, none⟩ _).cell? _ = _; rw [World.cell?_setCell_other (h := by simp <;> omega)]; exact cB'⟩) | ((try dsimp only); first | exact ⟨e0, e1, e2, cZ', cB'⟩ | exact ⟨by show (World.setCell _ ⟨gZ, A, none⟩ _).cell? _ = _; rw [World.cell?_setCell_other (h := by simp <;> omega)]; exact e0, by show (World.setCell _ ⟨gZ, A, none⟩ _).cell? _ = _; rw [World.cell?_setCell_other (h := by simp <;> omega)]; exact e1, by show (World.setCell _ ⟨gZ, A, none⟩ _).cell? _ = _; rw [World.cell?_setCell_other (h := by simp <;> omega)]; exact e2, by show (World.setCell _ ⟨gZ, A, none⟩ _).cell? _ = _; rw [World.cell?_setCell_other (h := by simp <;> omega)]; exact cZ', by show (World.setCell _ ⟨gZ, A, none⟩ _).cell? _ = _; rw [World.cell?_setCell_other (h := by simp <;> omega)]; exact cB'⟩))
          refine wpAnyH_tk 0 (v := ?vb0) rfl (by kernel_rfl) (by kernel_rfl) (by kernel_rfl) (fun _ _ _ h => h) (by rfl) ?hyb0 (by assumption) ?_
          case hyb0 => (intro w hSw; (try dsimp only at hSw); go_simp <;> with_reducible rfl)
          (try simp only [Act.put, List.setIfInBounds_toArray, List.set_cons_zero, List.set_cons_succ])
          refine wpAnyH_tk 1 (v := ?vb1) rfl (by kernel_rfl) (by kernel_rfl) (by kernel_rfl) (fun _ _ _ h => h) (by rfl) ?hyb1 (by assumption) ?_
          case hyb1 => (intro w hSw; (try dsimp only at hSw); go_simp <;> with_reducible rfl)
          (try simp only [Act.put, List.setIfInBounds_toArray, List.set_cons_zero, List.set_cons_succ])
          refine wpAnyH_tk 2 (v := ?vb2) rfl (by kernel_rfl) (by kernel_rfl) (by kernel_rfl) (fun _ _ _ h => h) (by rfl) ?hyb2 (by assumption) ?_
          case hyb2 => (intro w hSw; (try dsimp only at hSw); go_simp <;> with_reducible rfl)
          (try simp only [Act.put, List.setIfInBounds_toArray, List.set_cons_zero, List.set_cons_succ])
          refine wpAnyH_tk 3 (v := ?vb3) rfl (by kernel_rfl) (by kernel_rfl) (by kernel_rfl) (fun _ _ _ h => h) (by rfl) ?hyb3 (by assumption) ?_
          case hyb3 => (intro w hSw; (try dsimp only at hSw); go_simp <;> with_reducible rfl)
          (try simp only [Act.put, List.setIfInBounds_toArray, List.set_cons_zero, List.set_cons_succ])
          refine wpAnyH_tk 4 (v := ?vb4) rfl (by kernel_rfl) (by kernel_rfl) (by kernel_rfl) (fun _ _ _ h => h) (by rfl) ?hyb4 (by assumption) ?_
          case hyb4 => (intro w hSw; (try dsimp only at hSw); go_simp <;> with_reducible rfl)
          (try simp only [Act.put, List.setIfInBounds_toArray, List.set_cons_zero, List.set_cons_succ])
          refine wpAnyH_tk 5 (v := ?vb5) rfl (by kernel_rfl) (by kernel_rfl) (by kernel_rfl) (fun _ _ _ h => h) (by rfl) ?hyb5 (by assumption) ?_
          case hyb5 => (intro w hSw; (try dsimp only at hSw); go_simp <;> with_reducible rfl)
          (try simp only [Act.put, List.setIfInBounds_toArray, List.set_cons_zero, List.set_cons_succ])
          refine wpAnyH_tk 6 (v := ?vb6) rfl (by kernel_rfl) (by kernel_rfl) (by kernel_rfl) (fun _ _ _ h => h) (by rfl) ?hyb6 (by assumption) ?_
          case hyb6 => (intro w hSw; (try dsimp only at hSw); go_simp <;> with_reducible rfl)
          (try simp only [Act.put, List.setIfInBounds_toArray, List.set_cons_zero, List.set_cons_succ])
          refine wpAnyH_tk 7 (v := ?vb7) rfl (by kernel_rfl) (by kernel_rfl) (by kernel_rfl) (fun _ _ _ h => h) (by rfl) ?hyb7 (by assumption) ?_
          case hyb7 => (intro w hSw; (try dsimp only at hSw); go_simp <;> with_reducible rfl)
          (try simp only [Act.put, List.setIfInBounds_toArray, List.set_cons_zero, List.set_cons_succ])
          refine wpAnyH_tk 8 (v := ?vb8) rfl (by kernel_rfl) (by kernel_rfl) (by kernel_rfl) (fun _ _ _ h => h) (by rfl) ?hyb8 (by assumption) ?_
          case hyb8 => (intro w hSw; (try dsimp only at hSw); go_simp <;> with_reducible rfl)
          (try simp only [Act.put, List.setIfInBounds_toArray, List.set_cons_zero, List.set_cons_succ])
          refine wpAnyH_tk 9 (v := ?vb9) rfl (by kernel_rfl) (by kernel_rfl) (by kernel_rfl) (fun _ _ _ h => h) (by rfl) ?hyb9 (by assumption) ?_
          case hyb9 => (intro w hSw; (try dsimp only at hSw); go_simp <;> with_reducible rfl)
          (try simp only [Act.put, List.setIfInBounds_toArray, List.set_cons_zero, List.set_cons_succ])
          refine wpAnyH_tk 10 (v := ?vb10) rfl (by kernel_rfl) (by kernel_rfl) (by kernel_rfl) (fun _ _ _ h => h) (by rfl) ?hyb10 (by assumption) ?_
          case hyb10 => (intro w hSw; (try dsimp only at hSw); go_simp <;> with_reducible rfl)
          (try simp only [Act.put, List.setIfInBounds_toArray, List.set_cons_zero, List.set_cons_succ])
          refine wpAnyH_tk 11 (v := ?vb11) rfl (by kernel_rfl) (by kernel_rfl) (by kernel_rfl) (fun _ _ _ h => h) (by rfl) ?hyb11 (by assumption) ?_
          case hyb11 => (intro w hSw; (try dsimp only at hSw); go_simp <;> with_reducible rfl)
          (try simp only [Act.put, List.setIfInBounds_toArray, List.set_cons_zero, List.set_cons_succ])
          refine wpAnyH_tk 12 (v := ?vb12) rfl (by kernel_rfl) (by kernel_rfl) (by kernel_rfl) (fun _ _ _ h => h) (by rfl) ?hyb12 (by assumption) ?_
          case hyb12 => (intro w hSw; (try dsimp only at hSw); go_simp <;> with_reducible rfl)
          (try simp only [Act.put, List.setIfInBounds_toArray, List.set_cons_zero, List.set_cons_succ])
          refine wpAnyH_tk 13 (v := ?vb13) rfl (by kernel_rfl) (by kernel_rfl) (by kernel_rfl) (fun _ _ _ h => h) (by rfl) ?hyb13 (by assumption) ?_
          case hyb13 => (intro w hSw; (try dsimp only at hSw); go_simp <;> with_reducible rfl)
          (try simp only [Act.put, List.setIfInBounds_toArray, List.set_cons_zero, List.set_cons_succ])
          refine wpAnyH_tk 14 (v := ?vb14) rfl (by kernel_rfl) (by kernel_rfl) (by kernel_rfl) (fun _ _ _ h => h) (by rfl) ?hyb14 (by assumption) ?_
          case hyb14 => (intro w hSw; (try dsimp only at hSw); go_simp <;> with_reducible rfl)
          (try simp only [Act.put, List.setIfInBounds_toArray, List.set_cons_zero, List.set_cons_succ])
          refine wpAnyH_one 15 rfl (by kernel_rfl) (by rfl) (fun K hK => ?_)
          go_simp
          (skip)
          refine hK.out _ _ ?hSb16 (fun hHeld => ?_)
          case hSb16 => (first | (first | exact ⟨e0, e1, e2, cZ', cB'⟩ | exact ⟨by show (World.setCell _ ⟨gZ, A, none⟩ _).cell? _ = _; rw [World.cell?_setCell_other (h := by simp <;> omega)]; exact e0, by show (World.setCell _ ⟨gZ, A, none⟩ _).cell? _ = _; rw [World.cell?_setCell_other (h := by simp <;> omega)]; exact e1, by show (World.setCell _ ⟨gZ, A, none⟩ _).cell? _ = _; rw [World.cell?_setCell_other (h := by simp <;> omega)]; exact e2, by show (World.setCell _ ⟨gZ, A, none⟩ _).cell? _ = _; rw [World.cell?_setCell_other (h := by simp <;> omega)]; exact cZ', by show (World.setCell _ ⟨gZ, A, none⟩ _).cell? _ = _; rw [World.cell?_setCell_other (h := by simp <;> omega)]; exact cB'⟩) | ((try dsimp only); first | exact ⟨e0, e1, e2, cZ', cB'⟩ | exact ⟨by show (World.setCell _ ⟨gZ, A, none⟩ _).cell? _ = _; rw [World.cell?_setCell_other (h := by simp <;> omega)]; exact e0, by show (World.setCell _ ⟨gZ, A, none⟩ _).cell? _ = _; rw [World.cell?_setCell_other (h := by simp <;> omega)]; exact e1, by show (World.setCell _ ⟨gZ, A, none⟩ _).cell? _ = _; rw [World.cell?_setCell_other (h := by simp <;> omega)]; exact e2, by show (World.setCell _ ⟨gZ, A, none⟩ _).cell? _ = _; rw [World.cell?_setCell_other (h := by simp <;> omega)]; exact cZ', by show (World.setCell _ ⟨gZ, A, none⟩ _).cell? _ = _; rw [World.cell?_setCell_other (h := by simp <;> omega)]; exact cB'⟩))
          clear hK K
          (try simp only [Act.put, List.setIfInBounds_toArray, List.set_cons_zero, List.set_cons_succ])
          refine wpAnyH_tk 16 (v := ?vb16) rfl (by kernel_rfl) (by kernel_rfl) (by kernel_rfl) (fun _ _ _ h => h) (by rfl) ?hyb16 (by assumption) ?_
          case hyb16 => (intro w hSw; (try dsimp only at hSw); go_simp <;> with_reducible rfl)
          (try simp only [Act.put, List.setIfInBounds_toArray, List.set_cons_zero, List.set_cons_succ])
          refine wpAnyH_one 17 rfl (by kernel_rfl) (by rfl) (fun K hK => ?_)
          go_simp
          (skip)
          refine hK.out _ _ ?hSb18 (fun hHeld => ?_)
          case hSb18 => (first | (first | exact ⟨e0, e1, e2, cZ', cB'⟩ | exact ⟨by show (World.setCell _ ⟨gZ, A, none⟩ _).cell? _ = _; rw [World.cell?_setCell_other (h := by simp <;> omega)]; exact e0, by show (World.setCell _ ⟨gZ, A, none⟩ _).cell? _ = _; rw [World.cell?_setCell_other (h := by simp <;> omega)]; exact e1, by show (World.setCell _ ⟨gZ, A, none⟩ _).cell? _ = _; rw [World.cell?_setCell_other (h := by simp <;> omega)]; exact e2, by show (World.setCell _ ⟨gZ, A, none⟩ _).cell? _ = _; rw [World.cell?_setCell_other (h := by simp <;> omega)]; exact cZ', by show (World.setCell _ ⟨gZ, A, none⟩ _).cell? _ = _; rw [World.cell?_setCell_other (h := by simp <;> omega)]; exact cB'⟩) | ((try dsimp only); first | exact ⟨e0, e1, e2, cZ', cB'⟩ | exact ⟨by show (World.setCell _ ⟨gZ, A, none⟩ _).cell? _ = _; rw [World.cell?_setCell_other (h := by simp <;> omega)]; exact e0, by show (World.setCell _ ⟨gZ, A, none⟩ _).cell? _ = _; rw [World.cell?_setCell_other (h := by simp <;> omega)]; exact e1, by show (World.setCell _ ⟨gZ, A, none⟩ _).cell? _ = _; rw [World.cell?_setCell_other (h := by simp <;> omega)]; exact e2, by show (World.setCell _ ⟨gZ, A, none⟩ _).cell? _ = _; rw [World.cell?_setCell_other (h := by simp <;> omega)]; exact cZ', by show (World.setCell _ ⟨gZ, A, none⟩ _).cell? _ = _; rw [World.cell?_setCell_other (h := by simp <;> omega)]; exact cB'⟩))
          clear hK K
          (try simp only [Act.put, List.setIfInBounds_toArray, List.set_cons_zero, List.set_cons_succ])
          refine wpAnyH_done (by kernel_rfl) ?_ _
          clear e0 e1 e2 cZ' cB' hI hJ hfr hne6 hneZ hgB
          go_wp2
          go_roundg (gk - 1)
          case rel => exact ⟨k + 1, by have := Hk.out; omega, by go_num, by rw [Hs.out, ← HD.out]; show Mat _ _ _ _ _ (updM (updM D A Z (mn (D A Z) rc)) Z A (mn (D A Z) rc)); unfold mn; rw [Hx.out]; exact HM3.out, HE3.out⟩
          case measure => have := Hk.out; omega
        · have ek : k = rs.length := by omega
          have hM := MAT.out
          rw [ek, List.take_of_length_le (Nat.le_refl _)] at hM
          have HM2 := hid hM
          clear ek hM
          go_wp2
          go_ret
          exact ⟨_, rfl, HM2.out.base hszW, HE.out.trans E.out⟩

end Go.Proofs.YteiamhapplnlaabGreatDoor
