/-
  Contract of Distances.
-/
import Derived.Test.YteiamhapplnlaabGreatDoorRtPlain
namespace Go.Proofs.YteiamhapplnlaabGreatDoor
open Go.RowKit

/-- What is far is -1. -/
def nn (x : Int) : Int := if far ≤ x then -1 else x
def partN (D : Nat → Nat → Int) (i j : Nat) : Nat → Nat → Int := fun a c => if a < i ∨ (a = i ∧ c < j) then nn (D a c) else D a c
theorem partN_zero (D : Nat → Nat → Int) : partN D 0 0 = D := by
  funext a c; unfold partN; rw [if_neg (by omega)]
theorem partN_end {D : Nat → Nat → Int} {N : Nat} (a c : Nat) (ha : a < N) : partN D N 0 a c = nn (D a c) := by unfold partN; rw [if_pos (by omega)]
theorem partN_row {D : Nat → Nat → Int} {i N : Nat} (a c : Nat) (hc : c < N) : partN D i N a c = partN D (i + 1) 0 a c := by
  unfold partN
  by_cases h : a < i ∨ (a = i ∧ c < N)
  · rw [if_pos h, if_pos (by omega)]
  · rw [if_neg h, if_neg (by omega)]
theorem partN_ij {D : Nat → Nat → Int} {i j : Nat} : partN D i j i j = D i j := by unfold partN; rw [if_neg (by omega)]
theorem partN_set {D : Nat → Nat → Int} {i j : Nat} : updM (partN D i j) i j (nn (D i j)) = partN D i (j + 1) := by
  funext a c
  unfold updM updF partN
  by_cases e : a = i
  · subst e
    by_cases e2 : c = j
    · subst e2; simp
    · have h : (c < j + 1) ↔ c < j := by omega
      simp [e2, h]
  · simp [e]
theorem partN_same {D : Nat → Nat → Int} {i j : Nat} (h : nn (D i j) = D i j) (a c : Nat) : partN D i j a c = partN D i (j + 1) a c := by
  have := congrFun (congrFun (partN_set (D := D) (i := i) (j := j)) a) c
  rw [← this]
  unfold updM updF
  by_cases e : a = i
  · subst e
    by_cases e2 : c = j
    · subst e2; simp [h, partN_ij]
    · simp [e2]
  · simp [e]

set_option maxHeartbeats 1000000 in
theorem Distances_bad (vr : Value) (m : MapD) (w : World) (hm : MapR w vr m) (hb : mapOk m = false) :
    Calls Tryz.prog 20 #[.agg #[.int .i64 m.n, vr]] w fun e w' => e = .returned (.tuple #[.slice none 0 0, .int .i64 2]) ∧ Ext w w' := by
  obtain ⟨ao, cap, rfl⟩ := hm.shape
  have HM := hid hm
  clear hm
  go_enter Tryz.func20, Tryz.ntmps20
  go_wp2_with (fail)
  refine (valid_any _ m _ (MapR.ext HM.out (Ext.ofAlloc _ _))).mono ?_
  rw [hb]
  rintro e w1 ⟨rfl, he⟩
  have HE := hid ((Ext.ofAlloc w _).trans he)
  clear he
  go_wp2
  go_ret2
  exact ⟨rfl, HE.out⟩

set_option maxRecDepth 20000 in
set_option maxHeartbeats 4000000 in
theorem Distances_ok (vr : Value) (N : Nat) (rs : List RoadD) (w : World) (hv : Roads w vr rs) (hok : mapOk ⟨N, rs⟩ = true) :
    Calls Tryz.prog 20 #[.agg #[.int .i64 N, vr]] w fun e w' => ∃ v, e = .returned (.tuple #[v, .int .i64 0]) ∧ Mat w.heap.size w' v N N (fun i j => nn (fw (costTo rs) N i j)) ∧ Ext w w' := by
  obtain ⟨ao, cap, rfl⟩ := hv.shape
  have HV := hid hv
  have hok2 := hok
  unfold mapOk at hok2
  rw [Bool.and_eq_true, decide_eq_true_iff, List.all_eq_true] at hok2
  obtain ⟨⟨h1, h8, h16⟩, hall⟩ := hok2
  dsimp only at h1 h8 h16 hall
  have hN1 : 1 ≤ N := by omega
  have hN8 : N ≤ 8 := by omega
  have HAll := hid hall
  have HOk := hid hok
  have X0 := hid (Box2.alloc w 39 (.int .i64 N) (.slice ao rs.length cap))
  clear hv hok hall
  go_enter Tryz.func20, Tryz.ntmps20
  go_wp2_with (fail)
  refine (valid_any _ ⟨N, rs⟩ _ (Roads.ext HV.out (Ext.ofAlloc _ _))).mono ?_
  rw [HOk.out]
  rintro e w1 ⟨rfl, he⟩
  have HE := hid ((Ext.ofAlloc w _).trans he)
  obtain ⟨c0, c1⟩ := (X0.out.ext he).cells
  clear he
  go_wp2_with (fail)
  refine (distances_any _ N rs _ (Roads.ext HV.out HE.out) hN1 hN8 h16 HAll.out ((costs_tab HAll.out).good (by decide))).mono ?_
  rintro e W ⟨v, rfl, hm, he⟩
  obtain ⟨b, c, rfl, hbB⟩ := hm.head (by omega)
  have HM := hid (hm.base HE.out.size)
  have HE2 := hid (HE.out.trans he)
  obtain ⟨D, hD⟩ : ∃ D, D = fw (costTo rs) N := ⟨_, rfl⟩
  rw [← hD] at HM
  have HD := hid hD
  clear hm he hbB hD c0 c1
  go_wp2
  go_loopg [16] N (fun g i2 wr => ∃ i : Nat, i + g = N ∧ i2 = .int .i64 i ∧ Hid (Mat w.heap.size wr (.slice (some ⟨b, 0, none⟩) N c) N N (partN D i 0)) ∧ Hid (Ext w wr))
  case atStart => exact ⟨0, by omega, rfl, by rw [partN_zero]; exact HM, HE2⟩
  case round =>
    obtain ⟨i, hii, rfl, MAT, E⟩ := hrel
    have hil : i ≤ N := by omega
    have Hi := hid hii
    clear hii
    by_cases hilt : i < N
    · obtain ⟨gi, ci, -⟩ := MAT.out.row hilt
      have ci' : wr.cell? ⟨b, i, none⟩ = some (.slice (some ⟨gi, 0, none⟩) N N) := ci
      have CI := hid ci'
      clear ci
      go_wp2
      clear ci'
      go_loopg [22] N (fun g i3 wr => ∃ j : Nat, j + g = N ∧ i3 = .int .i64 j ∧ Hid (Mat w.heap.size wr (.slice (some ⟨b, 0, none⟩) N c) N N (partN D i j)) ∧ Hid (wr.cell? ⟨b, i, none⟩ = some (.slice (some ⟨gi, 0, none⟩) N N)) ∧ Hid (Ext w wr))
      case atStart => exact ⟨0, by omega, rfl, MAT, CI, E⟩
      case round =>
        clear MAT E CI
        obtain ⟨j, hjj, rfl, MAT, CI, E⟩ := hrel
        have hjl : j ≤ N := by omega
        have Hj := hid hjj
        clear hjj
        by_cases hjlt : j < N
        · obtain ⟨g2, cg, hblk, hBg, hne, hset, -⟩ := MAT.out.row hilt
          have hg2 : g2 = gi := by
            have h := CI.out
            rw [cg] at h
            unfold rowV at h
            simpa using h
          subst hg2
          have d0 := hblk.cell (i := j) (by rw [rowL_len]; exact hjlt)
          rw [rowL_fn hjlt, partN_ij] at d0
          by_cases hfar : far ≤ D i j
          · have hM := hset j (-1) hjlt
            have e1 : nn (D i j) = -1 := by unfold nn; rw [if_pos hfar]
            rw [← e1, partN_set, e1] at hM
            have HM2 := hid hM
            have HC2 : Hid ((wr.setCell ⟨g2, j, none⟩ (.int .i64 (-1))).cell? ⟨b, i, none⟩ = some (.slice (some ⟨g2, 0, none⟩) N N)) := by
              show _ = _
              rw [World.cell?_setCell_other (h := by first | (simp; done) | (simp; omega) | simp [hne])]; exact CI.out
            have HE3 := hid (E.out.setCell hBg j (.int .i64 (-1)))
            have hfr := hblk.free j
            have hf2 : 1048576 ≤ D i j := hfar
            clear hM e1 hset hblk hBg hne cg hfar
            go_wp2
            go_roundg (gk - 1)
            case rel => exact ⟨j + 1, by have := Hj.out; omega, by go_num, HM2.out, HC2.out, HE3.out⟩
            case measure => have := Hj.out; omega
          · have e1 : nn (D i j) = D i j := by unfold nn; rw [if_neg hfar]
            have HM2 := hid (MAT.out.congr (fun a c _ _ => partN_same e1 a c))
            have hf2 : ¬ 1048576 ≤ D i j := hfar
            clear e1 hset hblk hBg hne cg hfar
            go_wp2
            go_roundg (gk - 1)
            case rel => exact ⟨j + 1, by have := Hj.out; omega, by go_num, HM2.out, CI.out, E.out⟩
            case measure => have := Hj.out; omega
        · have ej : j = N := by omega
          have hM := MAT.out
          rw [ej] at hM
          have HM2 := hid (hM.congr (fun a c _ hc => partN_row a c hc))
          clear hM ej
          go_wp2
          go_roundg (N - (i + 1))
          case rel => exact ⟨i + 1, by omega, by go_num, HM2.out, E.out⟩
          case measure => have := Hi.out; omega
    · have ei : i = N := by omega
      have hM := MAT.out
      rw [ei] at hM
      have HM2 := hid (hM.congr (D' := fun i j => nn (fw (costTo rs) N i j)) (fun a c ha _ => by rw [partN_end a c ha, HD.out]))
      clear hM ei
      go_wp2
      go_ret2
      exact ⟨_, rfl, HM2.out, E.out⟩

end Go.Proofs.YteiamhapplnlaabGreatDoor
