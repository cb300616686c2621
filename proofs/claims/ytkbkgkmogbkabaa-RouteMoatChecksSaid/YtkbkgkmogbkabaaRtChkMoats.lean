/-
  Contract of CheckMoats.
-/
import Derived.Test.YtkbkgkmogbkabaaRtMoats
namespace Go.Proofs.Ytkbkgkmogbkabaa
open Go.RowKit

set_option maxRecDepth 20000 in
set_option maxHeartbeats 4000000 in
theorem CheckMoats_bad (vr vm : Value) (m : MapD) (s : Int) (ms : List MoatD) (w : World) (hm : MapR w vr m) (hmo : Moats w vm ms) (hb : mapOk m = false ∨ (mapOk m = true ∧ stopsB m.n s = false)) :
    Calls Try.prog 21 #[.agg #[.int .i64 m.n, vr], .int .i64 s, vm] w fun e w' => e = .returned (.tuple #[.int .i64 0, .bool false, .int .i64 2]) ∧ Ext w w' := by
  obtain ⟨ao, cap, rfl⟩ := hm.shape
  obtain ⟨am, cm, rfl⟩ := hmo.shape
  have HV := hid hm
  have X0 := hid (Box2.alloc w 31 (.int .i64 m.n) (.slice ao m.roads.length cap))
  clear hm hmo
  go_enter Try.func21, Try.ntmps21
  go_wp2_with (fail)
  refine (valid_any _ m _ (MapR.ext HV.out (Ext.ofAlloc _ _))).mono ?_
  rintro e w1 ⟨rfl, he⟩
  have HE := hid ((Ext.ofAlloc w _).trans he)
  obtain ⟨c0, c1⟩ := (X0.out.ext he).cells
  clear he
  rcases hb with h1 | ⟨h1, h2⟩
  · rw [h1]
    clear h1
    go_wp2
    refine bodyPost_ret (v := .tuple #[.int .i64 0, .bool false, .int .i64 2]) (by simp [results, Try.results21, go_sem]) rfl ?_
    exact ⟨rfl, HE.out⟩
  · have hok2 := h1
    unfold mapOk at hok2
    rw [Bool.and_eq_true, decide_eq_true_iff] at hok2
    obtain ⟨⟨k1, k8, -⟩, -⟩ := hok2
    rw [h1]
    clear h1
    have HS := hid h2
    clear h2
    go_wp2_with (fail)
    refine (stops_any _ m s _ (MapR.ext HV.out HE.out) (by omega) k8).mono ?_
    rw [HS.out]
    rintro e w2 ⟨rfl, he⟩
    replace HE := hid (HE.out.trans he)
    clear he c0 c1
    go_wp2
    refine bodyPost_ret (v := .tuple #[.int .i64 0, .bool false, .int .i64 2]) (by simp [results, Try.results21, go_sem]) rfl ?_
    exact ⟨rfl, HE.out⟩

set_option maxRecDepth 20000 in
set_option maxHeartbeats 4000000 in
theorem CheckMoats_ok (vr vm : Value) (N : Nat) (rs : List RoadD) (s : Int) (ms : List MoatD) (w : World) (hv : Roads w vr rs) (hmo : Moats w vm ms) (hok : mapOk ⟨N, rs⟩ = true) (hs : stopsB N s = true) :
    Calls Try.prog 21 #[.agg #[.int .i64 N, vr], .int .i64 s, vm] w fun e w' => e = .returned (.tuple #[.int .i64 (chkV N rs s ms), .bool (chkB N rs s ms), .int .i64 0]) ∧ Ext w w' := by
  obtain ⟨ao, cap, rfl⟩ := hv.shape
  have HM := hid hmo
  obtain ⟨am, cm, rfl⟩ := hmo.shape
  have HV := hid hv
  have HOk := hid hok
  have HS := hid hs
  have hok2 := hok
  unfold mapOk at hok2
  rw [Bool.and_eq_true, decide_eq_true_iff, List.all_eq_true] at hok2
  obtain ⟨⟨h1, h8, h16⟩, hall⟩ := hok2
  dsimp only at h1 h8 h16 hall
  have HAll := hid hall
  have X0 := hid (Box2.alloc w 31 (.int .i64 N) (.slice ao rs.length cap))
  clear hv hmo hok hs hall
  go_enter Try.func21, Try.ntmps21
  go_wp2_with (fail)
  refine (valid_any _ ⟨N, rs⟩ _ (Roads.ext HV.out (Ext.ofAlloc _ _))).mono ?_
  rw [HOk.out]
  rintro e w1 ⟨rfl, he⟩
  have HE := hid ((Ext.ofAlloc w _).trans he)
  obtain ⟨c0, c1⟩ := (X0.out.ext he).cells
  clear he
  go_wp2_with (fail)
  refine (stops_any _ ⟨N, rs⟩ s _ (Roads.ext HV.out HE.out) (by show (0 : Int) ≤ N; omega) (by show (N : Int) ≤ 8; omega)).mono ?_
  rw [HS.out]
  rintro e w2 ⟨rfl, he⟩
  replace HE := hid (HE.out.trans he)
  replace c0 := he.cell c0
  replace c1 := he.cell c1
  clear he
  go_wp2_with (fail)
  refine (Moats_any _ _ N rs s ms _ (Roads.ext HV.out HE.out) (Moats.ext HM.out HE.out) HAll.out (by omega)).mono ?_
  rintro e w3 ⟨rfl, he⟩
  replace HE := hid (HE.out.trans he)
  obtain ⟨cv, hcv⟩ : ∃ cv, cv = chkV N rs s ms := ⟨_, rfl⟩
  obtain ⟨cb, hcb⟩ : ∃ cb, cb = chkB N rs s ms := ⟨_, rfl⟩
  rw [← hcv, ← hcb]
  have HCV := hid hcv
  have HCB := hid hcb
  clear he c0 c1 hcv hcb
  go_wp2
  refine bodyPost_ret (v := .tuple #[.int .i64 cv, .bool cb, .int .i64 0]) (by simp [results, Try.results21, go_sem]) rfl ?_
  exact ⟨by rw [HCV.out, HCB.out], HE.out⟩

end Go.Proofs.Ytkbkgkmogbkabaa
