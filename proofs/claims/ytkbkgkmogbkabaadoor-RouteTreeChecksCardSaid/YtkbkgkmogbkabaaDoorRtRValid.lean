/-
  Contract of the reference's Valid.
-/
import Derived.Test.YtkbkgkmogbkabaaDoorRtValid
namespace Go.Proofs.YtkbkgkmogbkabaaDoor
open Go.RowKit

theorem roadOk_iff {n : Int} {r : RoadD} : roadOk n r = true ↔ 0 ≤ r.a ∧ r.a < n ∧ 0 ≤ r.b ∧ r.b < n ∧ r.a ≠ r.b ∧ 1 ≤ r.cost ∧ r.cost ≤ 50 := by unfold roadOk; exact decide_eq_true_iff

set_option maxRecDepth 20000 in
set_option maxHeartbeats 4000000 in
theorem RValid_any (vr : Value) (m : MapD) (w : World) (hm : MapR w vr m) :
    Calls Tryd.prog 14 #[.agg #[.int .i64 m.n, vr]] w fun e w' => e = .returned (.bool (mapOk m)) ∧ Ext w w' := by
  obtain ⟨ao, cap, rfl⟩ := hm.shape
  have HM := hid hm
  have hlen : m.roads.length ≤ 5864062014805 := hm.1
  clear hm
  by_cases hb : 1 ≤ m.n ∧ m.n ≤ 8 ∧ m.roads.length ≤ 16
  · have He := hid (mapOk_any m hb)
    obtain ⟨h1, h2, h3⟩ := hb
    have HB := hid (Box2.alloc w 24 (.int .i64 m.n) (.slice ao m.roads.length cap))
    have n1 : ¬ m.n < 1 := by omega
    have n2 : ¬ 8 < m.n := by omega
    have n3 : ¬ (16 : Int) < m.roads.length := by omega
    have hE := Ext.ofAlloc w (.cells #[.int .i64 m.n, .slice ao m.roads.length cap] 24)
    go_enter Tryd.func14, Tryd.ntmps14
    go_wp2
    generalize w.alloc (.cells #[.int .i64 m.n, .slice ao m.roads.length cap] 24) = W at *
    have HE := hid hE
    clear hE
    go_loopg [22] m.roads.length (fun g i wr => ∃ k : Nat, k + g = m.roads.length ∧ i = .int .i64 k ∧ Hid ((m.roads.take k).any (fun x => !roadOk m.n x) = false) ∧ Hid (Ext W wr))
    case atStart => exact ⟨0, by omega, rfl, rfl, Ext.refl _⟩
    case round =>
      obtain ⟨k, hk, rfl, Hno, E⟩ := hrel
      have hkl : k ≤ m.roads.length := by omega
      have Hk := hid hk
      clear hk
      by_cases hlt : k < m.roads.length
      · obtain ⟨b, off, rfl, -, hcc⟩ := Roads.get HM.out k hlt
        obtain ⟨c0, c1, c2⟩ := hcc _ (HE.out.trans E.out)
        have Hs : Hid ((m.roads.take (k + 1)).any (fun x => !roadOk m.n x) = !roadOk m.n (roadAt m.roads k)) := by
          show _ = _
          rw [List.take_succ_eq_append_getElem hlt, List.any_append, Hno.out, roadAt_get hlt]; simp
        have Hme := hid (roadAt_mem hlt)
        clear hcc
        generalize roadAt m.roads k = r at *
        have E1 := hid (E.out.alloc (.cells #[.int .i64 r.a, .int .i64 r.b, .int .i64 r.cost] 51))
        obtain ⟨d0, -⟩ := (HB.out.ext E1.out).cells
        cases hok : roadOk m.n r
        · have Hy : Hid (mapOk m = false) := by
            have h : m.roads.any (fun x => !roadOk m.n x) = true := List.any_eq_true.2 ⟨r, Hme.out, by rw [hok]; rfl⟩
            have := He.out; rw [h] at this; exact this
          have hnot : ¬ (0 ≤ r.a ∧ r.a < m.n ∧ 0 ≤ r.b ∧ r.b < m.n ∧ r.a ≠ r.b ∧ 1 ≤ r.cost ∧ r.cost ≤ 50) := by rw [← roadOk_iff, hok]; simp
          have Hnot := hid hnot
          clear hnot hok
          by_cases x0 : r.a < 0
          · go_wp2
            go_ret
            exact ⟨ret_bool Hy.out.symm, HE.out.trans E1.out⟩
          by_cases x1 : m.n ≤ r.a
          · go_wp2
            go_ret
            exact ⟨ret_bool Hy.out.symm, HE.out.trans E1.out⟩
          by_cases x2 : r.b < 0
          · go_wp2
            go_ret
            exact ⟨ret_bool Hy.out.symm, HE.out.trans E1.out⟩
          by_cases x3 : m.n ≤ r.b
          · go_wp2
            go_ret
            exact ⟨ret_bool Hy.out.symm, HE.out.trans E1.out⟩
          by_cases x4 : r.a = r.b
          · have x5b : (r.a == r.b) = true := beq_iff_eq.2 x4
            clear x4
            go_wp2
            go_ret
            exact ⟨ret_bool Hy.out.symm, HE.out.trans E1.out⟩
          have x4b : (r.a == r.b) = false := beq_eq_false_iff_ne.2 x4
          by_cases x5 : r.cost < 1
          · go_wp2
            go_ret
            exact ⟨ret_bool Hy.out.symm, HE.out.trans E1.out⟩
          by_cases x6 : 50 < r.cost
          · go_wp2
            go_ret
            exact ⟨ret_bool Hy.out.symm, HE.out.trans E1.out⟩
          exact absurd ⟨by omega, by omega, by omega, by omega, by omega, by omega, by omega⟩ Hnot.out
        · obtain ⟨p1, p2, p3, p4, p5, p6, p7⟩ := roadOk_iff.1 hok
          have q1 : ¬ r.a < 0 := by omega
          have q2 : ¬ m.n ≤ r.a := by omega
          have q3 : ¬ r.b < 0 := by omega
          have q4 : ¬ m.n ≤ r.b := by omega
          have q6 : ¬ r.cost < 1 := by omega
          have q7 : ¬ 50 < r.cost := by omega
          rw [hok] at Hs
          clear hok
          go_wp2
          go_roundg (gk - 1)
          case rel => exact ⟨k + 1, by have := Hk.out; omega, by go_num, Hs, E1⟩
          case measure => have := Hk.out; omega
      · have Hy : Hid (mapOk m = true) := by
          have h := Hno.out
          rw [List.take_of_length_le (by omega)] at h
          have := He.out; rw [h] at this; exact this
        go_wp2
        go_ret
        exact ⟨ret_bool Hy.out.symm, HE.out.trans E.out⟩
  · have He := hid (mapOk_no m hb)
    go_enter Tryd.func14, Tryd.ntmps14
    by_cases h1 : m.n < 1
    · clear hb
      go_wp2
      go_ret
      exact ⟨ret_bool He.out.symm, Ext.ofAlloc _ _⟩
    · by_cases h2 : 8 < m.n
      · clear hb
        go_wp2
        go_ret
        exact ⟨ret_bool He.out.symm, Ext.ofAlloc _ _⟩
      · have h3 : (16 : Int) < m.roads.length := by omega
        clear hb
        go_wp2
        go_ret
        exact ⟨ret_bool He.out.symm, Ext.ofAlloc _ _⟩

/-- A copy is as valid as the map. -/
theorem mapOk_cut (m : MapD) : mapOk (cutM m) = mapOk m := by
  by_cases h : m.roads.length ≤ 18
  · have e : cutM m = m := by unfold cutM; rw [List.take_of_length_le h]
    rw [e]
  · rw [mapOk_no m (fun x => by omega), mapOk_no (cutM m) (fun x => by have := x.2.2; unfold cutM at this; rw [List.length_take] at this; omega)]
theorem cutM_id {m : MapD} (h : mapOk m = true) : cutM m = m := by
  unfold mapOk at h
  rw [Bool.and_eq_true, decide_eq_true_iff] at h
  unfold cutM; rw [List.take_of_length_le (by omega)]

end Go.Proofs.YtkbkgkmogbkabaaDoor
