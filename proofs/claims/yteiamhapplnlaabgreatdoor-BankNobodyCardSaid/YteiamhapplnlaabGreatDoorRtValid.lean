/-
  Contracts of valid, of the program and of the reference.
-/
import Derived.Test.YteiamhapplnlaabGreatDoorRtOf
import Derived.Laws.EntriesVeiled
namespace Go.Proofs.YteiamhapplnlaabGreatDoor
open Go.RowKit

/-- A road of a map of n stops. -/
def roadOk (n : Int) (r : RoadD) : Bool := decide (0 ≤ r.a ∧ r.a < n ∧ 0 ≤ r.b ∧ r.b < n ∧ r.a ≠ r.b ∧ 1 ≤ r.cost ∧ r.cost ≤ 50)
/-- A map is valid. -/
def mapOk (m : MapD) : Bool := decide (1 ≤ m.n ∧ m.n ≤ 8 ∧ m.roads.length ≤ 16) && m.roads.all (roadOk m.n)

set_option maxRecDepth 20000 in
set_option maxHeartbeats 2000000 in
theorem valid1_any (bm : Nat) (n : Int) (r : RoadD) (w : World) (hc : w.cell? ⟨bm, 0, none⟩ = some (.int .i64 n)) :
    Calls Tryz.prog 65 #[r.val, .pointer (some ⟨bm, 0, none⟩)] w fun e w' => e = .returned (.bool (!roadOk n r)) ∧ Ext w w' := by
  have c0 := (Ext.ofAlloc w (.cells #[.int .i64 r.a, .int .i64 r.b, .int .i64 r.cost] 64)).cell hc
  clear hc
  unfold RoadD.val
  go_enter Tryz.func65, Tryz.ntmps65
  go_wp2
  all_goals
    go_ret
    refine ⟨ret_bool ?_, Ext.ofAlloc _ _⟩
    unfold roadOk
    rw [Bool.eq_iff_iff]
    simp only [Bool.or_eq_true, Bool.not_eq_true', decide_eq_true_iff, decide_eq_false_iff_not, beq_iff_eq, true_iff]
    omega

set_option maxHeartbeats 1000000 in
theorem IndexFuncR_any (bm : Nat) (n : Int) (v : Value) (L : List RoadD) (w : World) (hv : Roads w v L) (hc : w.cell? ⟨bm, 0, none⟩ = some (.int .i64 n)) :
    Calls Tryz.prog 105 #[v, .func (.func 65) #[] #[.pointer (some ⟨bm, 0, none⟩)]] w fun e w' => ∃ r : Int, e = .returned (.int .i64 r) ∧ decide (0 ≤ r) = L.any (fun x => !roadOk n x) ∧ Ext w w' := by
  obtain ⟨ao, cp, rfl⟩ := hv.shape
  have HV := hid hv
  have hl := hv.1
  have HCm := hid hc
  clear hv hc
  go_enter Tryz.func105, Tryz.ntmps105
  go_wp2
  go_loopg [8] L.length (fun g i wr => ∃ k : Nat, k + g = L.length ∧ i = .int .i64 k ∧ Hid ((L.take k).any (fun x => !roadOk n x) = false) ∧ Hid (Ext w wr))
  case atStart => exact ⟨0, by omega, rfl, rfl, Ext.refl _⟩
  case round =>
    obtain ⟨k, hk, rfl, Hno, E⟩ := hrel
    have hkl : k ≤ L.length := by omega
    have Hk := hid hk
    clear hk
    by_cases hlt : k < L.length
    · obtain ⟨b, off, rfl, -, hcc⟩ := Roads.get HV.out k hlt
      obtain ⟨c0, c1, c2⟩ := hcc _ E.out
      have Hs : Hid ((L.take (k + 1)).any (fun x => !roadOk n x) = !roadOk n (roadAt L k)) := by
        show _ = _
        rw [List.take_succ_eq_append_getElem hlt, List.any_append, Hno.out, roadAt_get hlt]; simp
      have Hme := hid (roadAt_mem hlt)
      clear hcc
      generalize roadAt L k = r at *
      go_wp2_with (fail)
      refine (valid1_any bm n r _ (E.out.cell HCm.out)).mono ?_
      cases hb : roadOk n r
      · rintro e w1 ⟨rfl, he⟩
        have HE := hid (E.out.trans he)
        have Hy : Hid (L.any (fun x => !roadOk n x) = true) := List.any_eq_true.2 ⟨r, Hme.out, by rw [hb]; rfl⟩
        clear he c0 c1 c2 hb
        go_wp2
        go_ret
        exact ⟨_, rfl, by rw [Hy.out, decide_eq_true_iff]; omega, HE.out⟩
      · rintro e w1 ⟨rfl, he⟩
        have HE := hid (E.out.trans he)
        rw [hb] at Hs
        clear he c0 c1 c2
        go_wp2
        go_roundg (gk - 1)
        case rel => exact ⟨k + 1, by have := Hk.out; omega, by go_num, Hs, HE⟩
        case measure => have := Hk.out; omega
    · have Hy : Hid (L.any (fun x => !roadOk n x) = false) := by have := Hno.out; rwa [List.take_of_length_le (by omega)] at this
      go_wp2
      go_ret
      exact ⟨_, rfl, by rw [Hy.out]; rfl, E.out⟩

set_option maxHeartbeats 1000000 in
theorem ContainsFuncR_any (bm : Nat) (n : Int) (v : Value) (L : List RoadD) (w : World) (hv : Roads w v L) (hc : w.cell? ⟨bm, 0, none⟩ = some (.int .i64 n)) :
    Calls Tryz.prog 64 #[v, .func (.func 65) #[] #[.pointer (some ⟨bm, 0, none⟩)]] w fun e w' => e = .returned (.bool (L.any (fun x => !roadOk n x))) ∧ Ext w w' := by
  obtain ⟨ao, cp, rfl⟩ := hv.shape
  have HV := hid hv
  have HC := hid hc
  clear hv hc
  go_enter Tryz.func64, Tryz.ntmps64
  go_wp2_with (fail)
  refine (IndexFuncR_any bm n _ L _ HV.out HC.out).mono ?_
  rintro e w1 ⟨r, rfl, hr, he⟩
  have HE := hid he
  have Hr := hid hr
  clear he hr
  go_wp2
  go_ret
  exact ⟨ret_bool Hr.out, HE.out⟩

theorem mapOk_any (m : MapD) (h : 1 ≤ m.n ∧ m.n ≤ 8 ∧ m.roads.length ≤ 16) : mapOk m = !m.roads.any (fun x => !roadOk m.n x) := by
  unfold mapOk
  rw [decide_eq_true h, Bool.true_and]
  cases e : m.roads.all (roadOk m.n)
  · have : m.roads.any (fun x => !roadOk m.n x) = true := by
      rw [List.any_eq_true]
      rw [List.all_eq_false] at e
      obtain ⟨x, hx, hb⟩ := e
      exact ⟨x, hx, by simp at hb; simp [hb]⟩
    rw [this]; rfl
  · have : m.roads.any (fun x => !roadOk m.n x) = false := by
      rw [List.any_eq_false]
      rw [List.all_eq_true] at e
      intro x hx; simp [e x hx]
    rw [this]; rfl
theorem mapOk_no (m : MapD) (h : ¬ (1 ≤ m.n ∧ m.n ≤ 8 ∧ m.roads.length ≤ 16)) : mapOk m = false := by
  unfold mapOk; rw [decide_eq_false h]; rfl

set_option maxRecDepth 20000 in
set_option maxHeartbeats 2000000 in
theorem valid_any (vr : Value) (m : MapD) (w : World) (hm : MapR w vr m) :
    Calls Tryz.prog 37 #[.agg #[.int .i64 m.n, vr]] w fun e w' => e = .returned (.bool (mapOk m)) ∧ Ext w w' := by
  obtain ⟨ao, cap, rfl⟩ := hm.shape
  have HM := hid hm
  have hlen : m.roads.length ≤ 5864062014805 := hm.1
  have hmf : ∀ (fn : Fn) (first cap : Array Value) (w : World), (Instr.makeFunc fn first cap).run Tryz.prog w = .ok (.func fn first cap) w := fun _ _ _ _ => rfl
  clear hm
  by_cases hb : 1 ≤ m.n ∧ m.n ≤ 8 ∧ m.roads.length ≤ 16
  · have He := hid (mapOk_any m hb)
    obtain ⟨h1, h2, h3⟩ := hb
    have c0 := (Box2.alloc w 39 (.int .i64 m.n) (.slice ao m.roads.length cap)).cells.1
    have n1 : ¬ m.n < 1 := by omega
    have n2 : ¬ 8 < m.n := by omega
    have n3 : ¬ (16 : Int) < m.roads.length := by omega
    go_enter Tryz.func37, Tryz.ntmps37
    go_wp2_with (fail)
    refine (ContainsFuncR_any _ m.n _ m.roads _ (Roads.ext HM.out (Ext.ofAlloc _ _)) c0).mono ?_
    obtain ⟨B, hB⟩ : ∃ B, B = m.roads.any (fun x => !roadOk m.n x) := ⟨_, rfl⟩
    rw [← hB]
    have HB := hid hB
    clear hB
    rintro e w1 ⟨rfl, he⟩
    have HE := hid ((Ext.ofAlloc w _).trans he)
    clear he
    go_wp2
    go_ret
    exact ⟨ret_bool (by rw [He.out, HB.out]), HE.out⟩
  · have He := hid (mapOk_no m hb)
    go_enter Tryz.func37, Tryz.ntmps37
    by_cases h1 : m.n < 1
    · clear hb
      go_wp2
      go_ret
      exact ⟨ret_bool He.out.symm, Ext.ofAlloc _ _⟩
    · by_cases h2 : 8 < m.n
      · clear hb
        go_wp2
        go_ret
        exact ⟨ret_bool He.out.symm, Ext.ofAlloc _ _⟩
      · have h3 : (16 : Int) < m.roads.length := by omega
        clear hb
        go_wp2
        go_ret
        exact ⟨ret_bool He.out.symm, Ext.ofAlloc _ _⟩

end Go.Proofs.YteiamhapplnlaabGreatDoor
