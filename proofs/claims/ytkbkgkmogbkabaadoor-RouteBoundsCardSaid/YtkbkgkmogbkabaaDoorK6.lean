/-
  Texts of this claim, part 6: RtValid, RtRValid, RtMat.
-/
import Derived.Laws.EntriesVeiled
import Derived.Test.YtkbkgkmogbkabaaDoorK5
/-
  Contracts of valid, of the program and of the reference.
-/
namespace Go.Proofs.YtkbkgkmogbkabaaDoor
open Go.RowKit

/-- A road of a map of n stops. -/
def roadOk (n : Int) (r : RoadD) : Bool := decide (0 ≤ r.a ∧ r.a < n ∧ 0 ≤ r.b ∧ r.b < n ∧ r.a ≠ r.b ∧ 1 ≤ r.cost ∧ r.cost ≤ 50)
/-- A map is valid. -/
def mapOk (m : MapD) : Bool := decide (1 ≤ m.n ∧ m.n ≤ 8 ∧ m.roads.length ≤ 16) && m.roads.all (roadOk m.n)

set_option maxRecDepth 20000 in
set_option maxHeartbeats 2000000 in
theorem valid1_any (bm : Nat) (n : Int) (r : RoadD) (w : World) (hc : w.cell? ⟨bm, 0, none⟩ = some (.int .i64 n)) :
    Calls Tryd.prog 51 #[r.val, .pointer (some ⟨bm, 0, none⟩)] w fun e w' => e = .returned (.bool (!roadOk n r)) ∧ Ext w w' := by
  have c0 := (Ext.ofAlloc w (.cells #[.int .i64 r.a, .int .i64 r.b, .int .i64 r.cost] 55)).cell hc
  clear hc
  unfold RoadD.val
  go_enter Tryd.func51, Tryd.ntmps51
  go_wp2
  all_goals
    go_ret
    refine ⟨ret_bool ?_, Ext.ofAlloc _ _⟩
    unfold roadOk
    rw [Bool.eq_iff_iff]
    simp only [Bool.or_eq_true, Bool.not_eq_true', decide_eq_true_iff, decide_eq_false_iff_not, beq_iff_eq, true_iff]
    omega

set_option maxHeartbeats 1000000 in
theorem IndexFuncR_any (bm : Nat) (n : Int) (v : Value) (L : List RoadD) (w : World) (hv : Roads w v L) (hc : w.cell? ⟨bm, 0, none⟩ = some (.int .i64 n)) :
    Calls Tryd.prog 63 #[v, .func (.func 51) #[] #[.pointer (some ⟨bm, 0, none⟩)]] w fun e w' => ∃ r : Int, e = .returned (.int .i64 r) ∧ decide (0 ≤ r) = L.any (fun x => !roadOk n x) ∧ Ext w w' := by
  obtain ⟨ao, cp, rfl⟩ := hv.shape
  have HV := hid hv
  have hl := hv.1
  have HCm := hid hc
  clear hv hc
  go_enter Tryd.func63, Tryd.ntmps63
  go_wp2
  go_loopg [8] L.length (fun g i wr => ∃ k : Nat, k + g = L.length ∧ i = .int .i64 k ∧ Hid ((L.take k).any (fun x => !roadOk n x) = false) ∧ Hid (Ext w wr))
  case atStart => exact ⟨0, by omega, rfl, rfl, Ext.refl _⟩
  case round =>
    obtain ⟨k, hk, rfl, Hno, E⟩ := hrel
    have hkl : k ≤ L.length := by omega
    have Hk := hid hk
    clear hk
    by_cases hlt : k < L.length
    · obtain ⟨b, off, rfl, -, hcc⟩ := Roads.get HV.out k hlt
      obtain ⟨c0, c1, c2⟩ := hcc _ E.out
      have Hs : Hid ((L.take (k + 1)).any (fun x => !roadOk n x) = !roadOk n (roadAt L k)) := by
        show _ = _
        rw [List.take_succ_eq_append_getElem hlt, List.any_append, Hno.out, roadAt_get hlt]; simp
      have Hme := hid (roadAt_mem hlt)
      clear hcc
      generalize roadAt L k = r at *
      go_wp2_with (fail)
      refine (valid1_any bm n r _ (E.out.cell HCm.out)).mono ?_
      cases hb : roadOk n r
      · rintro e w1 ⟨rfl, he⟩
        have HE := hid (E.out.trans he)
        have Hy : Hid (L.any (fun x => !roadOk n x) = true) := List.any_eq_true.2 ⟨r, Hme.out, by rw [hb]; rfl⟩
        clear he c0 c1 c2 hb
        go_wp2
        go_ret
        exact ⟨_, rfl, by rw [Hy.out, decide_eq_true_iff]; omega, HE.out⟩
      · rintro e w1 ⟨rfl, he⟩
        have HE := hid (E.out.trans he)
        rw [hb] at Hs
        clear he c0 c1 c2
        go_wp2
        go_roundg (gk - 1)
        case rel => exact ⟨k + 1, by have := Hk.out; omega, by go_num, Hs, HE⟩
        case measure => have := Hk.out; omega
    · have Hy : Hid (L.any (fun x => !roadOk n x) = false) := by have := Hno.out; rwa [List.take_of_length_le (by omega)] at this
      go_wp2
      go_ret
      exact ⟨_, rfl, by rw [Hy.out]; rfl, E.out⟩

set_option maxHeartbeats 1000000 in
theorem ContainsFuncR_any (bm : Nat) (n : Int) (v : Value) (L : List RoadD) (w : World) (hv : Roads w v L) (hc : w.cell? ⟨bm, 0, none⟩ = some (.int .i64 n)) :
    Calls Tryd.prog 50 #[v, .func (.func 51) #[] #[.pointer (some ⟨bm, 0, none⟩)]] w fun e w' => e = .returned (.bool (L.any (fun x => !roadOk n x))) ∧ Ext w w' := by
  obtain ⟨ao, cp, rfl⟩ := hv.shape
  have HV := hid hv
  have HC := hid hc
  clear hv hc
  go_enter Tryd.func50, Tryd.ntmps50
  go_wp2_with (fail)
  refine (IndexFuncR_any bm n _ L _ HV.out HC.out).mono ?_
  rintro e w1 ⟨r, rfl, hr, he⟩
  have HE := hid he
  have Hr := hid hr
  clear he hr
  go_wp2
  go_ret
  exact ⟨ret_bool Hr.out, HE.out⟩

theorem mapOk_any (m : MapD) (h : 1 ≤ m.n ∧ m.n ≤ 8 ∧ m.roads.length ≤ 16) : mapOk m = !m.roads.any (fun x => !roadOk m.n x) := by
  unfold mapOk
  rw [decide_eq_true h, Bool.true_and]
  cases e : m.roads.all (roadOk m.n)
  · have : m.roads.any (fun x => !roadOk m.n x) = true := by
      rw [List.any_eq_true]
      rw [List.all_eq_false] at e
      obtain ⟨x, hx, hb⟩ := e
      exact ⟨x, hx, by simp at hb; simp [hb]⟩
    rw [this]; rfl
  · have : m.roads.any (fun x => !roadOk m.n x) = false := by
      rw [List.any_eq_false]
      rw [List.all_eq_true] at e
      intro x hx; simp [e x hx]
    rw [this]; rfl
theorem mapOk_no (m : MapD) (h : ¬ (1 ≤ m.n ∧ m.n ≤ 8 ∧ m.roads.length ≤ 16)) : mapOk m = false := by
  unfold mapOk; rw [decide_eq_false h]; rfl

set_option maxRecDepth 20000 in
set_option maxHeartbeats 2000000 in
theorem valid_any (vr : Value) (m : MapD) (w : World) (hm : MapR w vr m) :
    Calls Tryd.prog 29 #[.agg #[.int .i64 m.n, vr]] w fun e w' => e = .returned (.bool (mapOk m)) ∧ Ext w w' := by
  obtain ⟨ao, cap, rfl⟩ := hm.shape
  have HM := hid hm
  have hlen : m.roads.length ≤ 5864062014805 := hm.1
  have hmf : ∀ (fn : Fn) (first cap : Array Value) (w : World), (Instr.makeFunc fn first cap).run Tryd.prog w = .ok (.func fn first cap) w := fun _ _ _ _ => rfl
  clear hm
  by_cases hb : 1 ≤ m.n ∧ m.n ≤ 8 ∧ m.roads.length ≤ 16
  · have He := hid (mapOk_any m hb)
    obtain ⟨h1, h2, h3⟩ := hb
    have c0 := (Box2.alloc w 31 (.int .i64 m.n) (.slice ao m.roads.length cap)).cells.1
    have n1 : ¬ m.n < 1 := by omega
    have n2 : ¬ 8 < m.n := by omega
    have n3 : ¬ (16 : Int) < m.roads.length := by omega
    go_enter Tryd.func29, Tryd.ntmps29
    go_wp2_with (fail)
    refine (ContainsFuncR_any _ m.n _ m.roads _ (Roads.ext HM.out (Ext.ofAlloc _ _)) c0).mono ?_
    obtain ⟨B, hB⟩ : ∃ B, B = m.roads.any (fun x => !roadOk m.n x) := ⟨_, rfl⟩
    rw [← hB]
    have HB := hid hB
    clear hB
    rintro e w1 ⟨rfl, he⟩
    have HE := hid ((Ext.ofAlloc w _).trans he)
    clear he
    go_wp2
    go_ret
    exact ⟨ret_bool (by rw [He.out, HB.out]), HE.out⟩
  · have He := hid (mapOk_no m hb)
    go_enter Tryd.func29, Tryd.ntmps29
    by_cases h1 : m.n < 1
    · clear hb
      go_wp2
      go_ret
      exact ⟨ret_bool He.out.symm, Ext.ofAlloc _ _⟩
    · by_cases h2 : 8 < m.n
      · clear hb
        go_wp2
        go_ret
        exact ⟨ret_bool He.out.symm, Ext.ofAlloc _ _⟩
      · have h3 : (16 : Int) < m.roads.length := by omega
        clear hb
        go_wp2
        go_ret
        exact ⟨ret_bool He.out.symm, Ext.ofAlloc _ _⟩

end Go.Proofs.YtkbkgkmogbkabaaDoor

/-
  Contract of the reference's Valid.
-/
namespace Go.Proofs.YtkbkgkmogbkabaaDoor
open Go.RowKit

theorem roadOk_iff {n : Int} {r : RoadD} : roadOk n r = true ↔ 0 ≤ r.a ∧ r.a < n ∧ 0 ≤ r.b ∧ r.b < n ∧ r.a ≠ r.b ∧ 1 ≤ r.cost ∧ r.cost ≤ 50 := by unfold roadOk; exact decide_eq_true_iff

set_option maxRecDepth 20000 in
set_option maxHeartbeats 4000000 in
theorem RValid_any (vr : Value) (m : MapD) (w : World) (hm : MapR w vr m) :
    Calls Tryd.prog 14 #[.agg #[.int .i64 m.n, vr]] w fun e w' => e = .returned (.bool (mapOk m)) ∧ Ext w w' := by
  obtain ⟨ao, cap, rfl⟩ := hm.shape
  have HM := hid hm
  have hlen : m.roads.length ≤ 5864062014805 := hm.1
  clear hm
  by_cases hb : 1 ≤ m.n ∧ m.n ≤ 8 ∧ m.roads.length ≤ 16
  · have He := hid (mapOk_any m hb)
    obtain ⟨h1, h2, h3⟩ := hb
    have HB := hid (Box2.alloc w 24 (.int .i64 m.n) (.slice ao m.roads.length cap))
    have n1 : ¬ m.n < 1 := by omega
    have n2 : ¬ 8 < m.n := by omega
    have n3 : ¬ (16 : Int) < m.roads.length := by omega
    have hE := Ext.ofAlloc w (.cells #[.int .i64 m.n, .slice ao m.roads.length cap] 24)
    go_enter Tryd.func14, Tryd.ntmps14
    go_wp2
    generalize w.alloc (.cells #[.int .i64 m.n, .slice ao m.roads.length cap] 24) = W at *
    have HE := hid hE
    clear hE
    go_loopg [22] m.roads.length (fun g i wr => ∃ k : Nat, k + g = m.roads.length ∧ i = .int .i64 k ∧ Hid ((m.roads.take k).any (fun x => !roadOk m.n x) = false) ∧ Hid (Ext W wr))
    case atStart => exact ⟨0, by omega, rfl, rfl, Ext.refl _⟩
    case round =>
      obtain ⟨k, hk, rfl, Hno, E⟩ := hrel
      have hkl : k ≤ m.roads.length := by omega
      have Hk := hid hk
      clear hk
      by_cases hlt : k < m.roads.length
      · obtain ⟨b, off, rfl, -, hcc⟩ := Roads.get HM.out k hlt
        obtain ⟨c0, c1, c2⟩ := hcc _ (HE.out.trans E.out)
        have Hs : Hid ((m.roads.take (k + 1)).any (fun x => !roadOk m.n x) = !roadOk m.n (roadAt m.roads k)) := by
          show _ = _
          rw [List.take_succ_eq_append_getElem hlt, List.any_append, Hno.out, roadAt_get hlt]; simp
        have Hme := hid (roadAt_mem hlt)
        clear hcc
        generalize roadAt m.roads k = r at *
        have E1 := hid (E.out.alloc (.cells #[.int .i64 r.a, .int .i64 r.b, .int .i64 r.cost] 51))
        obtain ⟨d0, -⟩ := (HB.out.ext E1.out).cells
        cases hok : roadOk m.n r
        · have Hy : Hid (mapOk m = false) := by
            have h : m.roads.any (fun x => !roadOk m.n x) = true := List.any_eq_true.2 ⟨r, Hme.out, by rw [hok]; rfl⟩
            have := He.out; rw [h] at this; exact this
          have hnot : ¬ (0 ≤ r.a ∧ r.a < m.n ∧ 0 ≤ r.b ∧ r.b < m.n ∧ r.a ≠ r.b ∧ 1 ≤ r.cost ∧ r.cost ≤ 50) := by rw [← roadOk_iff, hok]; simp
          have Hnot := hid hnot
          clear hnot hok
          by_cases x0 : r.a < 0
          · go_wp2
            go_ret
            exact ⟨ret_bool Hy.out.symm, HE.out.trans E1.out⟩
          by_cases x1 : m.n ≤ r.a
          · go_wp2
            go_ret
            exact ⟨ret_bool Hy.out.symm, HE.out.trans E1.out⟩
          by_cases x2 : r.b < 0
          · go_wp2
            go_ret
            exact ⟨ret_bool Hy.out.symm, HE.out.trans E1.out⟩
          by_cases x3 : m.n ≤ r.b
          · go_wp2
            go_ret
            exact ⟨ret_bool Hy.out.symm, HE.out.trans E1.out⟩
          by_cases x4 : r.a = r.b
          · have x5b : (r.a == r.b) = true := beq_iff_eq.2 x4
            clear x4
            go_wp2
            go_ret
            exact ⟨ret_bool Hy.out.symm, HE.out.trans E1.out⟩
          have x4b : (r.a == r.b) = false := beq_eq_false_iff_ne.2 x4
          by_cases x5 : r.cost < 1
          · go_wp2
            go_ret
            exact ⟨ret_bool Hy.out.symm, HE.out.trans E1.out⟩
          by_cases x6 : 50 < r.cost
          · go_wp2
            go_ret
            exact ⟨ret_bool Hy.out.symm, HE.out.trans E1.out⟩
          exact absurd ⟨by omega, by omega, by omega, by omega, by omega, by omega, by omega⟩ Hnot.out
        · obtain ⟨p1, p2, p3, p4, p5, p6, p7⟩ := roadOk_iff.1 hok
          have q1 : ¬ r.a < 0 := by omega
          have q2 : ¬ m.n ≤ r.a := by omega
          have q3 : ¬ r.b < 0 := by omega
          have q4 : ¬ m.n ≤ r.b := by omega
          have q6 : ¬ r.cost < 1 := by omega
          have q7 : ¬ 50 < r.cost := by omega
          rw [hok] at Hs
          clear hok
          go_wp2
          go_roundg (gk - 1)
          case rel => exact ⟨k + 1, by have := Hk.out; omega, by go_num, Hs, E1⟩
          case measure => have := Hk.out; omega
      · have Hy : Hid (mapOk m = true) := by
          have h := Hno.out
          rw [List.take_of_length_le (by omega)] at h
          have := He.out; rw [h] at this; exact this
        go_wp2
        go_ret
        exact ⟨ret_bool Hy.out.symm, HE.out.trans E.out⟩
  · have He := hid (mapOk_no m hb)
    go_enter Tryd.func14, Tryd.ntmps14
    by_cases h1 : m.n < 1
    · clear hb
      go_wp2
      go_ret
      exact ⟨ret_bool He.out.symm, Ext.ofAlloc _ _⟩
    · by_cases h2 : 8 < m.n
      · clear hb
        go_wp2
        go_ret
        exact ⟨ret_bool He.out.symm, Ext.ofAlloc _ _⟩
      · have h3 : (16 : Int) < m.roads.length := by omega
        clear hb
        go_wp2
        go_ret
        exact ⟨ret_bool He.out.symm, Ext.ofAlloc _ _⟩

/-- A copy is as valid as the map. -/
theorem mapOk_cut (m : MapD) : mapOk (cutM m) = mapOk m := by
  by_cases h : m.roads.length ≤ 18
  · have e : cutM m = m := by unfold cutM; rw [List.take_of_length_le h]
    rw [e]
  · rw [mapOk_no m (fun x => by omega), mapOk_no (cutM m) (fun x => by have := x.2.2; unfold cutM at this; rw [List.length_take] at this; omega)]
theorem cutM_id {m : MapD} (h : mapOk m = true) : cutM m = m := by
  unfold mapOk at h
  rw [Bool.and_eq_true, decide_eq_true_iff] at h
  unfold cutM; rw [List.take_of_length_le (by omega)]

end Go.Proofs.YtkbkgkmogbkabaaDoor

/-
  A table of the call's own: rows of its own, each a block of ints.
-/
namespace Go.Proofs.YtkbkgkmogbkabaaDoor
open Go.RowKit

/-- The first n values of a function. -/
def rowL (n : Nat) (f : Nat → Int) : List Int := (List.range n).map f
theorem rowL_len (n : Nat) (f : Nat → Int) : (rowL n f).length = n := by simp [rowL]
theorem rowL_fn {n : Nat} {f : Nat → Int} {j : Nat} (h : j < n) : fn (rowL n f) j = f j := by
  rw [fn_get (by rw [rowL_len]; exact h)]; simp [rowL]
def updF (f : Nat → Int) (j : Nat) (x : Int) : Nat → Int := fun k => if k = j then x else f k
theorem rowL_set {n : Nat} {f : Nat → Int} {j : Nat} {x : Int} : (rowL n f).set j x = rowL n (updF f j x) := by
  apply List.ext_getElem
  · simp [rowL]
  · intro k h1 h2
    rw [List.getElem_set]
    simp only [rowL, List.getElem_map, List.getElem_range, updF]
    by_cases e : j = k
    · simp [e]
    · have e' : ¬ k = j := fun h => e h.symm
      simp [e, e']
theorem rowL_rep (n : Nat) (x : Int) : List.replicate n x = rowL n (fun _ => x) := by
  apply List.ext_getElem
  · simp [rowL]
  · intro k h1 h2; simp [rowL]
def updM (D : Nat → Nat → Int) (i j : Nat) (x : Int) : Nat → Nat → Int := fun a => if a = i then updF (D i) j x else D a
def rowV (n : Nat) (g : Nat) : Value := .slice (some ⟨g, 0, none⟩) n n

/-- v is a table of k rows of n numbers, D; all its blocks are of the call's own, and apart. -/
def Mat (B : Nat) (w : World) (v : Value) (k n : Nat) (D : Nat → Nat → Int) : Prop :=
  ∃ gs : List Nat, gs.length = k ∧ gs.Nodup ∧ w.ownsRow B 25 1 v k (gs.map (rowV n)) ∧ (∀ g ∈ gs, B ≤ g ∧ v.ownBlock ≠ some g) ∧ ∀ i, (h : i < gs.length) → IntBlock w gs[i] (rowL n (D i))

theorem Mat.nil (B : Nat) (w : World) (n : Nat) (D : Nat → Nat → Int) : Mat B w (.slice none 0 0) 0 n D :=
  ⟨[], rfl, List.nodup_nil, World.ownsRow_nil _ _ _ _, fun g h => by simp at h, fun i h => by simp at h⟩
theorem Mat.ext {B : Nat} {w w' : World} {v : Value} {k n : Nat} {D : Nat → Nat → Int} (h : Mat B w v k n D) (e : Ext w w') : Mat B w' v k n D := by
  obtain ⟨gs, h1, h2, h3, h4, h5⟩ := h
  exact ⟨gs, h1, h2, ownsRow_ext h3 e, h4, fun i hi => (h5 i hi).ext e⟩
theorem Mat.base {B B' : Nat} {w : World} {v : Value} {k n : Nat} {D : Nat → Nat → Int} (h : Mat B w v k n D) (hb : B' ≤ B) : Mat B' w v k n D := by
  obtain ⟨gs, h1, h2, h3, h4, h5⟩ := h
  exact ⟨gs, h1, h2, ownsRow_base h3 hb, fun g hg => ⟨Nat.le_trans hb (h4 g hg).1, (h4 g hg).2⟩, h5⟩
theorem Mat.congr {B : Nat} {w : World} {v : Value} {k n : Nat} {D D' : Nat → Nat → Int} (h : Mat B w v k n D) (e : ∀ i j, i < k → j < n → D i j = D' i j) : Mat B w v k n D' := by
  obtain ⟨gs, h1, h2, h3, h4, h5⟩ := h
  refine ⟨gs, h1, h2, h3, h4, fun i hi => ?_⟩
  have he : rowL n (D i) = rowL n (D' i) := by
    unfold rowL
    exact List.map_congr_left fun j hj => e i j (by omega) (List.mem_range.1 hj)
  rw [← he]; exact h5 i hi
theorem Mat.shape {B : Nat} {w : World} {v : Value} {k n : Nat} {D : Nat → Nat → Int} (h : Mat B w v k n D) : ∃ a c, v = .slice a k c := by
  obtain ⟨gs, -, -, ⟨-, ⟨h, h2⟩ | ⟨g, cap, cur, h, -⟩⟩, -⟩ := h
  · exact ⟨_, _, by rw [h, h2]⟩
  · exact ⟨_, _, h⟩
theorem Mat.head {B : Nat} {w : World} {v : Value} {k n : Nat} {D : Nat → Nat → Int} (h : Mat B w v k n D) (hk : 0 < k) : ∃ b c, v = .slice (some ⟨b, 0, none⟩) k c ∧ B ≤ b := by
  obtain ⟨gs, -, -, ⟨-, ⟨h, h2⟩ | ⟨g, cap, cur, h, hb, -⟩⟩, -⟩ := h
  · omega
  · exact ⟨_, _, h, hb⟩
/-- A row: where it is, and that it may be written. -/
theorem Mat.row {B : Nat} {w : World} {b c k n : Nat} {D : Nat → Nat → Int} (h : Mat B w (.slice (some ⟨b, 0, none⟩) k c) k n D) {i : Nat} (hi : i < k) :
    ∃ g, w.cell? ⟨b, i, none⟩ = some (rowV n g) ∧ IntBlock w g (rowL n (D i)) ∧ B ≤ g ∧ b ≠ g ∧
      (∀ (j : Nat) (x : Int), j < n → Mat B (w.setCell ⟨g, j, none⟩ (.int .i64 x)) (.slice (some ⟨b, 0, none⟩) k c) k n (updM D i j x)) ∧
      (∀ i2, i2 < k → i2 ≠ i → ∃ g2, g2 ≠ g ∧ w.cell? ⟨b, i2, none⟩ = some (rowV n g2) ∧ IntBlock w g2 (rowL n (D i2))) := by
  obtain ⟨gs, h1, h2, h3, h4, h5⟩ := h
  subst h1
  have cellAt : ∀ a, (ha : a < gs.length) → w.cell? ⟨b, a, none⟩ = some (rowV n gs[a]) := by
    intro a ha
    have := World.ownsRow.cells h3 rfl a (rowV n gs[a]) (by rw [List.getElem?_map, List.getElem?_eq_getElem ha]; rfl)
    rw [Addr.add_lit, Nat.zero_add] at this; exact this
  have hne : b ≠ gs[i] := fun e => (h4 gs[i] (List.getElem_mem hi)).2 (by rw [← e]; rfl)
  refine ⟨gs[i], cellAt i hi, h5 i hi, (h4 _ (List.getElem_mem hi)).1, hne, ?_, ?_⟩
  · intro j x hj
    refine ⟨gs, rfl, h2, ownsRow_setCell_other h3 (a := ⟨gs[i], j, none⟩) ?_ _, h4, fun a ha => ?_⟩
    · exact (h4 _ (List.getElem_mem hi)).2
    · by_cases e : a = i
      · subst e
        have := (h5 a ha).set j x
        rw [rowL_set] at this
        have e2 : updM D a j x a = updF (D a) j x := by unfold updM; rw [if_pos rfl]
        rw [e2]; exact this
      · have e2 : updM D i j x a = D a := by unfold updM; rw [if_neg e]
        rw [e2]
        exact (h5 a ha).other (fun h => e ((List.getElem_inj h2).1 h).symm) _ _
  · intro i2 hi2 hne2
    exact ⟨gs[i2], fun h => hne2 ((List.getElem_inj h2).1 h), cellAt i2 hi2, h5 i2 hi2⟩

theorem Mat.rows2 {B : Nat} {w : World} {v : Value} {k n : Nat} {D : Nat → Nat → Int} (h : Mat B w v k n D) (hk : k ≤ 1000) (hn : n ≤ 1000) : Rows2 w v ((List.range k).map (fun i => rowL n (D i))) := by
  obtain ⟨gs, h1, h2, h3, h4, h5⟩ := h
  subst h1
  refine ⟨by simp; omega, ?_⟩
  obtain ⟨hl, ⟨h, hz⟩ | ⟨g, cap, cur, h, -, -, hcap, -⟩⟩ := id h3
  · exact ⟨none, 0, by rw [h]; simp [hz], by rw [List.length_map, List.length_range]; omega, fun i hi => by rw [List.length_map, List.length_range] at hi; omega⟩
  · subst h
    refine ⟨some ⟨g, 0, none⟩, cap, by simp, by simpa using hcap, fun i hi => ?_⟩
    have hi' : i < gs.length := by simpa using hi
    refine ⟨g, 0, rowV n gs[i], rfl, ?_, ?_⟩
    · have := World.ownsRow.cells h3 rfl i (rowV n gs[i]) (by rw [List.getElem?_map, List.getElem?_eq_getElem hi']; rfl)
      rw [Addr.add_lit] at this; exact this
    · rw [List.getElem_map, List.getElem_range]
      exact (h5 i hi').ints (by rw [rowL_len]) (by rw [rowL_len]; omega)

/-- A row more. -/
theorem Mat.push {B : Nat} {w0 : World} {v : Value} {k n : Nat} {D : Nat → Nat → Int} (h : Mat B w0 v k n D) (hB : B ≤ w0.heap.size) :
    ∃ us : List Value, us.length = k ∧ w0.ownsRow B 25 1 v k us ∧
      ∀ (wA w' : World) (v' : Value) (g : Nat) (f : Nat → Int), Ext w0 wA → w0.heap.size ≤ g → IntBlock wA g (rowL n f) → w'.ownsRow B 25 1 v' (k + 1) (us ++ [rowV n g]) → wA.grownBy w' v.ownBlock →
        (v'.ownBlock = v.ownBlock ∨ ∃ q, v'.ownBlock = some q ∧ wA.heap.size ≤ q) → Mat B w' v' (k + 1) n (fun a => if a = k then f else D a) := by
  obtain ⟨gs, h1, h2, h3, h4, h5⟩ := h
  subst h1
  refine ⟨gs.map (rowV n), by simp, h3, fun wA w' v' g f e hg hb hown hgr hat => ?_⟩
  have hlt : ∀ x ∈ gs, x < w0.heap.size := by
    intro x hx
    obtain ⟨i, hi, rfl⟩ := List.getElem_of_mem hx
    exact (h5 i hi).lt
  have hgA : g < wA.heap.size := hb.lt
  have hvlt := h3.lt
  have hsz := e.size
  refine ⟨gs ++ [g], by simp, ?_, ?_, ?_, ?_⟩
  · rw [List.nodup_append]
    refine ⟨h2, by simp, fun a ha b hb' => ?_⟩
    simp at hb'
    subst hb'
    have := hlt a ha
    omega
  · rw [List.map_append]; exact hown
  · intro x hx
    have hx2 : B ≤ x ∧ x < wA.heap.size ∧ v.ownBlock ≠ some x := by
      rcases List.mem_append.1 hx with hx | hx
      · exact ⟨(h4 x hx).1, Nat.lt_of_lt_of_le (hlt x hx) hsz, (h4 x hx).2⟩
      · simp at hx; subst hx
        exact ⟨by omega, hgA, fun e => by have := (hvlt _ e).2; omega⟩
    refine ⟨hx2.1, fun e => ?_⟩
    rcases hat with a | ⟨q, a, hq⟩
    · rw [a] at e; exact hx2.2.2 e
    · rw [a] at e; simp at e; omega
  · intro i hi
    have keep : ∀ x L, IntBlock wA x L → v.ownBlock ≠ some x → IntBlock w' x L := by
      intro x L hx hne
      show w'.heap[x]? = _
      rw [hgr.block x hx.lt (fun e => hne e.symm)]; exact hx
    by_cases hik : i < gs.length
    · have e1 : (gs ++ [g])[i] = gs[i] := List.getElem_append_left hik
      show IntBlock w' (gs ++ [g])[i] (rowL n (if i = gs.length then f else D i))
      rw [if_neg (by omega), e1]
      exact keep _ _ ((h5 i hik).ext e) (h4 _ (List.getElem_mem hik)).2
    · have hi2 : i = gs.length := by simp at hi; omega
      subst hi2
      have e1 : (gs ++ [g])[gs.length]'hi = g := by simp
      show IntBlock w' ((gs ++ [g])[gs.length]'hi) (rowL n (if gs.length = gs.length then f else D gs.length))
      rw [if_pos rfl, e1]
      exact keep _ _ hb (fun e => by have := (hvlt _ e).2; omega)

end Go.Proofs.YtkbkgkmogbkabaaDoor
