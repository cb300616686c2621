/-
  Contracts of turns.Plan.stable and turns.Stable.
-/
import Derived.Test.YtkdfbbkonbgfmaaTry
import Derived.Test.YtkdfbbkonbgfmaaAwake
import Derived.Laws.EntriesVeiled
namespace Go.Proofs.Ytkdfbbkonbgfmaa
open Go.RowKit

theorem try_start (w : World) (vh vs vp : Value) (p : PlanD) (o0 o1 o2 o3 o4 : Obj)
    (e0 : o0 = .cells #[vh, vs, vp] 29) (e1 : o1 = .cells #[.slice none 0 0] 22) (e2 : o2 = .cells ((List.replicate p.hands.length (0 : Int)).map (Value.int .i64)).toArray 3)
    (e3 : o3 = .cells #[.slice (some ⟨w.heap.size + 1 + 1, 0, none⟩) p.hands.length p.hands.length] 23)
    (e4 : o4 = .cells #[.func (.func 103) #[] #[.pointer (some ⟨w.heap.size + 1 + 1 + 1, 0, none⟩), .pointer (some ⟨w.heap.size, 0, none⟩), .pointer (some ⟨w.heap.size + 1, 0, none⟩), .pointer (some ⟨w.heap.size + 1 + 1 + 1 + 1, 0, none⟩)]] 97) :
    TryInv p vh vs vp w w.heap.size (w.heap.size + 1) (w.heap.size + 1 + 1) (w.heap.size + 1 + 1 + 1) (w.heap.size + 1 + 1 + 1 + 1) (w.heap.size + 1 + 1 + 1 + 1 + 1)
      (((((w.alloc o0).alloc o1).alloc o2).alloc o3).alloc o4) (List.replicate p.hands.length 0) [] := by
  have a0 := alloc_new (w := w) o0 rfl
  have a1 := alloc_new (w := w.alloc o0) (k := w.heap.size + 1) o1 (by simp)
  have a2 := alloc_new (w := (w.alloc o0).alloc o1) (k := w.heap.size + 1 + 1) o2 (by simp)
  have a3 := alloc_new (w := ((w.alloc o0).alloc o1).alloc o2) (k := w.heap.size + 1 + 1 + 1) o3 (by simp)
  have a4 := alloc_new (w := (((w.alloc o0).alloc o1).alloc o2).alloc o3) (k := w.heap.size + 1 + 1 + 1 + 1) o4 (by simp)
  subst e0 e1 e2 e3 e4
  refine ⟨alloc_old (alloc_old (alloc_old (alloc_old a0))), ⟨_, alloc_old (alloc_old (alloc_old a1)), OwnRows.nil _ _⟩, alloc_old (alloc_old a2), ?_, a4, (((((Ext.refl w).alloc _).alloc _).alloc _).alloc _).alloc _, by omega, by omega, by simp; omega, by omega, by omega⟩
  rw [List.length_replicate]
  exact alloc_old a3

set_option maxRecDepth 20000 in
set_option maxHeartbeats 2000000 in
theorem stable_any (vh vs vp : Value) (p : PlanD) (hok : PlanOk p) (w : World) (hp : PlanR w vh vs vp p) :
    Calls Try.prog 66 #[.agg #[vh, vs, vp]] w fun e w' => ∃ u, e = .returned u ∧ OwnRows w.heap.size w' u (stAll p hok) ∧ Ext w w' := by
  obtain ⟨aoh, caph, aos, caps, aop, capp, rfl, rfl, rfl⟩ := planR_shape hp
  have HP := hid hp
  have hn1 := hok.h1
  have hn6 := hok.h6
  have hmk := run_make_row' (P := Try.prog) 23 3 (.int .i64 0) 8 Try.underlying23 info_int rfl .i64 .i64 p.hands.length (by omega) (by omega)
  have hmf : ∀ (fn : Fn) (first cap : Array Value) (w : World), (Instr.makeFunc fn first cap).run Try.prog w = .ok (.func fn first cap) w := fun _ _ _ _ => rfl
  clear hp
  go_enter Try.func66, Try.ntmps66
  go_wp2_with (fail)
  have hmade : madeCells #[Value.int .i64 0] p.hands.length = ((List.replicate p.hands.length (0 : Int)).map (Value.int .i64)).toArray := by
    apply Array.ext'
    rw [toList_madeCells_one]; simp
  rw [hmade]
  have hT := try_start w (.slice aoh p.hands.length caph) (.slice aos p.shifts.length caps) (.slice aop p.places.length capp) p _ _ _ _ _ rfl rfl rfl rfl rfl
  have hpw : 0 + 5 ^ p.hands.length ≤ 15625 := by
    have : 5 ^ p.hands.length ≤ 5 ^ 6 := Nat.pow_le_pow_right (by decide) hn6
    omega
  refine (try_any _ _ _ p hok w HP.out _ _ _ _ _ _ p.hands.length 0 0 (List.replicate p.hands.length 0) [] _ rfl (by omega) (by simp) hpw hT).mono ?_
  rintro e w1 ⟨rfl, m', -, -, T⟩
  obtain ⟨v, ho, hown⟩ := T.out
  have d0 := cell_of_one ho
  have HE := hid T.ex
  have HO := hid hown
  clear T ho hown hT hmade hmk hmf hpw
  go_wp2
  go_ret
  exact ⟨_, rfl, HO.out.base (by omega), HE.out⟩

set_option maxHeartbeats 1000000 in
theorem Stable_bad (vh vs vp : Value) (p : PlanD) (w : World) (hp : PlanR w vh vs vp p) (hb : planOk p = false) :
    Calls Try.prog 33 #[.agg #[vh, vs, vp]] w fun e w' => e = .returned (.tuple #[.slice none 0 0, .int .i64 2]) ∧ Ext w w' := by
  obtain ⟨aoh, caph, aos, caps, aop, capp, rfl, rfl, rfl⟩ := planR_shape hp
  have HP := hid hp
  clear hp
  go_enter Try.func33, Try.ntmps33
  go_wp2_with (fail)
  refine (valid_any _ _ _ p _ (HP.out.ext (Ext.ofAlloc _ _))).mono ?_
  rw [hb]
  rintro e w1 ⟨rfl, he⟩
  have HE := hid ((Ext.ofAlloc w _).trans he)
  clear he
  go_wp2
  go_ret2
  exact ⟨rfl, HE.out⟩

set_option maxHeartbeats 1000000 in
theorem Stable_ok (vh vs vp : Value) (p : PlanD) (w : World) (hp : PlanR w vh vs vp p) (hok : PlanOk p) :
    Calls Try.prog 33 #[.agg #[vh, vs, vp]] w fun e w' => ∃ u, e = .returned (.tuple #[u, .int .i64 0]) ∧ OwnRows w.heap.size w' u (stAll p hok) ∧ Ext w w' := by
  obtain ⟨aoh, caph, aos, caps, aop, capp, rfl, rfl, rfl⟩ := planR_shape hp
  have HP := hid hp
  have hb : planOk p = true := planOk_iff.2 hok
  clear hp
  go_enter Try.func33, Try.ntmps33
  go_wp2_with (fail)
  refine (valid_any _ _ _ p _ (HP.out.ext (Ext.ofAlloc _ _))).mono ?_
  rw [hb]
  rintro e w1 ⟨rfl, he⟩
  obtain ⟨c0, c1, c2⟩ := ((Box3.alloc w 29 (.slice aoh p.hands.length caph) (.slice aos p.shifts.length caps) (.slice aop p.places.length capp)).ext he).cells
  have HE := hid ((Ext.ofAlloc w _).trans he)
  have hsz := HE.out.size
  clear he
  go_wp2_with (fail)
  refine (stable_any _ _ _ p hok _ (HP.out.ext HE.out)).mono ?_
  rintro e w2 ⟨u, rfl, hu, he2⟩
  have HU := hid hu
  have HE2 := hid (HE.out.trans he2)
  clear hu he2
  go_wp2
  go_ret2
  exact ⟨_, rfl, HU.out.base hsz, HE2.out⟩

end Go.Proofs.Ytkdfbbkonbgfmaa
