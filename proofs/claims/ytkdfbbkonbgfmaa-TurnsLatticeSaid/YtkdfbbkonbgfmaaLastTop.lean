/-
  Contracts of turns.Last.
-/
import Derived.Test.YtkdfbbkonbgfmaaLast
import Derived.Test.YtkdfbbkonbgfmaaMoreLaw
import Derived.Test.YtkdfbbkonbgfmaaBestPlain
namespace Go.Proofs.Ytkdfbbkonbgfmaa
open Go.RowKit

set_option maxHeartbeats 1000000 in
theorem Last_bad (vh vs vp : Value) (p : PlanD) (w : World) (hp : PlanR w vh vs vp p) (hb : planOk p = false) :
    Calls Try.prog 23 #[.agg #[vh, vs, vp]] w fun e w' => e = .returned (.tuple #[.slice none 0 0, .int .i64 2]) ∧ Ext w w' := by
  have HP := hid hp
  obtain ⟨hh, hs, hpp⟩ := hp
  obtain ⟨-, aoh, caph, rfl, -⟩ := id hh
  obtain ⟨-, aos, caps, rfl, -⟩ := id hs
  obtain ⟨-, aop, capp, rfl, -⟩ := id hpp
  clear hh hs hpp
  go_enter Try.func23, Try.ntmps23
  go_wp2_with (fail)
  refine (valid_any _ _ _ p _ (HP.out.ext (Ext.ofAlloc _ _))).mono ?_
  rw [hb]
  rintro e w1 ⟨rfl, he⟩
  have HE := hid ((Ext.ofAlloc w _).trans he)
  clear he
  go_wp2
  go_ret2
  exact ⟨rfl, HE.out⟩

set_option maxHeartbeats 1000000 in
theorem Last_ok (vh vs vp : Value) (p : PlanD) (w : World) (hp : PlanR w vh vs vp p) (hok : PlanOk p) :
    Calls Try.prog 23 #[.agg #[vh, vs, vp]] w fun e w' => ∃ u, e = .returned (.tuple #[u, .int .i64 0]) ∧ ∃ m, OwnI w.heap.size w' u m ∧ IsLast p hok m ∧ Ext w w' := by
  have HP := hid hp
  have hb : planOk p = true := planOk_iff.2 hok
  obtain ⟨hh, hs, hpp⟩ := hp
  obtain ⟨-, aoh, caph, rfl, -⟩ := id hh
  obtain ⟨-, aos, caps, rfl, -⟩ := id hs
  obtain ⟨-, aop, capp, rfl, -⟩ := id hpp
  clear hh hs hpp
  go_enter Try.func23, Try.ntmps23
  go_wp2_with (fail)
  refine (valid_any _ _ _ p _ (HP.out.ext (Ext.ofAlloc _ _))).mono ?_
  rw [hb]
  rintro e w1 ⟨rfl, he⟩
  obtain ⟨c0, c1, c2⟩ := ((Box3.alloc w 29 (.slice aoh p.hands.length caph) (.slice aos p.shifts.length caps) (.slice aop p.places.length capp)).ext he).cells
  have hE := (Ext.ofAlloc w _).trans he
  have hsz := hE.size
  have HE := hid hE
  clear he hE
  go_wp2_with (fail)
  refine (last_any _ _ _ p hok _ (HP.out.ext HE.out)).mono ?_
  rintro e w2 ⟨u, rfl, m, hu, hm, he2⟩
  have HU := hid hu
  have HM := hid hm
  have HE2 := hid he2
  clear hu hm he2
  go_wp2
  go_ret2
  exact ⟨_, rfl, m, ownsRow_base HU.out hsz, HM.out, HE.out.trans HE2.out⟩

end Go.Proofs.Ytkdfbbkonbgfmaa
