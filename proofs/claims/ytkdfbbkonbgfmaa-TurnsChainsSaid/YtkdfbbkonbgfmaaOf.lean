/-
  Contract of the statements' Of: a copy of a plan, with at most eight lists of at most nine numbers.
-/
import Derived.Test.YtkdfbbkonbgfmaaLawA
namespace Go.Proofs.Ytkdfbbkonbgfmaa
open Go.RowKit

set_option maxHeartbeats 2000000 in
theorem Of_any (vh vs vp : Value) (p : PlanD) (w : World) (hp : PlanR w vh vs vp p) :
    Calls Try.prog 18 #[.agg #[vh, vs, vp]] w fun e w' => ∃ uh us up, e = .returned (.agg #[uh, us, up]) ∧ OwnPlan w.heap.size w' uh us up (cutP p) ∧ Ext w w' := by
  obtain ⟨hh, hs, hpp⟩ := hp
  obtain ⟨-, aoh, caph, rfl, -⟩ := id hh
  obtain ⟨-, aos, caps, rfl, -⟩ := id hs
  obtain ⟨-, aop, capp, rfl, -⟩ := id hpp
  have Hh := hid hh
  have Hs := hid hs
  have Hp := hid hpp
  clear hh hs hpp
  go_enter Try.func18, Try.ntmps18
  go_wp2_with (fail)
  have hb0 := ((Box3.alloc w 25 (.slice aoh p.hands.length caph) (.slice aos p.shifts.length caps) (.slice aop p.places.length capp)).ext (Ext.ofAlloc _ (.cells #[.slice none 0 0, .slice none 0 0, .slice none 0 0] 29)))
  have hr0 := Box3.alloc (w.alloc (.cells #[.slice aoh p.hands.length caph, .slice aos p.shifts.length caps, .slice aop p.places.length capp] 25)) 29 (.slice none 0 0) (.slice none 0 0) (.slice none 0 0)
  have hE0 := ((Ext.ofAlloc w (.cells #[.slice aoh p.hands.length caph, .slice aos p.shifts.length caps, .slice aop p.places.length capp] 25)).alloc (.cells #[.slice none 0 0, .slice none 0 0, .slice none 0 0] 29))
  have hsz0 := hE0.size
  rw [World.size_alloc] at hr0
  have hs0 : ((w.alloc (.cells #[.slice aoh p.hands.length caph, .slice aos p.shifts.length caps, .slice aop p.places.length capp] 25)).alloc (.cells #[.slice none 0 0, .slice none 0 0, .slice none 0 0] 29)).heap.size = w.heap.size + 2 := by simp
  generalize ((w.alloc (.cells #[.slice aoh p.hands.length caph, .slice aos p.shifts.length caps, .slice aop p.places.length capp] 25)).alloc (.cells #[.slice none 0 0, .slice none 0 0, .slice none 0 0] 29)) = W0 at *
  obtain ⟨c0, c1, c2⟩ := hb0.cells
  obtain ⟨r0, r1, r2⟩ := hr0.cells
  have f0 := hr0.free 0
  have f1 := hr0.free 1
  have f2 := hr0.free 2
  have HE0 := hid hE0
  have Hr0 := hid hr0
  have Hs0 := hid hs0
  clear hb0 hr0 hE0 hs0 hsz0
  go_region_held3 (fun w' => w'.cell? ⟨w.heap.size, 0, none⟩ = some (.slice aoh p.hands.length caph) ∧ w'.cell? ⟨w.heap.size, 1, none⟩ = some (.slice aos p.shifts.length caps) ∧ w'.cell? ⟨w.heap.size, 2, none⟩ = some (.slice aop p.places.length capp))
    (first | exact ⟨c0, c1, c2⟩ | exact ⟨he1.cell c0, he1.cell c1, he1.cell c2⟩ | exact ⟨he2.cell (he1.cell c0), he2.cell (he1.cell c1), he2.cell (he1.cell c2)⟩ | (refine ⟨?_, ?_, ?_⟩ <;> (first | exact he3.cell (he2.cell (he1.cell c0)) | exact he3.cell (he2.cell (he1.cell c1)) | exact he3.cell (he2.cell (he1.cell c2)) | (rw [World.cell?_setCell_other (h := by simp), World.cell?_setCell_other (h := by simp), World.cell?_setCell_other (h := by simp)]; first | exact he3.cell (he2.cell (he1.cell c0)) | exact he3.cell (he2.cell (he1.cell c1)) | exact he3.cell (he2.cell (he1.cell c2))))))
    (first | (go_at_call_of 54 caph; refine (ofLists_any _ p.hands _ (Hh.out.ext HE0.out.drew)).mono ?_; rintro e w1 ⟨u1, rfl, hu1, he1⟩; obtain ⟨a1, n1, k1, rfl⟩ := hu1.shape) | (go_at_call_of 54 caps; refine (ofLists_any _ p.shifts _ (Hs.out.ext (HE0.out.drew.trans he1))).mono ?_; rintro e w2 ⟨u2, rfl, hu2, he2⟩; obtain ⟨a2, n2, k2, rfl⟩ := hu2.shape) | (go_at_call 20; refine (list_any _ p.places _ (Hp.out.ext ((HE0.out.drew.trans he1).trans he2))).mono ?_; rintro e w3 ⟨u3, rfl, hu3, he3⟩; obtain ⟨a3, n3, k3, rfl⟩ := own_shape hu3; have g0 := he3.cell (he2.cell (he1.cell r0)); have g1 := he3.cell (he2.cell (he1.cell r1)); have g2 := he3.cell (he2.cell (he1.cell r2)); have q0 := frozen_ext he3 (he2.cell (he1.cell r0)) (frozen_ext he2 (he1.cell r0) (frozen_ext he1 r0 f0)); have q1 := frozen_ext he3 (he2.cell (he1.cell r1)) (frozen_ext he2 (he1.cell r1) (frozen_ext he1 r1 f1)); have q2 := frozen_ext he3 (he2.cell (he1.cell r2)) (frozen_ext he2 (he1.cell r2) (frozen_ext he1 r2 f2))))
  have HU1 := hid hu1
  have HU2 := hid hu2
  have HU3 := hid hu3
  have HE1 := hid he1
  have HE2 := hid he2
  have HE3 := hid he3
  clear hu1 hu2 hu3 he1 he2 he3
  go_wp2
  refine bodyPost_ret (v := .agg #[.slice a1 n1 k1, .slice a2 n2 k2, .slice a3 n3 k3]) (by simp [results, Try.results18, go_sem, g0, g1, g2]) rfl ?_
  have s0 := Hs0.out
  have s1 := HE1.out.size
  have s2 := HE2.out.size
  have s3 : W0.drew.heap.size = W0.heap.size := rfl
  have P3 : OwnPlan (w.heap.size + 2) w3 (.slice a1 n1 k1) (.slice a2 n2 k2) (.slice a3 n3 k3) (cutP p) :=
    ⟨(HU1.out.ext (HE2.out.trans HE3.out)).base (by omega), w1.heap.size, by omega, fun k hk => (HU1.out.lt k hk).2, HU2.out.ext HE3.out, ownsRow_base HU3.out s2⟩
  exact ⟨_, _, _, rfl, (((P3.setBelow (by omega) _ _).setBelow (by omega) _ _).setBelow (by omega) _ _).base (by omega),
    ((((((HE0.out.drew).trans HE1.out).trans HE2.out).trans HE3.out).setCell (by omega) _ _).setCell (by omega) _ _).setCell (by omega) _ _⟩

end Go.Proofs.Ytkdfbbkonbgfmaa
