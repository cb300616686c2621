/-
  Contracts of turns.First, and of the statements' awake.
-/
import Derived.Test.YtkdfbbkonbgfmaaOf
namespace Go.Proofs.Ytkdfbbkonbgfmaa
open Go.RowKit

set_option maxHeartbeats 1000000 in
theorem First_bad (vh vs vp : Value) (p : PlanD) (w : World) (hp : PlanR w vh vs vp p) (hb : planOk p = false) :
    Calls Try.prog 17 #[.agg #[vh, vs, vp]] w fun e w' => e = .returned (.tuple #[.slice none 0 0, .int .i64 2]) ∧ Ext w w' := by
  have HP := hid hp
  obtain ⟨hh, hs, hpp⟩ := hp
  obtain ⟨-, aoh, caph, rfl, -⟩ := id hh
  obtain ⟨-, aos, caps, rfl, -⟩ := id hs
  obtain ⟨-, aop, capp, rfl, -⟩ := id hpp
  clear hh hs hpp
  go_enter Try.func17, Try.ntmps17
  go_wp2_with (fail)
  refine (valid_any _ _ _ p _ (HP.out.ext (Ext.ofAlloc _ _))).mono ?_
  rw [hb]
  rintro e w1 ⟨rfl, he⟩
  have HE := hid ((Ext.ofAlloc w _).trans he)
  clear he
  go_wp2
  go_ret2
  exact ⟨rfl, HE.out⟩

set_option maxHeartbeats 1000000 in
theorem First_ok (vh vs vp : Value) (p : PlanD) (w : World) (hp : PlanR w vh vs vp p) (hok : PlanOk p) :
    Calls Try.prog 17 #[.agg #[vh, vs, vp]] w fun e w' => ∃ u, e = .returned (.tuple #[u, .int .i64 0]) ∧ ∃ m, OwnI w.heap.size w' u m ∧ IsFirst p hok m ∧ Ext w w' := by
  have HP := hid hp
  have hb : planOk p = true := planOk_iff.2 hok
  obtain ⟨hh, hs, hpp⟩ := hp
  obtain ⟨-, aoh, caph, rfl, -⟩ := id hh
  obtain ⟨-, aos, caps, rfl, -⟩ := id hs
  obtain ⟨-, aop, capp, rfl, -⟩ := id hpp
  clear hh hs hpp
  go_enter Try.func17, Try.ntmps17
  go_wp2_with (fail)
  refine (valid_any _ _ _ p _ (HP.out.ext (Ext.ofAlloc _ _))).mono ?_
  rw [hb]
  rintro e w1 ⟨rfl, he⟩
  obtain ⟨c0, c1, c2⟩ := ((Box3.alloc w 29 (.slice aoh p.hands.length caph) (.slice aos p.shifts.length caps) (.slice aop p.places.length capp)).ext he).cells
  have hE := (Ext.ofAlloc w _).trans he
  have hsz := hE.size
  have HE := hid hE
  clear he hE
  go_wp2_with (fail)
  refine (first_any _ _ _ p hok _ (HP.out.ext HE.out)).mono ?_
  rintro e w2 ⟨u, rfl, m, hu, hm, he2⟩
  have HU := hid hu
  have HM := hid hm
  have HE2 := hid he2
  clear hu hm he2
  go_wp2
  go_ret2
  exact ⟨_, rfl, m, ownsRow_base HU.out hsz, HM.out, HE.out.trans HE2.out⟩

/-- The plan of the statements' own example. -/
def p0 : PlanD := ⟨[[0]], [[0]], [1]⟩
theorem p0_ok : PlanOk p0 := planOk_iff.1 (by decide)
theorem p0_first {m : List Int} (h : IsFirst p0 p0_ok m) : m = [0] := by
  have hl : m.length = 1 := h.len
  obtain ⟨x, rfl⟩ : ∃ x, m = [x] := by
    cases m with
    | nil => simp at hl
    | cons a m => cases m with
      | nil => exact ⟨a, rfl⟩
      | cons b m => simp at hl
  have hx : fn [x] 0 = x := rfl
  rcases h.st.m.ok 0 (by decide) with e | e
  · rw [hx] at e
    subst e
    have := h.st.full 0 (by decide) 0 (show possB p0 0 0 = true by decide) (by decide)
    revert this; decide
  · rw [hx] at e
    have := (possB_iff.1 e).1
    have h0 : rowAt p0.hands (0 : Nat) = [0] := rfl
    rw [h0] at this
    rw [List.mem_singleton.1 this]

theorem IntBlock.alloc (w : World) (xs : List Int) : IntBlock (w.alloc (.cells (xs.map (Value.int .i64)).toArray 3)) w.heap.size xs := heap_alloc_new w _

/-- A row of one slice, in a block of its own. -/
theorem rows_one {w : World} {g : Nat} {u : Value} {xs : List Int} (h : w.heap[g]? = some (.cells #[u] 23 (0, 0))) (hu : Ints w u xs) : Rows2 w (.slice (some ⟨g, 0, none⟩) 1 1) [xs] := by
  refine ⟨by simp, _, 1, rfl, by simp, fun i hi => ⟨g, 0, u, rfl, ?_, ?_⟩⟩
  · obtain rfl : i = 0 := by simp at hi; omega
    exact cell_of_row w g 0 _ _ _ h
  · obtain rfl : i = 0 := by simp at hi; omega
    exact hu

theorem alloc_new {w : World} {k : Nat} (o : Obj) (h : k = w.heap.size) : (w.alloc o).heap[k]? = some o := by subst h; exact heap_alloc_new w o
theorem alloc_old {w : World} {k : Nat} {o o' : Obj} (h : w.heap[k]? = some o') : (w.alloc o).heap[k]? = some o' := by rw [Below.heap_alloc w o k (lt_of_block h)]; exact h

theorem awake_plan (w : World) : PlanR (((((w.alloc (.cells #[.int .i64 0] 3)).alloc (.cells #[.slice (some ⟨w.heap.size, 0, none⟩) 1 1] 23)).alloc (.cells #[.int .i64 0] 3)).alloc (.cells #[.slice (some ⟨w.heap.size + 1 + 1, 0, none⟩) 1 1] 23)).alloc (.cells #[.int .i64 1] 3))
    (.slice (some ⟨w.heap.size + 1, 0, none⟩) 1 1) (.slice (some ⟨w.heap.size + 1 + 1 + 1, 0, none⟩) 1 1) (.slice (some ⟨w.heap.size + 1 + 1 + 1 + 1, 0, none⟩) 1 1) p0 := by
  have a0 := alloc_new (w := w) (.cells #[.int .i64 0] 3) rfl
  have a1 := alloc_new (w := w.alloc (.cells #[.int .i64 0] 3)) (k := w.heap.size + 1) (.cells #[.slice (some ⟨w.heap.size, 0, none⟩) 1 1] 23) (by simp)
  have a2 := alloc_new (w := (w.alloc (.cells #[.int .i64 0] 3)).alloc (.cells #[.slice (some ⟨w.heap.size, 0, none⟩) 1 1] 23)) (k := w.heap.size + 1 + 1) (.cells #[.int .i64 0] 3) (by simp)
  have a3 := alloc_new (w := ((w.alloc (.cells #[.int .i64 0] 3)).alloc (.cells #[.slice (some ⟨w.heap.size, 0, none⟩) 1 1] 23)).alloc (.cells #[.int .i64 0] 3)) (k := w.heap.size + 1 + 1 + 1) (.cells #[.slice (some ⟨w.heap.size + 1 + 1, 0, none⟩) 1 1] 23) (by simp)
  have a4 := alloc_new (w := (((w.alloc (.cells #[.int .i64 0] 3)).alloc (.cells #[.slice (some ⟨w.heap.size, 0, none⟩) 1 1] 23)).alloc (.cells #[.int .i64 0] 3)).alloc (.cells #[.slice (some ⟨w.heap.size + 1 + 1, 0, none⟩) 1 1] 23)) (k := w.heap.size + 1 + 1 + 1 + 1) (.cells #[.int .i64 1] 3) (by simp)
  refine ⟨rows_one (alloc_old (alloc_old (alloc_old a1))) (IntBlock.ints (xs := [0]) ?_ rfl (by decide)), rows_one (alloc_old a3) (IntBlock.ints (xs := [0]) ?_ rfl (by decide)), IntBlock.ints (xs := [1]) a4 rfl (by decide)⟩
  · exact alloc_old (alloc_old (alloc_old (alloc_old a0)))
  · exact alloc_old (alloc_old a2)

set_option maxHeartbeats 1000000 in
theorem awake_any (w : World) : Calls Try.prog 19 #[] w fun e w' => e = .returned (.bool true) ∧ Ext w w' := by
  go_enter Try.func19, Try.ntmps19
  go_wp2_with (fail)
  refine (First_ok _ _ _ p0 _ (awake_plan w) p0_ok).mono ?_
  rintro e w1 ⟨u, rfl, m, hu, hm, he⟩
  obtain rfl := p0_first hm
  have hE := ((((((Ext.refl w).alloc _).alloc _).alloc _).alloc _).alloc _).trans he
  have HE := hid hE
  obtain ⟨ua, un, uc, rfl⟩ := own_shape hu
  have HU := hid (hu.ints (by decide))
  clear hu hm he hE
  go_wp2_with (fail)
  refine (Equal_any _ _ [0] [0] _ (HU.out.ext (Ext.ofAlloc _ _)) (IntBlock.ints (IntBlock.alloc w1 [0]) rfl (by decide))).mono ?_
  rintro e w2 ⟨rfl, n, rfl⟩
  have h1 : eqI [0] [0] = true := by decide
  rw [h1]
  go_wp2
  go_ret
  exact ⟨rfl, (HE.out.alloc _).drewN _⟩

end Go.Proofs.Ytkdfbbkonbgfmaa
