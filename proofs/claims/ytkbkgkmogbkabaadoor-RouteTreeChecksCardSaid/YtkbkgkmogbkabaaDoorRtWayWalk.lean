/-
  The search of route.Way: its walk (under way: the step is not proved yet).
-/
import Derived.Test.YtkbkgkmogbkabaaDoorRtWay
namespace Go.Proofs.YtkbkgkmogbkabaaDoor
open Go.RowKit

theorem FoundBox.set {w : World} {bf : Nat} {u : Value} (h : w.heap[bf]? = some (.cells #[u] 25 (0, 0))) (v : Value) : (w.setCell ⟨bf, 0, none⟩ v).heap[bf]? = some (.cells #[v] 25 (0, 0)) := by
  simp only [World.setCell, Array.getElem?_modify, if_true, h, Option.map_some]
  simp

set_option maxRecDepth 20000 in
set_option maxHeartbeats 4000000 in
theorem grow_zero (w0 : World) (N b a pb pm pc pd pa : Nat) (vc vd : Value) (c d : Nat → Nat → Int) (bf : Nat) (tot : Int) (hS : Seen w0 N b a pb pm pc pd pa vc vd c d)
    (way : List Int) (last : Nat) (cost : Int) (vw : Value) (w : World) (hL : Live w0 bf (ptrs bf pb pm pc pd pa) w) (hw : OwnI (bf + 2) w vw way) (hn : 0 < way.length) (hn2 : way.length ≤ 100) (hlast : fn way (way.length - 1) = last) :
    Calls Tryd.prog 54 (#[vw, .int .i64 cost, .int .i64 way.length] ++ ptrs bf pb pm pc pd pa) w fun e w' => e = .returned (.bool (growP c d N b tot 0 way last cost).isSome) ∧ Fr bf vw.ownBlock w w' ∧ OwnI (bf + 2) w' vw way ∧ ∃ u, w'.heap[bf]? = some (.cells #[u] 25 (0, 0)) ∧ ∀ r, growP c d N b tot 0 way last cost = some r → Ints w' u r := by
  have hwi := hw.ints (by omega)
  obtain ⟨-, ag, cap, rfl, -⟩ := id hwi
  obtain ⟨g, og, rfl, -, hcl⟩ := hwi.get (way.length - 1) (by omega)
  rw [hlast] at hcl
  have dl := hcl _ (Ext.refl _)
  have HW := hid hw
  have HWI := hid hwi
  have HL := hid hL
  have hcb := hL.e0.cell hS.cb
  have HCB := hid hcb
  have hlen : ((way.length : Int) - 1).toNat = way.length - 1 := by omega
  unfold ptrs
  clear hw hwi hL hcl
  go_enter Tryd.func54, Tryd.ntmps54
  go_wp2_with (fail)
  refine (Clone_any _ way _ HWI.out).mono ?_
  rintro e w1 ⟨u, rfl, hu, he⟩
  have hui := hu.ints (by omega)
  obtain ⟨-, au, cu, rfl, -⟩ := id hui
  obtain ⟨u0, hf⟩ := (HL.out.ext he).cf
  have df := cell_of_row w1 bf 0 _ _ _ hf
  have ff : w1.frozen? ⟨bf, 0, none⟩ = false := by simp [World.frozen?, hf]
  have hpb := World.block_lt_of_cell? _ _ hS.cb
  have hlt := HL.out.lt
  have hpb2 : pb < w0.heap.size := hpb
  have cB : (w1.setCell ⟨bf, 0, none⟩ (.slice au way.length cu)).cell? ⟨pb, 0, none⟩ = some (.int .i64 b) := by
    rw [World.cell?_setCell_other (h := by first | (simp; done) | (simp; omega))]; exact he.cell HCB.out
  have hset := FoundBox.set hf (.slice au way.length cu)
  have hEs : Fr bf (Value.slice (some ⟨g, og, none⟩) way.length cap).ownBlock w (w1.setCell ⟨bf, 0, none⟩ (.slice au way.length cu)) :=
    ⟨he.os, he.tape, he.output, by have := he.size; simpa using this, fun k hk hb _ => by rw [Below.heap_setCell _ _ _ _ hb]; exact he.block k hk⟩
  have hW2 : OwnI (bf + 2) (w1.setCell ⟨bf, 0, none⟩ (.slice au way.length cu)) (.slice (some ⟨g, og, none⟩) way.length cap) way :=
    ownsRow_setCell_below (ownsRow_ext HW.out he) (a := ⟨bf, 0, none⟩) (by show bf < bf + 2; omega) _
  have hI2 : Ints (w1.setCell ⟨bf, 0, none⟩ (.slice au way.length cu)) (.slice au way.length cu) way := by
    have hsz := HL.out.sz
    exact OwnI.ints (ownsRow_setCell_below hu (a := ⟨bf, 0, none⟩) (by show bf < w.heap.size; omega) _) (by omega)
  have HSet := hid hset
  have HEs := hid hEs
  have HW2 := hid hW2
  have HI2 := hid hI2
  clear hu hui he hf hset hEs hW2 hI2 dl hlast hpb hpb2
  go_wp2
  go_ret
  refine ⟨ret_bool ?_, HEs.out, HW2.out, _, HSet.out, fun r hr => ?_⟩
  · unfold growP
    by_cases e : last = b
    · simp [e]
    · have e2 : ¬ (last : Int) = b := by omega
      simp [e, e2]
  · unfold growP at hr
    split at hr
    · simp only [Option.some.injEq] at hr; subst hr; exact HI2.out
    · simp at hr

end Go.Proofs.YtkbkgkmogbkabaaDoor
