/-
  Contract of the statements' list.
-/
import Derived.Test.YtkbkgkmogbkabaaDoorRtBase
import Derived.Test.YtkbkgkmogbkabaaDoorLib
namespace Go.Proofs.YtkbkgkmogbkabaaDoor
open Go.RowKit

set_option maxRecDepth 20000 in
set_option maxHeartbeats 4000000 in
theorem list_any (v : Value) (xs : List Int) (w : World) (hv : Ints w v xs) :
    Calls Tryd.prog 13 #[v] w fun e w' => ∃ u, e = .returned u ∧ Ints w' u (xs.take 18) ∧ Ext w w' := by
  have HV := hid hv
  obtain ⟨hl, ao, cap, rfl, hcap, -⟩ := hv
  by_cases h18 : xs.length ≤ 18
  · have hmin : min (xs.length : Int) 18 = xs.length := by omega
    have ht : xs.take 18 = xs := List.take_of_length_le h18
    have HT : Hid (Ints w (.slice ao xs.length cap) (xs.take 18)) := by show Ints _ _ _; rw [ht]; exact HV.out
    clear ht
    have hcc : xs.length ≤ cap := hcap
    go_enter Tryd.func13, Tryd.ntmps13
    go_wp2_with (fail)
    refine (Clone_any _ (xs.take 18) _ HT.out).mono ?_
    rintro e w1 ⟨u, rfl, hu, he⟩
    have HU := hid (hu.ints (by rw [List.length_take]; omega))
    have HE := hid he
    clear hu he
    go_wp2
    go_ret
    exact ⟨_, rfl, HU.out, HE.out⟩
  · have hmin : min (xs.length : Int) 18 = 18 := by omega
    have HT := hid (HV.out.take (k := 18) (by omega))
    have hcc : 18 ≤ cap := by omega
    have hcc2 : (18 : Int) ≤ cap := by omega
    go_enter Tryd.func13, Tryd.ntmps13
    go_wp2_with (fail)
    refine (Clone_any _ (xs.take 18) _ HT.out).mono ?_
    rintro e w1 ⟨u, rfl, hu, he⟩
    have HU := hid (hu.ints (by rw [List.length_take]; omega))
    have HE := hid he
    clear hu he
    go_wp2
    go_ret
    exact ⟨_, rfl, HU.out, HE.out⟩

end Go.Proofs.YtkbkgkmogbkabaaDoor
