/-
  The program's disk beside the reference's; contract of 'same'.
-/
import Derived.Test.YteiamhapplnlaaaGreatDoorBkCrash
import Derived.Test.YteiamhapplnlaaaGreatDoorBkRead
import Derived.Test.YteiamhapplnlaaaGreatDoorBkRef
import Derived.Test.YteiamhapplnlaaaGreatDoorBsShelf
namespace Go.Proofs.YteiamhapplnlaaaGreatDoor
open Go.RowKit

/-- Both disks, apart from each other. -/
structure Two (B : Nat) (w : World) (pb rb : Nat) (pv rv : Value) (dp dr : DD) : Prop where
  p : DiskP B w pb pv dp
  r : DiskR B w rb rv dr
  ap : ∀ k, pv.ownBlock = some k → rv.ownBlock ≠ some k
theorem ownB_block {B : Nat} {w : World} {v : Value} {xs : List Int} (h : OwnB B w v xs) {k : Nat} (hk : v.ownBlock = some k) : k < w.heap.size ∧ ∃ cur, w.heap[k]? = some (.cells cur 5 (0, 0)) := by
  refine ⟨(h.lt _ hk).2, ?_⟩
  obtain ⟨-, ⟨rfl, -⟩ | ⟨g, cap, cur, rfl, -, hh, -⟩⟩ := h
  · cases hk
  · cases hk; exact ⟨cur, hh⟩
theorem Two.far {B : Nat} {w : World} {pb rb : Nat} {pv rv : Value} {dp dr : DD} (h : Two B w pb rb pv rv dp dr) {k : Nat} (hk : fp pb pv k) : ¬ fp rb rv k := by
  have bp : w.heap[pb]? = some _ := h.p.box
  have br : w.heap[rb]? = some _ := h.r.box
  rintro (rfl | hr)
  · rcases hk with rfl | hk
    · rw [bp] at br; simp at br
    · obtain ⟨-, cur, hc⟩ := ownB_block h.p.own hk
      rw [br] at hc; simp at hc
  · rcases hk with rfl | hk
    · obtain ⟨-, cur, hc⟩ := ownB_block h.r.own hr
      rw [bp] at hc; simp at hc
    · exact h.ap k hk hr
theorem Two.ext {B : Nat} {w w' : World} {pb rb : Nat} {pv rv : Value} {dp dr : DD} (h : Two B w pb rb pv rv dp dr) (e : Ext w w') : Two B w' pb rb pv rv dp dr := ⟨h.p.ext e, h.r.ext e, h.ap⟩
theorem Two.moved {F : Nat → Prop} {B : Nat} {w w' : World} {pb rb : Nat} {pv rv : Value} {dp dr : DD} (h : Two B w pb rb pv rv dp dr) (m : Moved F w w') (hp : ∀ k, fp pb pv k → ¬ F k) (hr : ∀ k, fp rb rv k → ¬ F k) : Two B w' pb rb pv rv dp dr := ⟨h.p.moved m hp, h.r.moved m hr, h.ap⟩
theorem Two.stepP {B : Nat} {w w' : World} {pb rb : Nat} {pv rv pv' : Value} {dp dr d' : DD} (h : Two B w pb rb pv rv dp dr) (g : DiskP B w' pb pv' d') (n : Near w pv pv') (m : Moved (fp pb pv) w w') : Two B w' pb rb pv' rv d' dr := by
  refine ⟨g, h.r.moved m (fun k hk hf => h.far hf hk), fun k hk hr => ?_⟩
  rcases n k hk with e | e
  · exact h.ap k e hr
  · have := (ownB_block h.r.own hr).1
    omega
theorem Two.stepR {B : Nat} {w w' : World} {pb rb : Nat} {pv rv rv' : Value} {dp dr d' : DD} (h : Two B w pb rb pv rv dp dr) (g : DiskR B w' rb rv' d') (n : Near w rv rv') (m : Moved (fp rb rv) w w') : Two B w' pb rb pv rv' dp d' := by
  refine ⟨h.p.moved m (fun k hk hf => h.far hk hf), g, fun k hk hr => ?_⟩
  rcases n k hr with e | e
  · exact h.ap k hk e
  · have := (ownB_block h.p.own hk).1
    omega
theorem ownB_in {B : Nat} {w : World} {v : Value} {xs : List Int} (h : OwnB B w v xs) : ∃ p c, v = .slice p xs.length c ∧ Lib.BytesIn w p xs.length xs := by
  obtain ⟨ao, cap, rfl, -, -, h2⟩ := OwnB.bytes h
  refine ⟨ao, cap, rfl, fun hp => ?_⟩
  obtain ⟨b, off, rfl, -⟩ := h2 0 hp
  refine ⟨b, off, rfl, fun i hi => ?_⟩
  obtain ⟨b', off', e, hc⟩ := h2 i hi
  cases e
  rw [hc, List.getD_eq_getElem?_getD, List.getElem?_eq_getElem hi]; rfl

set_option maxHeartbeats 4000000 in
theorem same_any {B : Nat} {pb rb : Nat} {pv rv : Value} {d : DD} (w : World) (h : Two B w pb rb pv rv d d) :
    Calls Tryz.prog 9 #[.pointer (some ⟨pb, 0, none⟩), .pointer (some ⟨rb, 0, none⟩)] w fun e w' => e = .returned (.bool true) ∧ Ext w w' := by
  have H := hid h
  clear h
  cases hk : d.dark with
  | true =>
    have HK := hid hk
    have hc := H.out.r.box.cells.2.2.2.1
    rw [hk] at hc
    clear hk
    go_enter Tryz.func9, Tryz.ntmps9
    go_wp2_with (fail)
    refine (Read_off pb pv d w H.out.p HK.out).mono ?_
    rintro e w' ⟨rfl, rfl⟩
    go_wp2
    go_ret
    exact ⟨rfl, Ext.refl _⟩
  | false =>
    have HK := hid hk
    clear hk
    go_enter Tryz.func9, Tryz.ntmps9
    go_wp2_with (fail)
    refine (Read_on pb pv d w H.out.p HK.out).mono ?_
    rintro e w' ⟨u, rfl, hu, he⟩
    have H' := hid (H.out.ext he)
    have HU := hid (ownB_in hu)
    have HE := hid he
    clear hu he
    obtain ⟨-, hc1, -, hc3, -⟩ := H'.out.r.box.cells
    rw [HK.out] at hc3
    obtain ⟨p1, n1, hu1, hu2⟩ := HU.out
    obtain ⟨p2, n2, hr1, hr2⟩ := ownB_in H'.out.r.own
    subst hu1
    rw [hr1] at hc1
    have HU2 := hid hu2
    have HR2 := hid hr2
    clear hu2 hr2 hr1
    obtain ⟨L, hL⟩ : ∃ L, L = d.bytes.length := ⟨_, rfl⟩
    rw [← hL] at hc1 HU2 HR2 ⊢
    have HL := hid hL
    clear hL
    go_wp2_with (fail)
    refine (Tryz.bytes_Equal_all p1 p2 L n1 L n2 d.bytes d.bytes w' HL.out.symm HL.out.symm HU2.out HR2.out).mono ?_
    rw [beq_self_eq_true]
    rintro e w2 ⟨rfl, rfl⟩
    go_wp2
    go_ret
    exact ⟨rfl, HE.out⟩

end Go.Proofs.YteiamhapplnlaaaGreatDoor
