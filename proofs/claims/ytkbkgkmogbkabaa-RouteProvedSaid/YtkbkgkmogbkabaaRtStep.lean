/-
  Contract of the reference's step.
-/
import Derived.Test.YtkbkgkmogbkabaaRtBfPlain
namespace Go.Proofs.Ytkbkgkmogbkabaa
open Go.RowKit

theorem stepF_eq (a b s : Int) (r : RoadD) : stepF a b s r = if ((r.a = a ∧ r.b = b) ∨ (r.a = b ∧ r.b = a)) ∧ (s < 0 ∨ r.cost < s) then r.cost else s := by
  unfold stepF joinsB
  simp only [decide_eq_true_iff]

set_option maxRecDepth 20000 in
set_option maxHeartbeats 4000000 in
theorem step_any (vr : Value) (m : MapD) (a b : Int) (w : World) (hm : MapR w vr m) :
    Calls Try.prog 32 #[.agg #[.int .i64 m.n, vr], .int .i64 a, .int .i64 b] w fun e w' => e = .returned (.int .i64 (stepR m.roads a b)) ∧ Ext w w' := by
  obtain ⟨ao, cap, rfl⟩ := hm.shape
  have HM := hid hm
  have hlen : m.roads.length ≤ 5864062014805 := hm.1
  clear hm
  have hE := Ext.ofAlloc w (.cells #[.int .i64 m.n, .slice ao m.roads.length cap] 24)
  go_enter Try.func32, Try.ntmps32
  go_wp2
  generalize w.alloc (.cells #[.int .i64 m.n, .slice ao m.roads.length cap] 24) = W at *
  have HE := hid hE
  clear hE
  go_loopg [13, 7] m.roads.length (fun g i v wr => ∃ k : Nat, k + g = m.roads.length ∧ i = .int .i64 k ∧ v = .int .i64 (stepR (m.roads.take k) a b) ∧ Hid (Ext W wr))
  case atStart => exact ⟨0, by omega, rfl, rfl, Ext.refl _⟩
  case round =>
    obtain ⟨k, hk, rfl, rfl, E⟩ := hrel
    have hkl : k ≤ m.roads.length := by omega
    have Hk := hid hk
    clear hk
    by_cases hlt : k < m.roads.length
    · obtain ⟨bb, off, rfl, -, hcc⟩ := Roads.get HM.out k hlt
      obtain ⟨c0, c1, c2⟩ := hcc _ (HE.out.trans E.out)
      have Hs := hid (stepR_succ hlt a b)
      clear hcc
      generalize roadAt m.roads k = r at *
      generalize stepR (m.roads.take k) a b = s at *
      have E1 := hid (E.out.alloc (.cells #[.int .i64 r.a, .int .i64 r.b, .int .i64 r.cost] 62))
      by_cases xA : r.a = a
      · have xAb : (r.a == a) = true := beq_iff_eq.2 xA
        by_cases xB : r.b = b
        · have xBb : (r.b == b) = true := beq_iff_eq.2 xB
          by_cases y1 : s < 0
          · skip
            have HF : Hid (stepF a b s r = r.cost) := by
              show _ = _
              rw [stepF_eq]
              rw [if_pos (by omega)]
            clear xB xA
            go_wp2
            go_roundg (gk - 1)
            case rel => exact ⟨k + 1, by have := Hk.out; omega, by go_num, by rw [Hs.out, HF.out], E1⟩
            case measure => have := Hk.out; omega
          · by_cases y2 : r.cost < s
            · skip
              have HF : Hid (stepF a b s r = r.cost) := by
                show _ = _
                rw [stepF_eq]
                rw [if_pos (by omega)]
              clear xB xA
              go_wp2
              go_roundg (gk - 1)
              case rel => exact ⟨k + 1, by have := Hk.out; omega, by go_num, by rw [Hs.out, HF.out], E1⟩
              case measure => have := Hk.out; omega
            · skip
              have HF : Hid (stepF a b s r = s) := by
                show _ = _
                rw [stepF_eq]
                rw [if_neg (by omega)]
              clear xB xA
              go_wp2
              go_roundg (gk - 1)
              case rel => exact ⟨k + 1, by have := Hk.out; omega, by go_num, by rw [Hs.out, HF.out], E1⟩
              case measure => have := Hk.out; omega
        · have xBb : (r.b == b) = false := beq_eq_false_iff_ne.2 xB
          by_cases xC : r.a = b
          · have xCb : (r.a == b) = true := beq_iff_eq.2 xC
            by_cases xD : r.b = a
            · have xDb : (r.b == a) = true := beq_iff_eq.2 xD
              by_cases y1 : s < 0
              · skip
                have HF : Hid (stepF a b s r = r.cost) := by
                  show _ = _
                  rw [stepF_eq]
                  rw [if_pos (by omega)]
                clear xD xC xB xA
                go_wp2
                go_roundg (gk - 1)
                case rel => exact ⟨k + 1, by have := Hk.out; omega, by go_num, by rw [Hs.out, HF.out], E1⟩
                case measure => have := Hk.out; omega
              · by_cases y2 : r.cost < s
                · skip
                  have HF : Hid (stepF a b s r = r.cost) := by
                    show _ = _
                    rw [stepF_eq]
                    rw [if_pos (by omega)]
                  clear xD xC xB xA
                  go_wp2
                  go_roundg (gk - 1)
                  case rel => exact ⟨k + 1, by have := Hk.out; omega, by go_num, by rw [Hs.out, HF.out], E1⟩
                  case measure => have := Hk.out; omega
                · skip
                  have HF : Hid (stepF a b s r = s) := by
                    show _ = _
                    rw [stepF_eq]
                    rw [if_neg (by omega)]
                  clear xD xC xB xA
                  go_wp2
                  go_roundg (gk - 1)
                  case rel => exact ⟨k + 1, by have := Hk.out; omega, by go_num, by rw [Hs.out, HF.out], E1⟩
                  case measure => have := Hk.out; omega
            · have xDb : (r.b == a) = false := beq_eq_false_iff_ne.2 xD
              have HF : Hid (stepF a b s r = s) := by
                show _ = _
                rw [stepF_eq]
                rw [if_neg (by omega)]
              clear xD xC xB xA
              go_wp2
              go_roundg (gk - 1)
              case rel => exact ⟨k + 1, by have := Hk.out; omega, by go_num, by rw [Hs.out, HF.out], E1⟩
              case measure => have := Hk.out; omega
          · have xCb : (r.a == b) = false := beq_eq_false_iff_ne.2 xC
            have HF : Hid (stepF a b s r = s) := by
              show _ = _
              rw [stepF_eq]
              rw [if_neg (by omega)]
            clear xC xB xA
            go_wp2
            go_roundg (gk - 1)
            case rel => exact ⟨k + 1, by have := Hk.out; omega, by go_num, by rw [Hs.out, HF.out], E1⟩
            case measure => have := Hk.out; omega
      · have xAb : (r.a == a) = false := beq_eq_false_iff_ne.2 xA
        by_cases xC : r.a = b
        · have xCb : (r.a == b) = true := beq_iff_eq.2 xC
          by_cases xD : r.b = a
          · have xDb : (r.b == a) = true := beq_iff_eq.2 xD
            by_cases y1 : s < 0
            · skip
              have HF : Hid (stepF a b s r = r.cost) := by
                show _ = _
                rw [stepF_eq]
                rw [if_pos (by omega)]
              clear xD xC xA
              go_wp2
              go_roundg (gk - 1)
              case rel => exact ⟨k + 1, by have := Hk.out; omega, by go_num, by rw [Hs.out, HF.out], E1⟩
              case measure => have := Hk.out; omega
            · by_cases y2 : r.cost < s
              · skip
                have HF : Hid (stepF a b s r = r.cost) := by
                  show _ = _
                  rw [stepF_eq]
                  rw [if_pos (by omega)]
                clear xD xC xA
                go_wp2
                go_roundg (gk - 1)
                case rel => exact ⟨k + 1, by have := Hk.out; omega, by go_num, by rw [Hs.out, HF.out], E1⟩
                case measure => have := Hk.out; omega
              · skip
                have HF : Hid (stepF a b s r = s) := by
                  show _ = _
                  rw [stepF_eq]
                  rw [if_neg (by omega)]
                clear xD xC xA
                go_wp2
                go_roundg (gk - 1)
                case rel => exact ⟨k + 1, by have := Hk.out; omega, by go_num, by rw [Hs.out, HF.out], E1⟩
                case measure => have := Hk.out; omega
          · have xDb : (r.b == a) = false := beq_eq_false_iff_ne.2 xD
            have HF : Hid (stepF a b s r = s) := by
              show _ = _
              rw [stepF_eq]
              rw [if_neg (by omega)]
            clear xD xC xA
            go_wp2
            go_roundg (gk - 1)
            case rel => exact ⟨k + 1, by have := Hk.out; omega, by go_num, by rw [Hs.out, HF.out], E1⟩
            case measure => have := Hk.out; omega
        · have xCb : (r.a == b) = false := beq_eq_false_iff_ne.2 xC
          have HF : Hid (stepF a b s r = s) := by
            show _ = _
            rw [stepF_eq]
            rw [if_neg (by omega)]
          clear xC xA
          go_wp2
          go_roundg (gk - 1)
          case rel => exact ⟨k + 1, by have := Hk.out; omega, by go_num, by rw [Hs.out, HF.out], E1⟩
          case measure => have := Hk.out; omega
    · have Hv : Hid (stepR (m.roads.take k) a b = stepR m.roads a b) := by
        show _ = _
        rw [List.take_of_length_le (by omega)]
      go_wp2
      go_ret
      exact ⟨by rw [Hv.out]; rfl, HE.out.trans E.out⟩

end Go.Proofs.Ytkbkgkmogbkabaa
