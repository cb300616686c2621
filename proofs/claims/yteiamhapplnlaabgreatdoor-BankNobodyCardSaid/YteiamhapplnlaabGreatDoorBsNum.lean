/-
  Contract of number.
-/
import Derived.Test.YteiamhapplnlaabGreatDoorBsLine
namespace Go.Proofs.YteiamhapplnlaabGreatDoor
open Go.RowKit

theorem numB_atoi (w : Bs) : numB w = (atoiOk w).bind fun n => if w.length ≤ 4 ∧ 0 ≤ n ∧ Lib.itoa n = w then some n else none := by
  unfold numB atoiOk
  cases Lib.atoiAll w <;> rfl

/-- What number answers: a number, and whether it is one. -/
def NumAns (t : Bs) (e : Ending) : Prop := ∃ (n : Int) (b : Bool), e = .returned (.tuple #[.int .i64 n, .bool b]) ∧ ((b = true ∧ numB t = some n) ∨ (b = false ∧ numB t = none))

set_option maxHeartbeats 1000000 in
theorem number_str (s : ByteArray) (w : World) (hE : Env w) (hs : s.size ≤ 1000) :
    Calls Tryz.prog 78 #[.string s] w fun e w' => NumAns s.data.toList e ∧ Ext w w' := by
  have hsz : s.data.toList.length = s.size := Array.length_toList
  have HSZ := hid hsz
  have HE := hid hE
  have HNB := hid (numB_atoi s.data.toList)
  clear hE hsz
  go_enter Tryz.func78, Tryz.ntmps78
  go_wp2_with (fail)
  refine (Atoi_any s w (by omega) HE.out).mono ?_
  rintro e w1 ⟨n, er, rfl, hc, he⟩
  have HX := hid he
  clear he
  rcases hc with ⟨rfl, ha, b0, b1⟩ | ⟨⟨t, p, rfl⟩, ha⟩
  · rw [ha] at HNB
    have HA := hid ha
    clear ha
    by_cases h4 : (s.size : Int) ≤ 4
    · by_cases h0 : 0 ≤ n
      · go_wp2_with (fail)
        refine (Itoa_any n w1 b0 b1 (HE.out.ext HX.out)).mono ?_
        rintro e w2 ⟨rfl, he⟩
        have HX2 := hid (HX.out.trans he)
        clear he
        by_cases hq : (strB (Lib.itoa n)).toList = s.toList
        · have HQ := hid hq
          go_wp2
          go_ret2
          refine ⟨⟨n, true, rfl, .inl ⟨rfl, ?_⟩⟩, HX2.out⟩
          rw [HNB.out, Option.bind_some, if_pos]
          refine ⟨by rw [HSZ.out]; omega, h0, ?_⟩
          have := HQ.out
          rw [ByteArray.toList_eq, ByteArray.toList_eq] at this
          exact this
        · have HQ := hid hq
          have hq2 : ((strB (Lib.itoa n)).toList == s.toList) = false := by simpa using hq
          go_wp2
          go_ret2
          refine ⟨⟨n, false, rfl, .inr ⟨rfl, ?_⟩⟩, HX2.out⟩
          rw [HNB.out, Option.bind_some, if_neg]
          rintro ⟨-, -, e⟩
          apply HQ.out
          rw [ByteArray.toList_eq, ByteArray.toList_eq]
          exact e
      · go_wp2
        go_ret2
        refine ⟨⟨n, false, by simp, .inr ⟨rfl, ?_⟩⟩, HX.out⟩
        rw [HNB.out, Option.bind_some, if_neg]
        rintro ⟨-, e, -⟩
        omega
    · go_wp2
      go_ret2
      refine ⟨⟨n, false, by simp, .inr ⟨rfl, ?_⟩⟩, HX.out⟩
      rw [HNB.out, Option.bind_some, if_neg]
      rintro ⟨e, -⟩
      rw [HSZ.out] at e
      omega
  · rw [ha] at HNB
    clear ha
    go_wp2
    go_ret2
    exact ⟨⟨n, false, by simp, .inr ⟨rfl, HNB.out⟩⟩, HX.out⟩

theorem number_any (t : Bs) (w : World) (hE : Env w) (hs : t.length ≤ 1000) :
    Calls Tryz.prog 78 #[strV t] w fun e w' => NumAns t e ∧ Ext w w' := number_str (strB t) w hE hs

end Go.Proofs.YteiamhapplnlaabGreatDoor
