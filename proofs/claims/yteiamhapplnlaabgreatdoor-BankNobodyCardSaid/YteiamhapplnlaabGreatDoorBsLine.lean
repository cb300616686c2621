/-
  Contracts of isLine and number.
-/
import Derived.Test.YteiamhapplnlaabGreatDoorBsShelf
import Derived.Test.YteiamhapplnlaabGreatDoorBkBytes
import Derived.Lib.ConvBytes
namespace Go.Proofs.YteiamhapplnlaabGreatDoor
open Go.RowKit

def badB (c : Int) : Bool := decide (c < 32) || decide (126 < c)
theorem isLine1_any (c : Int) (w : World) :
    Calls Tryz.prog 71 #[.int .u8 c] w fun e w' => e = .returned (.bool (badB c)) ∧ w = w' := by
  by_cases h : c < 32
  · go_enter Tryz.func71, Tryz.ntmps71
    go_wp2
    go_ret
    exact ⟨ret_bool (by unfold badB; simp [h]), rfl⟩
  · go_enter Tryz.func71, Tryz.ntmps71
    go_wp2
    go_ret
    exact ⟨ret_bool (by unfold badB; rw [Bool.eq_iff_iff]; simp; omega), rfl⟩

set_option maxHeartbeats 1000000 in
theorem IndexFuncB_any (v : Value) (L : List Int) (w : World) (hv : BytesI w v L) (hl : L.length < 4294967281) :
    Calls Tryz.prog 110 #[v, .func (.func 71) #[] #[]] w fun e w' => ∃ r : Int, e = .returned (.int .i64 r) ∧ decide (0 ≤ r) = L.any badB ∧ w = w' := by
  obtain ⟨ao, cap, rfl, hcap, -, hc⟩ := hv
  have HC := hid hc
  clear hc
  go_enter Tryz.func110, Tryz.ntmps110
  go_wp2
  go_loopg [8] L.length (fun g i wr => ∃ k : Nat, k + g = L.length ∧ i = .int .i64 k ∧ Hid ((L.take k).any badB = false) ∧ Hid (w = wr))
  case atStart => exact ⟨0, by omega, rfl, rfl, rfl⟩
  case round =>
    obtain ⟨k, hk, rfl, Hno, E⟩ := hrel
    have hkl : k ≤ L.length := by omega
    have Hk := hid hk
    clear hk
    by_cases hlt : k < L.length
    · obtain ⟨b, off, rfl, hcell⟩ := HC.out k hlt
      rw [E.out] at hcell
      have Hs : Hid ((L.take (k + 1)).any badB = badB L[k]) := by
        show _ = _
        rw [List.take_succ_eq_append_getElem hlt, List.any_append, Hno.out]; simp
      have Hme : Hid (L[k] ∈ L) := List.getElem_mem hlt
      generalize L[k] = x at *
      go_wp2_with (fail)
      refine (isLine1_any x _).mono ?_
      cases hb : badB x
      · rintro e w1 ⟨rfl, rfl⟩
        rw [hb] at Hs
        clear hcell hb
        go_wp2
        go_roundg (gk - 1)
        case rel => exact ⟨k + 1, by have := Hk.out; omega, by go_num, Hs, E⟩
        case measure => have := Hk.out; omega
      · rintro e w1 ⟨rfl, rfl⟩
        have Hy : Hid (L.any badB = true) := List.any_eq_true.2 ⟨x, Hme.out, hb⟩
        clear hcell hb
        go_wp2
        go_ret
        exact ⟨_, rfl, by rw [Hy.out, decide_eq_true_iff]; omega, E.out⟩
    · have Hy : Hid (L.any badB = false) := by have := Hno.out; rwa [List.take_of_length_le (by omega)] at this
      go_wp2
      go_ret
      exact ⟨_, rfl, by rw [Hy.out]; rfl, E.out⟩

theorem ContainsFuncB_any (v : Value) (L : List Int) (w : World) (hv : BytesI w v L) (hl : L.length < 4294967281) :
    Calls Tryz.prog 70 #[v, .func (.func 71) #[] #[]] w fun e w' => e = .returned (.bool (L.any badB)) ∧ w = w' := by
  have HV := hid hv
  obtain ⟨ao, cap, rfl, -⟩ := hv
  go_enter Tryz.func70, Tryz.ntmps70
  go_wp2_with (fail)
  refine (IndexFuncB_any _ L _ HV.out hl).mono ?_
  rintro e w' ⟨r, rfl, hr, rfl⟩
  have HR := hid hr
  clear hr
  go_wp2
  go_ret
  exact ⟨ret_bool HR.out, rfl⟩

theorem bytes_of_world (w : World) (s : ByteArray) : BytesI (Lib.bytesWorld w 5 s) (.slice (some ⟨w.heap.size, 0, none⟩) s.size (grownCap w s.size 0 5)) (s.data.toList.map fun c => (c.toNat : Int)) := by
  have hl : (s.data.toList.map fun c => (c.toNat : Int)).length = s.size := by rw [List.length_map, Array.length_toList]; rfl
  refine ⟨_, _, by rw [hl], ?_, fun h => by simp at h, fun i hi => ⟨w.heap.size, 0, rfl, ?_⟩⟩
  · rw [hl]; exact grownCap_ge w s.size 0 _
  · rw [hl] at hi
    rw [Nat.zero_add, Lib.bytesWorld_cell w _ s i hi]
    rw [List.getD_eq_getElem?_getD, List.getElem?_eq_getElem (by rw [Array.length_toList]; exact hi)]
    simp
theorem badB_asc (t : Bs) : (t.map fun c => (c.toNat : Int)).any badB = !asciiB t := by
  unfold asciiB
  induction t with
  | nil => rfl
  | cons c r ih =>
    simp only [List.map_cons, List.any_cons, List.all_cons, ih, Bool.not_and]
    congr 1
    unfold badB
    have h1 : decide ((c.toNat : Int) < 32) = !decide (32 ≤ c) := by
      rw [← decide_not]
      refine decide_eq_decide.2 ?_
      rw [UInt8.le_iff_toNat_le]
      have : (32 : UInt8).toNat = 32 := rfl
      omega
    have h2 : decide (126 < (c.toNat : Int)) = !decide (c ≤ 126) := by
      rw [← decide_not]
      refine decide_eq_decide.2 ?_
      rw [UInt8.le_iff_toNat_le]
      have : (126 : UInt8).toNat = 126 := rfl
      omega
    rw [h1, h2]

theorem lineB_val (t : Bs) : lineB t = (decide (t.length ≤ 100) && (!(splitSp t).contains [] && asciiB t)) := by unfold lineB; rw [Bool.and_assoc]

theorem ContainsS_any (v : Value) (l : List Bs) (x : Bs) (w : World) (hv : StrsR w v l) :
    Calls Tryz.prog 68 #[v, strV x] w fun e w' => e = .returned (.bool (l.contains x)) ∧ w' = w := by
  obtain ⟨hl, ao, cap, rfl, hcap, hc⟩ := hv
  by_cases h0 : l = []
  · subst h0
    refine (Tryz.slices_Contains_string_empty ao cap (strB x) w).mono ?_
    rintro e w' ⟨rfl, rfl⟩
    exact ⟨rfl, rfl⟩
  · obtain ⟨b, off, rfl, -⟩ := hc 0 (List.length_pos_iff.2 h0)
    refine (Tryz.slices_Contains_string b off l.length cap (l.map strB) (strB x) w (by simp) (by omega) (fun j hj => ?_)).mono ?_
    · rw [List.length_map] at hj
      obtain ⟨b', off', e, h⟩ := hc j hj
      cases e
      rw [h, List.getD_eq_getElem?_getD, List.getElem?_map, List.getElem?_eq_getElem hj]; rfl
    · rintro e w' ⟨rfl, rfl⟩
      refine ⟨ret_bool ?_, rfl⟩
      rw [List.take_of_length_le (by simp)]
      rw [Bool.eq_iff_iff, Lib.containsS_iff, List.contains_iff_mem]
      constructor
      · intro h
        obtain ⟨y, hy, e⟩ := List.mem_map.1 h
        rwa [← strB_inj e]
      · exact fun h => List.mem_map.2 ⟨x, h, rfl⟩

set_option maxHeartbeats 1000000 in
theorem isLine_any (s : ByteArray) (w : World) (hE : Env w) :
    Calls Tryz.prog 40 #[.string s] w fun e w' => e = .returned (.bool (lineB s.data.toList)) ∧ Ext w w' := by
  have hsz : s.data.toList.length = s.size := Array.length_toList
  have HSZ := hid hsz
  have HE := hid hE
  clear hE hsz
  by_cases h1 : (s.size : Int) ≤ 100
  · have hs : s.size < 4294967281 := by omega
    have HV : Hid (lineB s.data.toList = (!(splitSp s.data.toList).contains [] && asciiB s.data.toList)) := by
      show _ = _
      rw [lineB_val, decide_eq_true (by rw [HSZ.out]; omega), Bool.true_and]
    go_enter Tryz.func40, Tryz.ntmps40
    go_wp2_with (fail)
    refine (Split_any 32 s w hs HE.out).mono ?_
    rintro e w1 ⟨cap, rfl, hr, he⟩
    have HR := hid hr
    have HX := hid he
    clear hr he
    obtain ⟨n, hn⟩ : ∃ n, n = (splitC 32 s.data.toList).length := ⟨_, rfl⟩
    rw [← hn] at HR ⊢
    have HN := hid hn
    clear hn
    go_wp2_with (fail)
    refine (ContainsS_any _ (splitSp s.data.toList) [] w1 HR.out).mono ?_
    cases hc : (splitSp s.data.toList).contains [] with
    | true =>
      rintro e w2 ⟨rfl, rfl⟩
      have HC := hid hc
      clear hc
      go_wp2
      go_ret
      exact ⟨ret_bool (by rw [HV.out, HC.out]; rfl), HX.out⟩
    | false =>
      rintro e w2 ⟨rfl, rfl⟩
      have HC := hid hc
      clear hc
      have hcv := Lib.run_convert_string_bytes (P := Tryz.prog) w2 9 26 5 s Tryz.underlying9 Tryz.underlying26 Tryz.underlying5
      have hb := bytes_of_world w2 s
      have HB := hid hb
      have HX2 := hid (HX.out.trans (bytesWorld_ext w2 5 s))
      clear hb
      go_wp2_with (fail)
      refine (ContainsFuncB_any _ _ _ HB.out (by rw [List.length_map, HSZ.out]; omega)).mono ?_
      rintro e w3 ⟨rfl, rfl⟩
      have HQ := hid (badB_asc s.data.toList)
      generalize (s.data.toList.map fun c => (c.toNat : Int)).any badB = q at *
      clear hcv
      go_wp2
      go_ret
      exact ⟨ret_bool (by rw [HV.out, HC.out, HQ.out]; simp), HX2.out⟩
  · have HV : Hid (lineB s.data.toList = false) := by
      show _ = _
      rw [lineB_val, decide_eq_false (by rw [HSZ.out]; omega), Bool.false_and]
    go_enter Tryz.func40, Tryz.ntmps40
    go_wp2
    go_ret
    exact ⟨ret_bool HV.out.symm, Ext.refl _⟩

end Go.Proofs.YteiamhapplnlaabGreatDoor
