/-
  Contract of a bank's Do.
-/
import Derived.Test.YteiamhapplnlaabGreatDoorBsWrite
namespace Go.Proofs.YteiamhapplnlaabGreatDoor
open Go.RowKit

theorem chg_line {S : SD} {t : Bs} (h : (S.chg t).1 = 0) : lineB t = true := by
  cases hl : lineB t with
  | true => rfl
  | false =>
    unfold SD.chg at h
    rw [if_pos hl] at h
    cases h
def DoPost (B : Nat) (d : DD) (x : BankS) (t : Bs) (w : World) (bb db : Nat) (n : Int) (vr vd v : Value) (e : Ending) (w' : World) : Prop :=
  e = .returned (.tuple #[strV (doF d x t).1.1, .int .i64 (doF d x t).1.2]) ∧ ∃ v' vd' sp', DiskP B w' db v' (doF d x t).2.1 ∧ Near w v v' ∧ BankP B w' bb db n vr sp' vd' (doF d x t).2.2 ∧ Near w vd vd' ∧ Moved (fun j => fpB bb vd j ∨ fp db v j) w w'

set_option maxHeartbeats 4000000 in
set_option maxRecDepth 100000 in
theorem Do_any {B : Nat} {bb db : Nat} {n : Int} {vr : Value} {sp : Nat} {vd v : Value} {x : BankS} {d : DD} (s : ByteArray) (w : World) (h : BankP B w bb db n vr sp vd x) (hd : DiskP B w db v d) (hB : B ≤ w.heap.size) (hs : s.size ≤ 4294967280) (hdn : x.done.length < 1000000)
    (hchg : Calls Tryz.prog 29 #[.pointer (some ⟨sp, 0, none⟩), .string s] w (ChgAns x.st s.data.toList w)) :
    Calls Tryz.prog 12 #[.pointer (some ⟨bb, 0, none⟩), .string s] w (DoPost B d x s.data.toList w bb db n vr vd v) := by
  have H := hid h
  have HD := hid hd
  have HCH := hid hchg
  obtain ⟨c0, -, -, c3, -, -, -⟩ := h.box.cells
  have hsz : s.data.toList.length = s.size := Array.length_toList
  have HSZ := hid hsz
  clear h hd hchg hsz
  cases hl : x.lost with
  | true =>
    have HR : Hid (doF d x s.data.toList = (([], 5), d, x)) := by show _ = _; unfold doF; rw [if_pos hl]
    have HY : Hid (readyE x = 5) := by show _ = _; unfold readyE; rw [hl]; rfl
    clear hl
    go_enter Tryz.func12, Tryz.ntmps12
    go_wp2_with (fail)
    refine (ready_any w H.out).mono ?_
    rw [HY.out]
    rintro e w' ⟨rfl, rfl⟩
    go_wp2
    go_ret2
    unfold DoPost
    rw [HR.out]
    exact ⟨rfl, _, _, _, HD.out, Near.refl _ _, H.out, Near.refl _ _, Moved.refl _ _⟩
  | false =>
    have HY : Hid (readyE x = 0) := by show _ = _; unfold readyE; rw [hl]; rfl
    have HL := hid hl
    clear hl
    go_enter Tryz.func12, Tryz.ntmps12
    go_wp2_with (fail)
    refine (ready_any w H.out).mono ?_
    rw [HY.out]
    rintro e w' ⟨rfl, rfl⟩
    go_wp2_with (fail)
    refine HCH.out.mono ?_
    rintro e w1 ⟨p, rfl, hst, he⟩
    have HST := hid hst
    have E1 := hid he
    clear hst he
    obtain ⟨rs, hrs⟩ : ∃ rs, rs = x.st.chg s.data.toList := ⟨_, rfl⟩
    rw [← hrs] at HST ⊢
    have HRS := hid hrs
    clear hrs
    by_cases hz : rs.1 = 0
    · have hz2 : (rs.1 != 0) = false := by simp [hz]
      have HZ := hid hz
      have hsl : s.size ≤ 100 := lineB_size (chg_line (S := x.st) (by rw [← HRS.out]; exact hz))
      have HW1 := hid (H.out.ext E1.out)
      have HD1 := hid (HD.out.ext E1.out)
      clear hz c0 c3
      obtain ⟨c0, -, -, c3, -, -, -⟩ := HW1.out.box.cells
      go_wp2_with (fail)
      refine (room_any db v d _ w1 HD1.out).mono ?_
      cases hr : roomB d ((s.size : Int) + 2) with
      | false =>
        rintro e w2 ⟨rfl, he⟩
        have HR : Hid (doF d x s.data.toList = (([], 7), d, x)) := by
          show _ = _
          unfold doF
          rw [if_neg (by rw [HL.out]; simp), if_neg (by rw [← HRS.out, HZ.out]; simp), if_pos (by rw [HSZ.out]; exact hr)]
        have E2 := hid (E1.out.trans he)
        clear hr he
        go_wp2
        go_ret2
        unfold DoPost
        rw [HR.out]
        exact ⟨rfl, _, _, _, HD.out.ext E2.out, Near.refl _ _, H.out.ext E2.out, Near.refl _ _, E2.out.moved _⟩
      | true =>
        rintro e w2 ⟨rfl, he⟩
        have HRM := hid hr
        have E2 := hid (E1.out.trans he)
        have HW2 := hid (HW1.out.ext he)
        have HD2 := hid (HD1.out.ext he)
        have HST2 := hid (HST.out.ext he)
        clear hr he c0 c3
        have hcat : (s ++ (⟨#[10]⟩ : ByteArray)).data.toList = s.data.toList ++ [10] := by rw [ByteArray.data_append, Array.toList_append]
        have HCAT := hid hcat
        clear hcat
        go_wp2_with (fail)
        refine (write_any (s ++ (⟨#[10]⟩ : ByteArray)) w2 HW2.out HD2.out (Nat.le_trans hB E2.out.size)).mono ?_
        rw [HCAT.out]
        obtain ⟨ap, hap⟩ : ∃ ap, ap = d.app (byts (s.data.toList ++ [10])) := ⟨_, rfl⟩
        rw [← hap]
        have HAP := hid hap
        clear hap
        rintro e w3 ⟨rfl, v3, hd3, hn3, hb3, hm3⟩
        have HD3 := hid hd3
        have HN3 : Hid (Near w v v3) := hn3.ofExt E2.out
        have HB3 := hid hb3
        have HM3 := hid hm3
        have HST3 : Hid (StR w3 p rs.2.2) := HST2.out.moved HM3.out ((HW2.out.aloof.sub (G := fun j => j = bb) (fun j hj => .inl hj)).or HD2.out.aloof)
        clear hd3 hn3 hb3 hm3
        have HMM : Hid (Moved (fun j => fpB bb vd j ∨ fp db v j) w w3) := E2.out.thenMoved (HM3.out.weaken (fun j hj => hj.elim (fun h => .inl (.inl h)) .inr))
        by_cases hq : ap.2 = 0
        · have hq2 : (ap.2 != 0) = false := by simp [hq]
          have HQ := hid hq
          have HR : Hid (doF d x s.data.toList = ((rs.2.1, 0), ap.1, { x with st := rs.2.2, done := x.done ++ [s.data.toList], lost := false })) := by
            show _ = _
            unfold doF
            rw [if_neg (by rw [HL.out]; simp), if_neg (by rw [← HRS.out, HZ.out]; simp), if_neg (by rw [HSZ.out]; show ¬ roomB d _ = false; rw [HRM.out]; simp), if_neg (by rw [← HAP.out, HQ.out]; simp), ← HRS.out, ← HAP.out]
          have hlo : (ap.2 == 8) = false := by simp [hq]
          rw [hlo] at HB3
          clear hq hlo
          obtain ⟨ad, cd, rfl⟩ := HB3.out.done.shape
          obtain ⟨-, -, -, q3, q4, -, -⟩ := HB3.out.box.cells
          have g3 := HB3.out.box.free 3
          have BX4 : Hid (Box7 (w3.setCell ⟨bb, 3, none⟩ (.pointer (some ⟨p, 0, none⟩))) bb (.pointer (some ⟨db, 0, none⟩)) (.int .i64 n) vr (.pointer (some ⟨p, 0, none⟩)) (.slice ad x.done.length cd) (.int .i64 x.safe) (.bool false)) := HB3.out.box.set3 _
          have M4 : Hid (Moved (fun j => j = bb) w3 (w3.setCell ⟨bb, 3, none⟩ (.pointer (some ⟨p, 0, none⟩)))) := (Moved.refl (fun j => j = bb) w3).set (.inl rfl) 3 _
          have O4 : Hid (OwnN B 9 1 (w3.setCell ⟨bb, 3, none⟩ (.pointer (some ⟨p, 0, none⟩))) (.slice ad x.done.length cd) x.done.length (x.done.map strV)) := HB3.out.done.moved M4.out (fun j hj e => by subst e; exact HB3.out.done.notBox HB3.out.box (by decide) hj)
          have hnl : x.done.length ≤ 1000000 := by omega
          have HNL := hid hnl
          clear hnl
          obtain ⟨w4, hw4⟩ : ∃ w4, w4 = w3.setCell ⟨bb, 3, none⟩ (.pointer (some ⟨p, 0, none⟩)) := ⟨_, rfl⟩
          rw [← hw4] at BX4 M4 O4
          have HW4 := hid hw4
          have hB4 : B ≤ w4.heap.size := Nat.le_trans hB (Nat.le_trans HMM.out.size M4.out.size)
          have HB4 := hid hB4
          obtain ⟨-, -, -, -, r4, -, -⟩ := BX4.out.cells
          rw [hw4] at r4
          clear hw4 hB4
          go_wp2_with (first
            | (at_builtin; refine wpl_push rfl _ _ 45 9 1 16 _ et_str rfl B x.done.length (.slice ad x.done.length cd) (x.done.map strV) [.string s] w4 rfl O4.out.1 (by rw [HW4.out]) (by rw [HW4.out, World.size_setCell]; rfl) rfl (fun u hu => by simp at hu; subst hu; rfl) HNL.out HB4.out ?_
               intro v5 w5 hO5 hM5 hL5 hS5
               obtain ⟨a5, c5, rfl⟩ := hO5.shape
               have BX5 := hid (BX4.out.moved hM5 (fun e => O4.out.notBox BX4.out (by decide) e))
               have M5 := hid hM5
               have O5 := hid hO5
               have L5 := hid hL5
               have f4 := BX5.out.free 4
               have c4' := BX5.out.cells.2.2.2.2.1
               clear q3 q4 g3 r4 hM5 hO5 hL5)
            | go_in)
          go_ret2
          have M6 : Hid (Moved (fun j => j = bb) w5 (w5.setCell ⟨bb, 4, none⟩ (.slice a5 (x.done.length + 1) c5))) := (Moved.refl (fun j => j = bb) w5).set (.inl rfl) 4 _
          have BX6 : Hid (Box7 (w5.setCell ⟨bb, 4, none⟩ (.slice a5 (x.done.length + 1) c5)) bb (.pointer (some ⟨db, 0, none⟩)) (.int .i64 n) vr (.pointer (some ⟨p, 0, none⟩)) (.slice a5 (x.done.length + 1) c5) (.int .i64 x.safe) (.bool false)) := BX5.out.set4 _
          have O6 : Hid (OwnN B 9 1 (w5.setCell ⟨bb, 4, none⟩ (.slice a5 (x.done.length + 1) c5)) (.slice a5 (x.done.length + 1) c5) (x.done.length + 1) (x.done.map strV ++ [.string s])) := O5.out.moved M6.out (fun j hj e => by subst e; exact O5.out.notBox BX5.out (by decide) hj)
          generalize w5.setCell ⟨bb, 4, none⟩ (.slice a5 (x.done.length + 1) c5) = w6 at M6 BX6 O6 ⊢
          have M36 : Hid (Moved (fpB bb (.slice ad x.done.length cd)) w3 w6) := (M4.out.weaken (fun j hj => .inl hj)).trans ((M5.out.weaken (G := fpB bb (.slice ad x.done.length cd)) (fun j hj => .inr hj)).trans (M6.out.weaken (fun j hj => .inl hj)) (fun _ _ h => h)) (fun _ _ h => h)
          unfold DoPost
          rw [HR.out]
          refine ⟨rfl, v3, .slice a5 (x.done.length + 1) c5, p, HD3.out.moved M36.out (fun k hk hf => HB3.out.far HD3.out hf hk), HN3.out, ⟨H.out.lo, BX6.out, ?_, HST3.out.moved M36.out HB3.out.aloof, ownsRow_moved HB3.out.rd M36.out (fun k hk e => ?_), ?_, ?_⟩, ?_, HMM.out.trans M36.out (fun j _ hj => .inl hj)⟩
          · show OwnN B _ _ _ _ (x.done ++ [_]).length ((x.done ++ [_]).map strV)
            rw [List.length_append, List.map_append]
            exact O6.out
          · obtain ⟨c2, h2⟩ := row_block HB3.out.rd hk
            rcases e with rfl | e
            · have hb : w3.heap[k]? = some _ := HB3.out.box
              rw [hb] at h2; cases h2
            · obtain ⟨c3, h3⟩ := HB3.out.done.block e
              rw [h3] at h2; cases h2
          · show x.safe ≤ (x.done ++ [_]).length
            have := H.out.le
            rw [List.length_append]; omega
          · show (x.done ++ [_]).length ≤ 1000000
            rw [List.length_append]; simp; omega
          · intro k hk
            rcases L5.out with h | h
            · exact .inl (by rw [← h]; exact hk)
            · rw [hk] at h
              cases h
              exact .inr (by have := HMM.out.size; have := M4.out.size; omega)
        · have hq2 : (ap.2 != 0) = true := by simp [hq]
          have HR : Hid (doF d x s.data.toList = (([], ap.2), ap.1, { x with lost := ap.2 == 8 })) := by
            show _ = _
            unfold doF
            rw [if_neg (by rw [HL.out]; simp), if_neg (by rw [← HRS.out, HZ.out]; simp), if_neg (by rw [HSZ.out]; show ¬ roomB d _ = false; rw [HRM.out]; simp), if_pos (by rw [← HAP.out]; exact hq), ← HAP.out]
          clear hq
          go_wp2
          go_ret2
          unfold DoPost
          rw [HR.out]
          exact ⟨rfl, _, _, _, HD3.out, HN3.out, HB3.out, Near.refl _ _, HMM.out⟩
    · have hz2 : (rs.1 != 0) = true := by simp [hz]
      have HR : Hid (doF d x s.data.toList = (([], rs.1), d, x)) := by
        show _ = _
        unfold doF
        rw [if_neg (by rw [HL.out]; simp), if_pos (by rw [← HRS.out]; exact hz), ← HRS.out]
      clear hz
      go_wp2
      go_ret2
      unfold DoPost
      rw [HR.out]
      exact ⟨rfl, _, _, _, HD.out.ext E1.out, Near.refl _ _, H.out.ext E1.out, Near.refl _ _, E1.out.moved _⟩

end Go.Proofs.YteiamhapplnlaabGreatDoor
