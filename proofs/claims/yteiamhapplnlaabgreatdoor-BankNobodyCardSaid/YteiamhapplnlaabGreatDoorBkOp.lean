/-
  Contracts of the disk's operation, and of Append, Sync and Cut.
-/
import Derived.Test.YteiamhapplnlaabGreatDoorBkDiskB
namespace Go.Proofs.YteiamhapplnlaabGreatDoor
open Go.RowKit

theorem dim_dark {d : DD} (h : d.dark = true) : d.dim = { d with dark := true } ∧ d.dim.dark = true := by unfold DD.dim; rw [h]; exact ⟨rfl, rfl⟩
theorem dim_zero {d : DD} (h : d.left = 0) : d.dim = { d with dark := true } ∧ d.dim.dark = true := by
  unfold DD.dim
  simp [h]
theorem dim_no {d : DD} (h : d.dark = false) (hl : d.left ≠ 0) : d.dim.dark = false := by unfold DD.dim; simp [h, hl]
theorem burn_pos {d : DD} (h : 0 < d.left) : d.burn = { d with left := d.left - 1 } := by unfold DD.burn; rw [if_pos h]
theorem burn_neg {d : DD} (h : ¬ 0 < d.left) : d.burn = d := by unfold DD.burn; rw [if_neg h]
theorem Near.trans {w w2 : World} {v v2 v3 : Value} (h : Near w v v2) (g : Near w2 v2 v3) (hs : w.heap.size ≤ w2.heap.size) : Near w v v3 := by
  intro k hk
  rcases g k hk with e | e
  · exact h k e
  · exact .inr (by omega)
theorem one_moved (w : World) (b i : Nat) (u : Value) : Moved (fun k => k = b) w (w.setCell ⟨b, i, none⟩ u) := (Moved.refl (fun k => k = b) w).set (.inl rfl) i u
/-- What an operation returns, and what it leaves. -/
def opErr (d : DD) : Int := if d.dim.dark = true then 8 else 0
def opDD (d d1 : DD) : DD := if d.dim.dark = true then d.dim else d1
theorem opErr_off {d : DD} (h : d.dim.dark = true) : opErr d = 8 := if_pos h
theorem opErr_on {d : DD} (h : ¬ d.dim.dark = true) : opErr d = 0 := if_neg h
theorem opDD_off {d d1 : DD} (h : d.dim.dark = true) : opDD d d1 = d.dim := if_pos h
theorem opDD_on {d d1 : DD} (h : ¬ d.dim.dark = true) : opDD d d1 = d1 := if_neg h

set_option maxHeartbeats 2000000 in
theorem opApp {B : Nat} (b p1 p2 : Nat) (y : Value) (ys : List Int) (v : Value) (d : DD) (w : World) (hd : DiskP B w b v d) (h1 : w.cell? ⟨p1, 0, none⟩ = some (.pointer (some ⟨b, 0, none⟩))) (h2 : w.cell? ⟨p2, 0, none⟩ = some y)
    (hy : BytesI w y ys) (n1 : p1 ≠ b) (n2 : p2 ≠ b) (m1 : v.ownBlock ≠ some p1) (m2 : v.ownBlock ≠ some p2) (hl : (d.bytes.length : Int) + ys.length ≤ d.size) (h8 : ∀ x ∈ ys, 0 ≤ x ∧ x < 256) (hB : B ≤ w.heap.size) (hyb : ∀ k, y.ownBlock = some k → k ≠ b) :
    Calls Tryz.prog 24 #[.pointer (some ⟨b, 0, none⟩), .func (.func 25) #[] #[.pointer (some ⟨p1, 0, none⟩), .pointer (some ⟨p2, 0, none⟩)]] w fun e w' => e = .returned (.int .i64 (opErr d)) ∧ ∃ v', DiskP B w' b v' (opDD d { d.burn with bytes := d.bytes ++ ys }) ∧ Near w v v' ∧ Moved (fp b v) w w' := by
  obtain ⟨c0, c1, c2, c3, c4⟩ := hd.box.cells
  have f3 := hd.box.free 3
  have f4 := hd.box.free 4
  have HD := hid hd
  have H1 := hid h1
  have H2 := hid h2
  have HY := hid hy
  have H8 := hid h8
  have HYB := hid hyb
  have M1 := hid m1
  have M2 := hid m2
  have HL := hid hl
  clear h1 h2 hy h8 hyb m1 m2 hl
  cases hdk : d.dark with
  | true =>
    obtain ⟨e1, e2⟩ := dim_dark hdk
    have HE1 := hid e1
    have HE2 := hid e2
    have HOK := hid hd.ok.dim
    rw [hdk] at c3
    clear hd hdk e1 e2
    go_enter Tryz.func24, Tryz.ntmps24
    go_wp2_with (fail)
    go_ret
    exact ⟨ret_int (opErr_off HE2.out).symm, v, by rw [opDD_off HE2.out]; exact HD.out.setDark HE1.out HOK.out, Near.refl _ _, (Moved.refl _ _).set (.inl (.inl rfl)) 3 _⟩
  | false =>
    by_cases hl : d.left = 0
    · obtain ⟨e1, e2⟩ := dim_zero hl
      have HE1 := hid e1
      have HE2 := hid e2
      have HOK := hid hd.ok.dim
      have hl2 : (d.left == 0) = true := by simpa using hl
      rw [hdk] at c3
      clear hd hdk hl e1 e2
      go_enter Tryz.func24, Tryz.ntmps24
      go_wp2_with (fail)
      go_ret
      exact ⟨ret_int (opErr_off HE2.out).symm, v, by rw [opDD_off HE2.out]; exact HD.out.setDark HE1.out HOK.out, Near.refl _ _, (Moved.refl _ _).set (.inl (.inl rfl)) 3 _⟩
    · have e2 := dim_no hdk hl
      have HE2 : Hid (¬ d.dim.dark = true) := by show ¬ _; rw [e2]; simp
      have hl2 : (d.left == 0) = false := by simpa using hl
      have D1 : Hid (DiskP B (w.setCell ⟨b, 3, none⟩ (.bool false)) b v d) := hd.setDark (by rw [← hdk]) hd.ok
      have HDK := hid hdk
      have HBOK := hid hd.ok.burn
      by_cases hp : 0 < d.left
      · have HBU := hid (burn_pos hp)
        have D2 : Hid (DiskP B ((w.setCell ⟨b, 3, none⟩ (.bool false)).setCell ⟨b, 4, none⟩ (.int .i64 (d.left - 1))) b v d.burn) := D1.out.setLeft2 HBU.out HBOK.out
        have MV : Hid (Moved (fun k => k = b) w ((w.setCell ⟨b, 3, none⟩ (.bool false)).setCell ⟨b, 4, none⟩ (.int .i64 (d.left - 1)))) := (one_moved w b 3 _).set (.inl rfl) 4 _
        have hlm := hd.ok.lm
        rw [hdk] at c3
        clear hd hdk e2 hl
        go_enter Tryz.func24, Tryz.ntmps24
        go_wp2_with (fail)
        refine (appClo_any b p1 p2 v y ys d.burn _ D2.out (MV.out.cell (by exact n1) H1.out) (MV.out.cell (by exact n2) H2.out) (HY.out.moved MV.out HYB.out) n1 n2 M1.out M2.out HL.out H8.out (Nat.le_trans hB MV.out.size)).mono ?_
        rintro e w3 ⟨rfl, v3, hd3, hn3, hm3⟩
        have HD3 := hid hd3
        have HN3 := hid hn3
        have HM3 := hid hm3
        clear hd3 hn3 hm3
        clear c0 c1 c2 c3 c4 f3 f4
        go_wp2
        go_ret
        exact ⟨ret_int (opErr_on HE2.out).symm, v3, by rw [opDD_on HE2.out]; exact HD3.out, (Near.refl w v).trans HN3.out MV.out.size, (MV.out.weaken (fun k hk => .inl hk)).trans HM3.out (fun _ _ h => h)⟩
      · have HBU := hid (burn_neg hp)
        have D2 : Hid (DiskP B (w.setCell ⟨b, 3, none⟩ (.bool false)) b v d.burn) := by rw [HBU.out]; exact D1.out
        have MV : Hid (Moved (fun k => k = b) w (w.setCell ⟨b, 3, none⟩ (.bool false))) := one_moved w b 3 _
        rw [hdk] at c3
        clear hd hdk e2 hl
        go_enter Tryz.func24, Tryz.ntmps24
        go_wp2_with (fail)
        refine (appClo_any b p1 p2 v y ys d.burn _ D2.out (MV.out.cell (by exact n1) H1.out) (MV.out.cell (by exact n2) H2.out) (HY.out.moved MV.out HYB.out) n1 n2 M1.out M2.out HL.out H8.out (Nat.le_trans hB MV.out.size)).mono ?_
        rintro e w3 ⟨rfl, v3, hd3, hn3, hm3⟩
        have HD3 := hid hd3
        have HN3 := hid hn3
        have HM3 := hid hm3
        clear hd3 hn3 hm3
        clear c0 c1 c2 c3 c4 f3 f4
        go_wp2
        go_ret
        exact ⟨ret_int (opErr_on HE2.out).symm, v3, by rw [opDD_on HE2.out]; exact HD3.out, (Near.refl w v).trans HN3.out MV.out.size, (MV.out.weaken (fun k hk => .inl hk)).trans HM3.out (fun _ _ h => h)⟩

set_option maxHeartbeats 2000000 in
theorem opSync {B : Nat} (b p1 : Nat) (v : Value) (d : DD) (w : World) (hd : DiskP B w b v d) (h1 : w.cell? ⟨p1, 0, none⟩ = some (.pointer (some ⟨b, 0, none⟩))) (n1 : p1 ≠ b) :
    Calls Tryz.prog 24 #[.pointer (some ⟨b, 0, none⟩), .func (.func 26) #[] #[.pointer (some ⟨p1, 0, none⟩)]] w fun e w' => e = .returned (.int .i64 (opErr d)) ∧ ∃ v', DiskP B w' b v' (opDD d { d.burn with safe := d.bytes.length }) ∧ Near w v v' ∧ Moved (fp b v) w w' := by
  obtain ⟨c0, c1, c2, c3, c4⟩ := hd.box.cells
  have f3 := hd.box.free 3
  have f4 := hd.box.free 4
  have HD := hid hd
  have H1 := hid h1
  clear h1
  cases hdk : d.dark with
  | true =>
    obtain ⟨e1, e2⟩ := dim_dark hdk
    have HE1 := hid e1
    have HE2 := hid e2
    have HOK := hid hd.ok.dim
    rw [hdk] at c3
    clear hd hdk e1 e2
    go_enter Tryz.func24, Tryz.ntmps24
    go_wp2_with (fail)
    go_ret
    exact ⟨ret_int (opErr_off HE2.out).symm, v, by rw [opDD_off HE2.out]; exact HD.out.setDark HE1.out HOK.out, Near.refl _ _, (Moved.refl _ _).set (.inl (.inl rfl)) 3 _⟩
  | false =>
    by_cases hl : d.left = 0
    · obtain ⟨e1, e2⟩ := dim_zero hl
      have HE1 := hid e1
      have HE2 := hid e2
      have HOK := hid hd.ok.dim
      have hl2 : (d.left == 0) = true := by simpa using hl
      rw [hdk] at c3
      clear hd hdk hl e1 e2
      go_enter Tryz.func24, Tryz.ntmps24
      go_wp2_with (fail)
      go_ret
      exact ⟨ret_int (opErr_off HE2.out).symm, v, by rw [opDD_off HE2.out]; exact HD.out.setDark HE1.out HOK.out, Near.refl _ _, (Moved.refl _ _).set (.inl (.inl rfl)) 3 _⟩
    · have e2 := dim_no hdk hl
      have HE2 : Hid (¬ d.dim.dark = true) := by show ¬ _; rw [e2]; simp
      have hl2 : (d.left == 0) = false := by simpa using hl
      have D1 : Hid (DiskP B (w.setCell ⟨b, 3, none⟩ (.bool false)) b v d) := hd.setDark (by rw [← hdk]) hd.ok
      have HDK := hid hdk
      have HBOK := hid hd.ok.burn
      by_cases hp : 0 < d.left
      · have HBU := hid (burn_pos hp)
        have D2 : Hid (DiskP B ((w.setCell ⟨b, 3, none⟩ (.bool false)).setCell ⟨b, 4, none⟩ (.int .i64 (d.left - 1))) b v d.burn) := D1.out.setLeft2 HBU.out HBOK.out
        have MV : Hid (Moved (fun k => k = b) w ((w.setCell ⟨b, 3, none⟩ (.bool false)).setCell ⟨b, 4, none⟩ (.int .i64 (d.left - 1)))) := (one_moved w b 3 _).set (.inl rfl) 4 _
        have hlm := hd.ok.lm
        rw [hdk] at c3
        clear hd hdk e2 hl
        go_enter Tryz.func24, Tryz.ntmps24
        go_wp2_with (fail)
        refine (syncClo_any b p1 v d.burn _ D2.out (MV.out.cell (by exact n1) H1.out) n1).mono ?_
        rintro e w3 ⟨rfl, hd3, hm3⟩
        have HD3 := hid hd3
        have HM3 := hid hm3
        clear hd3 hm3
        clear c0 c1 c2 c3 c4 f3 f4
        go_wp2
        go_ret
        exact ⟨ret_int (opErr_on HE2.out).symm, v, by rw [opDD_on HE2.out]; exact HD3.out, Near.refl w v, (MV.out.weaken (fun k hk => .inl hk)).trans HM3.out (fun _ _ h => h)⟩
      · have HBU := hid (burn_neg hp)
        have D2 : Hid (DiskP B (w.setCell ⟨b, 3, none⟩ (.bool false)) b v d.burn) := by rw [HBU.out]; exact D1.out
        have MV : Hid (Moved (fun k => k = b) w (w.setCell ⟨b, 3, none⟩ (.bool false))) := one_moved w b 3 _
        rw [hdk] at c3
        clear hd hdk e2 hl
        go_enter Tryz.func24, Tryz.ntmps24
        go_wp2_with (fail)
        refine (syncClo_any b p1 v d.burn _ D2.out (MV.out.cell (by exact n1) H1.out) n1).mono ?_
        rintro e w3 ⟨rfl, hd3, hm3⟩
        have HD3 := hid hd3
        have HM3 := hid hm3
        clear hd3 hm3
        clear c0 c1 c2 c3 c4 f3 f4
        go_wp2
        go_ret
        exact ⟨ret_int (opErr_on HE2.out).symm, v, by rw [opDD_on HE2.out]; exact HD3.out, Near.refl w v, (MV.out.weaken (fun k hk => .inl hk)).trans HM3.out (fun _ _ h => h)⟩

set_option maxHeartbeats 2000000 in
theorem opCut {B : Nat} (b p1 p2 : Nat) (n : Int) (v : Value) (d : DD) (w : World) (hd : DiskP B w b v d) (h1 : w.cell? ⟨p1, 0, none⟩ = some (.pointer (some ⟨b, 0, none⟩))) (h2 : w.cell? ⟨p2, 0, none⟩ = some (.int .i64 n)) (n1 : p1 ≠ b) (n2 : p2 ≠ b) (l0 : 0 ≤ n) (l1 : n ≤ d.bytes.length) :
    Calls Tryz.prog 24 #[.pointer (some ⟨b, 0, none⟩), .func (.func 27) #[] #[.pointer (some ⟨p1, 0, none⟩), .pointer (some ⟨p2, 0, none⟩)]] w fun e w' => e = .returned (.int .i64 (opErr d)) ∧ ∃ v', DiskP B w' b v' (opDD d { d.burn with bytes := d.bytes.take n.toNat, safe := n }) ∧ Near w v v' ∧ Moved (fp b v) w w' := by
  obtain ⟨c0, c1, c2, c3, c4⟩ := hd.box.cells
  have f3 := hd.box.free 3
  have f4 := hd.box.free 4
  have HD := hid hd
  have H1 := hid h1
  have H2 := hid h2
  have L0 := hid l0
  have L1 := hid l1
  clear h1 h2 l0 l1
  cases hdk : d.dark with
  | true =>
    obtain ⟨e1, e2⟩ := dim_dark hdk
    have HE1 := hid e1
    have HE2 := hid e2
    have HOK := hid hd.ok.dim
    rw [hdk] at c3
    clear hd hdk e1 e2
    go_enter Tryz.func24, Tryz.ntmps24
    go_wp2_with (fail)
    go_ret
    exact ⟨ret_int (opErr_off HE2.out).symm, v, by rw [opDD_off HE2.out]; exact HD.out.setDark HE1.out HOK.out, Near.refl _ _, (Moved.refl _ _).set (.inl (.inl rfl)) 3 _⟩
  | false =>
    by_cases hl : d.left = 0
    · obtain ⟨e1, e2⟩ := dim_zero hl
      have HE1 := hid e1
      have HE2 := hid e2
      have HOK := hid hd.ok.dim
      have hl2 : (d.left == 0) = true := by simpa using hl
      rw [hdk] at c3
      clear hd hdk hl e1 e2
      go_enter Tryz.func24, Tryz.ntmps24
      go_wp2_with (fail)
      go_ret
      exact ⟨ret_int (opErr_off HE2.out).symm, v, by rw [opDD_off HE2.out]; exact HD.out.setDark HE1.out HOK.out, Near.refl _ _, (Moved.refl _ _).set (.inl (.inl rfl)) 3 _⟩
    · have e2 := dim_no hdk hl
      have HE2 : Hid (¬ d.dim.dark = true) := by show ¬ _; rw [e2]; simp
      have hl2 : (d.left == 0) = false := by simpa using hl
      have D1 : Hid (DiskP B (w.setCell ⟨b, 3, none⟩ (.bool false)) b v d) := hd.setDark (by rw [← hdk]) hd.ok
      have HDK := hid hdk
      have HBOK := hid hd.ok.burn
      by_cases hp : 0 < d.left
      · have HBU := hid (burn_pos hp)
        have D2 : Hid (DiskP B ((w.setCell ⟨b, 3, none⟩ (.bool false)).setCell ⟨b, 4, none⟩ (.int .i64 (d.left - 1))) b v d.burn) := D1.out.setLeft2 HBU.out HBOK.out
        have MV : Hid (Moved (fun k => k = b) w ((w.setCell ⟨b, 3, none⟩ (.bool false)).setCell ⟨b, 4, none⟩ (.int .i64 (d.left - 1)))) := (one_moved w b 3 _).set (.inl rfl) 4 _
        have hlm := hd.ok.lm
        rw [hdk] at c3
        clear hd hdk e2 hl
        go_enter Tryz.func24, Tryz.ntmps24
        go_wp2_with (fail)
        refine (cutClo_any b p1 p2 v n d.burn _ D2.out (MV.out.cell (by exact n1) H1.out) (MV.out.cell (by exact n2) H2.out) n1 n2 L0.out L1.out).mono ?_
        rintro e w3 ⟨rfl, v3, hd3, hn3, hm3⟩
        have HD3 := hid hd3
        have HN3 := hid hn3
        have HM3 := hid hm3
        clear hd3 hn3 hm3
        clear c0 c1 c2 c3 c4 f3 f4
        go_wp2
        go_ret
        exact ⟨ret_int (opErr_on HE2.out).symm, v3, by rw [opDD_on HE2.out]; exact HD3.out, (Near.refl w v).trans HN3.out MV.out.size, (MV.out.weaken (fun k hk => .inl hk)).trans HM3.out (fun _ _ h => h)⟩
      · have HBU := hid (burn_neg hp)
        have D2 : Hid (DiskP B (w.setCell ⟨b, 3, none⟩ (.bool false)) b v d.burn) := by rw [HBU.out]; exact D1.out
        have MV : Hid (Moved (fun k => k = b) w (w.setCell ⟨b, 3, none⟩ (.bool false))) := one_moved w b 3 _
        rw [hdk] at c3
        clear hd hdk e2 hl
        go_enter Tryz.func24, Tryz.ntmps24
        go_wp2_with (fail)
        refine (cutClo_any b p1 p2 v n d.burn _ D2.out (MV.out.cell (by exact n1) H1.out) (MV.out.cell (by exact n2) H2.out) n1 n2 L0.out L1.out).mono ?_
        rintro e w3 ⟨rfl, v3, hd3, hn3, hm3⟩
        have HD3 := hid hd3
        have HN3 := hid hn3
        have HM3 := hid hm3
        clear hd3 hn3 hm3
        clear c0 c1 c2 c3 c4 f3 f4
        go_wp2
        go_ret
        exact ⟨ret_int (opErr_on HE2.out).symm, v3, by rw [opDD_on HE2.out]; exact HD3.out, (Near.refl w v).trans HN3.out MV.out.size, (MV.out.weaken (fun k hk => .inl hk)).trans HM3.out (fun _ _ h => h)⟩

end Go.Proofs.YteiamhapplnlaabGreatDoor
