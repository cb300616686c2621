/-
  Contracts of the reference's Append, Sync and Cut.
-/
import Derived.Test.YteiamhapplnlaaaGreatDoorBkCalls
namespace Go.Proofs.YteiamhapplnlaaaGreatDoor
open Go.RowKit

theorem did_off {d : DD} (h : d.dim.dark = true) : d.did = d.dim := by unfold DD.did; rw [if_pos h]
theorem did_on {d : DD} (h : ¬ d.dim.dark = true) : d.did = d.burn := by unfold DD.did; rw [if_neg h]
theorem DiskR.setSafe {B : Nat} {w : World} {b : Nat} {v : Value} {d d' : DD} {k : Int} (h : DiskR B w b v d) (hd : d' = { d with safe := k }) (ok : DOk d') : DiskR B (w.setCell ⟨b, 2, none⟩ (.int .i64 k)) b v d' := by
  subst hd
  exact ⟨h.lo, h.box.set2 _, ownB_set h.own h.box (by decide), ok⟩
theorem DiskR.setRow {B : Nat} {w : World} {b : Nat} {v v' : Value} {d d' : DD} {xs : List Int} (h : Box5 w b 72 (.int .i64 d.size) v (.int .i64 d.safe) (.bool d.dark) (.int .i64 d.left)) (lo : B ≤ b) (hv : OwnB B w v' xs) (hd : d' = { d with bytes := xs }) (ok : DOk d') : DiskR B (w.setCell ⟨b, 1, none⟩ v') b v' d' := by
  subst hd
  exact ⟨lo, h.set1 _, ownB_set hv h (by decide), ok⟩

set_option maxHeartbeats 2000000 in
theorem RSync_any {B : Nat} (b : Nat) (v : Value) (d : DD) (w : World) (hd : DiskR B w b v d) :
    Calls Tryz.prog 33 #[.pointer (some ⟨b, 0, none⟩)] w fun e w' => e = .returned (.int .i64 d.sync.2) ∧ ∃ v', DiskR B w' b v' d.sync.1 ∧ Near w v v' ∧ Moved (fp b v) w w' := by
  have HR := hid (sync_op d)
  have HSOK := hid hd.ok.sync
  obtain ⟨av, cv, hv, -⟩ := ownB_len hd.own
  have HV := hid hv
  go_enter Tryz.func33, Tryz.ntmps33
  go_wp2_with (fail)
  refine (done_any b v d w hd).mono ?_
  clear hv
  cases hk : d.dim.dark with
  | true =>
    have HE := hid (opErr_off hk)
    have HD := hid (opDD_off (d1 := { d.burn with safe := d.bytes.length }) hk)
    have HDI := hid (did_off hk)
    rintro e w1 ⟨rfl, h1, m1⟩
    have H1 := hid h1
    have M1 := hid m1
    clear h1 m1 hk
    go_wp2
    go_ret
    exact ⟨ret_int (by rw [HR.out]; exact HE.out.symm), v, by rw [HR.out]; show DiskR _ _ _ _ (opDD d _); rw [HD.out, ← HDI.out]; exact H1.out, Near.refl _ _, M1.out⟩
  | false =>
    have hk' : ¬ d.dim.dark = true := by rw [hk]; simp
    have HE := hid (opErr_on hk')
    have HD := hid (opDD_on (d1 := { d.burn with safe := d.bytes.length }) hk')
    have HDI := hid (did_on hk')
    rintro e w1 ⟨rfl, h1, m1⟩
    rw [HDI.out] at h1
    have H1 := hid h1
    have M1 := hid m1
    rw [HV.out] at h1
    obtain ⟨c0, c1, c2, c3, c4⟩ := h1.box.cells
    have f2 := h1.box.free 2
    have HOK : Hid (DOk { d.burn with safe := (d.bytes.length : Int) }) := by
      have h := HSOK.out
      rw [HR.out] at h
      have h' : DOk (opDD d { d.burn with safe := d.bytes.length }) := h
      rw [HD.out] at h'
      exact h'
    clear h1 m1 hk hk' c0 c3 c4
    go_wp2
    go_ret
    exact ⟨ret_int (by rw [HR.out]; exact HE.out.symm), v, by rw [HR.out]; show DiskR _ _ _ _ (opDD d _); rw [HD.out]; exact H1.out.setSafe rfl HOK.out, Near.refl _ _, M1.out.set (.inl (.inl rfl)) 2 _⟩

set_option maxHeartbeats 2000000 in
theorem RCut_any {B : Nat} (b : Nat) (v : Value) (n : Int) (d : DD) (w : World) (hd : DiskR B w b v d) :
    Calls Tryz.prog 31 #[.pointer (some ⟨b, 0, none⟩), .int .i64 n] w fun e w' => e = .returned (.int .i64 (d.cut n).2) ∧ ∃ v', DiskR B w' b v' (d.cut n).1 ∧ Near w v v' ∧ Moved (fp b v) w w' := by
  have HSOK := hid (hd.ok.cut (n := n))
  have HD0 := hid hd
  obtain ⟨av, cv, hv, hcv⟩ := ownB_len hd.own
  subst hv
  obtain ⟨e0, e1, e2, e3, e4⟩ := hd.box.cells
  by_cases h0 : n < 0
  · have HR := hid (cut_bad (d := d) (n := n) (.inl h0))
    clear hd
    go_enter Tryz.func31, Tryz.ntmps31
    go_wp2
    go_ret
    exact ⟨ret_int (by rw [HR.out]), _, by rw [HR.out]; exact HD0.out, Near.refl _ _, Moved.refl _ _⟩
  · by_cases h1 : (d.bytes.length : Int) < n
    · have HR := hid (cut_bad (d := d) (n := n) (.inr h1))
      clear hd
      go_enter Tryz.func31, Tryz.ntmps31
      go_wp2
      go_ret
      exact ⟨ret_int (by rw [HR.out]), _, by rw [HR.out]; exact HD0.out, Near.refl _ _, Moved.refl _ _⟩
    · have HR := hid (cut_op (d := d) (n := n) (by omega))
      clear hd
      go_enter Tryz.func31, Tryz.ntmps31
      go_wp2_with (fail)
      refine (done_any b _ d w HD0.out).mono ?_
      clear e0 e1 e2 e3 e4
      cases hk : d.dim.dark with
      | true =>
        have HE := hid (opErr_off hk)
        have HD := hid (opDD_off (d1 := { d.burn with bytes := d.bytes.take n.toNat, safe := n }) hk)
        have HDI := hid (did_off hk)
        rintro e w1 ⟨rfl, h1, m1⟩
        have H1 := hid h1
        have M1 := hid m1
        clear h1 m1 hk
        go_wp2
        go_ret
        exact ⟨ret_int (by rw [HR.out]; exact HE.out.symm), _, by rw [HR.out]; show DiskR _ _ _ _ (opDD d _); rw [HD.out, ← HDI.out]; exact H1.out, Near.refl _ _, M1.out⟩
      | false =>
        have hk' : ¬ d.dim.dark = true := by rw [hk]; simp
        have HE := hid (opErr_on hk')
        have HD := hid (opDD_on (d1 := { d.burn with bytes := d.bytes.take n.toNat, safe := n }) hk')
        have HDI := hid (did_on hk')
        rintro e w1 ⟨rfl, h1, m1⟩
        rw [HDI.out] at h1
        have H1 := hid h1
        have M1 := hid m1
        obtain ⟨c0, c1, c2, c3, c4⟩ := h1.box.cells
        have f1 := h1.box.free 1
        have f2 := h1.box.free 2
        have HOK : Hid (DOk { d.burn with bytes := d.bytes.take n.toNat, safe := n }) := by
          have h := HSOK.out
          rw [HR.out] at h
          have h' : DOk (opDD d { d.burn with bytes := d.bytes.take n.toNat, safe := n }) := h
          rw [HD.out] at h'
          exact h'
        have hnc : n ≤ cv := by omega
        have hnk : n.toNat ≤ cv := by omega
        have hn0 : 0 ≤ n := by omega
        have hnl : n.toNat ≤ d.bytes.length := by omega
        have HO : Hid (OwnB B w1 (.slice av n.toNat cv) (d.bytes.take n.toNat)) := h1.own.take hnl
        clear h1 m1 hk hk' c0 c3 c4
        go_wp2
        go_ret
        refine ⟨ret_int (by rw [HR.out]; exact HE.out.symm), .slice av n.toNat cv, ?_, fun k hk => .inl (by cases av <;> first | exact hk | (simp [Value.ownBlock] at hk)), (M1.out.set (.inl (.inl rfl)) 1 _).set (.inl (.inl rfl)) 2 _⟩
        rw [HR.out]
        show DiskR _ _ _ _ (opDD d _)
        rw [HD.out]
        have hb1 := H1.out.box.set1 (.slice av n.toNat cv)
        exact ⟨H1.out.lo, hb1.set2 _, ownB_set (ownB_set HO.out H1.out.box (by decide)) hb1 (by decide), HOK.out⟩

end Go.Proofs.YteiamhapplnlaaaGreatDoor
