/-
  Contract of the reference's Append.
-/
import Derived.Test.YteiamhapplnlaaaGreatDoorBkRef
namespace Go.Proofs.YteiamhapplnlaaaGreatDoor
open Go.RowKit

theorem app_over {d : DD} {ys : List Int} (h : d.size < (d.bytes.length : Int) + ys.length) : d.app ys = (d, 7) := by unfold DD.app; rw [if_pos h]
theorem app_fits {d : DD} {ys : List Int} (h : ¬ d.size < (d.bytes.length : Int) + ys.length) : d.app ys = (opDD d { d.burn with bytes := d.bytes ++ ys }, opErr d) := by
  unfold DD.app opDD opErr
  rw [if_neg h]
  split <;> rfl

set_option maxHeartbeats 2000000 in
theorem RAppend_any {B : Nat} (b : Nat) (v y : Value) (ys : List Int) (d : DD) (w : World) (hd : DiskR B w b v d) (hy : BytesI w y ys) (hyb : ∀ k, y.ownBlock = some k → ¬ fp b v k) (h8 : ∀ x ∈ ys, 0 ≤ x ∧ x < 256) (hB : B ≤ w.heap.size) (hyl : ys.length ≤ 140737488355328) :
    Calls Tryz.prog 29 #[.pointer (some ⟨b, 0, none⟩), y] w fun e w' => e = .returned (.int .i64 (d.app ys).2) ∧ ∃ v', DiskR B w' b v' (d.app ys).1 ∧ Near w v v' ∧ Moved (fp b v) w w' := by
  have HSOK := hid (hd.ok.app h8)
  have HD0 := hid hd
  have HY := hid hy
  have HYB := hid hyb
  have hsm := hd.ok.sm
  have hls := hd.ok.ls
  obtain ⟨av, cv, hv, hcv⟩ := ownB_len hd.own
  subst hv
  obtain ⟨ay, cy, rfl, hcy, -⟩ := id hy
  obtain ⟨e0, e1, e2, e3, e4⟩ := hd.box.cells
  have hw1 : IntKind.i64.wrap ((d.bytes.length : Int) + (ys.length : Int)) = (d.bytes.length : Int) + ys.length := IntWalk.i64_in _ (by omega)
  by_cases hov : d.size < (d.bytes.length : Int) + ys.length
  · have HR := hid (app_over hov)
    clear hd hy hyb h8
    go_enter Tryz.func29, Tryz.ntmps29
    go_wp2
    go_quiet (fail)
    go_wp2
    go_ret
    exact ⟨ret_int (by rw [HR.out]), _, by rw [HR.out]; exact HD0.out.ext ((Ext.refl w).drewN _), Near.refl _ _, ((Ext.refl w).drewN _).moved _⟩
  · have HR := hid (app_fits hov)
    have HOV := hid hov
    clear hd hy hyb h8
    go_enter Tryz.func29, Tryz.ntmps29
    go_wp2
    go_quiet (fail)
    clear e0 e1 e2 e3 e4 hw1
    have EN := hid ((Ext.refl w).drewN nq)
    generalize w.drewN nq = W at *
    go_wp2_with (fail)
    refine (done_any b _ d W (HD0.out.ext EN.out)).mono ?_
    cases hk : d.dim.dark with
    | true =>
      have HE := hid (opErr_off hk)
      have HD := hid (opDD_off (d1 := { d.burn with bytes := d.bytes ++ ys }) hk)
      have HDI := hid (did_off hk)
      rintro e w1 ⟨rfl, h1, m1⟩
      have H1 := hid h1
      have M1 := hid (EN.out.thenMoved m1)
      clear h1 m1 hk
      go_wp2
      go_ret
      exact ⟨ret_int (by rw [HR.out]; exact HE.out.symm), _, by rw [HR.out]; show DiskR _ _ _ _ (opDD d _); rw [HD.out, ← HDI.out]; exact H1.out, Near.refl _ _, M1.out⟩
    | false =>
      have hk' : ¬ d.dim.dark = true := by rw [hk]; simp
      have HE := hid (opErr_on hk')
      have HD := hid (opDD_on (d1 := { d.burn with bytes := d.bytes ++ ys }) hk')
      have HDI := hid (did_on hk')
      rintro e w1 ⟨rfl, h1, m1⟩
      rw [HDI.out] at h1
      have H1 := hid h1
      have M1 := hid (EN.out.thenMoved m1)
      have hsz1 := M1.out.size
      obtain ⟨c0, c1, c2, c3, c4⟩ := h1.box.cells
      have HOK : Hid (DOk { d.burn with bytes := d.bytes ++ ys }) := by
        have h := HSOK.out
        rw [HR.out] at h
        have h' : DOk (opDD d { d.burn with bytes := d.bytes ++ ys }) := h
        rw [HD.out] at h'
        exact h'
      have HL0 : Hid (OwnB w1.heap.size (w1.alloc (.cells #[] 5)) (.slice (some ⟨w1.heap.size, 0, none⟩) 0 0) []) := World.ownsRow_lit w1 #[] 0 (Nat.le_refl _) (by decide) rfl
      have HBS : Hid (BytesI w1 (.slice av d.bytes.length cv) d.bytes) := OwnB.bytes h1.own
      have HYS : Hid (BytesI w1 (.slice ay ys.length cy) ys) := (HY.out.ext EN.out).moved m1 HYB.out
      have hlen : d.bytes.length + ys.length ≤ 1000000 := by have := HOV.out; omega
      have HLEN := hid hlen
      have c1a := (Ext.ofAlloc w1 (.cells #[] 5)).cell c1
      clear h1 m1 hk hk' c0 c2 c3 c4 hlen
      go_wp2_with (at_builtin; go_must (refine wpl_append_bytes rfl _ _ rfl w1.heap.size (.slice (some ⟨w1.heap.size, 0, none⟩) 0 0) [] rfl HL0.out (.slice av d.bytes.length cv) d.bytes rfl (HBS.out.ext (Ext.ofAlloc _ _)) (by have := HLEN.out; simp; omega) (by simp) ?_))
      intro v2 w2 ho2 hg2 hn2
      try rw [List.nil_append] at ho2
      have E2 : Hid (Ext w1 w2) := Below.grown (Ext.ofAlloc w1 _) hg2 (by simp) (by simp [Value.ownBlock])
      obtain ⟨a2, c2, rfl, -⟩ := ownB_len ho2
      have HO2 := hid ho2
      have hs2 := E2.out.size
      clear ho2 hg2 hn2
      go_wp2_with (at_builtin; go_must (refine wpl_append_bytes rfl _ _ rfl w1.heap.size (.slice a2 d.bytes.length c2) d.bytes rfl HO2.out (.slice ay ys.length cy) ys rfl (HYS.out.ext E2.out) (by have := HLEN.out; omega) (by omega) ?_))
      intro v3 w3 ho3 hg3 hn3
      have E3 : Hid (Ext w1 w3) := Below.grown E2.out hg3 hs2 (fun k hk => (HO2.out.lt k hk).1)
      have hlt3 := fun k hk => (ho3.lt k hk).1
      have HLT3 := hid hlt3
      have HO3 := hid ho3
      obtain ⟨a3, n3, c3, rfl⟩ := own_shapeB ho3
      have HB3 := hid (H1.out.box.ext E3.out)
      obtain ⟨q0, q1, q2, q3, q4⟩ := HB3.out.cells
      have fq := HB3.out.free 1
      clear ho3 hg3 hn3 hlt3 q0 q2 q3 q4 c1 c1a
      go_wp2
      go_ret
      refine ⟨ret_int (by rw [HR.out]; exact HE.out.symm), .slice a3 n3 c3, ?_, fun k hk => .inr (by have := HLT3.out k hk; omega), (M1.out.thenExt E3.out).set (.inl (.inl rfl)) 1 _⟩
      rw [HR.out]
      show DiskR _ _ _ _ (opDD d _)
      rw [HD.out]
      exact ⟨H1.out.lo, HB3.out.set1 _, ownB_set (ownsRow_base HO3.out (by omega)) HB3.out (by decide), HOK.out⟩

end Go.Proofs.YteiamhapplnlaaaGreatDoor
