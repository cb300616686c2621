/-
  Contracts of a bank's write and Do.
-/
import Derived.Test.YteiamhapplnlaabGreatDoorBsBank
namespace Go.Proofs.YteiamhapplnlaabGreatDoor
open Go.RowKit

theorem row_block {w : World} {B e size n : Nat} {v : Value} {xs : List Value} (h : w.ownsRow B e size v n xs) {k : Nat} (hk : v.ownBlock = some k) : ∃ cur, w.heap[k]? = some (.cells cur e (0, 0)) := by
  obtain ⟨-, ⟨rfl, -⟩ | ⟨g, cap, cur, rfl, -, hh, -⟩⟩ := h
  · cases hk
  · cases hk; exact ⟨cur, hh⟩
theorem DiskP.aloof {B : Nat} {w : World} {b : Nat} {v : Value} {d : DD} (h : DiskP B w b v d) : Aloof (fp b v) w := by
  intro j hj o ho
  rcases hj with rfl | hj
  · have hb : w.heap[j]? = some _ := h.box
    rw [ho] at hb
    cases hb
    exact ⟨_, _, _, rfl, by unfold stTy; decide⟩
  · obtain ⟨-, ⟨rfl, -⟩ | ⟨g, cap, cur, rfl, -, hh, -⟩⟩ := h.own
    · cases hj
    · cases hj
      rw [ho] at hh
      cases hh
      exact ⟨_, _, _, rfl, by unfold stTy; decide⟩
theorem BankP.aloof {B : Nat} {w : World} {bb db : Nat} {n : Int} {vr : Value} {sp : Nat} {vd : Value} {x : BankS} (h : BankP B w bb db n vr sp vd x) : Aloof (fpB bb vd) w := by
  intro j hj o ho
  rcases hj with rfl | hj
  · have hb : w.heap[j]? = some _ := h.box
    rw [ho] at hb
    cases hb
    exact ⟨_, _, _, rfl, by unfold stTy; decide⟩
  · obtain ⟨cur, hc⟩ := h.done.block hj
    rw [ho] at hc
    cases hc
    exact ⟨_, _, _, rfl, by unfold stTy; decide⟩
theorem Aloof.or {F G : Nat → Prop} {w : World} (h : Aloof F w) (g : Aloof G w) : Aloof (fun j => F j ∨ G j) w := fun j hj => hj.elim (h j) (g j)
theorem Aloof.sub {F G : Nat → Prop} {w : World} (h : Aloof F w) (hs : ∀ j, G j → F j) : Aloof G w := fun j hj => h j (hs j hj)
/-- A bank's blocks are not its disk's. -/
theorem BankP.far {B : Nat} {w : World} {bb db db2 : Nat} {n : Int} {vr : Value} {sp : Nat} {vd v : Value} {x : BankS} {d : DD} (h : BankP B w bb db n vr sp vd x) (hd : DiskP B w db2 v d) {j : Nat} (hj : fpB bb vd j) : ¬ fp db2 v j := by
  intro hf
  have e1 : ∃ c t fr, w.heap[j]? = some (.cells c t fr) ∧ (t = 47 ∨ t = 9) := by
    rcases hj with rfl | hj
    · exact ⟨_, _, _, h.box, .inl rfl⟩
    · obtain ⟨cur, hc⟩ := h.done.block hj; exact ⟨_, _, _, hc, .inr rfl⟩
  have e2 : ∃ c t fr, w.heap[j]? = some (.cells c t fr) ∧ (t = 28 ∨ t = 5) := by
    rcases hf with rfl | hf
    · exact ⟨_, _, _, hd.box, .inl rfl⟩
    · obtain ⟨-, ⟨rfl, -⟩ | ⟨g, cap, cur, rfl, -, hh, -⟩⟩ := hd.own
      · cases hf
      · cases hf; exact ⟨_, _, _, hh, .inr rfl⟩
  obtain ⟨c, t, fr, h1, h2⟩ := e1
  obtain ⟨c', t', fr', h3, h4⟩ := e2
  rw [h1] at h3
  cases h3
  rcases h2 with rfl | rfl <;> rcases h4 with h4 | h4 <;> exact absurd h4 (by decide)
theorem byts_of (s : ByteArray) : s.data.toList.map (fun c => (c.toNat : Int)) = byts s.data.toList := rfl
theorem byts_range (t : Bs) : ∀ y ∈ byts t, 0 ≤ y ∧ y < 256 := by
  intro y hy
  obtain ⟨c, -, rfl⟩ := List.mem_map.1 hy
  have := UInt8.toNat_lt c
  omega
theorem byts_len (t : Bs) : (byts t).length = t.length := List.length_map ..
theorem app_err (d : DD) (ys : List Int) : (d.app ys).2 = 0 ∨ (d.app ys).2 = 7 ∨ (d.app ys).2 = 8 := by
  unfold DD.app
  split
  · exact .inr (.inl rfl)
  · split
    · exact .inr (.inr rfl)
    · exact .inl rfl

set_option maxHeartbeats 4000000 in
set_option maxRecDepth 100000 in
theorem write_any {B : Nat} {bb db : Nat} {n : Int} {vr : Value} {sp : Nat} {vd v : Value} {x : BankS} {d : DD} (s : ByteArray) (w : World) (h : BankP B w bb db n vr sp vd x) (hd : DiskP B w db v d) (hB : B ≤ w.heap.size) :
    Calls Tryz.prog 30 #[.pointer (some ⟨bb, 0, none⟩), .string s] w fun e w' => e = .returned (.int .i64 (d.app (byts s.data.toList)).2) ∧ ∃ v', DiskP B w' db v' (d.app (byts s.data.toList)).1 ∧ Near w v v' ∧
      BankP B w' bb db n vr sp vd { x with lost := (d.app (byts s.data.toList)).2 == 8 } ∧ Moved (fun j => j = bb ∨ fp db v j) w w' := by
  have H := hid h
  have HD := hid hd
  obtain ⟨c0, -, -, -, -, -, c6⟩ := h.box.cells
  have hcv := Lib.run_convert_string_bytes (P := Tryz.prog) w 9 26 5 s Tryz.underlying9 Tryz.underlying26 Tryz.underlying5
  have EB : Hid (Ext w (Lib.bytesWorld w 5 s)) := bytesWorld_ext w _ s
  have HBY : Hid (BytesI (Lib.bytesWorld w 5 s) (.slice (some ⟨w.heap.size, 0, none⟩) s.size (grownCap w s.size 0 5)) (byts s.data.toList)) := bytes_of_world w s
  have hdl : db < w.heap.size := hd.box.lt
  clear h hd
  go_enter Tryz.func30, Tryz.ntmps30
  go_wp2_with (fail)
  clear hcv
  generalize Lib.bytesWorld w 5 s = w1 at EB HBY ⊢
  refine (Append_any db v _ (byts s.data.toList) d w1 (HD.out.ext EB.out) HBY.out (fun k hk e => by simp [Value.ownBlock] at hk; omega) (byts_range _) (Nat.le_trans hB EB.out.size)).mono ?_
  rintro e w2 ⟨rfl, v', hd2, hn, hm⟩
  have HD2 := hid hd2
  have HN := hid (hn.ofExt EB.out)
  have HM := hid hm
  have H1 := hid (H.out.ext EB.out)
  have hfar : ∀ j, fpB bb vd j → ¬ fp db v j := fun j hj => (H1.out).far (HD.out.ext EB.out) hj
  have BX2 : Hid (Box7 w2 bb (.pointer (some ⟨db, 0, none⟩)) (.int .i64 n) vr (.pointer (some ⟨sp, 0, none⟩)) vd (.int .i64 x.safe) (.bool x.lost)) := H1.out.box.moved HM.out (hfar bb (.inl rfl))
  have DN2 : Hid (OwnN B 9 1 w2 vd x.done.length (x.done.map strV)) := H1.out.done.moved HM.out (fun k hk => hfar k (.inr hk))
  have RD2 : Hid (w2.ownsRow B 64 3 vr x.roads.length (rcells x.roads)) := ownsRow_moved H1.out.rd HM.out (fun k hk hf => by
    have hb : ∃ cur, w1.heap[k]? = some (.cells cur 64 (0, 0)) := row_block H1.out.rd hk
    obtain ⟨cur, hb⟩ := hb
    rcases hf with rfl | hf
    · have h2 : w1.heap[k]? = some _ := (HD.out.ext EB.out).box
      rw [hb] at h2; cases h2
    · obtain ⟨c2, h2⟩ := row_block (HD.out.ext EB.out).own hf
      rw [hb] at h2; cases h2)
  have ST2 : Hid (StR w2 sp x.st) := H1.out.st.moved HM.out (HD.out.ext EB.out).aloof
  have HQ := hid (app_err d (byts s.data.toList))
  clear hd2 hn hm hfar c0 c6
  obtain ⟨-, -, -, -, -, -, c6⟩ := BX2.out.cells
  have f6 := BX2.out.free 6
  obtain ⟨ap, hap⟩ : ∃ ap, ap = d.app (byts s.data.toList) := ⟨_, rfl⟩
  rw [← hap] at HD2 HQ ⊢
  have HAP := hid hap
  clear hap
  go_wp2
  go_ret
  rw [← HAP.out]
  have M6 : Moved (fun j => j = bb) w2 (w2.setCell ⟨bb, 6, none⟩ (.bool (ap.2 == 8))) := (Moved.refl (fun j => j = bb) w2).set (.inl rfl) 6 _
  have hnb : ∀ k, fp db v' k → ¬ k = bb := by
    intro k hk e
    subst e
    have hb : w2.heap[k]? = some _ := BX2.out
    rcases hk with rfl | hk
    · have h2 : w2.heap[k]? = some _ := HD2.out.box
      rw [hb] at h2; cases h2
    · obtain ⟨-, ⟨rfl, -⟩ | ⟨g, cap, cur, rfl, -, hh, -⟩⟩ := HD2.out.own
      · cases hk
      · cases hk; rw [hb] at hh; cases hh
  refine ⟨rfl, v', HD2.out.moved M6 hnb, HN.out, ⟨H.out.lo, ?_, DN2.out.moved M6 (fun k hk e => by subst e; exact DN2.out.notBox BX2.out (by decide) hk), ST2.out.moved M6 (fun j hj o ho => by subst hj; have hb : w2.heap[j]? = some _ := BX2.out; rw [ho] at hb; cases hb; exact ⟨_, _, _, rfl, by unfold stTy; decide⟩), ownsRow_moved RD2.out M6 (fun k hk e => by subst e; obtain ⟨c2, h2⟩ := row_block RD2.out hk; have hb : w2.heap[k]? = some _ := BX2.out; rw [hb] at h2; cases h2), H.out.le, H.out.few⟩, ?_⟩
  · exact BX2.out.set6 _
  · exact EB.out.thenMoved ((HM.out.weaken (fun _ h => .inr h)).trans M6 (fun _ _ h => .inl h))

end Go.Proofs.YteiamhapplnlaabGreatDoor
