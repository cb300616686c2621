/-
  Contract of Open over what read answers.
-/
import Derived.Test.YteiamhapplnlaaaGreatDoorBsOpen
namespace Go.Proofs.YteiamhapplnlaaaGreatDoor
open Go.RowKit

def txtOf (d : DD) : Bs := d.bytes.map fun n => UInt8.ofNat n.toNat
def openFin (d : DD) (x : BooksD) (rs : List RoadD) : Int × DD × Option BankS :=
  if d.sync.2 ≠ 0 then (d.sync.2, d.sync.1, none) else (0, d.sync.1, some ⟨x.st, x.lines, x.lines.length, false, rs⟩)
/-- What Open answers, and makes of the disk. -/
def openF (d : DD) (m : MapD) : Int × DD × Option BankS :=
  if mapOk m = false ∨ m.n ≠ 8 then (2, d, none) else
  if d.dark = true then (8, d, none) else
  if (readF (txtOf d)).bytes < (d.bytes.length : Int) then
    (if (d.cut (readF (txtOf d)).bytes).2 ≠ 0 then ((d.cut (readF (txtOf d)).bytes).2, (d.cut (readF (txtOf d)).bytes).1, none) else openFin (d.cut (readF (txtOf d)).bytes).1 (readF (txtOf d)) m.roads)
  else openFin d (readF (txtOf d)) m.roads
def OpenPost (B : Nat) (r : Int × DD × Option BankS) (w : World) (db : Nat) (v : Value) (e : Ending) (w' : World) : Prop :=
  ∃ v', DiskP B w' db v' r.2.1 ∧ Near w v v' ∧ Moved (fp db v) w w' ∧ match r.2.2 with
    | none => e = .returned (.tuple #[.pointer none, .int .i64 r.1])
    | some x => ∃ bb vr sp vd, e = .returned (.tuple #[.pointer (some ⟨bb, 0, none⟩), .int .i64 r.1]) ∧ BankP w.heap.size w' bb db 8 vr sp vd x
theorem strOf_txt (d : DD) : strOfNums d.bytes = strB (txtOf d) := rfl
theorem readGo_len (n : Nat) : ∀ (f : Nat) (t : Bs) (out group : BooksD), out.lines.length ≤ n → group.lines.length + t.length ≤ n → (readGo f t out group).lines.length ≤ n
  | 0, _, out, _, h, _ => h
  | f + 1, t, out, group, h, hg => by
    unfold readGo
    rcases cutC_cases 10 t with ⟨hc, -⟩ | ⟨a, r, hc, -, hl⟩
    · rw [hc]
      simp only [if_true]
      exact h
    · rw [hc]
      simp only []
      rw [if_neg (by simp)]
      split
      · split
        · exact h
        · exact readGo_len n f r _ _ (by show group.lines.length ≤ n; omega) (by show group.lines.length + r.length ≤ n; omega)
      · split
        · exact h
        · exact readGo_len n f r _ _ h (by show (group.lines ++ [a]).length + r.length ≤ n; rw [List.length_append]; simp; omega)
theorem readF_len (t : Bs) : (readF t).lines.length ≤ t.length := readGo_len t.length _ t _ _ (by simp) (by simp)

theorem cloneRoad_any {B : Nat} (v : Value) (rs : List RoadD) (w : World) (hv : OwnRd B w v rs) (hl : rs.length ≤ 1000) :
    Calls Tryz.prog 43 #[v] w fun e w' => ∃ v', e = .returned v' ∧ OwnRd w.heap.size w' v' rs ∧ Ext w w' := by
  obtain ⟨i0, hi, hz0, hz1, hz2⟩ := info_parts info_road
  obtain ⟨hln, ⟨rfl, h0⟩ | ⟨g, cap, cur, rfl, -, hh, h1, h2, h3, h4⟩⟩ := id hv
  · obtain rfl : rs = [] := List.eq_nil_of_length_eq_zero h0
    refine (AnyE.slices_Clone_nil (ρ := Tryz.cloneRoad_ren) Tryz.cloneRoad 0 0 w).mono ?_
    rintro e w' ⟨rfl, rfl⟩
    exact ⟨_, rfl, World.ownsRow_nil _ _ _ _, Ext.refl _⟩
  · refine (AnyE.slices_Clone (ρ := Tryz.cloneRoad_ren) Tryz.cloneRoad i0 _ 3 24 hi hz0 hz1 hz2 rfl (by decide) (fun w => Tryz.sizeOf91 w) g 0 rs.length cap (rcells rs) w (rcells_len rs) (by unfold maxLen; omega) (by omega) ?_ (rcells_one rs)).mono ?_
    · intro j u hj
      have := World.ownsRow.cells hv rfl j u hj
      rw [Addr.add_lit] at this; exact this
    · rintro e w' ⟨v', rfl, hown, -, hb⟩
      exact ⟨v', rfl, hown, hb⟩

/-- The bytes of a row as a string. -/
theorem conv_txt {B : Nat} {w : World} {d : DD} {au : Option Addr} {c : Nat} (hb0 : OwnB B w (.slice au d.bytes.length c) d.bytes) : (convert 59 9 (.slice au d.bytes.length c)).run Tryz.prog w = .ok (.string (strB (txtOf d))) w := by
  obtain ⟨ao, cap, e, hcap, h0, hc⟩ := OwnB.bytes hb0
  simp only [Value.slice.injEq, true_and] at e
  obtain ⟨rfl, rfl⟩ := e
  cases hb : d.bytes with
  | nil =>
    cases au with
    | none =>
      rw [run_convert_bytes_nil w _ _ Tryz.underlying59 Tryz.underlying5 _ _ _ Tryz.underlying9]
      unfold txtOf
      rw [hb]; rfl
    | some a =>
      obtain ⟨-, ⟨e, -⟩ | ⟨g, cap, cur, e, -⟩⟩ := hb0
      · cases e
      · cases e
        have := run_convert_bytes_arg w _ _ Tryz.underlying59 Tryz.underlying5 g 0 0 c [] rfl (fun i hi => by omega) _ Tryz.underlying9
        unfold txtOf
        rw [hb]
        exact this
  | cons y ys =>
    obtain ⟨b, off, rfl, -⟩ := hc 0 (by rw [hb]; simp)
    rw [← hb, run_convert_bytes_arg w _ _ Tryz.underlying59 Tryz.underlying5 b off d.bytes.length c d.bytes rfl ?_ _ Tryz.underlying9, strOf_txt]
    intro i hi
    obtain ⟨b', off', e, h⟩ := hc i hi
    cases e
    rw [h, List.getD_eq_getElem?_getD, List.getElem?_eq_getElem hi]; rfl

theorem near_fp {w : World} {v vc : Value} {db k : Nat} (h : Near w v vc) (hk : k < w.heap.size) (hf : fp db vc k) : fp db v k := by
  rcases hf with rfl | hf
  · exact .inl rfl
  · rcases h k hf with g | g
    · exact .inr g
    · omega
theorem fp_type {B : Nat} {w : World} {db : Nat} {v : Value} {d : DD} (hd : DiskP B w db v d) {j : Nat} (hj : fp db v j) {c : Array Value} {t : Nat} {fr : Nat × Nat} (hc : w.heap[j]? = some (.cells c t fr)) (h1 : t ≠ 75) (h2 : t ≠ 5) : False := by
  rcases hj with rfl | hj
  · have hb : w.heap[j]? = some _ := hd.box
    rw [hc] at hb
    cases hb
    exact h1 rfl
  · obtain ⟨cur, hb⟩ := row_block hd.own hj
    rw [hc] at hb
    cases hb
    exact h2 rfl

set_option maxHeartbeats 4000000 in
set_option maxRecDepth 100000 in
theorem Open_any {B B2 : Nat} (db : Nat) (v vr : Value) (d : DD) (m : MapD) (w : World) (hd : DiskP B w db v d) (hm : OwnRd B2 w vr m.roads) (hl : m.roads.length ≤ 1000)
    (hread : d.dark = false → ∀ w2, Ext w w2 → Calls Tryz.prog 42 #[.string (strB (txtOf d))] w2 (ReadAns (txtOf d) w2)) :
    Calls Tryz.prog 19 #[.pointer (some ⟨db, 0, none⟩), .agg #[.int .i64 m.n, vr]] w (OpenPost B (openF d m) w db v) := by
  have HD := hid hd
  have HM := hid hm
  have HRD := hid hread
  have HRds : Hid (Roads w vr m.roads) := OwnRd.roads hm (by omega)
  obtain ⟨ar, cr, rfl⟩ := HRds.out.shape
  have EW : Hid (Ext w (w.alloc (.cells #[.int .i64 m.n, .slice ar m.roads.length cr] 56))) := Ext.ofAlloc _ _
  have BM : Hid (Box2 (w.alloc (.cells #[.int .i64 m.n, .slice ar m.roads.length cr] 56)) w.heap.size 56 (.int .i64 m.n) (.slice ar m.roads.length cr)) := Box2.alloc w _ _ _
  clear hd hm hread
  cases hok : mapOk m with
  | false =>
    have HR : Hid (openF d m = (2, d, none)) := by show _ = _; unfold openF; rw [if_pos (.inl hok)]
    go_enter Tryz.func19, Tryz.ntmps19
    go_wp2_with (fail)
    generalize w.alloc (.cells #[.int .i64 m.n, .slice ar m.roads.length cr] 56) = W at *
    refine (none_any db v d W (HD.out.ext EW.out)).mono ?_
    rintro e w1 ⟨rfl, rfl⟩
    obtain ⟨x0, x1⟩ := BM.out.cells
    go_wp2_with (fail)
    refine (Distances_bad (.slice ar m.roads.length cr) m W (HRds.out.ext EW.out) hok).mono ?_
    rintro e w2 ⟨rfl, he⟩
    have E2 := hid (EW.out.trans he)
    clear he x0 x1
    go_wp2
    go_ret2
    rw [HR.out]
    exact ⟨v, HD.out.ext E2.out, Near.refl _ _, E2.out.moved _, rfl⟩
  | true =>
    have hn : 1 ≤ m.n ∧ m.n ≤ 8 ∧ m.roads.length ≤ 16 := by
      unfold mapOk at hok
      simp only [Bool.and_eq_true, decide_eq_true_eq] at hok
      exact hok.1
    obtain ⟨N, hN⟩ : ∃ N : Nat, m.n = N := ⟨m.n.toNat, by omega⟩
    have hok2 : mapOk ⟨N, m.roads⟩ = true := by rw [← hN]; exact hok
    have HOK2 := hid hok2
    have HOK := hid hok
    have HNn := hid hN
    clear hok hok2
    go_enter Tryz.func19, Tryz.ntmps19
    go_wp2_with (fail)
    rw [hN] at BM EW
    generalize w.alloc (.cells #[.int .i64 N, .slice ar m.roads.length cr] 56) = W at *
    refine (none_any db v d W (HD.out.ext EW.out)).mono ?_
    rintro e w1 ⟨rfl, rfl⟩
    obtain ⟨x0, x1⟩ := BM.out.cells
    clear hN
    go_wp2_with (fail)
    refine (Distances_ok (.slice ar m.roads.length cr) N m.roads W (HRds.out.ext EW.out) HOK2.out).mono ?_
    rintro e w2 ⟨dv, rfl, -, he⟩
    have E2 := hid (EW.out.trans he)
    have BM2 := hid (BM.out.ext he)
    clear he x0 x1
    obtain ⟨x0, x1⟩ := BM2.out.cells
    by_cases h8 : (N : Int) = 8
    · have h8b : ((N : Int) != 8) = false := by simp [h8]
      have H8 := hid h8
      clear h8
      cases hdk : d.dark with
      | true =>
        have HR : Hid (openF d m = (8, d, none)) := by show _ = _; unfold openF; rw [if_neg (by rw [HOK.out, HNn.out, H8.out]; simp), if_pos hdk]
        go_wp2_with (fail)
        refine (Read_off db v d w2 (HD.out.ext E2.out) hdk).mono ?_
        rintro e w3 ⟨rfl, rfl⟩
        go_wp2
        go_ret2
        rw [HR.out]
        exact ⟨v, HD.out.ext E2.out, Near.refl _ _, E2.out.moved _, rfl⟩
      | false =>
        have HDK := hid hdk
        go_wp2_with (fail)
        refine (Read_on db v d w2 (HD.out.ext E2.out) hdk).mono ?_
        rintro e w3 ⟨u, rfl, hu, he⟩
        have HU := hid (OwnB.bytes hu)
        have hu0 := hid hu
        have E3 := hid (E2.out.trans he)
        have BM3 := hid (BM2.out.ext he)
        clear hu he x0 x1 hdk
        obtain ⟨au, cu, hu2, -⟩ := id HU.out
        obtain ⟨cap2, rfl⟩ : ∃ c, u = .slice au d.bytes.length c := by obtain ⟨a, c, e, -⟩ := HU.out; obtain rfl := hu2; cases e; exact ⟨_, rfl⟩
        have hcv := conv_txt hu0.out
        obtain ⟨tx, htx⟩ : ∃ tx, tx = strB (txtOf d) := ⟨_, rfl⟩
        rw [← htx] at hcv
        have HTX := hid htx
        clear htx hu2
        go_wp2_with (fail)
        clear hcv
        rw [HTX.out]
        refine (HRD.out HDK.out w3 E3.out).mono ?_
        rintro e w4 ⟨vl, sp, rfl, hol, hst, he⟩
        have hls : (readF (txtOf d)).lines.length ≤ 1000000 := by
          have h1 := readF_len (txtOf d)
          have h2 : (txtOf d).length = d.bytes.length := List.length_map ..
          have h3 := HD.out.ok.ls
          have h4 := HD.out.ok.sm
          omega
        have HLS := hid hls
        have E4 := hid (E3.out.trans he)
        have BM4 := hid (BM3.out.ext he)
        have HOL := hid hol
        have HST := hid hst
        have hsz3 := E3.out.size
        obtain ⟨al, cl, hvl⟩ := hol.shape
        subst hvl
        clear hol hst he hls
        obtain ⟨nb, hnb⟩ : ∃ nb, nb = (readF (txtOf d)).bytes := ⟨_, rfl⟩
        rw [← hnb]
        have HNB := hid hnb
        clear hnb
        have E5 : Hid (Ext w4 (w4.alloc (.cells #[.slice al (readF (txtOf d)).lines.length cl, .pointer (some ⟨sp, 0, none⟩), .int .i64 nb] 87))) := Ext.ofAlloc _ _
        have BK5 : Hid (BookB (w4.alloc (.cells #[.slice al (readF (txtOf d)).lines.length cl, .pointer (some ⟨sp, 0, none⟩), .int .i64 nb] 87)) w4.heap.size (.slice al (readF (txtOf d)).lines.length cl) (.pointer (some ⟨sp, 0, none⟩)) (.int .i64 nb)) := heap_alloc_new w4 _
        obtain ⟨w5, hw5⟩ : ∃ w5, w5 = w4.alloc (.cells #[.slice al (readF (txtOf d)).lines.length cl, .pointer (some ⟨sp, 0, none⟩), .int .i64 nb] 87) := ⟨_, rfl⟩
        rw [← hw5] at E5 BK5
        by_cases hlt : nb < (d.bytes.length : Int)
        · have HLT := hid hlt
          have hdc : DiskP B w5 db v d := (HD.out.ext E4.out).ext E5.out
          have HDC0 := hid hdc
          clear hdc
          go_wp2_with (fail)
          rw [← hw5]
          clear hw5 hlt
          refine (Cut_any db v nb d w5 HDC0.out).mono ?_
          rintro e w6 ⟨rfl, v6, hd6, hn6, hm6⟩
          have HDC := hid hd6
          have HNC : Hid (Near w v v6) := hn6.ofExt (E4.out.trans E5.out)
          have HMC : Hid (Moved (fp db v) w w6) := (E4.out.trans E5.out).thenMoved hm6
          have hal := HDC0.out.aloof
          have BMC := hid (Box2.moved (BM4.out.ext E5.out) hm6 (fun hf => fp_type HDC0.out hf (BM4.out.ext E5.out) (by decide) (by decide)))
          have BKC := hid (BookB.moved BK5.out hm6 (fun hf => fp_type HDC0.out hf BK5.out (by decide) (by decide)))
          have OL5 : Hid (OwnN w.heap.size 9 1 w5 (.slice al (readF (txtOf d)).lines.length cl) (readF (txtOf d)).lines.length ((readF (txtOf d)).lines.map strV)) := (HOL.out.base hsz3).ext E5.out
          have OLC := hid (OL5.out.moved hm6 (fun k hk hf => by obtain ⟨cur, hc⟩ := OL5.out.block hk; exact fp_type HDC0.out hf hc (by decide) (by decide)))
          have STC := hid ((HST.out.ext E5.out).moved hm6 hal)
          have RD5 : Hid (OwnRd B2 w5 (.slice ar m.roads.length cr) m.roads) := ownsRow_ext HM.out (E4.out.trans E5.out)
          have RDC := hid (ownsRow_moved RD5.out hm6 (fun k hk hf => by obtain ⟨cur, hc⟩ := row_block RD5.out hk; exact fp_type HDC0.out hf hc (by decide) (by decide)))
          clear hd6 hn6 hm6 hal
          by_cases hcz : (d.cut nb).2 = 0
          · have hcz2 : ((d.cut nb).2 != 0) = false := by simp [hcz]
            have HRF : Hid (openF d m = openFin (d.cut nb).1 (readF (txtOf d)) m.roads) := by
              show _ = _
              unfold openF
              rw [if_neg (by rw [HOK.out, HNn.out, H8.out]; simp), if_neg (by rw [HDK.out]; simp), ← HNB.out, if_pos HLT.out, if_neg (by simp [hcz])]
            clear hcz
            go_wp2_with (fail)
            refine (Sync_any db v6 (d.cut nb).1 w6 HDC.out).mono ?_
            rintro e w7 ⟨rfl, v7, hd7, hn7, hm7⟩
            have HD7 := hid hd7
            have HN7 : Hid (Near w v v7) := HNC.out.trans hn7 HMC.out.size
            have HMs := hid hm7
            have HM7 : Hid (Moved (fp db v) w w7) := HMC.out.trans hm7 (fun k hk hf => near_fp HNC.out hk hf)
            have hal := HDC.out.aloof
            have BM7 := hid (Box2.moved BMC.out hm7 (fun hf => fp_type HDC.out hf BMC.out (by decide) (by decide)))
            have BK7 := hid (BookB.moved BKC.out hm7 (fun hf => fp_type HDC.out hf BKC.out (by decide) (by decide)))
            have OL7 := hid (OLC.out.moved hm7 (fun k hk hf => by obtain ⟨cur, hc⟩ := OLC.out.block hk; exact fp_type HDC.out hf hc (by decide) (by decide)))
            have ST7 := hid (STC.out.moved hm7 hal)
            have RD7 := hid (ownsRow_moved RDC.out hm7 (fun k hk hf => by obtain ⟨cur, hc⟩ := row_block RDC.out hk; exact fp_type HDC.out hf hc (by decide) (by decide)))
            clear hd7 hn7 hm7 hal
            obtain ⟨sy, hsy⟩ : ∃ sy, sy = ((d.cut nb).1).sync := ⟨_, rfl⟩
            have HSY := hid hsy
            by_cases hz : ((d.cut nb).1).sync.2 = 0
            · have hz2 : (((d.cut nb).1).sync.2 != 0) = false := by simp [hz]
              have HR : Hid (openF d m = (0, ((d.cut nb).1).sync.1, some ⟨(readF (txtOf d)).st, (readF (txtOf d)).lines, (readF (txtOf d)).lines.length, false, m.roads⟩)) := by
                show _ = _
                rw [HRF.out]; unfold openFin; rw [if_neg (by simp [hz])]
              clear hz
              obtain ⟨x0, x1⟩ := BM7.out.cells
              obtain ⟨k0, k1, k2⟩ := BK7.out.cells
              go_wp2_with (fail)
              refine (cloneRoad_any _ m.roads w7 RD7.out hl).mono ?_
              rintro e w8 ⟨vr8, rfl, hr8, he⟩
              obtain ⟨a8, n8, c8, rfl⟩ := own_shape hr8
              have HR8 := hid hr8
              have E8 := hid he
              have BM8 := hid (BM7.out.ext he)
              have BK8 := hid (BK7.out.ext he)
              clear hr8 he x0 x1 k0 k1 k2
              obtain ⟨x0, x1⟩ := BM8.out.cells
              have f1 := BM8.out.free 1
              obtain ⟨k0, k1, k2⟩ := BK8.out.cells
              have hnb : ¬ w4.heap.size = w.heap.size := by have := BM4.out.lt; omega
              have hnb2 : ¬ w.heap.size = w4.heap.size := by have := BM4.out.lt; omega
              have M9 : Hid (Moved (fun j => j = w.heap.size) w8 (w8.setCell ⟨w.heap.size, 1, none⟩ (.slice a8 n8 c8))) := (Moved.refl (fun j => j = w.heap.size) w8).set (.inl rfl) 1 _
              go_wp2
              go_ret2
              rw [HR.out]
              have E10 : Hid (Ext (w8.setCell ⟨w.heap.size, 1, none⟩ (.slice a8 n8 c8)) ((w8.setCell ⟨w.heap.size, 1, none⟩ (.slice a8 n8 c8)).alloc (.cells #[.pointer (some ⟨db, 0, none⟩), .int .i64 N, .slice a8 n8 c8, .pointer (some ⟨sp, 0, none⟩), .slice al (readF (txtOf d)).lines.length cl, .int .i64 (readF (txtOf d)).lines.length, .bool false] 78))) := Ext.ofAlloc _ _
              generalize hw9 : w8.setCell ⟨w.heap.size, 1, none⟩ (.slice a8 n8 c8) = w9 at M9 E10 ⊢
              have h98 : w9.heap.size = w8.heap.size := by rw [← hw9]; simp
              have hnp : ∀ k, fp db v7 k → ¬ k = w.heap.size := fun k hk e => by subst e; exact fp_type (HD7.out.ext E8.out) hk BM8.out (by decide) (by decide)
              have hap : Aloof (fun j => j = w.heap.size) w8 := by
                intro j hj o ho
                subst hj
                have hb : w8.heap[w.heap.size]? = some _ := BM8.out
                rw [ho] at hb
                cases hb
                exact ⟨_, _, _, rfl, by unfold stTy; decide⟩
              refine ⟨v7, ((HD7.out.ext E8.out).moved M9.out hnp).ext E10.out, HN7.out, ?_, w8.heap.size, .slice a8 n8 c8, sp, .slice al (readF (txtOf d)).lines.length cl, rfl, ?_⟩
              · exact ((HM7.out.thenExt E8.out).trans M9.out (fun k hk e => by omega)).thenExt E10.out
              · refine ⟨Nat.le_trans HM7.out.size E8.out.size, ?_, ((OL7.out.ext E8.out).moved M9.out (fun j hj e => by subst e; exact (OL7.out.ext E8.out).notBox BM8.out (by decide) hj)).ext E10.out, ((ST7.out.ext E8.out).moved M9.out hap).ext E10.out, ?_, Nat.le_refl _, HLS.out⟩
                · have hh := heap_alloc_new w9 (.cells #[.pointer (some ⟨db, 0, none⟩), .int .i64 N, .slice a8 n8 c8, .pointer (some ⟨sp, 0, none⟩), .slice al (readF (txtOf d)).lines.length cl, .int .i64 (readF (txtOf d)).lines.length, .bool false] 78)
                  rw [h98] at hh
                  rw [← H8.out]
                  exact hh
                · refine ownsRow_ext (ownsRow_moved (ownsRow_base HR8.out HM7.out.size) M9.out (fun k hk e => ?_)) E10.out
                  subst e
                  obtain ⟨cur, hc⟩ := row_block HR8.out hk
                  have hb : w8.heap[w.heap.size]? = some _ := BM8.out
                  rw [hc] at hb
                  cases hb
            · have hz2 : (((d.cut nb).1).sync.2 != 0) = true := by simp [hz]
              have HR : Hid (openF d m = (((d.cut nb).1).sync.2, ((d.cut nb).1).sync.1, none)) := by
                show _ = _
                rw [HRF.out]; unfold openFin; rw [if_pos hz]
              clear hz
              go_wp2
              go_ret2
              rw [HR.out]
              exact ⟨v7, HD7.out, HN7.out, HM7.out, rfl⟩
          · have hcz2 : ((d.cut nb).2 != 0) = true := by simp [hcz]
            have HR : Hid (openF d m = ((d.cut nb).2, (d.cut nb).1, none)) := by
              show _ = _
              unfold openF
              rw [if_neg (by rw [HOK.out, HNn.out, H8.out]; simp), if_neg (by rw [HDK.out]; simp), ← HNB.out, if_pos HLT.out, if_pos hcz]
            clear hcz
            go_wp2
            go_ret2
            rw [HR.out]
            exact ⟨v6, HDC.out, HNC.out, HMC.out, rfl⟩
        · have HLT := hid hlt
          have HRF : Hid (openF d m = openFin d (readF (txtOf d)) m.roads) := by
            show _ = _
            unfold openF
            rw [if_neg (by rw [HOK.out, HNn.out, H8.out]; simp), if_neg (by rw [HDK.out]; simp), ← HNB.out, if_neg hlt]
          have HDC : Hid (DiskP B w5 db v d) := (HD.out.ext E4.out).ext E5.out
          have HNC : Hid (Near w v v) := Near.refl _ _
          have HMC : Hid (Moved (fp db v) w w5) := (E4.out.trans E5.out).moved _
          have BMC := hid (BM4.out.ext E5.out)
          have BKC := BK5
          have OLC : Hid (OwnN w.heap.size 9 1 w5 (.slice al (readF (txtOf d)).lines.length cl) (readF (txtOf d)).lines.length ((readF (txtOf d)).lines.map strV)) := (HOL.out.base hsz3).ext E5.out
          have STC := hid (HST.out.ext E5.out)
          have RDC : Hid (OwnRd B2 w5 (.slice ar m.roads.length cr) m.roads) := ownsRow_ext HM.out (E4.out.trans E5.out)
          go_wp2_with (fail)
          rw [← hw5]
          clear hw5
          refine (Sync_any db v d w5 HDC.out).mono ?_
          rintro e w7 ⟨rfl, v7, hd7, hn7, hm7⟩
          have HD7 := hid hd7
          have HN7 : Hid (Near w v v7) := HNC.out.trans hn7 HMC.out.size
          have HMs := hid hm7
          have HM7 : Hid (Moved (fp db v) w w7) := HMC.out.trans hm7 (fun k hk hf => near_fp HNC.out hk hf)
          have hal := HDC.out.aloof
          have BM7 := hid (Box2.moved BMC.out hm7 (fun hf => fp_type HDC.out hf BMC.out (by decide) (by decide)))
          have BK7 := hid (BookB.moved BKC.out hm7 (fun hf => fp_type HDC.out hf BKC.out (by decide) (by decide)))
          have OL7 := hid (OLC.out.moved hm7 (fun k hk hf => by obtain ⟨cur, hc⟩ := OLC.out.block hk; exact fp_type HDC.out hf hc (by decide) (by decide)))
          have ST7 := hid (STC.out.moved hm7 hal)
          have RD7 := hid (ownsRow_moved RDC.out hm7 (fun k hk hf => by obtain ⟨cur, hc⟩ := row_block RDC.out hk; exact fp_type HDC.out hf hc (by decide) (by decide)))
          clear hd7 hn7 hm7 hal
          obtain ⟨sy, hsy⟩ : ∃ sy, sy = (d).sync := ⟨_, rfl⟩
          have HSY := hid hsy
          by_cases hz : (d).sync.2 = 0
          · have hz2 : ((d).sync.2 != 0) = false := by simp [hz]
            have HR : Hid (openF d m = (0, (d).sync.1, some ⟨(readF (txtOf d)).st, (readF (txtOf d)).lines, (readF (txtOf d)).lines.length, false, m.roads⟩)) := by
              show _ = _
              rw [HRF.out]; unfold openFin; rw [if_neg (by simp [hz])]
            clear hz
            obtain ⟨x0, x1⟩ := BM7.out.cells
            obtain ⟨k0, k1, k2⟩ := BK7.out.cells
            go_wp2_with (fail)
            refine (cloneRoad_any _ m.roads w7 RD7.out hl).mono ?_
            rintro e w8 ⟨vr8, rfl, hr8, he⟩
            obtain ⟨a8, n8, c8, rfl⟩ := own_shape hr8
            have HR8 := hid hr8
            have E8 := hid he
            have BM8 := hid (BM7.out.ext he)
            have BK8 := hid (BK7.out.ext he)
            clear hr8 he x0 x1 k0 k1 k2
            obtain ⟨x0, x1⟩ := BM8.out.cells
            have f1 := BM8.out.free 1
            obtain ⟨k0, k1, k2⟩ := BK8.out.cells
            have hnb : ¬ w4.heap.size = w.heap.size := by have := BM4.out.lt; omega
            have hnb2 : ¬ w.heap.size = w4.heap.size := by have := BM4.out.lt; omega
            have M9 : Hid (Moved (fun j => j = w.heap.size) w8 (w8.setCell ⟨w.heap.size, 1, none⟩ (.slice a8 n8 c8))) := (Moved.refl (fun j => j = w.heap.size) w8).set (.inl rfl) 1 _
            go_wp2
            go_ret2
            rw [HR.out]
            have E10 : Hid (Ext (w8.setCell ⟨w.heap.size, 1, none⟩ (.slice a8 n8 c8)) ((w8.setCell ⟨w.heap.size, 1, none⟩ (.slice a8 n8 c8)).alloc (.cells #[.pointer (some ⟨db, 0, none⟩), .int .i64 N, .slice a8 n8 c8, .pointer (some ⟨sp, 0, none⟩), .slice al (readF (txtOf d)).lines.length cl, .int .i64 (readF (txtOf d)).lines.length, .bool false] 78))) := Ext.ofAlloc _ _
            generalize hw9 : w8.setCell ⟨w.heap.size, 1, none⟩ (.slice a8 n8 c8) = w9 at M9 E10 ⊢
            have h98 : w9.heap.size = w8.heap.size := by rw [← hw9]; simp
            have hnp : ∀ k, fp db v7 k → ¬ k = w.heap.size := fun k hk e => by subst e; exact fp_type (HD7.out.ext E8.out) hk BM8.out (by decide) (by decide)
            have hap : Aloof (fun j => j = w.heap.size) w8 := by
              intro j hj o ho
              subst hj
              have hb : w8.heap[w.heap.size]? = some _ := BM8.out
              rw [ho] at hb
              cases hb
              exact ⟨_, _, _, rfl, by unfold stTy; decide⟩
            refine ⟨v7, ((HD7.out.ext E8.out).moved M9.out hnp).ext E10.out, HN7.out, ?_, w8.heap.size, .slice a8 n8 c8, sp, .slice al (readF (txtOf d)).lines.length cl, rfl, ?_⟩
            · exact ((HM7.out.thenExt E8.out).trans M9.out (fun k hk e => by omega)).thenExt E10.out
            · refine ⟨Nat.le_trans HM7.out.size E8.out.size, ?_, ((OL7.out.ext E8.out).moved M9.out (fun j hj e => by subst e; exact (OL7.out.ext E8.out).notBox BM8.out (by decide) hj)).ext E10.out, ((ST7.out.ext E8.out).moved M9.out hap).ext E10.out, ?_, Nat.le_refl _, HLS.out⟩
              · have hh := heap_alloc_new w9 (.cells #[.pointer (some ⟨db, 0, none⟩), .int .i64 N, .slice a8 n8 c8, .pointer (some ⟨sp, 0, none⟩), .slice al (readF (txtOf d)).lines.length cl, .int .i64 (readF (txtOf d)).lines.length, .bool false] 78)
                rw [h98] at hh
                rw [← H8.out]
                exact hh
              · refine ownsRow_ext (ownsRow_moved (ownsRow_base HR8.out HM7.out.size) M9.out (fun k hk e => ?_)) E10.out
                subst e
                obtain ⟨cur, hc⟩ := row_block HR8.out hk
                have hb : w8.heap[w.heap.size]? = some _ := BM8.out
                rw [hc] at hb
                cases hb
          · have hz2 : ((d).sync.2 != 0) = true := by simp [hz]
            have HR : Hid (openF d m = ((d).sync.2, (d).sync.1, none)) := by
              show _ = _
              rw [HRF.out]; unfold openFin; rw [if_pos hz]
            clear hz
            go_wp2
            go_ret2
            rw [HR.out]
            exact ⟨v7, HD7.out, HN7.out, HM7.out, rfl⟩
    · have h8b : ((N : Int) != 8) = true := by simp [h8]
      have HR : Hid (openF d m = (2, d, none)) := by show _ = _; unfold openF; rw [if_pos (.inr (by rw [HNn.out]; exact h8))]
      clear h8
      go_wp2
      go_ret2
      rw [HR.out]
      exact ⟨v, HD.out.ext E2.out, Near.refl _ _, E2.out.moved _, rfl⟩

end Go.Proofs.YteiamhapplnlaaaGreatDoor
