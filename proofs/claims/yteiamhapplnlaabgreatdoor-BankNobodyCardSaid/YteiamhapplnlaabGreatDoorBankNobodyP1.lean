/-
  Texts of this claim, part 1: BsOpenW, BsAwake, NbNone, NbAsk, NbLaw.
-/
import Derived.Test.YteiamhapplnlaabGreatDoorBsOpen
import Derived.Test.YteiamhapplnlaabGreatDoorBsChgGive
/-
  Contract of Open over what read answers.
-/
namespace Go.Proofs.YteiamhapplnlaabGreatDoor
open Go.RowKit

def txtOf (d : DD) : Bs := d.bytes.map fun n => UInt8.ofNat n.toNat
def openFin (d : DD) (x : BooksD) (rs : List RoadD) : Int × DD × Option BankS :=
  if d.sync.2 ≠ 0 then (d.sync.2, d.sync.1, none) else (0, d.sync.1, some ⟨x.st, x.lines, x.lines.length, false, rs⟩)
/-- What Open answers, and makes of the disk. -/
def openF (d : DD) (m : MapD) : Int × DD × Option BankS :=
  if mapOk m = false ∨ m.n ≠ 8 then (2, d, none) else
  if d.dark = true then (8, d, none) else
  if (readF (txtOf d)).bytes < (d.bytes.length : Int) then
    (if (d.cut (readF (txtOf d)).bytes).2 ≠ 0 then ((d.cut (readF (txtOf d)).bytes).2, (d.cut (readF (txtOf d)).bytes).1, none) else openFin (d.cut (readF (txtOf d)).bytes).1 (readF (txtOf d)) m.roads)
  else openFin d (readF (txtOf d)) m.roads
def OpenPost (B : Nat) (r : Int × DD × Option BankS) (w : World) (db : Nat) (v : Value) (e : Ending) (w' : World) : Prop :=
  ∃ v', DiskP B w' db v' r.2.1 ∧ Near w v v' ∧ Moved (fp db v) w w' ∧ match r.2.2 with
    | none => e = .returned (.tuple #[.pointer none, .int .i64 r.1])
    | some x => ∃ bb vr sp vd, e = .returned (.tuple #[.pointer (some ⟨bb, 0, none⟩), .int .i64 r.1]) ∧ BankP w.heap.size w' bb db 8 vr sp vd x
theorem strOf_txt (d : DD) : strOfNums d.bytes = strB (txtOf d) := rfl
theorem readGo_len (n : Nat) : ∀ (f : Nat) (t : Bs) (out group : BooksD), out.lines.length ≤ n → group.lines.length + t.length ≤ n → (readGo f t out group).lines.length ≤ n
  | 0, _, out, _, h, _ => h
  | f + 1, t, out, group, h, hg => by
    unfold readGo
    rcases cutC_cases 10 t with ⟨hc, -⟩ | ⟨a, r, hc, -, hl⟩
    · rw [hc]
      simp only [if_true]
      exact h
    · rw [hc]
      simp only []
      rw [if_neg (by simp)]
      split
      · split
        · exact h
        · exact readGo_len n f r _ _ (by show group.lines.length ≤ n; omega) (by show group.lines.length + r.length ≤ n; omega)
      · split
        · exact h
        · exact readGo_len n f r _ _ h (by show (group.lines ++ [a]).length + r.length ≤ n; rw [List.length_append]; simp; omega)
theorem readF_len (t : Bs) : (readF t).lines.length ≤ t.length := readGo_len t.length _ t _ _ (by simp) (by simp)

theorem cloneRoad_any {B : Nat} (v : Value) (rs : List RoadD) (w : World) (hv : OwnRd B w v rs) (hl : rs.length ≤ 1000) :
    Calls Tryz.prog 22 #[v] w fun e w' => ∃ v', e = .returned v' ∧ OwnRd w.heap.size w' v' rs ∧ Ext w w' := by
  obtain ⟨i0, hi, hz0, hz1, hz2⟩ := info_parts info_road
  obtain ⟨hln, ⟨rfl, h0⟩ | ⟨g, cap, cur, rfl, -, hh, h1, h2, h3, h4⟩⟩ := id hv
  · obtain rfl : rs = [] := List.eq_nil_of_length_eq_zero h0
    refine (AnyE.slices_Clone_nil (ρ := Tryz.cloneRoad_ren) Tryz.cloneRoad 0 0 w).mono ?_
    rintro e w' ⟨rfl, rfl⟩
    exact ⟨_, rfl, World.ownsRow_nil _ _ _ _, Ext.refl _⟩
  · refine (AnyE.slices_Clone (ρ := Tryz.cloneRoad_ren) Tryz.cloneRoad i0 _ 3 24 hi hz0 hz1 hz2 rfl (by decide) (fun w => Tryz.sizeOf64 w) g 0 rs.length cap (rcells rs) w (rcells_len rs) (by unfold maxLen; omega) (by omega) ?_ (rcells_one rs)).mono ?_
    · intro j u hj
      have := World.ownsRow.cells hv rfl j u hj
      rw [Addr.add_lit] at this; exact this
    · rintro e w' ⟨v', rfl, hown, -, hb⟩
      exact ⟨v', rfl, hown, hb⟩

/-- The bytes of a row as a string. -/
theorem conv_txt {B : Nat} {w : World} {d : DD} {au : Option Addr} {c : Nat} (hb0 : OwnB B w (.slice au d.bytes.length c) d.bytes) : (convert 26 9 (.slice au d.bytes.length c)).run Tryz.prog w = .ok (.string (strB (txtOf d))) w := by
  obtain ⟨ao, cap, e, hcap, h0, hc⟩ := OwnB.bytes hb0
  simp only [Value.slice.injEq, true_and] at e
  obtain ⟨rfl, rfl⟩ := e
  cases hb : d.bytes with
  | nil =>
    cases au with
    | none =>
      rw [run_convert_bytes_nil w _ _ Tryz.underlying26 Tryz.underlying5 _ _ _ Tryz.underlying9]
      unfold txtOf
      rw [hb]; rfl
    | some a =>
      obtain ⟨-, ⟨e, -⟩ | ⟨g, cap, cur, e, -⟩⟩ := hb0
      · cases e
      · cases e
        have := run_convert_bytes_arg w _ _ Tryz.underlying26 Tryz.underlying5 g 0 0 c [] rfl (fun i hi => by omega) _ Tryz.underlying9
        unfold txtOf
        rw [hb]
        exact this
  | cons y ys =>
    obtain ⟨b, off, rfl, -⟩ := hc 0 (by rw [hb]; simp)
    rw [← hb, run_convert_bytes_arg w _ _ Tryz.underlying26 Tryz.underlying5 b off d.bytes.length c d.bytes rfl ?_ _ Tryz.underlying9, strOf_txt]
    intro i hi
    obtain ⟨b', off', e, h⟩ := hc i hi
    cases e
    rw [h, List.getD_eq_getElem?_getD, List.getElem?_eq_getElem hi]; rfl

theorem near_fp {w : World} {v vc : Value} {db k : Nat} (h : Near w v vc) (hk : k < w.heap.size) (hf : fp db vc k) : fp db v k := by
  rcases hf with rfl | hf
  · exact .inl rfl
  · rcases h k hf with g | g
    · exact .inr g
    · omega
theorem fp_type {B : Nat} {w : World} {db : Nat} {v : Value} {d : DD} (hd : DiskP B w db v d) {j : Nat} (hj : fp db v j) {c : Array Value} {t : Nat} {fr : Nat × Nat} (hc : w.heap[j]? = some (.cells c t fr)) (h1 : t ≠ 28) (h2 : t ≠ 5) : False := by
  rcases hj with rfl | hj
  · have hb : w.heap[j]? = some _ := hd.box
    rw [hc] at hb
    cases hb
    exact h1 rfl
  · obtain ⟨cur, hb⟩ := row_block hd.own hj
    rw [hc] at hb
    cases hb
    exact h2 rfl

set_option maxHeartbeats 4000000 in
set_option maxRecDepth 100000 in
theorem Open_any {B B2 : Nat} (db : Nat) (v vr : Value) (d : DD) (m : MapD) (w : World) (hd : DiskP B w db v d) (hm : OwnRd B2 w vr m.roads) (hl : m.roads.length ≤ 1000)
    (hread : d.dark = false → ∀ w2, Ext w w2 → Calls Tryz.prog 21 #[.string (strB (txtOf d))] w2 (ReadAns (txtOf d) w2)) :
    Calls Tryz.prog 7 #[.pointer (some ⟨db, 0, none⟩), .agg #[.int .i64 m.n, vr]] w (OpenPost B (openF d m) w db v) := by
  have HD := hid hd
  have HM := hid hm
  have HRD := hid hread
  have HRds : Hid (Roads w vr m.roads) := OwnRd.roads hm (by omega)
  obtain ⟨ar, cr, rfl⟩ := HRds.out.shape
  have EW : Hid (Ext w (w.alloc (.cells #[.int .i64 m.n, .slice ar m.roads.length cr] 39))) := Ext.ofAlloc _ _
  have BM : Hid (Box2 (w.alloc (.cells #[.int .i64 m.n, .slice ar m.roads.length cr] 39)) w.heap.size 39 (.int .i64 m.n) (.slice ar m.roads.length cr)) := Box2.alloc w _ _ _
  clear hd hm hread
  cases hok : mapOk m with
  | false =>
    have HR : Hid (openF d m = (2, d, none)) := by show _ = _; unfold openF; rw [if_pos (.inl hok)]
    go_enter Tryz.func7, Tryz.ntmps7
    go_wp2_with (fail)
    generalize w.alloc (.cells #[.int .i64 m.n, .slice ar m.roads.length cr] 39) = W at *
    refine (none_any db v d W (HD.out.ext EW.out)).mono ?_
    rintro e w1 ⟨rfl, rfl⟩
    obtain ⟨x0, x1⟩ := BM.out.cells
    go_wp2_with (fail)
    refine (Distances_bad (.slice ar m.roads.length cr) m W (HRds.out.ext EW.out) hok).mono ?_
    rintro e w2 ⟨rfl, he⟩
    have E2 := hid (EW.out.trans he)
    clear he x0 x1
    go_wp2
    go_ret2
    rw [HR.out]
    exact ⟨v, HD.out.ext E2.out, Near.refl _ _, E2.out.moved _, rfl⟩
  | true =>
    have hn : 1 ≤ m.n ∧ m.n ≤ 8 ∧ m.roads.length ≤ 16 := by
      unfold mapOk at hok
      simp only [Bool.and_eq_true, decide_eq_true_eq] at hok
      exact hok.1
    obtain ⟨N, hN⟩ : ∃ N : Nat, m.n = N := ⟨m.n.toNat, by omega⟩
    have hok2 : mapOk ⟨N, m.roads⟩ = true := by rw [← hN]; exact hok
    have HOK2 := hid hok2
    have HOK := hid hok
    have HNn := hid hN
    clear hok hok2
    go_enter Tryz.func7, Tryz.ntmps7
    go_wp2_with (fail)
    rw [hN] at BM EW
    generalize w.alloc (.cells #[.int .i64 N, .slice ar m.roads.length cr] 39) = W at *
    refine (none_any db v d W (HD.out.ext EW.out)).mono ?_
    rintro e w1 ⟨rfl, rfl⟩
    obtain ⟨x0, x1⟩ := BM.out.cells
    clear hN
    go_wp2_with (fail)
    refine (Distances_ok (.slice ar m.roads.length cr) N m.roads W (HRds.out.ext EW.out) HOK2.out).mono ?_
    rintro e w2 ⟨dv, rfl, -, he⟩
    have E2 := hid (EW.out.trans he)
    have BM2 := hid (BM.out.ext he)
    clear he x0 x1
    obtain ⟨x0, x1⟩ := BM2.out.cells
    by_cases h8 : (N : Int) = 8
    · have h8b : ((N : Int) != 8) = false := by simp [h8]
      have H8 := hid h8
      clear h8
      cases hdk : d.dark with
      | true =>
        have HR : Hid (openF d m = (8, d, none)) := by show _ = _; unfold openF; rw [if_neg (by rw [HOK.out, HNn.out, H8.out]; simp), if_pos hdk]
        go_wp2_with (fail)
        refine (Read_off db v d w2 (HD.out.ext E2.out) hdk).mono ?_
        rintro e w3 ⟨rfl, rfl⟩
        go_wp2
        go_ret2
        rw [HR.out]
        exact ⟨v, HD.out.ext E2.out, Near.refl _ _, E2.out.moved _, rfl⟩
      | false =>
        have HDK := hid hdk
        go_wp2_with (fail)
        refine (Read_on db v d w2 (HD.out.ext E2.out) hdk).mono ?_
        rintro e w3 ⟨u, rfl, hu, he⟩
        have HU := hid (OwnB.bytes hu)
        have hu0 := hid hu
        have E3 := hid (E2.out.trans he)
        have BM3 := hid (BM2.out.ext he)
        clear hu he x0 x1 hdk
        obtain ⟨au, cu, hu2, -⟩ := id HU.out
        obtain ⟨cap2, rfl⟩ : ∃ c, u = .slice au d.bytes.length c := by obtain ⟨a, c, e, -⟩ := HU.out; obtain rfl := hu2; cases e; exact ⟨_, rfl⟩
        have hcv := conv_txt hu0.out
        obtain ⟨tx, htx⟩ : ∃ tx, tx = strB (txtOf d) := ⟨_, rfl⟩
        rw [← htx] at hcv
        have HTX := hid htx
        clear htx hu2
        go_wp2_with (fail)
        clear hcv
        rw [HTX.out]
        refine (HRD.out HDK.out w3 E3.out).mono ?_
        rintro e w4 ⟨vl, sp, rfl, hol, hst, he⟩
        have hls : (readF (txtOf d)).lines.length ≤ 1000000 := by
          have h1 := readF_len (txtOf d)
          have h2 : (txtOf d).length = d.bytes.length := List.length_map ..
          have h3 := HD.out.ok.ls
          have h4 := HD.out.ok.sm
          omega
        have HLS := hid hls
        have E4 := hid (E3.out.trans he)
        have BM4 := hid (BM3.out.ext he)
        have HOL := hid hol
        have HST := hid hst
        have hsz3 := E3.out.size
        obtain ⟨al, cl, hvl⟩ := hol.shape
        subst hvl
        clear hol hst he hls
        obtain ⟨nb, hnb⟩ : ∃ nb, nb = (readF (txtOf d)).bytes := ⟨_, rfl⟩
        rw [← hnb]
        have HNB := hid hnb
        clear hnb
        have E5 : Hid (Ext w4 (w4.alloc (.cells #[.slice al (readF (txtOf d)).lines.length cl, .pointer (some ⟨sp, 0, none⟩), .int .i64 nb] 60))) := Ext.ofAlloc _ _
        have BK5 : Hid (BookB (w4.alloc (.cells #[.slice al (readF (txtOf d)).lines.length cl, .pointer (some ⟨sp, 0, none⟩), .int .i64 nb] 60)) w4.heap.size (.slice al (readF (txtOf d)).lines.length cl) (.pointer (some ⟨sp, 0, none⟩)) (.int .i64 nb)) := heap_alloc_new w4 _
        obtain ⟨w5, hw5⟩ : ∃ w5, w5 = w4.alloc (.cells #[.slice al (readF (txtOf d)).lines.length cl, .pointer (some ⟨sp, 0, none⟩), .int .i64 nb] 60) := ⟨_, rfl⟩
        rw [← hw5] at E5 BK5
        by_cases hlt : nb < (d.bytes.length : Int)
        · have HLT := hid hlt
          have hdc : DiskP B w5 db v d := (HD.out.ext E4.out).ext E5.out
          have HDC0 := hid hdc
          clear hdc
          go_wp2_with (fail)
          rw [← hw5]
          clear hw5 hlt
          refine (Cut_any db v nb d w5 HDC0.out).mono ?_
          rintro e w6 ⟨rfl, v6, hd6, hn6, hm6⟩
          have HDC := hid hd6
          have HNC : Hid (Near w v v6) := hn6.ofExt (E4.out.trans E5.out)
          have HMC : Hid (Moved (fp db v) w w6) := (E4.out.trans E5.out).thenMoved hm6
          have hal := HDC0.out.aloof
          have BMC := hid (Box2.moved (BM4.out.ext E5.out) hm6 (fun hf => fp_type HDC0.out hf (BM4.out.ext E5.out) (by decide) (by decide)))
          have BKC := hid (BookB.moved BK5.out hm6 (fun hf => fp_type HDC0.out hf BK5.out (by decide) (by decide)))
          have OL5 : Hid (OwnN w.heap.size 9 1 w5 (.slice al (readF (txtOf d)).lines.length cl) (readF (txtOf d)).lines.length ((readF (txtOf d)).lines.map strV)) := (HOL.out.base hsz3).ext E5.out
          have OLC := hid (OL5.out.moved hm6 (fun k hk hf => by obtain ⟨cur, hc⟩ := OL5.out.block hk; exact fp_type HDC0.out hf hc (by decide) (by decide)))
          have STC := hid ((HST.out.ext E5.out).moved hm6 hal)
          have RD5 : Hid (OwnRd B2 w5 (.slice ar m.roads.length cr) m.roads) := ownsRow_ext HM.out (E4.out.trans E5.out)
          have RDC := hid (ownsRow_moved RD5.out hm6 (fun k hk hf => by obtain ⟨cur, hc⟩ := row_block RD5.out hk; exact fp_type HDC0.out hf hc (by decide) (by decide)))
          clear hd6 hn6 hm6 hal
          by_cases hcz : (d.cut nb).2 = 0
          · have hcz2 : ((d.cut nb).2 != 0) = false := by simp [hcz]
            have HRF : Hid (openF d m = openFin (d.cut nb).1 (readF (txtOf d)) m.roads) := by
              show _ = _
              unfold openF
              rw [if_neg (by rw [HOK.out, HNn.out, H8.out]; simp), if_neg (by rw [HDK.out]; simp), ← HNB.out, if_pos HLT.out, if_neg (by simp [hcz])]
            clear hcz
            go_wp2_with (fail)
            refine (Sync_any db v6 (d.cut nb).1 w6 HDC.out).mono ?_
            rintro e w7 ⟨rfl, v7, hd7, hn7, hm7⟩
            have HD7 := hid hd7
            have HN7 : Hid (Near w v v7) := HNC.out.trans hn7 HMC.out.size
            have HMs := hid hm7
            have HM7 : Hid (Moved (fp db v) w w7) := HMC.out.trans hm7 (fun k hk hf => near_fp HNC.out hk hf)
            have hal := HDC.out.aloof
            have BM7 := hid (Box2.moved BMC.out hm7 (fun hf => fp_type HDC.out hf BMC.out (by decide) (by decide)))
            have BK7 := hid (BookB.moved BKC.out hm7 (fun hf => fp_type HDC.out hf BKC.out (by decide) (by decide)))
            have OL7 := hid (OLC.out.moved hm7 (fun k hk hf => by obtain ⟨cur, hc⟩ := OLC.out.block hk; exact fp_type HDC.out hf hc (by decide) (by decide)))
            have ST7 := hid (STC.out.moved hm7 hal)
            have RD7 := hid (ownsRow_moved RDC.out hm7 (fun k hk hf => by obtain ⟨cur, hc⟩ := row_block RDC.out hk; exact fp_type HDC.out hf hc (by decide) (by decide)))
            clear hd7 hn7 hm7 hal
            obtain ⟨sy, hsy⟩ : ∃ sy, sy = ((d.cut nb).1).sync := ⟨_, rfl⟩
            have HSY := hid hsy
            by_cases hz : ((d.cut nb).1).sync.2 = 0
            · have hz2 : (((d.cut nb).1).sync.2 != 0) = false := by simp [hz]
              have HR : Hid (openF d m = (0, ((d.cut nb).1).sync.1, some ⟨(readF (txtOf d)).st, (readF (txtOf d)).lines, (readF (txtOf d)).lines.length, false, m.roads⟩)) := by
                show _ = _
                rw [HRF.out]; unfold openFin; rw [if_neg (by simp [hz])]
              clear hz
              obtain ⟨x0, x1⟩ := BM7.out.cells
              obtain ⟨k0, k1, k2⟩ := BK7.out.cells
              go_wp2_with (fail)
              refine (cloneRoad_any _ m.roads w7 RD7.out hl).mono ?_
              rintro e w8 ⟨vr8, rfl, hr8, he⟩
              obtain ⟨a8, n8, c8, rfl⟩ := own_shape hr8
              have HR8 := hid hr8
              have E8 := hid he
              have BM8 := hid (BM7.out.ext he)
              have BK8 := hid (BK7.out.ext he)
              clear hr8 he x0 x1 k0 k1 k2
              obtain ⟨x0, x1⟩ := BM8.out.cells
              have f1 := BM8.out.free 1
              obtain ⟨k0, k1, k2⟩ := BK8.out.cells
              have hnb : ¬ w4.heap.size = w.heap.size := by have := BM4.out.lt; omega
              have hnb2 : ¬ w.heap.size = w4.heap.size := by have := BM4.out.lt; omega
              have M9 : Hid (Moved (fun j => j = w.heap.size) w8 (w8.setCell ⟨w.heap.size, 1, none⟩ (.slice a8 n8 c8))) := (Moved.refl (fun j => j = w.heap.size) w8).set (.inl rfl) 1 _
              go_wp2
              go_ret2
              rw [HR.out]
              have E10 : Hid (Ext (w8.setCell ⟨w.heap.size, 1, none⟩ (.slice a8 n8 c8)) ((w8.setCell ⟨w.heap.size, 1, none⟩ (.slice a8 n8 c8)).alloc (.cells #[.pointer (some ⟨db, 0, none⟩), .int .i64 N, .slice a8 n8 c8, .pointer (some ⟨sp, 0, none⟩), .slice al (readF (txtOf d)).lines.length cl, .int .i64 (readF (txtOf d)).lines.length, .bool false] 47))) := Ext.ofAlloc _ _
              generalize hw9 : w8.setCell ⟨w.heap.size, 1, none⟩ (.slice a8 n8 c8) = w9 at M9 E10 ⊢
              have h98 : w9.heap.size = w8.heap.size := by rw [← hw9]; simp
              have hnp : ∀ k, fp db v7 k → ¬ k = w.heap.size := fun k hk e => by subst e; exact fp_type (HD7.out.ext E8.out) hk BM8.out (by decide) (by decide)
              have hap : Aloof (fun j => j = w.heap.size) w8 := by
                intro j hj o ho
                subst hj
                have hb : w8.heap[w.heap.size]? = some _ := BM8.out
                rw [ho] at hb
                cases hb
                exact ⟨_, _, _, rfl, by unfold stTy; decide⟩
              refine ⟨v7, ((HD7.out.ext E8.out).moved M9.out hnp).ext E10.out, HN7.out, ?_, w8.heap.size, .slice a8 n8 c8, sp, .slice al (readF (txtOf d)).lines.length cl, rfl, ?_⟩
              · exact ((HM7.out.thenExt E8.out).trans M9.out (fun k hk e => by omega)).thenExt E10.out
              · refine ⟨Nat.le_trans HM7.out.size E8.out.size, ?_, ((OL7.out.ext E8.out).moved M9.out (fun j hj e => by subst e; exact (OL7.out.ext E8.out).notBox BM8.out (by decide) hj)).ext E10.out, ((ST7.out.ext E8.out).moved M9.out hap).ext E10.out, ?_, Nat.le_refl _, HLS.out⟩
                · have hh := heap_alloc_new w9 (.cells #[.pointer (some ⟨db, 0, none⟩), .int .i64 N, .slice a8 n8 c8, .pointer (some ⟨sp, 0, none⟩), .slice al (readF (txtOf d)).lines.length cl, .int .i64 (readF (txtOf d)).lines.length, .bool false] 47)
                  rw [h98] at hh
                  rw [← H8.out]
                  exact hh
                · refine ownsRow_ext (ownsRow_moved (ownsRow_base HR8.out HM7.out.size) M9.out (fun k hk e => ?_)) E10.out
                  subst e
                  obtain ⟨cur, hc⟩ := row_block HR8.out hk
                  have hb : w8.heap[w.heap.size]? = some _ := BM8.out
                  rw [hc] at hb
                  cases hb
            · have hz2 : (((d.cut nb).1).sync.2 != 0) = true := by simp [hz]
              have HR : Hid (openF d m = (((d.cut nb).1).sync.2, ((d.cut nb).1).sync.1, none)) := by
                show _ = _
                rw [HRF.out]; unfold openFin; rw [if_pos hz]
              clear hz
              go_wp2
              go_ret2
              rw [HR.out]
              exact ⟨v7, HD7.out, HN7.out, HM7.out, rfl⟩
          · have hcz2 : ((d.cut nb).2 != 0) = true := by simp [hcz]
            have HR : Hid (openF d m = ((d.cut nb).2, (d.cut nb).1, none)) := by
              show _ = _
              unfold openF
              rw [if_neg (by rw [HOK.out, HNn.out, H8.out]; simp), if_neg (by rw [HDK.out]; simp), ← HNB.out, if_pos HLT.out, if_pos hcz]
            clear hcz
            go_wp2
            go_ret2
            rw [HR.out]
            exact ⟨v6, HDC.out, HNC.out, HMC.out, rfl⟩
        · have HLT := hid hlt
          have HRF : Hid (openF d m = openFin d (readF (txtOf d)) m.roads) := by
            show _ = _
            unfold openF
            rw [if_neg (by rw [HOK.out, HNn.out, H8.out]; simp), if_neg (by rw [HDK.out]; simp), ← HNB.out, if_neg hlt]
          have HDC : Hid (DiskP B w5 db v d) := (HD.out.ext E4.out).ext E5.out
          have HNC : Hid (Near w v v) := Near.refl _ _
          have HMC : Hid (Moved (fp db v) w w5) := (E4.out.trans E5.out).moved _
          have BMC := hid (BM4.out.ext E5.out)
          have BKC := BK5
          have OLC : Hid (OwnN w.heap.size 9 1 w5 (.slice al (readF (txtOf d)).lines.length cl) (readF (txtOf d)).lines.length ((readF (txtOf d)).lines.map strV)) := (HOL.out.base hsz3).ext E5.out
          have STC := hid (HST.out.ext E5.out)
          have RDC : Hid (OwnRd B2 w5 (.slice ar m.roads.length cr) m.roads) := ownsRow_ext HM.out (E4.out.trans E5.out)
          go_wp2_with (fail)
          rw [← hw5]
          clear hw5
          refine (Sync_any db v d w5 HDC.out).mono ?_
          rintro e w7 ⟨rfl, v7, hd7, hn7, hm7⟩
          have HD7 := hid hd7
          have HN7 : Hid (Near w v v7) := HNC.out.trans hn7 HMC.out.size
          have HMs := hid hm7
          have HM7 : Hid (Moved (fp db v) w w7) := HMC.out.trans hm7 (fun k hk hf => near_fp HNC.out hk hf)
          have hal := HDC.out.aloof
          have BM7 := hid (Box2.moved BMC.out hm7 (fun hf => fp_type HDC.out hf BMC.out (by decide) (by decide)))
          have BK7 := hid (BookB.moved BKC.out hm7 (fun hf => fp_type HDC.out hf BKC.out (by decide) (by decide)))
          have OL7 := hid (OLC.out.moved hm7 (fun k hk hf => by obtain ⟨cur, hc⟩ := OLC.out.block hk; exact fp_type HDC.out hf hc (by decide) (by decide)))
          have ST7 := hid (STC.out.moved hm7 hal)
          have RD7 := hid (ownsRow_moved RDC.out hm7 (fun k hk hf => by obtain ⟨cur, hc⟩ := row_block RDC.out hk; exact fp_type HDC.out hf hc (by decide) (by decide)))
          clear hd7 hn7 hm7 hal
          obtain ⟨sy, hsy⟩ : ∃ sy, sy = (d).sync := ⟨_, rfl⟩
          have HSY := hid hsy
          by_cases hz : (d).sync.2 = 0
          · have hz2 : ((d).sync.2 != 0) = false := by simp [hz]
            have HR : Hid (openF d m = (0, (d).sync.1, some ⟨(readF (txtOf d)).st, (readF (txtOf d)).lines, (readF (txtOf d)).lines.length, false, m.roads⟩)) := by
              show _ = _
              rw [HRF.out]; unfold openFin; rw [if_neg (by simp [hz])]
            clear hz
            obtain ⟨x0, x1⟩ := BM7.out.cells
            obtain ⟨k0, k1, k2⟩ := BK7.out.cells
            go_wp2_with (fail)
            refine (cloneRoad_any _ m.roads w7 RD7.out hl).mono ?_
            rintro e w8 ⟨vr8, rfl, hr8, he⟩
            obtain ⟨a8, n8, c8, rfl⟩ := own_shape hr8
            have HR8 := hid hr8
            have E8 := hid he
            have BM8 := hid (BM7.out.ext he)
            have BK8 := hid (BK7.out.ext he)
            clear hr8 he x0 x1 k0 k1 k2
            obtain ⟨x0, x1⟩ := BM8.out.cells
            have f1 := BM8.out.free 1
            obtain ⟨k0, k1, k2⟩ := BK8.out.cells
            have hnb : ¬ w4.heap.size = w.heap.size := by have := BM4.out.lt; omega
            have hnb2 : ¬ w.heap.size = w4.heap.size := by have := BM4.out.lt; omega
            have M9 : Hid (Moved (fun j => j = w.heap.size) w8 (w8.setCell ⟨w.heap.size, 1, none⟩ (.slice a8 n8 c8))) := (Moved.refl (fun j => j = w.heap.size) w8).set (.inl rfl) 1 _
            go_wp2
            go_ret2
            rw [HR.out]
            have E10 : Hid (Ext (w8.setCell ⟨w.heap.size, 1, none⟩ (.slice a8 n8 c8)) ((w8.setCell ⟨w.heap.size, 1, none⟩ (.slice a8 n8 c8)).alloc (.cells #[.pointer (some ⟨db, 0, none⟩), .int .i64 N, .slice a8 n8 c8, .pointer (some ⟨sp, 0, none⟩), .slice al (readF (txtOf d)).lines.length cl, .int .i64 (readF (txtOf d)).lines.length, .bool false] 47))) := Ext.ofAlloc _ _
            generalize hw9 : w8.setCell ⟨w.heap.size, 1, none⟩ (.slice a8 n8 c8) = w9 at M9 E10 ⊢
            have h98 : w9.heap.size = w8.heap.size := by rw [← hw9]; simp
            have hnp : ∀ k, fp db v7 k → ¬ k = w.heap.size := fun k hk e => by subst e; exact fp_type (HD7.out.ext E8.out) hk BM8.out (by decide) (by decide)
            have hap : Aloof (fun j => j = w.heap.size) w8 := by
              intro j hj o ho
              subst hj
              have hb : w8.heap[w.heap.size]? = some _ := BM8.out
              rw [ho] at hb
              cases hb
              exact ⟨_, _, _, rfl, by unfold stTy; decide⟩
            refine ⟨v7, ((HD7.out.ext E8.out).moved M9.out hnp).ext E10.out, HN7.out, ?_, w8.heap.size, .slice a8 n8 c8, sp, .slice al (readF (txtOf d)).lines.length cl, rfl, ?_⟩
            · exact ((HM7.out.thenExt E8.out).trans M9.out (fun k hk e => by omega)).thenExt E10.out
            · refine ⟨Nat.le_trans HM7.out.size E8.out.size, ?_, ((OL7.out.ext E8.out).moved M9.out (fun j hj e => by subst e; exact (OL7.out.ext E8.out).notBox BM8.out (by decide) hj)).ext E10.out, ((ST7.out.ext E8.out).moved M9.out hap).ext E10.out, ?_, Nat.le_refl _, HLS.out⟩
              · have hh := heap_alloc_new w9 (.cells #[.pointer (some ⟨db, 0, none⟩), .int .i64 N, .slice a8 n8 c8, .pointer (some ⟨sp, 0, none⟩), .slice al (readF (txtOf d)).lines.length cl, .int .i64 (readF (txtOf d)).lines.length, .bool false] 47)
                rw [h98] at hh
                rw [← H8.out]
                exact hh
              · refine ownsRow_ext (ownsRow_moved (ownsRow_base HR8.out HM7.out.size) M9.out (fun k hk e => ?_)) E10.out
                subst e
                obtain ⟨cur, hc⟩ := row_block HR8.out hk
                have hb : w8.heap[w.heap.size]? = some _ := BM8.out
                rw [hc] at hb
                cases hb
          · have hz2 : ((d).sync.2 != 0) = true := by simp [hz]
            have HR : Hid (openF d m = ((d).sync.2, (d).sync.1, none)) := by
              show _ = _
              rw [HRF.out]; unfold openFin; rw [if_pos hz]
            clear hz
            go_wp2
            go_ret2
            rw [HR.out]
            exact ⟨v7, HD7.out, HN7.out, HM7.out, rfl⟩
    · have h8b : ((N : Int) != 8) = true := by simp [h8]
      have HR : Hid (openF d m = (2, d, none)) := by show _ = _; unfold openF; rw [if_pos (.inr (by rw [HNn.out]; exact h8))]
      clear h8
      go_wp2
      go_ret2
      rw [HR.out]
      exact ⟨v, HD.out.ext E2.out, Near.refl _ _, E2.out.moved _, rfl⟩

end Go.Proofs.YteiamhapplnlaabGreatDoor

/-
  The statements' awake: a new bank takes a lot.
-/
namespace Go.Proofs.YteiamhapplnlaabGreatDoor
open Go.RowKit

def tGive : Bs := [103, 105, 118, 101, 32, 114, 105, 99, 101, 32, 53, 32, 49, 48]
theorem give_line : lineB tGive = true := by decide +kernel
theorem give_word : (cutC 32 tGive).1 = wGive := by decide +kernel
theorem itoa5 : Lib.itoa 5 = [53] := by rw [show (5 : Int) = ((5 : Nat) : Int) from rfl, Lib.itoa_nonneg, Lib.decDigits_one (by decide)]; rfl
theorem itoa1 : Lib.itoa 1 = [49] := by rw [show (1 : Int) = ((1 : Nat) : Int) from rfl, Lib.itoa_nonneg, Lib.decDigits_one (by decide)]; rfl
theorem itoa10 : Lib.itoa 10 = [49, 48] := by rw [show (10 : Int) = ((10 : Nat) : Int) from rfl, Lib.itoa_nonneg, Lib.decDigits_two (by decide) (by decide)]; rfl
theorem num5 : numB [53] = some 5 := by
  unfold numB
  rw [show Lib.atoiAll [53] = .ok 5 by decide +kernel]
  simp only []
  rw [itoa5]; rfl
theorem num10 : numB [49, 48] = some 10 := by
  unfold numB
  rw [show Lib.atoiAll [49, 48] = .ok 10 by decide +kernel]
  simp only []
  rw [itoa10]; rfl
theorem give_form : formB tGive [110, 100, 100] [] false 0 0 = some ([[114, 105, 99, 101]], [5, 10]) := by
  have hw : (splitSp tGive).drop 1 = [[114, 105, 99, 101], [53], [49, 48]] := by decide +kernel
  unfold formB
  simp only [hw, Bool.false_eq_true, if_false]
  rw [formW_name rfl (by decide +kernel), formW_num (by decide) num5, formW_num (by decide) num10]
  rfl
theorem give_chg : SD.zero.chg tGive = (0, [103, 105, 118, 101, 32, 49], { SD.zero with lots := [⟨[114, 105, 99, 101], [], 5, 10, false⟩] }) := by
  unfold SD.chg
  rw [give_line, give_word, give_form]
  show SD.zero.give [114, 105, 99, 101] 5 10 = _
  unfold SD.give
  rw [if_neg (by decide), if_neg (by decide)]
  show (0, [103, 105, 118, 101, 32] ++ Lib.itoa 1, _) = _
  rw [itoa1]; rfl

/-- The blocks of a disk, of a bank, lie from their base on. -/
theorem DiskP.low {B : Nat} {w : World} {b : Nat} {v : Value} {d : DD} (h : DiskP B w b v d) {k : Nat} (hk : fp b v k) : B ≤ k := by
  rcases hk with rfl | hk
  · exact h.lo
  · exact (h.own.lt k hk).1
theorem BankP.low {B : Nat} {w : World} {bb db : Nat} {n : Int} {vr : Value} {sp : Nat} {vd : Value} {x : BankS} (h : BankP B w bb db n vr sp vd x) {k : Nat} (hk : fpB bb vd k) : B ≤ k := by
  rcases hk with rfl | hk
  · exact h.lo
  · exact (h.done.1.lt k hk).1
theorem BankP.base {B B2 : Nat} {w : World} {bb db : Nat} {n : Int} {vr : Value} {sp : Nat} {vd : Value} {x : BankS} (h : BankP B w bb db n vr sp vd x) (hb : B2 ≤ B) : BankP B2 w bb db n vr sp vd x :=
  ⟨Nat.le_trans hb h.lo, h.box, h.done.base hb, h.st, ownsRow_base h.rd hb, h.le, h.few⟩
theorem DiskP.base {B B2 : Nat} {w : World} {b : Nat} {v : Value} {d : DD} (h : DiskP B w b v d) (hb : B2 ≤ B) : DiskP B2 w b v d := ⟨Nat.le_trans hb h.lo, h.box, ownsRow_base h.own hb, h.ok⟩

set_option maxHeartbeats 4000000 in
set_option maxRecDepth 100000 in
/-- Two new disks. -/
theorem disks_ok (size : Int) (w : World) (h1 : 1 ≤ size) (h2 : size ≤ 1000000) :
    Calls Tryz.prog 35 #[.int .i64 size] w fun e w' => ∃ db rb, e = .returned (.tuple #[.pointer (some ⟨db, 0, none⟩), .pointer (some ⟨rb, 0, none⟩), .bool true]) ∧ DiskP w.heap.size w' db (.slice none 0 0) ⟨[], size, 0, false, -1⟩ ∧ DiskR w.heap.size w' rb (.slice none 0 0) ⟨[], size, 0, false, -1⟩ ∧ db ≠ rb ∧ Ext w w' := by
  go_enter Tryz.func35, Tryz.ntmps35
  go_wp2_with (fail)
  refine (NewDisk_ok size w h1 h2).mono ?_
  rintro e w1 ⟨rfl, hd, he⟩
  have HD := hid hd
  have E1 := hid he
  clear hd he
  go_wp2_with (fail)
  refine (RNewDisk_ok size w1 h1 h2).mono ?_
  rintro e w2 ⟨rfl, hr, he⟩
  have HR := hid hr
  have E2 := hid he
  have hlt : w.heap.size < w1.heap.size := HD.out.box.lt
  clear hr he
  go_wp2
  go_ret3
  refine ⟨_, _, rfl, HD.out.ext E2.out, ⟨Nat.le_trans E1.out.size HR.out.lo, HR.out.box, ownsRow_base HR.out.own E1.out.size, HR.out.ok⟩, by omega, E1.out.trans E2.out⟩
theorem disks_bad (size : Int) (w : World) (h : size < 1 ∨ 1000000 < size) :
    Calls Tryz.prog 35 #[.int .i64 size] w fun e w' => e = .returned (.tuple #[.pointer none, .pointer none, .bool true]) ∧ w = w' := by
  have H := hid h
  clear h
  go_enter Tryz.func35, Tryz.ntmps35
  go_wp2_with (fail)
  refine (NewDisk_bad size w H.out).mono ?_
  rintro e w1 ⟨rfl, rfl⟩
  go_wp2_with (fail)
  refine (RNewDisk_bad size w H.out).mono ?_
  rintro e w2 ⟨rfl, rfl⟩
  go_wp2
  go_ret3
  exact ⟨rfl, rfl⟩

theorem open_zero : openF ⟨[], 100, 0, false, -1⟩ ⟨8, rowRoads 7⟩ = (0, ⟨[], 100, 0, false, -1⟩, some ⟨SD.zero, [], 0, false, rowRoads 7⟩) := by
  unfold openF
  rw [if_neg (by rw [rowRoads_ok]; simp), if_neg (by simp)]
  rfl

set_option maxHeartbeats 4000000 in
set_option maxRecDepth 100000 in
theorem awake_any (w : World) (hE : Env w) : Calls Tryz.prog 18 #[] w fun e w' => e = .returned (.bool true) ∧ Ext w w' := by
  have HE := hid hE
  clear hE
  go_enter Tryz.func18, Tryz.ntmps18
  go_wp2_with (fail)
  refine (disks_ok 100 w (by decide) (by decide)).mono ?_
  rintro e w1 ⟨db, rb, rfl, hd, -, -, he⟩
  have HD := hid hd
  have E1 := hid he
  clear hd he
  go_wp2_with (fail)
  refine (row_any w1).mono ?_
  rintro e w2 ⟨u, rfl, hu, he⟩
  have HU := hid hu
  have E2 := hid he
  clear hu he
  go_wp2_with (fail)
  refine (Plan9_any u ⟨8, rowRoads 7⟩ w2 HU.out).mono ?_
  rintro e w3 ⟨u3, rfl, hu, he⟩
  have HU3 := hid hu
  have E3 := hid ((E1.out.trans E2.out).trans he)
  have HD3 := hid (HD.out.ext (E2.out.trans he))
  clear hu he
  go_wp2_with (fail)
  refine (Open_any (B := w.heap.size) db _ u3 ⟨[], 100, 0, false, -1⟩ ⟨8, rowRoads 7⟩ w3 HD3.out HU3.out (by decide) (fun _ w4 he => read_nil w4 (HE.out.ext (E3.out.trans he)))).mono ?_
  rw [open_zero]
  rintro e w4 ⟨v4, hd4, hn4, hm4, bb, vr, sp, vd, rfl, hb4⟩
  have HD4 := hid hd4
  have HB4 := hid (hb4.base E3.out.size)
  have E4 : Hid (Ext w w4) := ext_moved E3.out hm4 (fun k hk => HD3.out.low hk)
  clear hd4 hn4 hm4 hb4
  go_wp2_with (fail)
  refine (Do_any (B := w.heap.size) (strB tGive) w4 HB4.out HD4.out E4.out.size (by decide) (by decide) (change_give sp SD.zero (strB tGive) w4 HB4.out.st (HE.out.ext E4.out) give_line give_word)).mono ?_
  have HDO : Hid (doF ⟨[], 100, 0, false, -1⟩ ⟨SD.zero, [], 0, false, rowRoads 7⟩ tGive = (([103, 105, 118, 101, 32, 49], 0), ⟨byts (tGive ++ [10]), 100, 0, false, -1⟩, ⟨{ SD.zero with lots := [⟨[114, 105, 99, 101], [], 5, 10, false⟩] }, [tGive], 0, false, rowRoads 7⟩)) := by
    show _ = _
    unfold doF
    rw [if_neg (by simp)]
    simp only [give_chg]
    rfl
  rintro e w5 ⟨rfl, v5, vd5, sp5, -, -, -, -, hm5⟩
  have E5 : Hid (Ext w w5) := ext_moved E4.out hm5 (fun k hk => hk.elim (fun h => HB4.out.low h) (fun h => HD4.out.low h))
  rw [show (strB tGive).data.toList = tGive from rfl, HDO.out]
  clear hm5
  go_wp2
  go_ret
  refine ⟨ret_bool ?_, E5.out⟩
  rw [ByteArray.toList_eq]; rfl

end Go.Proofs.YteiamhapplnlaabGreatDoor

/-
  The calls on no disk and on no bank (nil, or zero).
-/
namespace Go.Proofs.YteiamhapplnlaabGreatDoor
open Go.RowKit

/-- No disk: nil, or of size zero. -/
def DNone (w : World) (q : Option Addr) : Prop := q = none ∨ ∃ b, q = some ⟨b, 0, none⟩ ∧ w.cell? ⟨b, 1, none⟩ = some (.int .i64 0)
theorem DNone.ext {w w' : World} {p : Option Addr} (h : DNone w p) (e : Ext w w') : DNone w' p := h.imp id (fun ⟨b, h1, h2⟩ => ⟨b, h1, e.cell h2⟩)
/-- No bank: nil, or without a state. -/
def BNone (w : World) (q : Option Addr) : Prop := q = none ∨ ∃ b, q = some ⟨b, 0, none⟩ ∧ w.cell? ⟨b, 3, none⟩ = some (.pointer none)
theorem BNone.ext {w w' : World} {p : Option Addr} (h : BNone w p) (e : Ext w w') : BNone w' p := h.imp id (fun ⟨b, h1, h2⟩ => ⟨b, h1, e.cell h2⟩)

set_option maxHeartbeats 1000000 in
theorem dnone_any (p : Option Addr) (w : World) (h : DNone w p) : Calls Tryz.prog 19 #[.pointer p] w fun e w' => e = .returned (.bool true) ∧ w = w' := by
  rcases h with rfl | ⟨b, rfl, c1⟩
  · go_enter Tryz.func19, Tryz.ntmps19
    go_wp2
    go_ret
    exact ⟨rfl, rfl⟩
  · go_enter Tryz.func19, Tryz.ntmps19
    go_wp2
    go_ret
    exact ⟨rfl, rfl⟩
set_option maxHeartbeats 1000000 in
theorem bnone_any (p : Option Addr) (w : World) (h : BNone w p) : Calls Tryz.prog 31 #[.pointer p] w fun e w' => e = .returned (.bool true) ∧ w = w' := by
  rcases h with rfl | ⟨b, rfl, c1⟩
  · go_enter Tryz.func31, Tryz.ntmps31
    go_wp2
    go_ret
    exact ⟨rfl, rfl⟩
  · go_enter Tryz.func31, Tryz.ntmps31
    go_wp2
    go_ret
    exact ⟨rfl, rfl⟩

set_option maxHeartbeats 2000000 in
theorem FuseN_any (p : Option Addr) (n : Int) (w : World) (h : DNone w p) : Calls Tryz.prog 4 #[.pointer p, .int .i64 n] w fun e w' => e = .returned (.tuple #[]) ∧ Ext w w' := by
  have H := hid h
  clear h
  go_enter Tryz.func4, Tryz.ntmps4
  go_wp2_with (fail)
  refine (dnone_any p w H.out).mono ?_
  rintro e w' ⟨rfl, rfl⟩
  go_wp2
  go_end0
  exact ⟨rfl, Ext.refl _⟩
set_option maxHeartbeats 2000000 in
theorem CrashN_any (p : Option Addr) (n : Int) (w : World) (h : DNone w p) : Calls Tryz.prog 5 #[.pointer p, .int .i64 n] w fun e w' => e = .returned (.tuple #[]) ∧ Ext w w' := by
  have H := hid h
  clear h
  go_enter Tryz.func5, Tryz.ntmps5
  go_wp2_with (fail)
  refine (dnone_any p w H.out).mono ?_
  rintro e w' ⟨rfl, rfl⟩
  go_wp2
  go_end0
  exact ⟨rfl, Ext.refl _⟩
set_option maxHeartbeats 2000000 in
theorem ReadN_any (p : Option Addr) (w : World) (h : DNone w p) : Calls Tryz.prog 6 #[.pointer p] w fun e w' => e = .returned (.tuple #[.slice none 0 0, .int .i64 1]) ∧ Ext w w' := by
  have H := hid h
  clear h
  go_enter Tryz.func6, Tryz.ntmps6
  go_wp2_with (fail)
  refine (dnone_any p w H.out).mono ?_
  rintro e w' ⟨rfl, rfl⟩
  go_wp2
  go_ret2
  exact ⟨rfl, Ext.refl _⟩
set_option maxHeartbeats 2000000 in
theorem AppendN_any (p a : Option Addr) (m c : Nat) (w : World) (h : DNone w p) : Calls Tryz.prog 9 #[.pointer p, .slice a m c] w fun e w' => e = .returned (.int .i64 1) ∧ Ext w w' := by
  have k1 := box_cell w (.pointer p) 25
  have k1' := (Ext.ofAlloc (w.alloc (.cells #[.pointer p] 25)) (.cells #[.slice a m c] 26)).cell k1
  have E := hid ((Ext.ofAlloc w (.cells #[.pointer p] 25)).alloc (.cells #[.slice a m c] 26))
  have H := hid (h.ext E.out)
  clear h k1
  go_enter Tryz.func9, Tryz.ntmps9
  go_wp2_with (fail)
  refine (dnone_any p _ H.out).mono ?_
  rintro e w' ⟨rfl, rfl⟩
  go_wp2
  go_ret
  exact ⟨rfl, E.out⟩
set_option maxHeartbeats 2000000 in
theorem SyncN_any (p : Option Addr) (w : World) (h : DNone w p) : Calls Tryz.prog 10 #[.pointer p] w fun e w' => e = .returned (.int .i64 1) ∧ Ext w w' := by
  have k1 := box_cell w (.pointer p) 25
  have E := hid (Ext.ofAlloc w (.cells #[.pointer p] 25))
  have H := hid (h.ext E.out)
  clear h
  go_enter Tryz.func10, Tryz.ntmps10
  go_wp2_with (fail)
  refine (dnone_any p _ H.out).mono ?_
  rintro e w' ⟨rfl, rfl⟩
  go_wp2
  go_ret
  exact ⟨rfl, E.out⟩
set_option maxHeartbeats 2000000 in
theorem CutN_any (p : Option Addr) (n : Int) (w : World) (h : DNone w p) : Calls Tryz.prog 11 #[.pointer p, .int .i64 n] w fun e w' => e = .returned (.int .i64 1) ∧ Ext w w' := by
  have k1 := box_cell w (.pointer p) 25
  have k1' := (Ext.ofAlloc (w.alloc (.cells #[.pointer p] 25)) (.cells #[.int .i64 n] 3)).cell k1
  have E := hid ((Ext.ofAlloc w (.cells #[.pointer p] 25)).alloc (.cells #[.int .i64 n] 3))
  have H := hid (h.ext E.out)
  clear h k1
  go_enter Tryz.func11, Tryz.ntmps11
  go_wp2_with (fail)
  refine (dnone_any p _ H.out).mono ?_
  rintro e w' ⟨rfl, rfl⟩
  go_wp2
  go_ret
  exact ⟨rfl, E.out⟩
set_option maxHeartbeats 2000000 in
theorem OpenN_any (p a : Option Addr) (m c : Nat) (n : Int) (w : World) (h : DNone w p) : Calls Tryz.prog 7 #[.pointer p, .agg #[.int .i64 n, .slice a m c]] w fun e w' => e = .returned (.tuple #[.pointer none, .int .i64 1]) ∧ Ext w w' := by
  have E := hid (Ext.ofAlloc w (.cells #[.int .i64 n, .slice a m c] 39))
  have H := hid (h.ext E.out)
  clear h
  go_enter Tryz.func7, Tryz.ntmps7
  go_wp2_with (fail)
  refine (dnone_any p _ H.out).mono ?_
  rintro e w' ⟨rfl, rfl⟩
  go_wp2
  go_ret2
  exact ⟨rfl, E.out⟩
set_option maxHeartbeats 2000000 in
theorem bready_any (p : Option Addr) (w : World) (h : BNone w p) : Calls Tryz.prog 28 #[.pointer p] w fun e w' => e = .returned (.int .i64 1) ∧ w = w' := by
  have H := hid h
  clear h
  go_enter Tryz.func28, Tryz.ntmps28
  go_wp2_with (fail)
  refine (bnone_any p w H.out).mono ?_
  rintro e w' ⟨rfl, rfl⟩
  go_wp2
  go_ret
  exact ⟨rfl, rfl⟩
set_option maxHeartbeats 2000000 in
theorem DoN_any (p : Option Addr) (s : ByteArray) (w : World) (h : BNone w p) : Calls Tryz.prog 12 #[.pointer p, .string s] w fun e w' => e = .returned (.tuple #[.string .empty, .int .i64 1]) ∧ Ext w w' := by
  have H := hid h
  clear h
  go_enter Tryz.func12, Tryz.ntmps12
  go_wp2_with (fail)
  refine (bready_any p w H.out).mono ?_
  rintro e w' ⟨rfl, rfl⟩
  go_wp2
  go_ret2
  exact ⟨rfl, Ext.refl _⟩

set_option maxHeartbeats 2000000 in
theorem CommitN_any (p : Option Addr) (w : World) (h : BNone w p) : Calls Tryz.prog 14 #[.pointer p] w fun e w' => e = .returned (.int .i64 1) ∧ Ext w w' := by
  have H := hid h
  clear h
  go_enter Tryz.func14, Tryz.ntmps14
  go_wp2_with (fail)
  refine (bready_any p w H.out).mono ?_
  rintro e w' ⟨rfl, rfl⟩
  go_wp2
  go_ret
  exact ⟨rfl, Ext.refl _⟩
set_option maxHeartbeats 2000000 in
theorem JournalN_any (p : Option Addr) (w : World) (h : BNone w p) : Calls Tryz.prog 15 #[.pointer p] w fun e w' => e = .returned (.slice none 0 0) ∧ Ext w w' := by
  have H := hid h
  clear h
  go_enter Tryz.func15, Tryz.ntmps15
  go_wp2_with (fail)
  refine (bnone_any p w H.out).mono ?_
  rintro e w' ⟨rfl, rfl⟩
  go_wp2
  go_ret
  exact ⟨rfl, Ext.refl _⟩
set_option maxHeartbeats 2000000 in
theorem SafeN_any (p : Option Addr) (w : World) (h : BNone w p) : Calls Tryz.prog 16 #[.pointer p] w fun e w' => e = .returned (.int .i64 0) ∧ Ext w w' := by
  have H := hid h
  clear h
  go_enter Tryz.func16, Tryz.ntmps16
  go_wp2_with (fail)
  refine (bnone_any p w H.out).mono ?_
  rintro e w' ⟨rfl, rfl⟩
  go_wp2
  go_ret
  exact ⟨rfl, Ext.refl _⟩

end Go.Proofs.YteiamhapplnlaabGreatDoor

/-
  Ask and State on no bank.
-/
namespace Go.Proofs.YteiamhapplnlaabGreatDoor
open Go.RowKit

set_option maxHeartbeats 2000000 in
theorem AskN_any (p : Option Addr) (s : ByteArray) (w : World) (h : BNone w p) : Calls Tryz.prog 13 #[.pointer p, .string s] w fun e w' => e = .returned (.tuple #[.string .empty, .int .i64 1]) ∧ Ext w w' := by
  have H := hid h
  clear h
  go_enter Tryz.func13, Tryz.ntmps13
  go_wp2_with (fail)
  refine (bnone_any p w H.out).mono ?_
  rintro e w' ⟨rfl, rfl⟩
  go_wp2
  go_ret2
  exact ⟨rfl, Ext.refl _⟩
set_option maxHeartbeats 2000000 in
theorem StateN_any (p : Option Addr) (w : World) (h : BNone w p) : Calls Tryz.prog 17 #[.pointer p] w fun e w' => e = .returned (.string .empty) ∧ Ext w w' := by
  have H := hid h
  clear h
  go_enter Tryz.func17, Tryz.ntmps17
  go_wp2_with (fail)
  refine (bnone_any p w H.out).mono ?_
  rintro e w' ⟨rfl, rfl⟩
  go_wp2
  go_ret
  exact ⟨rfl, Ext.refl _⟩

end Go.Proofs.YteiamhapplnlaabGreatDoor

/-
  BankNobody: its walk.
-/
namespace Go.Proofs.YteiamhapplnlaabGreatDoor
open Go.RowKit

set_option maxHeartbeats 8000000 in
set_option maxRecDepth 100000 in
theorem BankNobody_any (vr : Value) (m : MapD) (s : ByteArray) (n : Int) (w : World) (hE : Env w) (hm : MapR w vr m) :
    Calls Tryz.prog 3 #[.agg #[.int .i64 m.n, vr], .string s, .int .i64 n] w fun e w' => e = .returned (.bool true) ∧ Ext w w' := by
  obtain ⟨ao, cap, rfl⟩ := hm.shape
  have HE := hid hE
  have HM := hid hm
  clear hE hm
  go_enter Tryz.func3, Tryz.ntmps3
  go_wp2
  go_loopg [23] 2 (fun g i wr => ∃ k : Nat, k + g = 2 ∧ i = .int .i64 k ∧ Hid (Ext w wr) ∧ Hid (Box2 wr w.heap.size 24 (.int .i64 m.n) (.slice ao m.roads.length cap)) ∧
    Hid (wr.cell? ⟨w.heap.size + 1, 1, none⟩ = some (.int .i64 0)) ∧ Hid (wr.cell? ⟨w.heap.size + 2, 0, none⟩ = some (.pointer none)) ∧ Hid (wr.cell? ⟨w.heap.size + 2, 1, none⟩ = some (.pointer (some ⟨w.heap.size + 1, 0, none⟩))))
  case atStart =>
    refine ⟨0, by omega, rfl, ?_, ?_, ?_, ?_, ?_⟩
    · exact ((Ext.ofAlloc w _).alloc _).alloc _
    · exact Box2.ext (Box2.ext (Box2.alloc w _ _ _) (Ext.ofAlloc _ _)) (Ext.ofAlloc _ _)
    · have h := cell_of_row _ _ 1 _ _ _ (heap_alloc_new (w.alloc (.cells #[.int .i64 m.n, .slice ao m.roads.length cap] 24)) (.cells #[.slice none 0 0, .int .i64 0, .int .i64 0, .bool false, .int .i64 0] 28))
      rw [World.size_alloc] at h
      exact (Ext.ofAlloc _ _).cell h
    · have h := cell_of_row _ _ 0 _ _ _ (heap_alloc_new ((w.alloc (.cells #[.int .i64 m.n, .slice ao m.roads.length cap] 24)).alloc (.cells #[.slice none 0 0, .int .i64 0, .int .i64 0, .bool false, .int .i64 0] 28)) (.cells #[.pointer none, .pointer (some ⟨w.heap.size + 1, 0, none⟩)] 25))
      rw [World.size_alloc, World.size_alloc] at h
      exact h
    · have h := cell_of_row _ _ 1 _ _ _ (heap_alloc_new ((w.alloc (.cells #[.int .i64 m.n, .slice ao m.roads.length cap] 24)).alloc (.cells #[.slice none 0 0, .int .i64 0, .int .i64 0, .bool false, .int .i64 0] 28)) (.cells #[.pointer none, .pointer (some ⟨w.heap.size + 1, 0, none⟩)] 25))
      rw [World.size_alloc, World.size_alloc] at h
      exact h
  case round =>
    obtain ⟨k, hk, rfl, EX, BX, C1, C2, C3⟩ := hrel
    have Hk := hid hk
    clear hk
    by_cases hlt : k < 2
    · have hp : ∃ q, wr.cell? ⟨w.heap.size + 2, k, none⟩ = some (.pointer q) ∧ DNone wr q := by
        have hc : k = 0 ∨ k = 1 := by omega
        rcases hc with rfl | rfl
        · exact ⟨_, C2.out, .inl rfl⟩
        · exact ⟨_, C3.out, .inr ⟨_, rfl, C1.out⟩⟩
      obtain ⟨q, hq, hn⟩ := hp
      have HN := hid hn
      have hki : (k : Int) < 2 := by omega
      have HM1 := hid (HM.out.ext EX.out)
      obtain ⟨b0, b1⟩ := BX.out.cells
      clear hn
      go_wp2_with (fail)
      refine (FuseN_any q n wr HN.out).mono ?_
      rintro e w1 ⟨rfl, he⟩
      have E1 := hid he
      clear he
      go_wp2_with (fail)
      refine (CrashN_any q n w1 (HN.out.ext E1.out)).mono ?_
      rintro e w2 ⟨rfl, he⟩
      have E2 := hid (E1.out.trans he)
      clear he
      go_wp2_with (fail)
      refine (ReadN_any q w2 (HN.out.ext E2.out)).mono ?_
      rintro e w3 ⟨rfl, he⟩
      have E3 := hid (E2.out.trans he)
      clear he b0 b1
      obtain ⟨b0, b1⟩ := (BX.out.ext E3.out).cells
      go_wp2_with (fail)
      refine (Plan9_any _ m w3 (HM1.out.ext E3.out)).mono ?_
      rintro e w4 ⟨u, rfl, hu, he⟩
      obtain ⟨av, nv, cv, rfl⟩ := own_shape hu
      have E4 := hid (E3.out.trans he)
      clear he hu b0 b1
      go_wp2_with (fail)
      refine (OpenN_any q av nv cv m.n w4 (HN.out.ext E4.out)).mono ?_
      rintro e w5 ⟨rfl, he⟩
      have E5 := hid (E4.out.trans he)
      clear he
      have hcv := Lib.run_convert_string_bytes (P := Tryz.prog) w5 9 26 5 s Tryz.underlying9 Tryz.underlying26 Tryz.underlying5
      have E6 : Hid (Ext wr (Lib.bytesWorld w5 5 s)) := E5.out.trans (bytesWorld_ext w5 _ s)
      go_wp2_with (fail)
      clear hcv
      generalize Lib.bytesWorld w5 5 s = w6 at *
      refine (AppendN_any q _ _ _ w6 (HN.out.ext E6.out)).mono ?_
      rintro e w7 ⟨rfl, he⟩
      have E7 := hid (E6.out.trans he)
      clear he
      go_wp2_with (fail)
      refine (SyncN_any q w7 (HN.out.ext E7.out)).mono ?_
      rintro e w8 ⟨rfl, he⟩
      have E8 := hid (E7.out.trans he)
      clear he
      go_wp2_with (fail)
      refine (CutN_any q n w8 (HN.out.ext E8.out)).mono ?_
      rintro e w9 ⟨rfl, he⟩
      have E9 := hid (E8.out.trans he)
      clear he
      go_wp2
      go_roundg (gk - 1)
      case rel => exact ⟨k + 1, by have := Hk.out; omega, by go_num, EX.out.trans E9.out, Box2.ext BX.out E9.out, E9.out.cell C1.out, E9.out.cell C2.out, E9.out.cell C3.out⟩
      case measure => have := Hk.out; omega
    · have hki : ¬ (k : Int) < 2 := by omega
      have HX := hid EX.out
      clear BX C1 C2 C3
      obtain ⟨W1, hW1⟩ : ∃ W1, W1 = wr := ⟨_, rfl⟩
      subst hW1
      go_wp2
      go_loopg [83] 2 (fun g i wq => ∃ k : Nat, k + g = 2 ∧ i = .int .i64 k ∧ Hid (Ext w wq) ∧
        Hid (wq.cell? ⟨W1.heap.size, 3, none⟩ = some (.pointer none)) ∧ Hid (wq.cell? ⟨W1.heap.size + 1, 0, none⟩ = some (.pointer none)) ∧ Hid (wq.cell? ⟨W1.heap.size + 1, 1, none⟩ = some (.pointer (some ⟨W1.heap.size, 0, none⟩))))
      case atStart =>
        refine ⟨0, by omega, rfl, ?_, ?_, ?_, ?_⟩
        · exact (HX.out.alloc _).alloc _
        · exact (Ext.ofAlloc _ _).cell (cell_of_row _ _ 3 _ _ _ (heap_alloc_new W1 (.cells #[.pointer none, .int .i64 0, .slice none 0 0, .pointer none, .slice none 0 0, .int .i64 0, .bool false] 47)))
        · have h := cell_of_row _ _ 0 _ _ _ (heap_alloc_new (W1.alloc (.cells #[.pointer none, .int .i64 0, .slice none 0 0, .pointer none, .slice none 0 0, .int .i64 0, .bool false] 47)) (.cells #[.pointer none, .pointer (some ⟨W1.heap.size, 0, none⟩)] 34))
          rw [World.size_alloc] at h
          exact h
        · have h := cell_of_row _ _ 1 _ _ _ (heap_alloc_new (W1.alloc (.cells #[.pointer none, .int .i64 0, .slice none 0 0, .pointer none, .slice none 0 0, .int .i64 0, .bool false] 47)) (.cells #[.pointer none, .pointer (some ⟨W1.heap.size, 0, none⟩)] 34))
          rw [World.size_alloc] at h
          exact h
      case round =>
        obtain ⟨j, hj, rfl, EY, D1, D2, D3⟩ := hrel
        have Hj := hid hj
        clear hj
        by_cases hlj : j < 2
        · have hp : ∃ q, wr.cell? ⟨W1.heap.size + 1, j, none⟩ = some (.pointer q) ∧ BNone wr q := by
            have hc : j = 0 ∨ j = 1 := by omega
            rcases hc with rfl | rfl
            · exact ⟨_, D2.out, .inl rfl⟩
            · exact ⟨_, D3.out, .inr ⟨_, rfl, D1.out⟩⟩
          obtain ⟨q, hq, hn⟩ := hp
          have HN := hid hn
          have hji : (j : Int) < 2 := by omega
          clear hn
          go_wp2_with (fail)
          refine (DoN_any q s wr HN.out).mono ?_
          rintro e x1 ⟨rfl, he⟩
          have F1 := hid he
          clear he
          go_wp2_with (fail)
          refine (AskN_any q s x1 (HN.out.ext F1.out)).mono ?_
          rintro e x2 ⟨rfl, he⟩
          have F2 := hid (F1.out.trans he)
          clear he
          go_wp2_with (fail)
          refine (CommitN_any q x2 (HN.out.ext F2.out)).mono ?_
          rintro e x3 ⟨rfl, he⟩
          have F3 := hid (F2.out.trans he)
          clear he
          go_wp2_with (fail)
          refine (JournalN_any q x3 (HN.out.ext F3.out)).mono ?_
          rintro e x4 ⟨rfl, he⟩
          have F4 := hid (F3.out.trans he)
          clear he
          go_wp2_with (fail)
          refine (SafeN_any q x4 (HN.out.ext F4.out)).mono ?_
          rintro e x5 ⟨rfl, he⟩
          have F5 := hid (F4.out.trans he)
          clear he
          go_wp2_with (fail)
          refine (StateN_any q x5 (HN.out.ext F5.out)).mono ?_
          rintro e x6 ⟨rfl, he⟩
          have F6 := hid (F5.out.trans he)
          clear he
          go_wp2
          go_roundg (gk - 1)
          case rel => exact ⟨j + 1, by have := Hj.out; omega, by go_num, EY.out.trans F6.out, F6.out.cell D1.out, F6.out.cell D2.out, F6.out.cell D3.out⟩
          case measure => have := Hj.out; omega
        · have hji : ¬ (j : Int) < 2 := by omega
          go_wp2_with (fail)
          refine (awake_any wr (HE.out.ext EY.out)).mono ?_
          rintro e x1 ⟨rfl, he⟩
          go_wp2
          go_ret
          exact ⟨rfl, EY.out.trans he⟩

end Go.Proofs.YteiamhapplnlaabGreatDoor
