/-
  Contract of change at a line whose first word is give.
-/
import Derived.Test.YteiamhapplnlaabGreatDoorBsChange
import Derived.Test.YteiamhapplnlaabGreatDoorBsGive
namespace Go.Proofs.YteiamhapplnlaabGreatDoor
open Go.RowKit

set_option maxHeartbeats 4000000 in
set_option maxRecDepth 100000 in
theorem change_give (b : Nat) (S : SD) (s : ByteArray) (w : World) (hs : StR w b S) (hE : Env w) (hl : lineB s.data.toList = true) (hw : (cutC 32 s.data.toList).1 = wGive) :
    Calls Tryz.prog 29 #[.pointer (some ⟨b, 0, none⟩), .string s] w (ChgAns S s.data.toList w) := by
  have HS := hid hs
  have HE := hid hE
  have HL := hid hl
  have HW := hid hw
  have hsz : s.size ≤ 100 := lineB_size hl
  have HA : Hid (∀ c ∈ s.data.toList, c.toNat < 128) := lineB_asc hl
  have HC : Hid (S.chg s.data.toList = S.run (formB s.data.toList [110, 100, 100] [] false 0 0) fun a n => S.give (a.getD 0 []) (n.getD 0 0) (n.getD 1 0)) := by
    show _ = _
    unfold SD.chg
    rw [HL.out, HW.out]
    rfl
  clear hs hE hl hw
  go_enter Tryz.func29, Tryz.ntmps29
  go_wp2_with (fail)
  refine (isLine_any s w HE.out).mono ?_
  rw [HL.out]
  rintro e w1 ⟨rfl, he⟩
  have E1 := hid he
  clear he
  go_wp2_with (fail)
  refine (clone_any b S w1 (HS.out.ext E1.out)).mono ?_
  rintro e w2 ⟨b', rfl, ho⟩
  have HO := hid ho
  have E2 : Hid (Ext w1 w2) := by obtain ⟨-, _, _, _, _, _, _, _, p⟩ := ho; exact p.ext
  clear ho
  go_wp2_with (fail)
  refine (StrCut_any 32 s w2 (by omega) ((HE.out.ext E1.out).ext E2.out)).mono ?_
  rw [HW.out]
  rintro e w3 ⟨rfl, he⟩
  have E3 := hid he
  clear he
  generalize (cutC 32 s.data.toList).2.1 = c1
  generalize (cutC 32 s.data.toList).2.2 = c2
  unfold strV
  obtain ⟨sw, hsw0⟩ : ∃ sw, sw = strB wGive := ⟨_, rfl⟩
  rw [← hsw0]
  have hsw : sw.toList = wGive := by rw [hsw0, ByteArray.toList_eq]; rfl
  have e0 : (sw.toList == [100, 97, 121]) = false := by rw [hsw]; rfl
  have e1 : (sw.toList == [112, 97, 110, 116, 114, 121]) = false := by rw [hsw]; rfl
  have e2 : (sw.toList == [119, 111, 114, 116, 104]) = false := by rw [hsw]; rfl
  have e3 : (sw.toList == [103, 105, 118, 101]) = true := by rw [hsw]; rfl
  clear hsw hsw0
  have HE4 : Hid (Env (w3.alloc (.cells #[.slice none 0 0, .slice none 0 0] 90))) := (((HE.out.ext E1.out).ext E2.out).ext E3.out).ext (Ext.ofAlloc _ _)
  have E4 : Hid (Ext w3 (w3.alloc (.cells #[.slice none 0 0, .slice none 0 0] 90))) := Ext.ofAlloc _ _
  have B4 : Hid (Box2 (w3.alloc (.cells #[.slice none 0 0, .slice none 0 0] 90)) w3.heap.size 90 (.slice none 0 0) (.slice none 0 0)) := heap_alloc_new w3 _
  go_wp2_with (fail)
  generalize w3.alloc (.cells #[.slice none 0 0, .slice none 0 0] 90) = W4 at HE4 E4 B4 ⊢
  refine (form_flat s ⟨#[110, 100, 100]⟩ 0 0 [110, 100, 100] W4 (HE4.out) (by omega) HA.out (by decide) (by decide)).mono ?_
  rintro e w5 ⟨⟨vw, vn, bb, rfl, hb⟩, he⟩
  have E5 := hid he
  have B5 := hid (B4.out.ext he)
  clear he
  obtain ⟨c0, c1'⟩ := B5.out.cells
  have f0 := B5.out.free 0
  have f1 := B5.out.free 1
  have HX : Hid (Ext w w3) := (E1.out.trans E2.out).trans E3.out
  rcases hb with ⟨rfl, hr⟩ | ⟨rfl, ws, ns, hr, hlw, hln, hw2, hn2⟩
  · obtain ⟨hr, rfl, rfl⟩ := hr
    have HRR : Hid (S.chg s.data.toList = (3, [], S)) := by
      show _ = _
      rw [HC.out, hr]; rfl
    clear hr
    go_wp2
    go_ret3
    refine ⟨b, ?_, ?_, ?_⟩
    · rw [HRR.out]; rfl
    · rw [HRR.out]
      exact HS.out.ext (HX.out.trans (ext_cells (E4.out.trans E5.out)))
    · exact HX.out.trans (ext_cells (E4.out.trans E5.out))
  · obtain ⟨aw, cw, rfl⟩ := OwnN.shape hlw
    obtain ⟨an, cn, rfl⟩ := OwnN.shape hln
    have hsp : formW [110, 100, 100] ((splitSp s.data.toList).drop 1) = some (ws, ns) := by
      have := hr
      unfold formB at this
      simpa using this
    obtain ⟨g1, g2, g3, g4⟩ := formW_spec hsp
    clear hsp
    have HRR : Hid (S.chg s.data.toList = S.run (some (ws, ns)) fun a n => S.give (a.getD 0 []) (n.getD 0 0) (n.getD 1 0)) := by
      show _ = _
      rw [HC.out, hr]
    have G1 := hid g1
    have G2 := hid g2
    clear g1 g2
    have M6 : Hid (Moved (fun j => j = w3.heap.size) w5 ((w5.setCell ⟨w3.heap.size, 0, none⟩ (.slice aw ws.length cw)).setCell ⟨w3.heap.size, 1, none⟩ (.slice an ns.length cn))) := ((Moved.refl (fun j => j = w3.heap.size) w5).set (.inl rfl) 0 _).set (.inl rfl) 1 _
    have B6 : Hid (Box2 ((w5.setCell ⟨w3.heap.size, 0, none⟩ (.slice aw ws.length cw)).setCell ⟨w3.heap.size, 1, none⟩ (.slice an ns.length cn)) w3.heap.size 90 (.slice aw ws.length cw) (.slice an ns.length cn)) := (B5.out.set0 _).set1 _
    have HLW := hid hlw
    have HLN := hid hln
    clear hlw hln hr
    go_wp2_with (fail)
    generalize (w5.setCell ⟨w3.heap.size, 0, none⟩ (.slice aw ws.length cw)).setCell ⟨w3.heap.size, 1, none⟩ (.slice an ns.length cn) = W6 at M6 B6 ⊢
    have LW6 : Hid (LWords W6 (.slice aw ws.length cw) ws) := OwnN.moved HLW.out M6.out (fun j hj e => by subst e; exact OwnN.notBox HLW.out B5.out (by decide) hj)
    have LN6 : Hid (LNums W6 (.slice an ns.length cn) ns) := OwnN.moved HLN.out M6.out (fun j hj e => by subst e; exact OwnN.notBox HLN.out B5.out (by decide) hj)
    have HO6 : Hid (StO w1 W6 b' S) := HO.out.grow (E3.out.trans (ext_moved (E4.out.trans E5.out) M6.out (fun j e => by omega)))
    clear c0 c1' f0 f1
    have g1 := G1.out
    have g2 := G2.out
    obtain ⟨a, rfl⟩ : ∃ a, ws = [a] := List.length_eq_one_iff.1 g1
    obtain ⟨n, d, rfl⟩ : ∃ n d, ns = [n, d] := two_of_len g2
    refine (give_any w1 b' S _ _ a n d W6 HO6.out LW6.out LN6.out (g3 a (by simp)) (g4 n (by simp)).1 (g4 n (by simp)).2 (g4 d (by simp)).1 (g4 d (by simp)).2 (HE.out.ext E1.out)).mono ?_
    rintro e w7 ⟨rfl, hst, hx⟩
    have HST := hid hst
    have HX7 := hid (E1.out.trans hx)
    clear hst hx
    have HRES : Hid (S.chg s.data.toList = S.give a n d) := HRR.out
    obtain ⟨rs, hrs⟩ : ∃ rs, rs = S.give a n d := ⟨_, rfl⟩
    rw [← hrs] at HST HRES ⊢
    have HERR : Hid (rs.1 ≠ 0 → rs.2.1 = [] ∧ rs.2.2 = S) := by rw [hrs]; exact give_err _ _ _ _
    clear hrs
    by_cases hz : rs.1 = 0
    · have hz2 : (rs.1 != 0) = false := by simp [hz]
      have HZ := hid hz
      clear hz
      go_wp2
      go_ret3
      exact ⟨b', by rw [HRES.out, HZ.out]; rfl, by rw [HRES.out]; exact HST.out, HX7.out⟩
    · have hz2 : (rs.1 != 0) = true := by simp [hz]
      obtain ⟨h1, h2⟩ := HERR.out hz
      have H1 := hid h1
      have H2 := hid h2
      clear hz h1 h2
      go_wp2
      go_ret3
      exact ⟨b, by rw [HRES.out, H1.out]; rfl, by rw [HRES.out, H2.out]; exact HS.out.ext HX7.out, HX7.out⟩

end Go.Proofs.YteiamhapplnlaabGreatDoor
