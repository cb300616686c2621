/-
  Contract of form.
-/
import Derived.Test.YteiamhapplnlaabGreatDoorBsForm
import Derived.Test.YteiamhapplnlaabGreatDoorBsIter
import Derived.Laws.ResultCell
namespace Go.Proofs.YteiamhapplnlaabGreatDoor
open Go.RowKit

theorem tail_strs {w : World} {g : Nat} {cap : Nat} {xs : List Bs} (h : StrsR w (.slice (some ⟨g, 0, none⟩) xs.length cap) xs) (h1 : 1 ≤ xs.length) : StrsR w (.slice (some ⟨g, 1, none⟩) (xs.length - 1) (cap - 1)) (xs.drop 1) := by
  obtain ⟨hl, ao, cap', e, hcap, hc⟩ := h
  simp only [Value.slice.injEq] at e
  obtain ⟨rfl, -, rfl⟩ := e
  refine ⟨by rw [List.length_drop]; omega, _, _, by rw [List.length_drop], by rw [List.length_drop]; omega, fun i hi => ⟨g, 1, rfl, ?_⟩⟩
  rw [List.length_drop] at hi
  obtain ⟨b, off, e, hcell⟩ := hc (1 + i) (by omega)
  cases e
  rw [Nat.zero_add] at hcell
  rw [hcell, List.getElem_drop]

/-- All but the first word. -/
theorem tail_run {w : World} {g cap : Nat} {xs : List Bs} (h : StrsR w (.slice (some ⟨g, 0, none⟩) xs.length cap) xs) (h1 : 1 ≤ xs.length) :
    ∃ off c, (Instr.sliceAt 45 (.slice (some ⟨g, 0, none⟩) xs.length cap) (some (.int .i64 1)) none none).run Tryz.prog w = .ok (.slice (some ⟨g, off, none⟩) (xs.length - 1) c) w ∧ StrsR w (.slice (some ⟨g, off, none⟩) (xs.length - 1) c) (xs.drop 1) := by
  have he : Tryz.prog.elem 45 = 9 := by kernel_rfl
  have hu : Tryz.prog.underlying 45 = some (.slice (Tryz.prog.elem 45)) := by rw [he]; exact Tryz.underlying45
  have hz : (sizeOf (Tryz.prog.elem 45)).run Tryz.prog w = .ok 1 w := by rw [he]; exact Tryz.sizeOf9 w
  have hr : (Instr.sliceAt 45 (.slice (some ⟨g, 0, none⟩) xs.length cap) (some (.int .i64 1)) none none).run Tryz.prog w = .ok (sliced (some ⟨g, 0, none⟩) 1 xs.length cap 1) w := by
    rw [run_sliceAt_slice _ _ _ _ _ _ hu, run_slice_l _ _ _ _ _ hu .i64 1 (by omega) (by omega), hz]; rfl
  have ht := tail_strs h h1
  have hc : xs.length ≤ cap := by obtain ⟨-, _, _, e, hc, -⟩ := h; cases e; exact hc
  by_cases hcap : cap = 1
  · refine ⟨0, cap - 1, by rw [hr]; unfold sliced; rw [if_pos hcap], ?_⟩
    have h0 : xs.length = 1 := by omega
    have e : xs.drop 1 = [] := List.drop_of_length_le (by omega)
    rw [e, h0]
    exact StrsR.nil _ _ _
  · exact ⟨1, cap - 1, by rw [hr]; unfold sliced; rw [if_neg hcap]; rfl, ht⟩

theorem StrsR.moved {F : Nat → Prop} {w w' : World} {g o n c : Nat} {xs : List Bs} (h : StrsR w (.slice (some ⟨g, o, none⟩) n c) xs) (m : Moved F w w') (hf : ¬ F g) : StrsR w' (.slice (some ⟨g, o, none⟩) n c) xs := by
  obtain ⟨hl, ao, cap, e, hcap, hc⟩ := h
  refine ⟨hl, ao, cap, e, hcap, fun i hi => ?_⟩
  obtain ⟨b, off, ha, hcell⟩ := hc i hi
  refine ⟨b, off, ha, m.cell ?_ hcell⟩
  simp only [Value.slice.injEq] at e
  obtain ⟨rfl, -, -⟩ := e
  cases ha
  exact hf
theorem ext_set2 {w w1 w2 : World} (h : Ext w w1) (m : Moved (fun k => k = w.heap.size) w1 w2) : Ext w w2 :=
  ⟨m.os.trans h.os, m.tape.trans h.tape, m.output.trans h.output, Nat.le_trans h.size m.size, fun j hj => (m.block j (Nat.lt_of_lt_of_le hj h.size) (fun e => by omega)).trans (h.block j hj)⟩
theorem results_line {fn : Func} {p u : Tmp} (h : fn.results = #[.cell p 90, .tmp u]) (tmps : Array Value) (w : World) (b : Nat) (v0 v1 : Value) (hp : tmps.getD p undef = .pointer (some ⟨b, 0, none⟩)) (hb : Box2 w b 90 v0 v1) :
    (results fn tmps).run Tryz.prog w = .ok (.tuple #[.agg #[v0, v1], tmps.getD u undef]) w := by
  rw [results_cell_tmp h, hp]
  have hl := run_loadVar_row (P := Tryz.prog) w b 90 90 #[v0, v1] (0, 0) _ hb Tryz.underlying90 (by kernel_rfl) (by kernel_rfl)
  simp [asAddr, hl, Result.andThen]

set_option maxHeartbeats 2000000 in
theorem form_flat (s so : ByteArray) (least most : Int) (hd : Bs) (w : World) (hE : Env w) (hs : s.size ≤ 100) (ha : ∀ c ∈ s.data.toList, c.toNat < 128) (hso : so.size ≤ 100) (hcut : cutC 43 so.data.toList = (hd, [], false)) :
    Calls Tryz.prog 42 #[.string s, .string so, .int .i64 least, .int .i64 most] w fun e w' => FormAns (formB s.data.toList hd [] false least most) w' e ∧ Ext w w' := by
  have HE := hid hE
  have HA := hid ha
  have HC := hid hcut
  have hsz : s.data.toList.length = s.size := Array.length_toList
  have HSZ := hid hsz
  obtain ⟨ws, hws⟩ : ∃ ws, ws = splitSp s.data.toList := ⟨_, rfl⟩
  have h1 : 1 ≤ ws.length := by rw [hws]; exact List.length_pos_iff.2 (splitC_ne _ _)
  have h101 : ws.length ≤ 101 := by rw [hws]; have := splitC_len 32 s.data.toList; show (splitC 32 _).length ≤ _; omega
  have HWS := hid hws
  clear hE ha hcut hws hsz
  have HW0 : Hid (Ext w ((w.alloc (.cells #[.slice none 0 0, .slice none 0 0] 90)).alloc (.cells #[.slice none 0 0, .slice none 0 0] 90))) := (Ext.ofAlloc w _).alloc _
  have B1 : Hid (Box2 ((w.alloc (.cells #[.slice none 0 0, .slice none 0 0] 90)).alloc (.cells #[.slice none 0 0, .slice none 0 0] 90)) (w.heap.size + 1) 90 (.slice none 0 0) (.slice none 0 0)) := by
    have := heap_alloc_new (w.alloc (.cells #[.slice none 0 0, .slice none 0 0] 90)) (.cells #[.slice none 0 0, .slice none 0 0] 90)
    rw [World.size_alloc] at this
    exact this
  have B0 : Hid (Box2 ((w.alloc (.cells #[.slice none 0 0, .slice none 0 0] 90)).alloc (.cells #[.slice none 0 0, .slice none 0 0] 90)) w.heap.size 90 (.slice none 0 0) (.slice none 0 0)) :=
    Box2.ext (heap_alloc_new w (.cells #[.slice none 0 0, .slice none 0 0] 90)) (Ext.ofAlloc _ _)
  have HS1 : Hid (((w.alloc (.cells #[.slice none 0 0, .slice none 0 0] 90)).alloc (.cells #[.slice none 0 0, .slice none 0 0] 90)).heap.size = w.heap.size + 2) := by show _ = _; simp
  go_enter Tryz.func42, Tryz.ntmps42
  go_wp2_with (fail)
  generalize (w.alloc (.cells #[.slice none 0 0, .slice none 0 0] 90)).alloc (.cells #[.slice none 0 0, .slice none 0 0] 90) = W at *
  refine (Split_any 32 s W (by omega) (HE.out.ext HW0.out)).mono ?_
  rintro e w1 ⟨cap, rfl, hr, he⟩
  have hr2 : StrsR w1 (.slice (some ⟨W.heap.size, 0, none⟩) ws.length cap) ws := by rw [HWS.out]; exact hr
  obtain ⟨ox, cp, hsl, hst⟩ := tail_run hr2 h1
  have HR := hid hst
  have HX := hid (HW0.out.trans he)
  replace B0 := hid (B0.out.ext he)
  replace B1 := hid (B1.out.ext he)
  have hlen : (splitC 32 s.data.toList).length = ws.length := by rw [HWS.out]
  rw [hlen]
  clear hr hr2 he hlen hst
  have hl2 : (ws.drop 1).length = ws.length - 1 := List.length_drop
  have HL2 := hid hl2
  clear hl2
  go_wp2_with (fail)
  refine (StrCut_any 43 so _ (by omega) (HE.out.ext HX.out)).mono ?_
  rw [HC.out]
  rintro e w2 ⟨rfl, he⟩
  replace HR := hid (HR.out.ext he)
  replace HX := hid (HX.out.trans he)
  replace B0 := hid (B0.out.ext he)
  replace B1 := hid (B1.out.ext he)
  clear he hsl
  have hN1 : Hid (w.heap.size + 2 ≤ w2.heap.size) := B1.out.lt
  simp only []
  obtain ⟨m, hm⟩ : ∃ m, m = ws.length - 1 := ⟨_, rfl⟩
  rw [← hm] at HR ⊢
  have HM := hid hm
  have hm1 : m ≤ 100 := by omega
  clear hm
  have HFB : Hid (formB s.data.toList hd [] false least most = formW hd (ws.drop 1)) := by
    show _ = _
    unfold formB
    rw [← HWS.out]; simp
  have hml : (ws.drop 1).length = m := by rw [HL2.out, HM.out]
  have HML := hid hml
  obtain ⟨xs, hxs⟩ : ∃ xs, xs = ws.drop 1 := ⟨_, rfl⟩
  rw [← hxs] at HR HFB HML
  have hxm : ∀ x ∈ xs, (∀ b ∈ x, b.toNat < 128) ∧ x.length ≤ 100 := by
    intro x hx
    rw [hxs, HWS.out] at hx
    obtain ⟨g1, g2⟩ := splitC_mem 32 _ x (List.mem_of_mem_drop hx)
    exact ⟨fun b hb => HA.out b (g1 b hb), by have := HSZ.out; omega⟩
  have HXM := hid hxm
  clear hxm hxs hml
  obtain ⟨sh, hh⟩ : ∃ sh, sh = strB hd := ⟨_, rfl⟩
  unfold strV
  rw [← hh]
  have hhl : sh.data.toList = hd := by rw [hh]; rfl
  have HH := hid hhl
  clear hh hhl
  by_cases hlen : m = sh.size
  · have hlen1 : ((m : Int) == (sh.size : Int)) = true := by simp [hlen]
    have hlen2 : ((m : Int) != (sh.size : Int)) = false := by simp [hlen]
    have HLEN := hid hlen
    clear hlen
    go_wp2
    go_loopg [57] m (fun g i wr => ∃ (k : Nat) (A : List Bs) (N : List Int) (vw vn : Value), k + g = m ∧ i = .int .i64 k ∧ Hid (FormAt hd xs k A N) ∧ Hid (A.length ≤ k) ∧ Hid (N.length ≤ k) ∧ Hid (Moved (fun j => j = w.heap.size + 1) w2 wr)
      ∧ Hid (Box2 wr (w.heap.size + 1) 90 vw vn) ∧ Hid (OwnN w2.heap.size 9 1 wr vw A.length (A.map strV)) ∧ Hid (OwnN w2.heap.size 3 1 wr vn N.length (N.map (Value.int .i64))))
    case atStart => exact ⟨0, [], [], .slice none 0 0, .slice none 0 0, by omega, rfl, FormAt.start _ _, Nat.le_refl 0, Nat.le_refl 0, Moved.refl _ _, B1, OwnN.empty _ _ _ _, OwnN.empty _ _ _ _⟩
    case round =>
      obtain ⟨k, A, N, vw, vn, hk, rfl, HF, LA, LN, MV, B1r, OA, ON⟩ := hrel
      have HXr : Hid (Ext w wr) := ext_moved HX.out MV.out (fun j e => by omega)
      have B0r := hid (B0.out.moved MV.out (by omega))
      have HRr := hid (HR.out.moved MV.out (by have := HS1.out; omega))
      have hNr : Hid (w2.heap.size ≤ wr.heap.size) := MV.out.size
      have hkl : k ≤ m := by omega
      have Hk := hid hk
      clear hk
      obtain ⟨aw, cw, rfl⟩ := OA.out.shape
      obtain ⟨an, cn, rfl⟩ := ON.out.shape
      by_cases hlt : k < m
      · have hkx : k < xs.length := by rw [HML.out]; exact hlt
        have hcell : wr.cell? ⟨W.heap.size, ox + k, none⟩ = some (strV xs[k]) := by
          obtain ⟨-, ao', cap', e, hcp, hcc⟩ := HRr.out
          simp only [Value.slice.injEq] at e
          obtain ⟨rfl, -, rfl⟩ := e
          obtain ⟨b', off', e2, hc⟩ := hcc k hkx
          cases e2
          exact hc
        obtain ⟨sx, hsx⟩ : ∃ sx, sx = strB xs[k] := ⟨_, rfl⟩
        unfold strV at hcell
        rw [← hsx] at hcell
        have hk2 : k < sh.size := by rw [← HLEN.out]; exact hlt
        have hkd : k < hd.length := by rw [← HH.out, Array.length_toList]; exact hk2
        have HSX := hid hsx
        have hsxl : sx.data.toList = xs[k] := by rw [HSX.out]; rfl
        have HSL := hid hsxl
        have hch : hd[k] = sh[k] := by simp only [← HH.out]; rfl
        have HCH := hid hch
        have hxm2 := HXM.out xs[k] (List.getElem_mem hkx)
        have HX2 := hid hxm2
        clear hsx hsxl hch hxm2
        by_cases hn : sh[k] = 110
        · have hn2 : ((sh[k].toNat : Int) == 110) = true := by rw [hn]; rfl
          have HNm := hid hn
          clear hn
          go_wp2_with (fail)
          refine (isName_str sx wr (fun j h => by have := HX2.out.1 sx[j] (by rw [← HSL.out, ← asc_get h]; exact List.getElem_mem _); exact this)).mono ?_
          cases hb : nameB sx.data.toList with
          | false =>
            rintro e w3 ⟨rfl, he⟩
            have HNO : Hid (formB s.data.toList hd [] false least most = none) := by
              show _ = _
              rw [HFB.out]
              exact HF.out.bad hkd hkx (by rw [HCH.out, HNm.out]) (by rw [← HSL.out]; exact hb)
            have HX3 := hid (HXr.out.trans he)
            have B0s := hid (B0r.out.ext he)
            clear he hb hcell
            obtain ⟨c0, c1⟩ := B0s.out.cells
            have f0 := B0s.out.free 0
            have f1 := B0s.out.free 1
            go_wp2
            have M : Moved (fun k => k = w.heap.size) w3 ((w3.setCell ⟨w.heap.size, 0, none⟩ (.slice none 0 0)).setCell ⟨w.heap.size, 1, none⟩ (.slice none 0 0)) := ((Moved.refl (fun k => k = w.heap.size) w3).set (.inl rfl) 0 _).set (.inl rfl) 1 _
            refine bodyPost_ret (results_line rfl _ _ w.heap.size _ _ rfl ((B0s.out.set0 _).set1 _)) rfl ?_
            exact ⟨⟨_, _, false, rfl, .inl ⟨rfl, HNO.out, rfl, rfl⟩⟩, ext_set2 HX3.out M⟩
          | true =>
            rintro e w3 ⟨rfl, he⟩
            have HF' := hid (HF.out.name hkd hkx (by rw [HCH.out, HNm.out]) (by rw [← HSL.out]; exact hb))
            have HX3 := hid (HXr.out.trans he)
            have B0s := hid (B0r.out.ext he)
            have B1s := hid (B1r.out.ext he)
            have OA3 := hid (OA.out.ext he)
            have ON3 := hid (ON.out.ext he)
            have hN3 : w2.heap.size ≤ w3.heap.size := Nat.le_trans hNr.out he.size
            have MV3 := hid (MV.out.thenExt he)
            have hAl : A.length ≤ 1000000 := by have := LA.out; omega
            clear he hb hcell
            obtain ⟨c0, c1⟩ := B1s.out.cells
            go_wp2_with (first
              | (at_builtin; refine wpl_push rfl _ _ 45 9 1 16 _ et_str rfl w2.heap.size A.length (.slice aw A.length cw) (A.map strV) [.string sx] w3 rfl OA3.out.1 rfl rfl rfl (fun u hu => by simp at hu; subst hu; rfl) hAl hN3 ?_
                 intro v4 w4 hO4 hM4 hL4 hS4
                 obtain ⟨a4, c4, rfl⟩ := hO4.shape
                 have B1t := hid (B1s.out.moved hM4 (fun e => OA3.out.notBox B1s.out (by decide) e))
                 have M4 := hid hM4
                 have O4 := hid hO4
                 have f0 := B1t.out.free 0
                 have c4' := B1t.out.cells.1
                 clear c0 c1 hM4 hO4 hL4)
              | go_in)
            have M5 : Hid (Moved (fun j => (Value.slice aw A.length cw).ownBlock = some j ∨ j = w.heap.size + 1) w3 (w4.setCell ⟨w.heap.size + 1, 0, none⟩ (.slice a4 (A.length + 1) c4))) :=
              (M4.out.weaken (fun _ h => .inl h)).set (.inl (.inr rfl)) 0 _
            have B15 : Hid (Box2 (w4.setCell ⟨w.heap.size + 1, 0, none⟩ (.slice a4 (A.length + 1) c4)) (w.heap.size + 1) 90 (.slice a4 (A.length + 1) c4) (.slice an N.length cn)) := B1t.out.set0 _
            have O5 : Hid (OwnN w2.heap.size 9 1 (w4.setCell ⟨w.heap.size + 1, 0, none⟩ (.slice a4 (A.length + 1) c4)) (.slice a4 (A.length + 1) c4) (A.length + 1) (A.map strV ++ [.string sx])) :=
              O4.out.moved ((Moved.refl (fun j => j = w.heap.size + 1) w4).set (.inl rfl) 0 _) (fun j hj e => by subst e; exact O4.out.notBox B1t.out (by decide) hj)
            have N5 : Hid (OwnN w2.heap.size 3 1 (w4.setCell ⟨w.heap.size + 1, 0, none⟩ (.slice a4 (A.length + 1) c4)) (.slice an N.length cn) N.length (N.map (Value.int .i64))) :=
              ON3.out.moved M5.out (fun j hj e => by
                rcases e with e | e
                · exact OA3.out.apart ON3.out (by decide) e hj
                · subst e; exact ON3.out.notBox B1s.out (by decide) hj)
            have MV5 : Hid (Moved (fun j => j = w.heap.size + 1) w2 (w4.setCell ⟨w.heap.size + 1, 0, none⟩ (.slice a4 (A.length + 1) c4))) :=
              MV3.out.trans M5.out (fun j hj e => by
                rcases e with e | e
                · have := (OA3.out.1.lt j e).1; omega
                · exact e)
            generalize w4.setCell ⟨w.heap.size + 1, 0, none⟩ (.slice a4 (A.length + 1) c4) = w5 at *
            go_roundg (gk - 1)
            case rel =>
              refine ⟨k + 1, A ++ [xs[k]], N, _, _, by have := Hk.out; omega, by go_num, HF', ?_, ?_, MV5, B15, ?_, N5⟩
              · show (A ++ [xs[k]]).length ≤ k + 1
                have := LA.out; simp; omega
              · show N.length ≤ k + 1
                have := LN.out; omega
              · show OwnN _ _ _ _ _ (A ++ [xs[k]]).length ((A ++ [xs[k]]).map strV)
                rw [List.length_append, List.map_append]
                have e : strV xs[k] = .string sx := by rw [HSX.out]
                simp only [List.map_cons, List.map_nil, e]
                exact O5.out
            case measure => have := Hk.out; omega
        · have hn2 : ((sh[k].toNat : Int) == 110) = false := by
            have : sh[k].toNat ≠ 110 := fun e => hn (UInt8.toNat_inj.1 e)
            simp; omega
          have HNm := hid hn
          clear hn
          go_wp2_with (fail)
          refine (number_str sx wr (HE.out.ext HXr.out) (by have := HX2.out.2; rw [← HSL.out, Array.length_toList] at this; show sx.data.size ≤ 1000; omega)).mono ?_
          rintro e w3 ⟨⟨n, bb, rfl, hb⟩, he⟩
          rw [HSL.out] at hb
          rcases hb with ⟨rfl, hb⟩ | ⟨rfl, hb⟩
          · have HF' := hid (HF.out.num hkd hkx (by rw [HCH.out]; exact HNm.out) hb)
            have HX3 := hid (HXr.out.trans he)
            have B0s := hid (B0r.out.ext he)
            have B1s := hid (B1r.out.ext he)
            have OA3 := hid (OA.out.ext he)
            have ON3 := hid (ON.out.ext he)
            have hN3 : w2.heap.size ≤ w3.heap.size := Nat.le_trans hNr.out he.size
            have MV3 := hid (MV.out.thenExt he)
            have hAl : N.length ≤ 1000000 := by have := LN.out; omega
            clear he hb hcell
            obtain ⟨c0, c1⟩ := B1s.out.cells
            go_wp2_with (first
              | (at_builtin; refine wpl_push rfl _ _ 79 3 1 8 _ et_int rfl w2.heap.size N.length (.slice an N.length cn) (N.map (Value.int .i64)) [.int .i64 n] w3 rfl ON3.out.1 rfl rfl rfl (fun u hu => by simp at hu; subst hu; rfl) hAl hN3 ?_
                 intro v4 w4 hO4 hM4 hL4 hS4
                 obtain ⟨a4, c4, rfl⟩ := hO4.shape
                 have B1t := hid (B1s.out.moved hM4 (fun e => ON3.out.notBox B1s.out (by decide) e))
                 have M4 := hid hM4
                 have O4 := hid hO4
                 have f1 := B1t.out.free 1
                 have c4' := B1t.out.cells.2
                 clear c0 c1 hM4 hO4 hL4)
              | go_in)
            have M5 : Hid (Moved (fun j => (Value.slice an N.length cn).ownBlock = some j ∨ j = w.heap.size + 1) w3 (w4.setCell ⟨w.heap.size + 1, 1, none⟩ (.slice a4 (N.length + 1) c4))) :=
              (M4.out.weaken (fun _ h => .inl h)).set (.inl (.inr rfl)) 1 _
            have B15 : Hid (Box2 (w4.setCell ⟨w.heap.size + 1, 1, none⟩ (.slice a4 (N.length + 1) c4)) (w.heap.size + 1) 90 (.slice aw A.length cw) (.slice a4 (N.length + 1) c4)) := B1t.out.set1 _
            have O5 : Hid (OwnN w2.heap.size 3 1 (w4.setCell ⟨w.heap.size + 1, 1, none⟩ (.slice a4 (N.length + 1) c4)) (.slice a4 (N.length + 1) c4) (N.length + 1) (N.map (Value.int .i64) ++ [.int .i64 n])) :=
              O4.out.moved ((Moved.refl (fun j => j = w.heap.size + 1) w4).set (.inl rfl) 1 _) (fun j hj e => by subst e; exact O4.out.notBox B1t.out (by decide) hj)
            have N5 : Hid (OwnN w2.heap.size 9 1 (w4.setCell ⟨w.heap.size + 1, 1, none⟩ (.slice a4 (N.length + 1) c4)) (.slice aw A.length cw) A.length (A.map strV)) :=
              OA3.out.moved M5.out (fun j hj e => by
                rcases e with e | e
                · exact ON3.out.apart OA3.out (by decide) e hj
                · subst e; exact OA3.out.notBox B1s.out (by decide) hj)
            have MV5 : Hid (Moved (fun j => j = w.heap.size + 1) w2 (w4.setCell ⟨w.heap.size + 1, 1, none⟩ (.slice a4 (N.length + 1) c4))) :=
              MV3.out.trans M5.out (fun j hj e => by
                rcases e with e | e
                · have := (ON3.out.1.lt j e).1; omega
                · exact e)
            generalize w4.setCell ⟨w.heap.size + 1, 1, none⟩ (.slice a4 (N.length + 1) c4) = w5 at *
            go_roundg (gk - 1)
            case rel =>
              refine ⟨k + 1, A, N ++ [n], _, _, by have := Hk.out; omega, by go_num, HF', ?_, ?_, MV5, B15, N5, ?_⟩
              · show A.length ≤ k + 1
                have := LA.out; omega
              · show (N ++ [n]).length ≤ k + 1
                have := LN.out; simp; omega
              · show OwnN _ _ _ _ _ (N ++ [n]).length ((N ++ [n]).map (Value.int .i64))
                rw [List.length_append, List.map_append]
                exact O5.out
            case measure => have := Hk.out; omega
          · have HNO : Hid (formB s.data.toList hd [] false least most = none) := by
              show _ = _
              rw [HFB.out]
              exact HF.out.none hkd hkx (by rw [HCH.out]; exact HNm.out) hb
            have HX3 := hid (HXr.out.trans he)
            have B0s := hid (B0r.out.ext he)
            clear he hb hcell
            obtain ⟨c0, c1⟩ := B0s.out.cells
            have f0 := B0s.out.free 0
            have f1 := B0s.out.free 1
            go_wp2
            have M : Moved (fun k => k = w.heap.size) w3 ((w3.setCell ⟨w.heap.size, 0, none⟩ (.slice none 0 0)).setCell ⟨w.heap.size, 1, none⟩ (.slice none 0 0)) := ((Moved.refl (fun k => k = w.heap.size) w3).set (.inl rfl) 0 _).set (.inl rfl) 1 _
            refine bodyPost_ret (results_line rfl _ _ w.heap.size _ _ rfl ((B0s.out.set0 _).set1 _)) rfl ?_
            exact ⟨⟨_, _, false, rfl, .inl ⟨rfl, HNO.out, rfl, rfl⟩⟩, ext_set2 HX3.out M⟩
      · obtain ⟨c0, c1⟩ := B1r.out.cells
        obtain ⟨e0, e1⟩ := B0r.out.cells
        have f0 := B0r.out.free 0
        have f1 := B0r.out.free 1
        have HFE := hid (HF.out.end (by rw [← HH.out, Array.length_toList]; show sh.size ≤ k; rw [← HLEN.out]; omega) (by rw [HML.out]; omega))
        go_wp2
        have M : Moved (fun k => k = w.heap.size) wr ((wr.setCell ⟨w.heap.size, 0, none⟩ (.slice aw A.length cw)).setCell ⟨w.heap.size, 1, none⟩ (.slice an N.length cn)) := ((Moved.refl (fun k => k = w.heap.size) wr).set (.inl rfl) 0 _).set (.inl rfl) 1 _
        refine bodyPost_ret (results_line rfl _ _ w.heap.size _ _ rfl ((B0r.out.set0 _).set1 _)) rfl ?_
        refine ⟨⟨_, _, true, rfl, .inr ⟨rfl, A, N, by rw [HFB.out]; exact HFE.out, ?_, ?_, by have := LA.out; omega, by have := LN.out; omega⟩⟩, ext_set2 HXr.out M⟩
        · exact (OA.out.moved M (fun k hk e => (OA.out.notBox B0r.out (by decide)) (by rw [← e]; exact hk))).base (Nat.zero_le _)
        · exact (ON.out.moved M (fun k hk e => (ON.out.notBox B0r.out (by decide)) (by rw [← e]; exact hk))).base (Nat.zero_le _)
  · have hlen2 : ((m : Int) != (sh.size : Int)) = true := by simp [bne]; omega
    have HB2 : Hid (formB s.data.toList hd [] false least most = none) := by
      show _ = _
      rw [HFB.out]
      refine formW_len _ _ ?_
      rw [HML.out, ← HH.out, Array.length_toList]
      exact fun e => hlen e.symm
    obtain ⟨c0, c1⟩ := B0.out.cells
    have f0 := B0.out.free 0
    have f1 := B0.out.free 1
    go_wp2
    have M : Moved (fun k => k = w.heap.size) w2 ((w2.setCell ⟨w.heap.size, 0, none⟩ (.slice none 0 0)).setCell ⟨w.heap.size, 1, none⟩ (.slice none 0 0)) := ((Moved.refl (fun k => k = w.heap.size) w2).set (.inl rfl) 0 _).set (.inl rfl) 1 _
    refine bodyPost_ret (results_line rfl _ _ w.heap.size _ _ rfl ((B0.out.set0 (.slice none 0 0)).set1 (.slice none 0 0))) rfl ?_
    refine ⟨⟨_, _, false, rfl, .inl ⟨rfl, HB2.out, rfl, rfl⟩⟩, ?_⟩
    exact ext_set2 HX.out M

end Go.Proofs.YteiamhapplnlaabGreatDoor
