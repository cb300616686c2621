/-
  Contract of CheckWay.
-/
import Derived.Test.YtkbkgkmogbkabaaRtShownPlain
namespace Go.Proofs.Ytkbkgkmogbkabaa
open Go.RowKit

theorem CheckWay_bad (vr vw vp : Value) (m : MapD) (way pot : List Int) (w : World) (hm : MapR w vr m) (hw : Ints w vw way) (hp : Ints w vp pot) (hb : mapOk m = false) :
    Calls Try.prog 25 #[.agg #[.int .i64 m.n, vr], vw, vp] w fun e w' => e = .returned (.tuple #[.bool false, .int .i64 2]) ∧ Ext w w' := by
  obtain ⟨ao, cap, rfl⟩ := hm.shape
  have HM := hid hm
  obtain ⟨-, aw, cw, rfl, -⟩ := hw
  obtain ⟨-, ap, cp, rfl, -⟩ := hp
  have HB := hid hb
  clear hm hb
  go_enter Try.func25, Try.ntmps25
  go_wp2_with (fail)
  refine (valid_any _ m _ (MapR.ext HM.out (Ext.ofAlloc _ _))).mono ?_
  rw [HB.out]
  rintro e w1 ⟨rfl, he⟩
  have HE := hid ((Ext.ofAlloc w _).trans he)
  clear he
  go_wp2
  go_ret2
  exact ⟨rfl, HE.out⟩

theorem foldl_min_le : ∀ (l : List Int) (a : Int), l.foldl min a ≤ a ∧ ∀ x ∈ l, l.foldl min a ≤ x
  | [], a => ⟨Int.le_refl _, fun x h => by simp at h⟩
  | y :: l, a => by
    obtain ⟨h1, h2⟩ := foldl_min_le l (min a y)
    show l.foldl min (min a y) ≤ a ∧ ∀ x ∈ y :: l, l.foldl min (min a y) ≤ x
    refine ⟨by omega, fun x hx => ?_⟩
    rcases List.mem_cons.1 hx with rfl | hx
    · omega
    · exact h2 x hx
theorem foldl_min_in : ∀ (l : List Int) (a : Int), l.foldl min a = a ∨ l.foldl min a ∈ l
  | [], a => .inl rfl
  | y :: l, a => by
    show l.foldl min (min a y) = a ∨ l.foldl min (min a y) ∈ y :: l
    rcases foldl_min_in l (min a y) with h | h
    · rw [h]
      by_cases e : a ≤ y
      · left; omega
      · right; rw [Int.min_eq_right (by omega)]; exact List.mem_cons_self ..
    · exact .inr (List.mem_cons_of_mem _ h)
theorem minI_le {l : List Int} {x : Int} (hx : x ∈ l) : minI l ≤ x := by
  cases l with
  | nil => simp at hx
  | cons y l =>
    show l.foldl min y ≤ x
    obtain ⟨h1, h2⟩ := foldl_min_le l y
    rcases List.mem_cons.1 hx with rfl | hx
    · exact h1
    · exact h2 x hx
theorem minI_in {l : List Int} (h : 0 < l.length) : minI l ∈ l := by
  cases l with
  | nil => simp at h
  | cons y l =>
    show l.foldl min y ∈ y :: l
    rcases foldl_min_in l y with e | e
    · rw [e]; exact List.mem_cons_self ..
    · exact List.mem_cons_of_mem _ e
theorem intAt_mem {l : List Int} {i : Int} (h0 : 0 ≤ i) (h1 : i < l.length) : intAt l i ∈ l := by
  have : intAt l i = l[i.toNat]'(by omega) := by unfold intAt; rw [List.getD_eq_getElem?_getD, List.getElem?_eq_getElem (by omega)]; rfl
  rw [this]; exact List.getElem_mem _

set_option maxRecDepth 20000 in
set_option maxHeartbeats 16000000 in
theorem CheckWay_ok (vr vw vp : Value) (N : Nat) (rs : List RoadD) (way pot : List Int) (w : World) (hv : Roads w vr rs) (hw : Ints w vw way) (hp : Ints w vp pot) (hok : mapOk ⟨N, rs⟩ = true) (hwl : way.length ≤ 18) :
    Calls Try.prog 25 #[.agg #[.int .i64 N, vr], vw, vp] w fun e w' => e = .returned (.tuple #[.bool (shownB rs N way pot), .int .i64 0]) ∧ Ext w w' := by
  obtain ⟨ao, cap, rfl⟩ := hv.shape
  have HV := hid hv
  have HWI := hid hw
  have HPI := hid hp
  obtain ⟨-, aw, cw, rfl, hcw, -⟩ := hw
  obtain ⟨-, ap, cp, rfl, hcp, -⟩ := hp
  have HOk := hid hok
  have hok2 := hok
  unfold mapOk at hok2
  rw [Bool.and_eq_true, decide_eq_true_iff, List.all_eq_true] at hok2
  obtain ⟨⟨h1, h8, h16⟩, hall⟩ := hok2
  dsimp only at h1 h8 h16 hall
  have hN1 : 1 ≤ N := by omega
  have hN8 : N ≤ 8 := by omega
  have HAll := hid hall
  have X0 := hid (Box2.alloc w 31 (.int .i64 N) (.slice ao rs.length cap))
  clear hv hok hall
  go_enter Try.func25, Try.ntmps25
  go_wp2_with (fail)
  refine (valid_any _ ⟨N, rs⟩ _ (Roads.ext HV.out (Ext.ofAlloc _ _))).mono ?_
  rw [HOk.out]
  rintro e w1 ⟨rfl, he⟩
  have HE := hid ((Ext.ofAlloc w _).trans he)
  have HX := hid (X0.out.ext he)
  obtain ⟨c0, c1⟩ := HX.out.cells
  clear he X0
  by_cases hw0 : way.length < 1
  · have hw1 : (way.length : Int) < 1 := by omega
    have HR : Hid (shownB rs N way pot = false) := shown_cost (by unfold costR; rw [if_pos (List.eq_nil_of_length_eq_zero (by omega))]; omega)
    clear hw0
    go_wp2
    go_ret2
    exact ⟨by rw [HR.out]; rfl, HE.out⟩
  · have hw1 : ¬ (way.length : Int) < 1 := by omega
    have hwpos : 0 < way.length := by omega
    clear hw0
    by_cases hpn : pot.length = N
    · have hpb : ((pot.length : Int) != (N : Int)) = false := by rw [hpn]; simp
      have Hpn := hid hpn
      clear hpn
      go_wp2_with (fail)
      refine (Min_any _ pot _ (HPI.out.ext HE.out) (by have := Hpn.out; omega)).mono ?_
      rintro e w2 ⟨rfl, rfl⟩
      have HMI := hid (fun x (hx : x ∈ pot) => minI_le hx)
      have HMM := hid (minI_in (l := pot) (by have := Hpn.out; omega))
      generalize minI pot = mi at *
      by_cases hmi : mi < -1000
      · have HR : Hid (shownB rs N way pot = false) := shown_box HMM.out (.inl hmi)
        go_wp2
        go_ret2
        exact ⟨by rw [HR.out]; rfl, HE.out⟩
      · go_wp2_with (fail)
        refine (Max_any _ pot _ (HPI.out.ext HE.out) (by have := Hpn.out; omega)).mono ?_
        rintro e w2 ⟨rfl, rfl⟩
        have HMA := hid (fun x (hx : x ∈ pot) => maxI_ge hx)
        have HMX := hid (maxI_in (l := pot) (by have := Hpn.out; omega))
        generalize maxI pot = ma at *
        by_cases hma : 1000 < ma
        · have HR : Hid (shownB rs N way pot = false) := shown_box HMX.out (.inr hma)
          go_wp2
          go_ret2
          exact ⟨by rw [HR.out]; rfl, HE.out⟩
        · have HPB : Hid (∀ x ∈ pot, -1000 ≤ x ∧ x ≤ 1000) := fun x hx => by have a1 := HMI.out x hx; have a2 := HMA.out x hx; omega
          go_wp2_with (fail)
          refine (costs_any _ N rs _ (Roads.ext HV.out HE.out) hN1 hN8 h16 HAll.out).mono ?_
          rintro e W ⟨v, rfl, hm, he⟩
          obtain ⟨gb, kb, rfl, -⟩ := hm.head (by omega)
          have MAT := hid hm
          replace HE := hid (HE.out.trans he)
          replace HX := hid (HX.out.ext he)
          clear he hm c0 c1 HMI HMM HMA HMX hmi hma hpb
          go_wp2
          go_loopg [42, 9] way.length (fun g i v wr => ∃ (k : Nat) (s : Int), k + g = way.length ∧ i = .int .i64 k ∧ v = .int .i64 s ∧ 0 ≤ s ∧ s ≤ 1048576 * (k : Int) ∧ Hid (Mid rs N way k s) ∧ Hid (0 < k → 0 ≤ fn way (k - 1) ∧ fn way (k - 1) < N) ∧ Hid (Ext W wr))
          case atStart => exact ⟨0, 0, by omega, rfl, rfl, by omega, by omega, .inl ⟨rfl, by omega⟩, fun h => by omega, Ext.refl _⟩
          case round =>
            obtain ⟨k, s, hk, rfl, rfl, hs0, hs1, MID, PREV, E⟩ := hrel
            have hkl : k ≤ way.length := by omega
            have Hk := hid hk
            clear hk
            by_cases hlt : k < way.length
            · obtain ⟨bw, ow, rfl, -, hcell⟩ := HWI.out.get k hlt
              have dk := hcell _ (HE.out.trans E.out)
              obtain ⟨c0, c1⟩ := (HX.out.ext E.out).cells
              have Hx : Hid (fn way k < 0 ∨ (N : Int) ≤ fn way k ∨ fn way k ∈ way.take k → costR rs N way = -1) := fun h => MID.out.bad h hlt
              clear hcell
              obtain ⟨x, hx⟩ : ∃ x, x = fn way k := ⟨_, rfl⟩
              rw [← hx] at dk Hx
              have HXX := hid hx
              clear hx
              go_wp2_with (fail)
              refine (stop_any _ ⟨N, rs⟩ x _ (Roads.ext HV.out (HE.out.trans E.out))).mono ?_
              rintro e w5 ⟨rfl, he⟩
              dsimp only
              have E5 := hid (E.out.trans he)
              replace c0 := he.cell c0
              replace c1 := he.cell c1
              clear he dk
              cases hst : stopB N x
              · have HR : Hid (shownB rs N way pot = false) := shown_cost (by
                  rw [Hx.out (by unfold stopB at hst; rw [decide_eq_false_iff_not] at hst; by_cases g : x < 0; exact .inl g; exact .inr (.inl (by omega)))]; omega)
                clear hst
                go_wp2
                go_ret2
                exact ⟨by rw [HR.out]; rfl, HE.out.trans E5.out⟩
              · have hst2 : 0 ≤ x ∧ x < N := by unfold stopB at hst; rw [decide_eq_true_iff] at hst; exact hst
                have hkc : k ≤ cw := by omega
                have HT := hid ((HWI.out.ext (HE.out.trans E5.out)).take (k := k) hkl)
                clear hst
                go_wp2_with (fail)
                refine (Contains_any _ (way.take k) x _ HT.out).mono ?_
                rintro e w6 ⟨rfl, rfl⟩
                cases hin : hasI (way.take k) x
                · have HB : Hid (¬ (fn way k < 0 ∨ (N : Int) ≤ fn way k ∨ fn way k ∈ way.take k)) := by
                    show ¬ _
                    rw [← HXX.out]
                    rintro (h | h | h)
                    · omega
                    · omega
                    · unfold hasI at hin
                      rw [Bool.eq_false_iff, ne_eq, List.contains_iff_mem] at hin
                      exact hin h
                  clear hin HT
                  by_cases k0 : 0 < k
                  · obtain ⟨hp0, hp1⟩ := PREV.out k0
                    obtain ⟨p, hp⟩ := Int.eq_ofNat_of_zero_le hp0
                    obtain ⟨xn, hxn⟩ := Int.eq_ofNat_of_zero_le hst2.1
                    have hpN : p < N := by omega
                    have hxN : xn < N := by omega
                    obtain ⟨MS, v0, v1⟩ := MID.out.step HAll.out hs0 k0 hlt hp (by rw [← HXX.out]; exact hxn) HB.out
                    unfold far at v1
                    have HMS := hid MS
                    obtain ⟨bw2, ow2, he2, -, hcell⟩ := HWI.out.get (k - 1) (by omega)
                    simp only [Option.some.injEq, Addr.mk.injEq, and_true] at he2
                    obtain ⟨rfl, rfl⟩ := he2
                    have dp := hcell _ (HE.out.trans E5.out)
                    rw [hp] at dp
                    obtain ⟨gr, ca, ia, -⟩ := (MAT.out.ext E5.out).row hpN
                    have ca' : w5.cell? ⟨gb, p, none⟩ = some (.slice (some ⟨gr, 0, none⟩) N N) := ca
                    have dc := ia.cell (i := xn) (by rw [rowL_len]; exact hxN)
                    rw [rowL_fn hxN] at dc
                    have hk1 : ((k : Int) - 1).toNat = k - 1 := by omega
                    have hk2 : IntKind.i64.wrap ((k : Int) - 1) = (k : Int) - 1 := by rw [IntKind.wrap_i64]; omega
                    have hk3 : (1 : Int) ≤ (k : Int) := by omega
                    have hk4 : (k : Int) - 1 < way.length := by omega
                    have hxt : x.toNat = xn := by omega
                    have HP2 : Hid (0 < k + 1 → 0 ≤ fn way (k + 1 - 1) ∧ fn way (k + 1 - 1) < N) := by
                      intro _
                      rw [Nat.add_sub_cancel, ← HXX.out]; exact hst2
                    subst hxn
                    clear hcell ca ia MS hp hp0 hp1 hxt
                    generalize costTo rs p xn = c at *
                    have hw9 : IntKind.i64.wrap (s + c) = s + c := by rw [IntKind.wrap_i64]; omega
                    go_wp2
                    go_roundg (way.length - (k + 1))
                    case rel => exact ⟨k + 1, s + c, by omega, by go_num, rfl, by omega, by omega, HMS.out, HP2.out, E5.out⟩
                    case measure => have := Hk.out; omega
                  · have ek : k = 0 := by omega
                    have hm := MID.out
                    have hb := HB.out
                    rw [ek] at hm hb
                    have HMS := hid (hm.first hb)
                    have HP2 : Hid (0 < k + 1 → 0 ≤ fn way (k + 1 - 1) ∧ fn way (k + 1 - 1) < N) := by
                      intro _
                      rw [Nat.add_sub_cancel, ← HXX.out]; exact hst2
                    clear hm hb
                    go_wp2
                    go_roundg (way.length - (k + 1))
                    case rel => exact ⟨k + 1, s, by omega, by go_num, rfl, by omega, by omega, by rw [ek]; exact HMS.out, HP2.out, E5.out⟩
                    case measure => have := Hk.out; omega
                · have HR : Hid (shownB rs N way pot = false) := shown_cost (by
                    rw [Hx.out (.inr (.inr (by unfold hasI at hin; rw [List.contains_iff_mem] at hin; exact hin)))]; omega)
                  clear hin
                  go_wp2
                  go_ret2
                  exact ⟨by rw [HR.out]; rfl, HE.out.trans E5.out⟩
            · have ek : k = way.length := by omega
              have hm := MID.out
              rw [ek] at hm
              have HMID := hid hm
              obtain ⟨hp0, hp1⟩ := PREV.out (by omega)
              have HL : Hid (0 ≤ lastI way ∧ lastI way < N) := by
                unfold lastI
                rw [← ek]; exact ⟨hp0, hp1⟩
              obtain ⟨c0, c1⟩ := (HX.out.ext E.out).cells
              clear hm hp0 hp1 MID PREV MAT ek
              go_wp2
              clear c0 c1
              generalize wr = V at *
              go_loopg [77] rs.length (fun g i wr => ∃ j : Nat, j + g = rs.length ∧ i = .int .i64 j ∧ Hid (∀ r ∈ rs.take j, potB pot r) ∧ Hid (Ext V wr))
              case atStart => exact ⟨0, by omega, rfl, fun r hr => by simp at hr, Ext.refl _⟩
              case round =>
                obtain ⟨j, hj, rfl, ROK, E2⟩ := hrel
                have hjl : j ≤ rs.length := by omega
                have Hj := hid hj
                clear hj
                by_cases hjlt : j < rs.length
                · obtain ⟨bb, off, rfl, -, hcc⟩ := Roads.get HV.out j hjlt
                  obtain ⟨r0, r1, r2⟩ := hcc _ (HE.out.trans (E.out.trans E2.out))
                  have Hrm := hid (roadAt_mem hjlt)
                  obtain ⟨p1, p2, p3, p4, -, -, p7⟩ := roadOk_iff.1 (HAll.out _ (roadAt_mem hjlt))
                  have Htk : Hid (rs.take (j + 1) = rs.take j ++ [roadAt rs j]) := by
                    show _ = _
                    rw [List.take_succ_eq_append_getElem hjlt, roadAt_get hjlt]
                  generalize roadAt rs j = r at *
                  have hpl := Hpn.out
                  have p2' : r.a < (pot.length : Int) := by omega
                  have p4' : r.b < (pot.length : Int) := by omega
                  obtain ⟨bp, op, rfl, hca⟩ := HPI.out.at r.a p1 p2'
                  obtain ⟨bp2, op2, he2, hcb⟩ := HPI.out.at r.b p3 p4'
                  simp only [Option.some.injEq, Addr.mk.injEq, and_true] at he2
                  obtain ⟨rfl, rfl⟩ := he2
                  have EA := hid (E2.out.alloc (.cells #[.int .i64 r.a, .int .i64 r.b, .int .i64 r.cost] 63))
                  have da := hca _ (HE.out.trans (E.out.trans EA.out))
                  have db := hcb _ (HE.out.trans (E.out.trans EA.out))
                  obtain ⟨b0, b1, b2⟩ := (Box3.alloc wr 63 (.int .i64 r.a) (.int .i64 r.b) (.int .i64 r.cost)).cells
                  have B2 := hid b2
                  obtain ⟨pa, hpa⟩ : ∃ x, x = intAt pot r.a := ⟨_, rfl⟩
                  obtain ⟨pb, hpb⟩ : ∃ x, x = intAt pot r.b := ⟨_, rfl⟩
                  have ba := HPB.out _ (intAt_mem p1 p2')
                  have bb' := HPB.out _ (intAt_mem p3 p4')
                  rw [← hpa] at da ba
                  rw [← hpb] at db bb'
                  obtain ⟨d, hd⟩ : ∃ d, d = pa - pb := ⟨_, rfl⟩
                  have hwd : IntKind.i64.wrap (pa - pb) = d := by rw [IntKind.wrap_i64]; omega
                  have Hpd : Hid (pd pot r = d) := by show _ = _; unfold pd; rw [← hpa, ← hpb, hd]
                  have hbd : -2000 ≤ d ∧ d ≤ 2000 := by omega
                  clear hca hcb hcc hpa hpb hpl ba bb' hd
                  go_wp2
                  refine wp_region_held_drew (S := (fun w' => w'.cell? ⟨wr.heap.size, 0, none⟩ = some (.int .i64 r.a) ∧ w'.cell? ⟨wr.heap.size, 1, none⟩ = some (.int .i64 r.b) ∧ w'.cell? ⟨bp, op + r.a.toNat, none⟩ = some (.int .i64 pa) ∧ w'.cell? ⟨bp, op + r.b.toNat, none⟩ = some (.int .i64 pb))) (by kernel_rfl) ?hSa0 (fun hHeld => ?_)
                  case hSa0 => (first | (exact ⟨b0, b1, da, db⟩) | ((try dsimp only); exact ⟨b0, b1, da, db⟩))
                  refine wpAnyH_tk 0 (v := ?va0) rfl (by kernel_rfl) (by kernel_rfl) (by kernel_rfl) (fun _ _ _ h => h) (by rfl) ?hya0 (by assumption) ?_
                  case hya0 => (intro w hSw; (try dsimp only at hSw); go_simp <;> with_reducible rfl)
                  (try simp only [Act.put, List.setIfInBounds_toArray, List.set_cons_zero, List.set_cons_succ])
                  refine wpAnyH_tk 1 (v := ?va1) rfl (by kernel_rfl) (by kernel_rfl) (by kernel_rfl) (fun _ _ _ h => h) (by rfl) ?hya1 (by assumption) ?_
                  case hya1 => (intro w hSw; (try dsimp only at hSw); go_simp <;> with_reducible rfl)
                  (try simp only [Act.put, List.setIfInBounds_toArray, List.set_cons_zero, List.set_cons_succ])
                  refine wpAnyH_tk 2 (v := ?va2) rfl (by kernel_rfl) (by kernel_rfl) (by kernel_rfl) (fun _ _ _ h => h) (by rfl) ?hya2 (by assumption) ?_
                  case hya2 => (intro w hSw; (try dsimp only at hSw); go_simp <;> with_reducible rfl)
                  (try simp only [Act.put, List.setIfInBounds_toArray, List.set_cons_zero, List.set_cons_succ])
                  refine wpAnyH_tk 3 (v := ?va3) rfl (by kernel_rfl) (by kernel_rfl) (by kernel_rfl) (fun _ _ _ h => h) (by rfl) ?hya3 (by assumption) ?_
                  case hya3 => (intro w hSw; (try dsimp only at hSw); go_simp <;> with_reducible rfl)
                  (try simp only [Act.put, List.setIfInBounds_toArray, List.set_cons_zero, List.set_cons_succ])
                  refine wpAnyH_tk 4 (v := ?va4) rfl (by kernel_rfl) (by kernel_rfl) (by kernel_rfl) (fun _ _ _ h => h) (by rfl) ?hya4 (by assumption) ?_
                  case hya4 => (intro w hSw; (try dsimp only at hSw); go_simp <;> with_reducible rfl)
                  (try simp only [Act.put, List.setIfInBounds_toArray, List.set_cons_zero, List.set_cons_succ])
                  refine wpAnyH_tk 5 (v := ?va5) rfl (by kernel_rfl) (by kernel_rfl) (by kernel_rfl) (fun _ _ _ h => h) (by rfl) ?hya5 (by assumption) ?_
                  case hya5 => (intro w hSw; (try dsimp only at hSw); go_simp <;> with_reducible rfl)
                  (try simp only [Act.put, List.setIfInBounds_toArray, List.set_cons_zero, List.set_cons_succ])
                  refine wpAnyH_tk 6 (v := ?va6) rfl (by kernel_rfl) (by kernel_rfl) (by kernel_rfl) (fun _ _ _ h => h) (by rfl) ?hya6 (by assumption) ?_
                  case hya6 => (intro w hSw; (try dsimp only at hSw); go_simp <;> with_reducible rfl)
                  (try simp only [Act.put, List.setIfInBounds_toArray, List.set_cons_zero, List.set_cons_succ])
                  refine wpAnyH_tk 7 (v := ?va7) rfl (by kernel_rfl) (by kernel_rfl) (by kernel_rfl) (fun _ _ _ h => h) (by rfl) ?hya7 (by assumption) ?_
                  case hya7 => (intro w hSw; (try dsimp only at hSw); go_simp <;> with_reducible rfl)
                  (try simp only [Act.put, List.setIfInBounds_toArray, List.set_cons_zero, List.set_cons_succ])
                  refine wpAnyH_tk 8 (v := ?va8) rfl (by kernel_rfl) (by kernel_rfl) (by kernel_rfl) (fun _ _ _ h => h) (by rfl) ?hya8 (by assumption) ?_
                  case hya8 => (intro w hSw; (try dsimp only at hSw); go_simp <;> with_reducible rfl)
                  (try simp only [Act.put, List.setIfInBounds_toArray, List.set_cons_zero, List.set_cons_succ])
                  refine wpAnyH_tk 9 (v := ?va9) rfl (by kernel_rfl) (by kernel_rfl) (by kernel_rfl) (fun _ _ _ h => h) (by rfl) ?hya9 (by assumption) ?_
                  case hya9 => (intro w hSw; (try dsimp only at hSw); go_simp <;> with_reducible rfl)
                  (try simp only [Act.put, List.setIfInBounds_toArray, List.set_cons_zero, List.set_cons_succ])
                  refine wpAnyH_tk 10 (v := ?va10) rfl (by kernel_rfl) (by kernel_rfl) (by kernel_rfl) (fun _ _ _ h => h) (by rfl) ?hya10 (by assumption) ?_
                  case hya10 => (intro w hSw; (try dsimp only at hSw); go_simp <;> with_reducible rfl)
                  (try simp only [Act.put, List.setIfInBounds_toArray, List.set_cons_zero, List.set_cons_succ])
                  refine wpAnyH_tk 11 (v := ?va11) rfl (by kernel_rfl) (by kernel_rfl) (by kernel_rfl) (fun _ _ _ h => h) (by rfl) ?hya11 (by assumption) ?_
                  case hya11 => (intro w hSw; (try dsimp only at hSw); go_simp <;> with_reducible rfl)
                  (try simp only [Act.put, List.setIfInBounds_toArray, List.set_cons_zero, List.set_cons_succ])
                  refine wpAnyH_done (by kernel_rfl) ?_ _
                  have EA2 := hid (EA.out.drew)
                  have dc := (Ext.refl (wr.alloc (.cells #[.int .i64 r.a, .int .i64 r.b, .int .i64 r.cost] 63))).drew.cell B2.out
                  have hwn : IntKind.i64.wrap (-d) = -d := by rw [IntKind.wrap_i64]; omega
                  clear da db b0 b1 b2 r0 r1 r2 hHeld hwd p1 p2 p3 p4 p2' p4'
                  generalize (wr.alloc (.cells #[.int .i64 r.a, .int .i64 r.b, .int .i64 r.cost] 63)).drew = wq at EA2 dc ⊢
                  by_cases hok : potB pot r
                  · have hok2 := hok
                    unfold potB at hok2
                    rw [Hpd.out] at hok2
                    have ROK2 : Hid (∀ r' ∈ rs.take (j + 1), potB pot r') := by
                      intro r' hr'
                      rw [Htk.out] at hr'
                      rcases List.mem_append.1 hr' with h | h
                      · exact ROK.out r' h
                      · simp only [List.mem_singleton] at h
                        subst h; exact hok
                    clear hok
                    by_cases hsg : d < -d
                    · have hmx : ¬ r.cost < -d := by omega
                      clear hok2
                      go_wp2
                      go_roundg (gk - 1)
                      case rel => exact ⟨j + 1, by have := Hj.out; omega, by go_num, ROK2.out, EA2.out⟩
                      case measure => have := Hj.out; omega
                    · have hmx : ¬ r.cost < d := by omega
                      clear hok2
                      go_wp2
                      go_roundg (gk - 1)
                      case rel => exact ⟨j + 1, by have := Hj.out; omega, by go_num, ROK2.out, EA2.out⟩
                      case measure => have := Hj.out; omega
                  · have hok2 := hok
                    unfold potB at hok2
                    rw [Hpd.out] at hok2
                    have HR : Hid (shownB rs N way pot = false) := shown_road Hrm.out hok
                    clear hok
                    by_cases hsg : d < -d
                    · have hmx : r.cost < -d := by omega
                      clear hok2
                      go_wp2
                      go_ret2
                      exact ⟨by rw [HR.out]; rfl, HE.out.trans (E.out.trans EA2.out)⟩
                    · have hmx : r.cost < d := by omega
                      clear hok2
                      go_wp2
                      go_ret2
                      exact ⟨by rw [HR.out]; rfl, HE.out.trans (E.out.trans EA2.out)⟩
                · have HRO : Hid (∀ r ∈ rs, potB pot r) := by
                    have h := ROK.out
                    rw [List.take_of_length_le (by omega)] at h
                    exact h
                  have EF := hid (HE.out.trans (E.out.trans E2.out))
                  have EFD := hid EF.out.drew
                  by_cases hfar : s < 1048576
                  · have hfb : decide (s < 1048576) = true := decide_eq_true hfar
                    have hcs : cst rs N way way.length = some s := by
                      rcases HMID.out with ⟨h, -⟩ | ⟨h, -⟩
                      · exact h
                      · unfold far at h; omega
                    have Hcost := hid (costR_some (fun h => by rw [h] at hwpos; simp at hwpos) hcs)
                    obtain ⟨-, hrange⟩ := cst_range hcs (Nat.le_refl _)
                    rw [List.take_length] at hrange
                    have hl1 := hrange _ (intAt_mem (l := way) (i := ((way.length - 1 : Nat) : Int)) (by omega) (by omega))
                    have hl0 := hrange _ (intAt_mem (l := way) (i := ((0 : Nat) : Int)) (by omega) (by omega))
                    obtain ⟨bw, ow, rfl, -, hce⟩ := HWI.out.get (way.length - 1) (by omega)
                    obtain ⟨bw2, ow2, he2, -, hcf⟩ := HWI.out.get 0 (by omega)
                    simp only [Option.some.injEq, Addr.mk.injEq, and_true] at he2
                    obtain ⟨rfl, rfl⟩ := he2
                    have dl := hce _ EFD.out
                    have d0 := hcf _ EFD.out
                    rw [Nat.add_zero] at d0
                    obtain ⟨xl, hxl⟩ : ∃ x, x = lastI way := ⟨_, rfl⟩
                    obtain ⟨xf, hxf⟩ : ∃ x, x = fn way 0 := ⟨_, rfl⟩
                    have hl1' : 0 ≤ xl ∧ xl < N := by rw [hxl]; exact hl1
                    have hl0' : 0 ≤ xf ∧ xf < N := by rw [hxf]; exact hl0
                    change (World.cell? _ _ = some (.int .i64 (lastI way))) at dl
                    rw [← hxl] at dl
                    rw [← hxf] at d0
                    have hpl := Hpn.out
                    have q1 : xl < (pot.length : Int) := by omega
                    have q2 : xf < (pot.length : Int) := by omega
                    obtain ⟨bp, op, rfl, hca⟩ := HPI.out.at xl hl1'.1 q1
                    obtain ⟨bp2, op2, he2, hcb⟩ := HPI.out.at xf hl0'.1 q2
                    simp only [Option.some.injEq, Addr.mk.injEq, and_true] at he2
                    obtain ⟨rfl, rfl⟩ := he2
                    have ea := hca _ EFD.out
                    have eb := hcb _ EFD.out
                    obtain ⟨pa, hpa⟩ : ∃ x, x = intAt pot xl := ⟨_, rfl⟩
                    obtain ⟨pb, hpb⟩ : ∃ x, x = intAt pot xf := ⟨_, rfl⟩
                    have ba := HPB.out _ (intAt_mem hl1'.1 q1)
                    have bb' := HPB.out _ (intAt_mem hl0'.1 q2)
                    rw [← hpa] at ea ba
                    rw [← hpb] at eb bb'
                    have hwd : IntKind.i64.wrap (pa - pb) = pa - pb := by rw [IntKind.wrap_i64]; omega
                    have hk1 : ((way.length : Int) - 1).toNat = way.length - 1 := by omega
                    have hk2 : IntKind.i64.wrap ((way.length : Int) - 1) = (way.length : Int) - 1 := by rw [IntKind.wrap_i64]; omega
                    have hk3 : (1 : Int) ≤ (way.length : Int) := by omega
                    have hk5 : (0 : Int) < (way.length : Int) := by omega
                    have hk4 : (way.length : Int) - 1 < (way.length : Int) := by omega
                    have hz1 := hl1'.1
                    have hz2 := hl0'.1
                    have Hval : Hid (intAt pot (lastI way) - intAt pot (fn way 0) = pa - pb) := by show _ = _; rw [hpa, hpb, hxl, hxf]
                    clear hca hcb hce hcf hpa hpb hpl hl1 hl0 hxl hxf hcs hrange ba bb' hfar
                    by_cases he : pa - pb = s
                    · have heb : (pa - pb == s) = true := beq_iff_eq.2 he
                      have HR : Hid (shownB rs N way pot = true) := shown_yes Hpn.out HPB.out HRO.out (by rw [Hcost.out]; exact hs0) (by rw [Hval.out, Hcost.out]; exact he)
                      clear he
                      go_wp2
                      refine wp_region_held_drew (S := (fun w' => w'.cell? ⟨bw, ow + (way.length - 1), none⟩ = some (.int .i64 xl) ∧ w'.cell? ⟨bw, ow, none⟩ = some (.int .i64 xf) ∧ w'.cell? ⟨bp, op + xl.toNat, none⟩ = some (.int .i64 pa) ∧ w'.cell? ⟨bp, op + xf.toNat, none⟩ = some (.int .i64 pb))) (by kernel_rfl) ?hSb0 (fun hHeld => ?_)
                      case hSb0 => (first | (exact ⟨dl, d0, ea, eb⟩) | ((try dsimp only); exact ⟨dl, d0, ea, eb⟩))
                      refine wpAnyH_tk 0 (v := ?vb0) rfl (by kernel_rfl) (by kernel_rfl) (by kernel_rfl) (fun _ _ _ h => h) (by rfl) ?hyb0 (by assumption) ?_
                      case hyb0 => (intro w hSw; (try dsimp only at hSw); go_simp <;> with_reducible rfl)
                      (try simp only [Act.put, List.setIfInBounds_toArray, List.set_cons_zero, List.set_cons_succ])
                      refine wpAnyH_tk 1 (v := ?vb1) rfl (by kernel_rfl) (by kernel_rfl) (by kernel_rfl) (fun _ _ _ h => h) (by rfl) ?hyb1 (by assumption) ?_
                      case hyb1 => (intro w hSw; (try dsimp only at hSw); go_simp <;> with_reducible rfl)
                      (try simp only [Act.put, List.setIfInBounds_toArray, List.set_cons_zero, List.set_cons_succ])
                      refine wpAnyH_tk 2 (v := ?vb2) rfl (by kernel_rfl) (by kernel_rfl) (by kernel_rfl) (fun _ _ _ h => h) (by rfl) ?hyb2 (by assumption) ?_
                      case hyb2 => (intro w hSw; (try dsimp only at hSw); go_simp <;> with_reducible rfl)
                      (try simp only [Act.put, List.setIfInBounds_toArray, List.set_cons_zero, List.set_cons_succ])
                      refine wpAnyH_tk 3 (v := ?vb3) rfl (by kernel_rfl) (by kernel_rfl) (by kernel_rfl) (fun _ _ _ h => h) (by rfl) ?hyb3 (by assumption) ?_
                      case hyb3 => (intro w hSw; (try dsimp only at hSw); go_simp <;> with_reducible rfl)
                      (try simp only [Act.put, List.setIfInBounds_toArray, List.set_cons_zero, List.set_cons_succ])
                      refine wpAnyH_tk 4 (v := ?vb4) rfl (by kernel_rfl) (by kernel_rfl) (by kernel_rfl) (fun _ _ _ h => h) (by rfl) ?hyb4 (by assumption) ?_
                      case hyb4 => (intro w hSw; (try dsimp only at hSw); go_simp <;> with_reducible rfl)
                      (try simp only [Act.put, List.setIfInBounds_toArray, List.set_cons_zero, List.set_cons_succ])
                      refine wpAnyH_tk 5 (v := ?vb5) rfl (by kernel_rfl) (by kernel_rfl) (by kernel_rfl) (fun _ _ _ h => h) (by rfl) ?hyb5 (by assumption) ?_
                      case hyb5 => (intro w hSw; (try dsimp only at hSw); go_simp <;> with_reducible rfl)
                      (try simp only [Act.put, List.setIfInBounds_toArray, List.set_cons_zero, List.set_cons_succ])
                      refine wpAnyH_tk 6 (v := ?vb6) rfl (by kernel_rfl) (by kernel_rfl) (by kernel_rfl) (fun _ _ _ h => h) (by rfl) ?hyb6 (by assumption) ?_
                      case hyb6 => (intro w hSw; (try dsimp only at hSw); go_simp <;> with_reducible rfl)
                      (try simp only [Act.put, List.setIfInBounds_toArray, List.set_cons_zero, List.set_cons_succ])
                      refine wpAnyH_tk 7 (v := ?vb7) rfl (by kernel_rfl) (by kernel_rfl) (by kernel_rfl) (fun _ _ _ h => h) (by rfl) ?hyb7 (by assumption) ?_
                      case hyb7 => (intro w hSw; (try dsimp only at hSw); go_simp <;> with_reducible rfl)
                      (try simp only [Act.put, List.setIfInBounds_toArray, List.set_cons_zero, List.set_cons_succ])
                      refine wpAnyH_tk 8 (v := ?vb8) rfl (by kernel_rfl) (by kernel_rfl) (by kernel_rfl) (fun _ _ _ h => h) (by rfl) ?hyb8 (by assumption) ?_
                      case hyb8 => (intro w hSw; (try dsimp only at hSw); go_simp <;> with_reducible rfl)
                      (try simp only [Act.put, List.setIfInBounds_toArray, List.set_cons_zero, List.set_cons_succ])
                      refine wpAnyH_tk 9 (v := ?vb9) rfl (by kernel_rfl) (by kernel_rfl) (by kernel_rfl) (fun _ _ _ h => h) (by rfl) ?hyb9 (by assumption) ?_
                      case hyb9 => (intro w hSw; (try dsimp only at hSw); go_simp <;> with_reducible rfl)
                      (try simp only [Act.put, List.setIfInBounds_toArray, List.set_cons_zero, List.set_cons_succ])
                      refine wpAnyH_tk 10 (v := ?vb10) rfl (by kernel_rfl) (by kernel_rfl) (by kernel_rfl) (fun _ _ _ h => h) (by rfl) ?hyb10 (by assumption) ?_
                      case hyb10 => (intro w hSw; (try dsimp only at hSw); go_simp <;> with_reducible rfl)
                      (try simp only [Act.put, List.setIfInBounds_toArray, List.set_cons_zero, List.set_cons_succ])
                      refine wpAnyH_tk 11 (v := ?vb11) rfl (by kernel_rfl) (by kernel_rfl) (by kernel_rfl) (fun _ _ _ h => h) (by rfl) ?hyb11 (by assumption) ?_
                      case hyb11 => (intro w hSw; (try dsimp only at hSw); go_simp <;> with_reducible rfl)
                      (try simp only [Act.put, List.setIfInBounds_toArray, List.set_cons_zero, List.set_cons_succ])
                      refine wpAnyH_tk 12 (v := ?vb12) rfl (by kernel_rfl) (by kernel_rfl) (by kernel_rfl) (fun _ _ _ h => h) (by rfl) ?hyb12 (by assumption) ?_
                      case hyb12 => (intro w hSw; (try dsimp only at hSw); go_simp <;> with_reducible rfl)
                      (try simp only [Act.put, List.setIfInBounds_toArray, List.set_cons_zero, List.set_cons_succ])
                      refine wpAnyH_tk 13 (v := ?vb13) rfl (by kernel_rfl) (by kernel_rfl) (by kernel_rfl) (fun _ _ _ h => h) (by rfl) ?hyb13 (by assumption) ?_
                      case hyb13 => (intro w hSw; (try dsimp only at hSw); go_simp <;> with_reducible rfl)
                      (try simp only [Act.put, List.setIfInBounds_toArray, List.set_cons_zero, List.set_cons_succ])
                      refine wpAnyH_tk 14 (v := ?vb14) rfl (by kernel_rfl) (by kernel_rfl) (by kernel_rfl) (fun _ _ _ h => h) (by rfl) ?hyb14 (by assumption) ?_
                      case hyb14 => (intro w hSw; (try dsimp only at hSw); go_simp <;> with_reducible rfl)
                      (try simp only [Act.put, List.setIfInBounds_toArray, List.set_cons_zero, List.set_cons_succ])
                      refine wpAnyH_tk 15 (v := ?vb15) rfl (by kernel_rfl) (by kernel_rfl) (by kernel_rfl) (fun _ _ _ h => h) (by rfl) ?hyb15 (by assumption) ?_
                      case hyb15 => (intro w hSw; (try dsimp only at hSw); go_simp <;> with_reducible rfl)
                      (try simp only [Act.put, List.setIfInBounds_toArray, List.set_cons_zero, List.set_cons_succ])
                      refine wpAnyH_tk 16 (v := ?vb16) rfl (by kernel_rfl) (by kernel_rfl) (by kernel_rfl) (fun _ _ _ h => h) (by rfl) ?hyb16 (by assumption) ?_
                      case hyb16 => (intro w hSw; (try dsimp only at hSw); go_simp <;> with_reducible rfl)
                      (try simp only [Act.put, List.setIfInBounds_toArray, List.set_cons_zero, List.set_cons_succ])
                      refine wpAnyH_tk 17 (v := ?vb17) rfl (by kernel_rfl) (by kernel_rfl) (by kernel_rfl) (fun _ _ _ h => h) (by rfl) ?hyb17 (by assumption) ?_
                      case hyb17 => (intro w hSw; (try dsimp only at hSw); go_simp <;> with_reducible rfl)
                      (try simp only [Act.put, List.setIfInBounds_toArray, List.set_cons_zero, List.set_cons_succ])
                      refine wpAnyH_tk 18 (v := ?vb18) rfl (by kernel_rfl) (by kernel_rfl) (by kernel_rfl) (fun _ _ _ h => h) (by rfl) ?hyb18 (by assumption) ?_
                      case hyb18 => (intro w hSw; (try dsimp only at hSw); go_simp <;> with_reducible rfl)
                      (try simp only [Act.put, List.setIfInBounds_toArray, List.set_cons_zero, List.set_cons_succ])
                      refine wpAnyH_tk 19 (v := ?vb19) rfl (by kernel_rfl) (by kernel_rfl) (by kernel_rfl) (fun _ _ _ h => h) (by rfl) ?hyb19 (by assumption) ?_
                      case hyb19 => (intro w hSw; (try dsimp only at hSw); go_simp <;> with_reducible rfl)
                      (try simp only [Act.put, List.setIfInBounds_toArray, List.set_cons_zero, List.set_cons_succ])
                      refine wpAnyH_tk 20 (v := ?vb20) rfl (by kernel_rfl) (by kernel_rfl) (by kernel_rfl) (fun _ _ _ h => h) (by rfl) ?hyb20 (by assumption) ?_
                      case hyb20 => (intro w hSw; (try dsimp only at hSw); go_simp <;> with_reducible rfl)
                      (try simp only [Act.put, List.setIfInBounds_toArray, List.set_cons_zero, List.set_cons_succ])
                      refine wpAnyH_tk 21 (v := ?vb21) rfl (by kernel_rfl) (by kernel_rfl) (by kernel_rfl) (fun _ _ _ h => h) (by rfl) ?hyb21 (by assumption) ?_
                      case hyb21 => (intro w hSw; (try dsimp only at hSw); go_simp <;> with_reducible rfl)
                      (try simp only [Act.put, List.setIfInBounds_toArray, List.set_cons_zero, List.set_cons_succ])
                      refine wpAnyH_tk 22 (v := ?vb22) rfl (by kernel_rfl) (by kernel_rfl) (by kernel_rfl) (fun _ _ _ h => h) (by rfl) ?hyb22 (by assumption) ?_
                      case hyb22 => (intro w hSw; (try dsimp only at hSw); go_simp <;> with_reducible rfl)
                      (try simp only [Act.put, List.setIfInBounds_toArray, List.set_cons_zero, List.set_cons_succ])
                      refine wpAnyH_tk 23 (v := ?vb23) rfl (by kernel_rfl) (by kernel_rfl) (by kernel_rfl) (fun _ _ _ h => h) (by rfl) ?hyb23 (by assumption) ?_
                      case hyb23 => (intro w hSw; (try dsimp only at hSw); go_simp <;> with_reducible rfl)
                      (try simp only [Act.put, List.setIfInBounds_toArray, List.set_cons_zero, List.set_cons_succ])
                      refine wpAnyH_done (by kernel_rfl) ?_ _
                      clear dl d0 ea eb hHeld
                      go_wp2
                      go_ret2
                      exact ⟨by rw [HR.out]; rfl, EFD.out⟩
                    · have heb : (pa - pb == s) = false := beq_eq_false_iff_ne.2 he
                      have HR : Hid (shownB rs N way pot = false) := shown_last (by rw [Hval.out, Hcost.out]; exact he)
                      clear he
                      go_wp2
                      refine wp_region_held_drew (S := (fun w' => w'.cell? ⟨bw, ow + (way.length - 1), none⟩ = some (.int .i64 xl) ∧ w'.cell? ⟨bw, ow, none⟩ = some (.int .i64 xf) ∧ w'.cell? ⟨bp, op + xl.toNat, none⟩ = some (.int .i64 pa) ∧ w'.cell? ⟨bp, op + xf.toNat, none⟩ = some (.int .i64 pb))) (by kernel_rfl) ?hSc0 (fun hHeld => ?_)
                      case hSc0 => (first | (exact ⟨dl, d0, ea, eb⟩) | ((try dsimp only); exact ⟨dl, d0, ea, eb⟩))
                      refine wpAnyH_tk 0 (v := ?vc0) rfl (by kernel_rfl) (by kernel_rfl) (by kernel_rfl) (fun _ _ _ h => h) (by rfl) ?hyc0 (by assumption) ?_
                      case hyc0 => (intro w hSw; (try dsimp only at hSw); go_simp <;> with_reducible rfl)
                      (try simp only [Act.put, List.setIfInBounds_toArray, List.set_cons_zero, List.set_cons_succ])
                      refine wpAnyH_tk 1 (v := ?vc1) rfl (by kernel_rfl) (by kernel_rfl) (by kernel_rfl) (fun _ _ _ h => h) (by rfl) ?hyc1 (by assumption) ?_
                      case hyc1 => (intro w hSw; (try dsimp only at hSw); go_simp <;> with_reducible rfl)
                      (try simp only [Act.put, List.setIfInBounds_toArray, List.set_cons_zero, List.set_cons_succ])
                      refine wpAnyH_tk 2 (v := ?vc2) rfl (by kernel_rfl) (by kernel_rfl) (by kernel_rfl) (fun _ _ _ h => h) (by rfl) ?hyc2 (by assumption) ?_
                      case hyc2 => (intro w hSw; (try dsimp only at hSw); go_simp <;> with_reducible rfl)
                      (try simp only [Act.put, List.setIfInBounds_toArray, List.set_cons_zero, List.set_cons_succ])
                      refine wpAnyH_tk 3 (v := ?vc3) rfl (by kernel_rfl) (by kernel_rfl) (by kernel_rfl) (fun _ _ _ h => h) (by rfl) ?hyc3 (by assumption) ?_
                      case hyc3 => (intro w hSw; (try dsimp only at hSw); go_simp <;> with_reducible rfl)
                      (try simp only [Act.put, List.setIfInBounds_toArray, List.set_cons_zero, List.set_cons_succ])
                      refine wpAnyH_tk 4 (v := ?vc4) rfl (by kernel_rfl) (by kernel_rfl) (by kernel_rfl) (fun _ _ _ h => h) (by rfl) ?hyc4 (by assumption) ?_
                      case hyc4 => (intro w hSw; (try dsimp only at hSw); go_simp <;> with_reducible rfl)
                      (try simp only [Act.put, List.setIfInBounds_toArray, List.set_cons_zero, List.set_cons_succ])
                      refine wpAnyH_tk 5 (v := ?vc5) rfl (by kernel_rfl) (by kernel_rfl) (by kernel_rfl) (fun _ _ _ h => h) (by rfl) ?hyc5 (by assumption) ?_
                      case hyc5 => (intro w hSw; (try dsimp only at hSw); go_simp <;> with_reducible rfl)
                      (try simp only [Act.put, List.setIfInBounds_toArray, List.set_cons_zero, List.set_cons_succ])
                      refine wpAnyH_tk 6 (v := ?vc6) rfl (by kernel_rfl) (by kernel_rfl) (by kernel_rfl) (fun _ _ _ h => h) (by rfl) ?hyc6 (by assumption) ?_
                      case hyc6 => (intro w hSw; (try dsimp only at hSw); go_simp <;> with_reducible rfl)
                      (try simp only [Act.put, List.setIfInBounds_toArray, List.set_cons_zero, List.set_cons_succ])
                      refine wpAnyH_tk 7 (v := ?vc7) rfl (by kernel_rfl) (by kernel_rfl) (by kernel_rfl) (fun _ _ _ h => h) (by rfl) ?hyc7 (by assumption) ?_
                      case hyc7 => (intro w hSw; (try dsimp only at hSw); go_simp <;> with_reducible rfl)
                      (try simp only [Act.put, List.setIfInBounds_toArray, List.set_cons_zero, List.set_cons_succ])
                      refine wpAnyH_tk 8 (v := ?vc8) rfl (by kernel_rfl) (by kernel_rfl) (by kernel_rfl) (fun _ _ _ h => h) (by rfl) ?hyc8 (by assumption) ?_
                      case hyc8 => (intro w hSw; (try dsimp only at hSw); go_simp <;> with_reducible rfl)
                      (try simp only [Act.put, List.setIfInBounds_toArray, List.set_cons_zero, List.set_cons_succ])
                      refine wpAnyH_tk 9 (v := ?vc9) rfl (by kernel_rfl) (by kernel_rfl) (by kernel_rfl) (fun _ _ _ h => h) (by rfl) ?hyc9 (by assumption) ?_
                      case hyc9 => (intro w hSw; (try dsimp only at hSw); go_simp <;> with_reducible rfl)
                      (try simp only [Act.put, List.setIfInBounds_toArray, List.set_cons_zero, List.set_cons_succ])
                      refine wpAnyH_tk 10 (v := ?vc10) rfl (by kernel_rfl) (by kernel_rfl) (by kernel_rfl) (fun _ _ _ h => h) (by rfl) ?hyc10 (by assumption) ?_
                      case hyc10 => (intro w hSw; (try dsimp only at hSw); go_simp <;> with_reducible rfl)
                      (try simp only [Act.put, List.setIfInBounds_toArray, List.set_cons_zero, List.set_cons_succ])
                      refine wpAnyH_tk 11 (v := ?vc11) rfl (by kernel_rfl) (by kernel_rfl) (by kernel_rfl) (fun _ _ _ h => h) (by rfl) ?hyc11 (by assumption) ?_
                      case hyc11 => (intro w hSw; (try dsimp only at hSw); go_simp <;> with_reducible rfl)
                      (try simp only [Act.put, List.setIfInBounds_toArray, List.set_cons_zero, List.set_cons_succ])
                      refine wpAnyH_tk 12 (v := ?vc12) rfl (by kernel_rfl) (by kernel_rfl) (by kernel_rfl) (fun _ _ _ h => h) (by rfl) ?hyc12 (by assumption) ?_
                      case hyc12 => (intro w hSw; (try dsimp only at hSw); go_simp <;> with_reducible rfl)
                      (try simp only [Act.put, List.setIfInBounds_toArray, List.set_cons_zero, List.set_cons_succ])
                      refine wpAnyH_tk 13 (v := ?vc13) rfl (by kernel_rfl) (by kernel_rfl) (by kernel_rfl) (fun _ _ _ h => h) (by rfl) ?hyc13 (by assumption) ?_
                      case hyc13 => (intro w hSw; (try dsimp only at hSw); go_simp <;> with_reducible rfl)
                      (try simp only [Act.put, List.setIfInBounds_toArray, List.set_cons_zero, List.set_cons_succ])
                      refine wpAnyH_tk 14 (v := ?vc14) rfl (by kernel_rfl) (by kernel_rfl) (by kernel_rfl) (fun _ _ _ h => h) (by rfl) ?hyc14 (by assumption) ?_
                      case hyc14 => (intro w hSw; (try dsimp only at hSw); go_simp <;> with_reducible rfl)
                      (try simp only [Act.put, List.setIfInBounds_toArray, List.set_cons_zero, List.set_cons_succ])
                      refine wpAnyH_tk 15 (v := ?vc15) rfl (by kernel_rfl) (by kernel_rfl) (by kernel_rfl) (fun _ _ _ h => h) (by rfl) ?hyc15 (by assumption) ?_
                      case hyc15 => (intro w hSw; (try dsimp only at hSw); go_simp <;> with_reducible rfl)
                      (try simp only [Act.put, List.setIfInBounds_toArray, List.set_cons_zero, List.set_cons_succ])
                      refine wpAnyH_tk 16 (v := ?vc16) rfl (by kernel_rfl) (by kernel_rfl) (by kernel_rfl) (fun _ _ _ h => h) (by rfl) ?hyc16 (by assumption) ?_
                      case hyc16 => (intro w hSw; (try dsimp only at hSw); go_simp <;> with_reducible rfl)
                      (try simp only [Act.put, List.setIfInBounds_toArray, List.set_cons_zero, List.set_cons_succ])
                      refine wpAnyH_tk 17 (v := ?vc17) rfl (by kernel_rfl) (by kernel_rfl) (by kernel_rfl) (fun _ _ _ h => h) (by rfl) ?hyc17 (by assumption) ?_
                      case hyc17 => (intro w hSw; (try dsimp only at hSw); go_simp <;> with_reducible rfl)
                      (try simp only [Act.put, List.setIfInBounds_toArray, List.set_cons_zero, List.set_cons_succ])
                      refine wpAnyH_tk 18 (v := ?vc18) rfl (by kernel_rfl) (by kernel_rfl) (by kernel_rfl) (fun _ _ _ h => h) (by rfl) ?hyc18 (by assumption) ?_
                      case hyc18 => (intro w hSw; (try dsimp only at hSw); go_simp <;> with_reducible rfl)
                      (try simp only [Act.put, List.setIfInBounds_toArray, List.set_cons_zero, List.set_cons_succ])
                      refine wpAnyH_tk 19 (v := ?vc19) rfl (by kernel_rfl) (by kernel_rfl) (by kernel_rfl) (fun _ _ _ h => h) (by rfl) ?hyc19 (by assumption) ?_
                      case hyc19 => (intro w hSw; (try dsimp only at hSw); go_simp <;> with_reducible rfl)
                      (try simp only [Act.put, List.setIfInBounds_toArray, List.set_cons_zero, List.set_cons_succ])
                      refine wpAnyH_tk 20 (v := ?vc20) rfl (by kernel_rfl) (by kernel_rfl) (by kernel_rfl) (fun _ _ _ h => h) (by rfl) ?hyc20 (by assumption) ?_
                      case hyc20 => (intro w hSw; (try dsimp only at hSw); go_simp <;> with_reducible rfl)
                      (try simp only [Act.put, List.setIfInBounds_toArray, List.set_cons_zero, List.set_cons_succ])
                      refine wpAnyH_tk 21 (v := ?vc21) rfl (by kernel_rfl) (by kernel_rfl) (by kernel_rfl) (fun _ _ _ h => h) (by rfl) ?hyc21 (by assumption) ?_
                      case hyc21 => (intro w hSw; (try dsimp only at hSw); go_simp <;> with_reducible rfl)
                      (try simp only [Act.put, List.setIfInBounds_toArray, List.set_cons_zero, List.set_cons_succ])
                      refine wpAnyH_tk 22 (v := ?vc22) rfl (by kernel_rfl) (by kernel_rfl) (by kernel_rfl) (fun _ _ _ h => h) (by rfl) ?hyc22 (by assumption) ?_
                      case hyc22 => (intro w hSw; (try dsimp only at hSw); go_simp <;> with_reducible rfl)
                      (try simp only [Act.put, List.setIfInBounds_toArray, List.set_cons_zero, List.set_cons_succ])
                      refine wpAnyH_tk 23 (v := ?vc23) rfl (by kernel_rfl) (by kernel_rfl) (by kernel_rfl) (fun _ _ _ h => h) (by rfl) ?hyc23 (by assumption) ?_
                      case hyc23 => (intro w hSw; (try dsimp only at hSw); go_simp <;> with_reducible rfl)
                      (try simp only [Act.put, List.setIfInBounds_toArray, List.set_cons_zero, List.set_cons_succ])
                      refine wpAnyH_done (by kernel_rfl) ?_ _
                      clear dl d0 ea eb hHeld
                      go_wp2
                      go_ret2
                      exact ⟨by rw [HR.out]; rfl, EFD.out⟩
                  · have hfb : decide (s < 1048576) = false := decide_eq_false hfar
                    have HR : Hid (shownB rs N way pot = false) := shown_cost (by
                      rw [(HMID.out.end_ (fun h => by rw [h] at hwpos; simp at hwpos) hwl).2 (by unfold far; omega)]; omega)
                    clear hfar
                    go_wp2
                    refine wp_region_held_drew (S := (fun _ => True)) (by kernel_rfl) ?hSd0 (fun hHeld => ?_)
                    case hSd0 => (first | (trivial) | ((try dsimp only); trivial))
                    refine wpAnyH_tk 0 (v := ?vd0) rfl (by kernel_rfl) (by kernel_rfl) (by kernel_rfl) (fun _ _ _ h => h) (by rfl) ?hyd0 (by assumption) ?_
                    case hyd0 => (intro w hSw; (try dsimp only at hSw); go_simp <;> with_reducible rfl)
                    (try simp only [Act.put, List.setIfInBounds_toArray, List.set_cons_zero, List.set_cons_succ])
                    refine wpAnyH_tk 1 (v := ?vd1) rfl (by kernel_rfl) (by kernel_rfl) (by kernel_rfl) (fun _ _ _ h => h) (by rfl) ?hyd1 (by assumption) ?_
                    case hyd1 => (intro w hSw; (try dsimp only at hSw); go_simp <;> with_reducible rfl)
                    (try simp only [Act.put, List.setIfInBounds_toArray, List.set_cons_zero, List.set_cons_succ])
                    refine wpAnyH_tk 2 (v := ?vd2) rfl (by kernel_rfl) (by kernel_rfl) (by kernel_rfl) (fun _ _ _ h => h) (by rfl) ?hyd2 (by assumption) ?_
                    case hyd2 => (intro w hSw; (try dsimp only at hSw); go_simp <;> with_reducible rfl)
                    (try simp only [Act.put, List.setIfInBounds_toArray, List.set_cons_zero, List.set_cons_succ])
                    refine wpAnyH_skips 2 true 102 3 (by kernel_rfl) rfl (fun _ _ _ _ _ h => h) [3, 4, 5, 6, 7, 8, 9, 10, 11, 12, 13, 14, 15, 16, 17, 18, 19, 20] [103, 104, 105, 106, 107, 108, 109, 110, 111, 112, 113, 114, 115, 116, 117, 118, 119, 120] _ _ _ rfl (by kernel_rfl) (by rfl) (by assumption) ?_
                    (try simp only [putsAll, List.foldl, Act.put, List.setIfInBounds_toArray, List.set_cons_zero, List.set_cons_succ])
                    refine wpAnyH_tk 21 (v := ?vd21) rfl (by kernel_rfl) (by kernel_rfl) (by kernel_rfl) (fun _ _ _ h => h) (by rfl) ?hyd21 (by assumption) ?_
                    case hyd21 => (intro w hSw; (try dsimp only at hSw); go_simp <;> with_reducible rfl)
                    (try simp only [Act.put, List.setIfInBounds_toArray, List.set_cons_zero, List.set_cons_succ])
                    refine wpAnyH_tk 22 (v := ?vd22) rfl (by kernel_rfl) (by kernel_rfl) (by kernel_rfl) (fun _ _ _ h => h) (by rfl) ?hyd22 (by assumption) ?_
                    case hyd22 => (intro w hSw; (try dsimp only at hSw); go_simp <;> with_reducible rfl)
                    (try simp only [Act.put, List.setIfInBounds_toArray, List.set_cons_zero, List.set_cons_succ])
                    refine wpAnyH_tk 23 (v := ?vd23) rfl (by kernel_rfl) (by kernel_rfl) (by kernel_rfl) (fun _ _ _ h => h) (by rfl) ?hyd23 (by assumption) ?_
                    case hyd23 => (intro w hSw; (try dsimp only at hSw); go_simp <;> with_reducible rfl)
                    (try simp only [Act.put, List.setIfInBounds_toArray, List.set_cons_zero, List.set_cons_succ])
                    refine wpAnyH_done (by kernel_rfl) ?_ _
                    go_wp2
                    go_ret2
                    exact ⟨by rw [HR.out]; rfl, EFD.out⟩
    · have hpb : ((pot.length : Int) != (N : Int)) = true := by rw [bne_iff_ne]; omega
      have HR : Hid (shownB rs N way pot = false) := shown_len hpn
      clear hpn
      go_wp2
      go_ret2
      exact ⟨by rw [HR.out]; rfl, HE.out⟩

end Go.Proofs.Ytkbkgkmogbkabaa
