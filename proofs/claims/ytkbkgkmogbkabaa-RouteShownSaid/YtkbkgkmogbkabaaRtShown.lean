/-
  Contract of the reference's Shown.
-/
import Derived.Test.YtkbkgkmogbkabaaRtCheck
import Derived.Test.YtkbkgkmogbkabaaRtCost
namespace Go.Proofs.Ytkbkgkmogbkabaa
open Go.RowKit

set_option maxRecDepth 20000 in
set_option maxHeartbeats 16000000 in
theorem Shown_any (vr vw vp : Value) (N : Nat) (rs : List RoadD) (way pot : List Int) (w : World) (hv : Roads w vr rs) (hw : Ints w vw way) (hp : Ints w vp pot) (hok : mapOk ⟨N, rs⟩ = true) :
    Calls Try.prog 27 #[.agg #[.int .i64 N, vr], vw, vp] w fun e w' => e = .returned (.bool (shownB rs N way pot)) ∧ Ext w w' := by
  obtain ⟨ao, cap, rfl⟩ := hv.shape
  have HV := hid hv
  have HWI := hid hw
  have HPI := hid hp
  obtain ⟨hwl, aw, cw, rfl, hcw, -⟩ := hw
  obtain ⟨-, ap, cp, rfl, hcp, -⟩ := hp
  have hok2 := hok
  unfold mapOk at hok2
  rw [Bool.and_eq_true, decide_eq_true_iff, List.all_eq_true] at hok2
  obtain ⟨⟨h1, h8, h16⟩, hall⟩ := hok2
  dsimp only at h1 h8 h16 hall
  have hN8 : N ≤ 8 := by omega
  have HAll := hid hall
  have X0 := hid (Box2.alloc w 24 (.int .i64 N) (.slice ao rs.length cap))
  have HE0 := hid (Ext.ofAlloc w (.cells #[.int .i64 N, .slice ao rs.length cap] 24))
  clear hv hok hall
  by_cases hpn : pot.length = N
  · have hpb : ((pot.length : Int) != (N : Int)) = false := by rw [hpn]; simp
    have Hpn := hid hpn
    have hp8 : pot.length ≤ 8 := by omega
    clear hpn
    go_enter Try.func27, Try.ntmps27
    go_wp2
    generalize w.alloc (.cells #[.int .i64 N, .slice ao rs.length cap] 24) = W at *
    clear hpb
    go_loopg [20] pot.length (fun g i wr => ∃ j : Nat, j + g = pot.length ∧ i = .int .i64 j ∧ Hid (∀ x ∈ pot.take j, -1000 ≤ x ∧ x ≤ 1000) ∧ Hid (Ext W wr))
    case atStart => exact ⟨0, by omega, rfl, fun x hx => by simp at hx, Ext.refl _⟩
    case round =>
      obtain ⟨j, hj, rfl, PB, E⟩ := hrel
      have hjl : j ≤ pot.length := by omega
      have Hj := hid hj
      clear hj
      by_cases hjlt : j < pot.length
      · obtain ⟨bp, op, rfl, -, hce⟩ := HPI.out.get j hjlt
        have dj := hce _ (HE0.out.trans E.out)
        have Htk : Hid (pot.take (j + 1) = pot.take j ++ [fn pot j]) := by
          show _ = _
          rw [List.take_succ_eq_append_getElem hjlt, fn_get hjlt]
        have Hm : Hid (fn pot j ∈ pot) := by
          show _ ∈ _
          rw [fn_get hjlt]; exact List.getElem_mem _
        generalize fn pot j = x at *
        clear hce
        by_cases x0 : x < -1000
        · have HR : Hid (shownB rs N way pot = false) := shown_box Hm.out (.inl x0)
          go_wp2
          go_ret
          exact ⟨by rw [HR.out]; rfl, HE0.out.trans E.out⟩
        · by_cases x1 : 1000 < x
          · have HR : Hid (shownB rs N way pot = false) := shown_box Hm.out (.inr x1)
            go_wp2
            go_ret
            exact ⟨by rw [HR.out]; rfl, HE0.out.trans E.out⟩
          · have PB2 : Hid (∀ x ∈ pot.take (j + 1), -1000 ≤ x ∧ x ≤ 1000) := by
              intro y hy
              rw [Htk.out] at hy
              rcases List.mem_append.1 hy with h | h
              · exact PB.out y h
              · simp only [List.mem_singleton] at h
                subst h; omega
            go_wp2
            go_roundg (gk - 1)
            case rel => exact ⟨j + 1, by have := Hj.out; omega, by go_num, PB2.out, E.out⟩
            case measure => have := Hj.out; omega
      · have HPB : Hid (∀ x ∈ pot, -1000 ≤ x ∧ x ≤ 1000) := by
          have h := PB.out
          rw [List.take_of_length_le (by omega)] at h
          exact h
        obtain ⟨c0, c1⟩ := (X0.out.ext E.out).cells
        clear PB
        go_wp2
        clear c0 c1
        generalize wr = V at *
        go_loopg [34] rs.length (fun g i wr => ∃ j : Nat, j + g = rs.length ∧ i = .int .i64 j ∧ Hid (∀ r ∈ rs.take j, potB pot r) ∧ Hid (Ext V wr))
        case atStart => exact ⟨0, by omega, rfl, fun r hr => by simp at hr, Ext.refl _⟩
        case round =>
          obtain ⟨i, hi, rfl, ROK, E2⟩ := hrel
          have hil : i ≤ rs.length := by omega
          have Hi := hid hi
          clear hi
          by_cases hilt : i < rs.length
          · obtain ⟨bb, off, rfl, -, hcc⟩ := Roads.get HV.out i hilt
            obtain ⟨r0, r1, r2⟩ := hcc _ (HE0.out.trans (E.out.trans E2.out))
            have Hrm := hid (roadAt_mem hilt)
            obtain ⟨p1, p2, p3, p4, -, -, p7⟩ := roadOk_iff.1 (HAll.out _ (roadAt_mem hilt))
            have Htk : Hid (rs.take (i + 1) = rs.take i ++ [roadAt rs i]) := by
              show _ = _
              rw [List.take_succ_eq_append_getElem hilt, roadAt_get hilt]
            generalize roadAt rs i = r at *
            have hpl := Hpn.out
            have p2' : r.a < (pot.length : Int) := by omega
            have p4' : r.b < (pot.length : Int) := by omega
            obtain ⟨bp, op, rfl, hca⟩ := HPI.out.at r.a p1 p2'
            obtain ⟨bp2, op2, he2, hcb⟩ := HPI.out.at r.b p3 p4'
            simp only [Option.some.injEq, Addr.mk.injEq, and_true] at he2
            obtain ⟨rfl, rfl⟩ := he2
            have EA := hid (E2.out.alloc (.cells #[.int .i64 r.a, .int .i64 r.b, .int .i64 r.cost] 62))
            have da := hca _ (HE0.out.trans (E.out.trans EA.out))
            have db := hcb _ (HE0.out.trans (E.out.trans EA.out))
            obtain ⟨b0, b1, b2⟩ := (Box3.alloc wr 62 (.int .i64 r.a) (.int .i64 r.b) (.int .i64 r.cost)).cells
            have B2 := hid b2
            obtain ⟨pa, hpa⟩ : ∃ x, x = intAt pot r.a := ⟨_, rfl⟩
            obtain ⟨pb, hpb⟩ : ∃ x, x = intAt pot r.b := ⟨_, rfl⟩
            have ba := HPB.out _ (intAt_mem p1 p2')
            have bb' := HPB.out _ (intAt_mem p3 p4')
            rw [← hpa] at da ba
            rw [← hpb] at db bb'
            obtain ⟨d, hd⟩ : ∃ d, d = pa - pb := ⟨_, rfl⟩
            have hwd : IntKind.i64.wrap (pa - pb) = d := by rw [IntKind.wrap_i64]; omega
            have Hpd : Hid (pd pot r = d) := by show _ = _; unfold pd; rw [← hpa, ← hpb, hd]
            have hbd : -2000 ≤ d ∧ d ≤ 2000 := by omega
            clear hca hcb hcc hpa hpb hpl ba bb' hd
            go_wp2
            refine wp_region_held_drew (S := (fun w' => w'.cell? ⟨wr.heap.size, 0, none⟩ = some (.int .i64 r.a) ∧ w'.cell? ⟨wr.heap.size, 1, none⟩ = some (.int .i64 r.b) ∧ w'.cell? ⟨bp, op + r.a.toNat, none⟩ = some (.int .i64 pa) ∧ w'.cell? ⟨bp, op + r.b.toNat, none⟩ = some (.int .i64 pb))) (by kernel_rfl) ?hSa0 (fun hHeld => ?_)
            case hSa0 => (first | (exact ⟨b0, b1, da, db⟩) | ((try dsimp only); exact ⟨b0, b1, da, db⟩))
            refine wpAnyH_tk 0 (v := ?va0) rfl (by kernel_rfl) (by kernel_rfl) (by kernel_rfl) (fun _ _ _ h => h) (by rfl) ?hya0 (by assumption) ?_
            case hya0 => (intro w hSw; (try dsimp only at hSw); go_simp <;> with_reducible rfl)
            (try simp only [Act.put, List.setIfInBounds_toArray, List.set_cons_zero, List.set_cons_succ])
            refine wpAnyH_tk 1 (v := ?va1) rfl (by kernel_rfl) (by kernel_rfl) (by kernel_rfl) (fun _ _ _ h => h) (by rfl) ?hya1 (by assumption) ?_
            case hya1 => (intro w hSw; (try dsimp only at hSw); go_simp <;> with_reducible rfl)
            (try simp only [Act.put, List.setIfInBounds_toArray, List.set_cons_zero, List.set_cons_succ])
            refine wpAnyH_tk 2 (v := ?va2) rfl (by kernel_rfl) (by kernel_rfl) (by kernel_rfl) (fun _ _ _ h => h) (by rfl) ?hya2 (by assumption) ?_
            case hya2 => (intro w hSw; (try dsimp only at hSw); go_simp <;> with_reducible rfl)
            (try simp only [Act.put, List.setIfInBounds_toArray, List.set_cons_zero, List.set_cons_succ])
            refine wpAnyH_tk 3 (v := ?va3) rfl (by kernel_rfl) (by kernel_rfl) (by kernel_rfl) (fun _ _ _ h => h) (by rfl) ?hya3 (by assumption) ?_
            case hya3 => (intro w hSw; (try dsimp only at hSw); go_simp <;> with_reducible rfl)
            (try simp only [Act.put, List.setIfInBounds_toArray, List.set_cons_zero, List.set_cons_succ])
            refine wpAnyH_tk 4 (v := ?va4) rfl (by kernel_rfl) (by kernel_rfl) (by kernel_rfl) (fun _ _ _ h => h) (by rfl) ?hya4 (by assumption) ?_
            case hya4 => (intro w hSw; (try dsimp only at hSw); go_simp <;> with_reducible rfl)
            (try simp only [Act.put, List.setIfInBounds_toArray, List.set_cons_zero, List.set_cons_succ])
            refine wpAnyH_tk 5 (v := ?va5) rfl (by kernel_rfl) (by kernel_rfl) (by kernel_rfl) (fun _ _ _ h => h) (by rfl) ?hya5 (by assumption) ?_
            case hya5 => (intro w hSw; (try dsimp only at hSw); go_simp <;> with_reducible rfl)
            (try simp only [Act.put, List.setIfInBounds_toArray, List.set_cons_zero, List.set_cons_succ])
            refine wpAnyH_tk 6 (v := ?va6) rfl (by kernel_rfl) (by kernel_rfl) (by kernel_rfl) (fun _ _ _ h => h) (by rfl) ?hya6 (by assumption) ?_
            case hya6 => (intro w hSw; (try dsimp only at hSw); go_simp <;> with_reducible rfl)
            (try simp only [Act.put, List.setIfInBounds_toArray, List.set_cons_zero, List.set_cons_succ])
            refine wpAnyH_tk 7 (v := ?va7) rfl (by kernel_rfl) (by kernel_rfl) (by kernel_rfl) (fun _ _ _ h => h) (by rfl) ?hya7 (by assumption) ?_
            case hya7 => (intro w hSw; (try dsimp only at hSw); go_simp <;> with_reducible rfl)
            (try simp only [Act.put, List.setIfInBounds_toArray, List.set_cons_zero, List.set_cons_succ])
            refine wpAnyH_tk 8 (v := ?va8) rfl (by kernel_rfl) (by kernel_rfl) (by kernel_rfl) (fun _ _ _ h => h) (by rfl) ?hya8 (by assumption) ?_
            case hya8 => (intro w hSw; (try dsimp only at hSw); go_simp <;> with_reducible rfl)
            (try simp only [Act.put, List.setIfInBounds_toArray, List.set_cons_zero, List.set_cons_succ])
            refine wpAnyH_tk 9 (v := ?va9) rfl (by kernel_rfl) (by kernel_rfl) (by kernel_rfl) (fun _ _ _ h => h) (by rfl) ?hya9 (by assumption) ?_
            case hya9 => (intro w hSw; (try dsimp only at hSw); go_simp <;> with_reducible rfl)
            (try simp only [Act.put, List.setIfInBounds_toArray, List.set_cons_zero, List.set_cons_succ])
            refine wpAnyH_tk 10 (v := ?va10) rfl (by kernel_rfl) (by kernel_rfl) (by kernel_rfl) (fun _ _ _ h => h) (by rfl) ?hya10 (by assumption) ?_
            case hya10 => (intro w hSw; (try dsimp only at hSw); go_simp <;> with_reducible rfl)
            (try simp only [Act.put, List.setIfInBounds_toArray, List.set_cons_zero, List.set_cons_succ])
            refine wpAnyH_tk 11 (v := ?va11) rfl (by kernel_rfl) (by kernel_rfl) (by kernel_rfl) (fun _ _ _ h => h) (by rfl) ?hya11 (by assumption) ?_
            case hya11 => (intro w hSw; (try dsimp only at hSw); go_simp <;> with_reducible rfl)
            (try simp only [Act.put, List.setIfInBounds_toArray, List.set_cons_zero, List.set_cons_succ])
            refine wpAnyH_done (by kernel_rfl) ?_ _
            have EA2 := hid (EA.out.drew)
            have dc := (Ext.refl (wr.alloc (.cells #[.int .i64 r.a, .int .i64 r.b, .int .i64 r.cost] 62))).drew.cell B2.out
            have hwn : IntKind.i64.wrap (-d) = -d := by rw [IntKind.wrap_i64]; omega
            clear da db b0 b1 b2 r0 r1 r2 hHeld hwd p1 p2 p3 p4 p2' p4'
            generalize (wr.alloc (.cells #[.int .i64 r.a, .int .i64 r.b, .int .i64 r.cost] 62)).drew = wq at EA2 dc ⊢
            by_cases k1 : r.cost < d
            · have HR : Hid (shownB rs N way pot = false) := shown_road Hrm.out (fun h => by unfold potB at h; rw [Hpd.out] at h; omega)
              go_wp2
              go_ret
              exact ⟨by rw [HR.out]; rfl, HE0.out.trans (E.out.trans EA2.out)⟩
            · by_cases k2 : r.cost < -d
              · have HR : Hid (shownB rs N way pot = false) := shown_road Hrm.out (fun h => by unfold potB at h; rw [Hpd.out] at h; omega)
                go_wp2
                go_ret
                exact ⟨by rw [HR.out]; rfl, HE0.out.trans (E.out.trans EA2.out)⟩
              · have ROK2 : Hid (∀ r' ∈ rs.take (i + 1), potB pot r') := by
                  intro r' hr'
                  rw [Htk.out] at hr'
                  rcases List.mem_append.1 hr' with h | h
                  · exact ROK.out r' h
                  · simp only [List.mem_singleton] at h
                    subst h
                    unfold potB
                    rw [Hpd.out]; omega
                go_wp2
                go_roundg (gk - 1)
                case rel => exact ⟨i + 1, by have := Hi.out; omega, by go_num, ROK2.out, EA2.out⟩
                case measure => have := Hi.out; omega
          · have HRO : Hid (∀ r ∈ rs, potB pot r) := by
              have h := ROK.out
              rw [List.take_of_length_le (by omega)] at h
              exact h
            obtain ⟨c0, c1⟩ := (X0.out.ext (E.out.trans E2.out)).cells
            have EF := hid (HE0.out.trans (E.out.trans E2.out))
            clear ROK
            go_wp2_with (fail)
            refine (Cost_any _ _ N rs way _ (Roads.ext HV.out EF.out) HAll.out (HWI.out.ext EF.out)).mono ?_
            rintro e w9 ⟨rfl, he⟩
            obtain ⟨s, hs⟩ : ∃ s, s = costR rs N way := ⟨_, rfl⟩
            rw [← hs]
            have Hcost := hid hs.symm
            have E9 := hid (EF.out.trans he)
            have EFD := hid E9.out.drew
            clear c0 c1 he hs
            by_cases hs0 : 0 ≤ s
            · have hfb : decide (0 ≤ s) = true := decide_eq_true hs0
              have hwpos : 0 < way.length := by
                rcases Nat.eq_zero_or_pos way.length with h | h
                · exfalso
                  have := Hcost.out
                  unfold costR at this
                  rw [if_pos (List.eq_nil_of_length_eq_zero h)] at this
                  omega
                · exact h
              have hcs : cst rs N way way.length = some s := by
                have h := Hcost.out
                unfold costR at h
                rw [if_neg (fun h => by rw [h] at hwpos; simp at hwpos)] at h
                cases e : cst rs N way way.length with
                | none =>
                  rw [e] at h
                  have h2 : (-1 : Int) = s := h
                  omega
                | some t =>
                  rw [e] at h
                  have h2 : t = s := h
                  rw [h2]
              obtain ⟨-, hrange⟩ := cst_range hcs (Nat.le_refl _)
              rw [List.take_length] at hrange
              have hl1 := hrange _ (intAt_mem (l := way) (i := ((way.length - 1 : Nat) : Int)) (by omega) (by omega))
              have hl0 := hrange _ (intAt_mem (l := way) (i := ((0 : Nat) : Int)) (by omega) (by omega))
              obtain ⟨bw, ow, rfl, -, hce⟩ := HWI.out.get (way.length - 1) (by omega)
              obtain ⟨bw2, ow2, he2, -, hcf⟩ := HWI.out.get 0 (by omega)
              simp only [Option.some.injEq, Addr.mk.injEq, and_true] at he2
              obtain ⟨rfl, rfl⟩ := he2
              have dl := hce _ EFD.out
              have d0 := hcf _ EFD.out
              rw [Nat.add_zero] at d0
              obtain ⟨xl, hxl⟩ : ∃ x, x = lastI way := ⟨_, rfl⟩
              obtain ⟨xf, hxf⟩ : ∃ x, x = fn way 0 := ⟨_, rfl⟩
              have hl1' : 0 ≤ xl ∧ xl < N := by rw [hxl]; exact hl1
              have hl0' : 0 ≤ xf ∧ xf < N := by rw [hxf]; exact hl0
              change (World.cell? _ _ = some (.int .i64 (lastI way))) at dl
              rw [← hxl] at dl
              rw [← hxf] at d0
              have hpl := Hpn.out
              have q1 : xl < (pot.length : Int) := by omega
              have q2 : xf < (pot.length : Int) := by omega
              obtain ⟨bp, op, rfl, hca⟩ := HPI.out.at xl hl1'.1 q1
              obtain ⟨bp2, op2, he2, hcb⟩ := HPI.out.at xf hl0'.1 q2
              simp only [Option.some.injEq, Addr.mk.injEq, and_true] at he2
              obtain ⟨rfl, rfl⟩ := he2
              have ea := hca _ EFD.out
              have eb := hcb _ EFD.out
              obtain ⟨pa, hpa⟩ : ∃ x, x = intAt pot xl := ⟨_, rfl⟩
              obtain ⟨pb, hpb⟩ : ∃ x, x = intAt pot xf := ⟨_, rfl⟩
              have ba := HPB.out _ (intAt_mem hl1'.1 q1)
              have bb' := HPB.out _ (intAt_mem hl0'.1 q2)
              rw [← hpa] at ea ba
              rw [← hpb] at eb bb'
              have hwd : IntKind.i64.wrap (pa - pb) = pa - pb := by rw [IntKind.wrap_i64]; omega
              have hk1 : ((way.length : Int) - 1).toNat = way.length - 1 := by omega
              have hk2 : IntKind.i64.wrap ((way.length : Int) - 1) = (way.length : Int) - 1 := by rw [IntKind.wrap_i64]; omega
              have hk3 : (1 : Int) ≤ (way.length : Int) := by omega
              have hk5 : (0 : Int) < (way.length : Int) := by omega
              have hk4 : (way.length : Int) - 1 < (way.length : Int) := by omega
              have hz1 := hl1'.1
              have hz2 := hl0'.1
              have Hval : Hid (intAt pot (lastI way) - intAt pot (fn way 0) = pa - pb) := by show _ = _; rw [hpa, hpb, hxl, hxf]
              have Hs0 := hid hs0
              clear hca hcb hce hcf hpa hpb hpl hl1 hl0 hxl hxf hcs hrange ba bb' hs0
              by_cases he : pa - pb = s
              · have heb : (pa - pb == s) = true := beq_iff_eq.2 he
                have HR : Hid (shownB rs N way pot = true) := shown_yes Hpn.out HPB.out HRO.out (by rw [Hcost.out]; exact Hs0.out) (by rw [Hval.out, Hcost.out]; exact he)
                clear he
                go_wp2
                refine wp_region_held_drew (S := (fun w' => w'.cell? ⟨bw, ow + (way.length - 1), none⟩ = some (.int .i64 xl) ∧ w'.cell? ⟨bw, ow, none⟩ = some (.int .i64 xf) ∧ w'.cell? ⟨bp, op + xl.toNat, none⟩ = some (.int .i64 pa) ∧ w'.cell? ⟨bp, op + xf.toNat, none⟩ = some (.int .i64 pb))) (by kernel_rfl) ?hSb0 (fun hHeld => ?_)
                case hSb0 => (first | (exact ⟨dl, d0, ea, eb⟩) | ((try dsimp only); exact ⟨dl, d0, ea, eb⟩))
                refine wpAnyH_tk 0 (v := ?vb0) rfl (by kernel_rfl) (by kernel_rfl) (by kernel_rfl) (fun _ _ _ h => h) (by rfl) ?hyb0 (by assumption) ?_
                case hyb0 => (intro w hSw; (try dsimp only at hSw); go_simp <;> with_reducible rfl)
                (try simp only [Act.put, List.setIfInBounds_toArray, List.set_cons_zero, List.set_cons_succ])
                refine wpAnyH_tk 1 (v := ?vb1) rfl (by kernel_rfl) (by kernel_rfl) (by kernel_rfl) (fun _ _ _ h => h) (by rfl) ?hyb1 (by assumption) ?_
                case hyb1 => (intro w hSw; (try dsimp only at hSw); go_simp <;> with_reducible rfl)
                (try simp only [Act.put, List.setIfInBounds_toArray, List.set_cons_zero, List.set_cons_succ])
                refine wpAnyH_tk 2 (v := ?vb2) rfl (by kernel_rfl) (by kernel_rfl) (by kernel_rfl) (fun _ _ _ h => h) (by rfl) ?hyb2 (by assumption) ?_
                case hyb2 => (intro w hSw; (try dsimp only at hSw); go_simp <;> with_reducible rfl)
                (try simp only [Act.put, List.setIfInBounds_toArray, List.set_cons_zero, List.set_cons_succ])
                refine wpAnyH_tk 3 (v := ?vb3) rfl (by kernel_rfl) (by kernel_rfl) (by kernel_rfl) (fun _ _ _ h => h) (by rfl) ?hyb3 (by assumption) ?_
                case hyb3 => (intro w hSw; (try dsimp only at hSw); go_simp <;> with_reducible rfl)
                (try simp only [Act.put, List.setIfInBounds_toArray, List.set_cons_zero, List.set_cons_succ])
                refine wpAnyH_tk 4 (v := ?vb4) rfl (by kernel_rfl) (by kernel_rfl) (by kernel_rfl) (fun _ _ _ h => h) (by rfl) ?hyb4 (by assumption) ?_
                case hyb4 => (intro w hSw; (try dsimp only at hSw); go_simp <;> with_reducible rfl)
                (try simp only [Act.put, List.setIfInBounds_toArray, List.set_cons_zero, List.set_cons_succ])
                refine wpAnyH_tk 5 (v := ?vb5) rfl (by kernel_rfl) (by kernel_rfl) (by kernel_rfl) (fun _ _ _ h => h) (by rfl) ?hyb5 (by assumption) ?_
                case hyb5 => (intro w hSw; (try dsimp only at hSw); go_simp <;> with_reducible rfl)
                (try simp only [Act.put, List.setIfInBounds_toArray, List.set_cons_zero, List.set_cons_succ])
                refine wpAnyH_tk 6 (v := ?vb6) rfl (by kernel_rfl) (by kernel_rfl) (by kernel_rfl) (fun _ _ _ h => h) (by rfl) ?hyb6 (by assumption) ?_
                case hyb6 => (intro w hSw; (try dsimp only at hSw); go_simp <;> with_reducible rfl)
                (try simp only [Act.put, List.setIfInBounds_toArray, List.set_cons_zero, List.set_cons_succ])
                refine wpAnyH_tk 7 (v := ?vb7) rfl (by kernel_rfl) (by kernel_rfl) (by kernel_rfl) (fun _ _ _ h => h) (by rfl) ?hyb7 (by assumption) ?_
                case hyb7 => (intro w hSw; (try dsimp only at hSw); go_simp <;> with_reducible rfl)
                (try simp only [Act.put, List.setIfInBounds_toArray, List.set_cons_zero, List.set_cons_succ])
                refine wpAnyH_tk 8 (v := ?vb8) rfl (by kernel_rfl) (by kernel_rfl) (by kernel_rfl) (fun _ _ _ h => h) (by rfl) ?hyb8 (by assumption) ?_
                case hyb8 => (intro w hSw; (try dsimp only at hSw); go_simp <;> with_reducible rfl)
                (try simp only [Act.put, List.setIfInBounds_toArray, List.set_cons_zero, List.set_cons_succ])
                refine wpAnyH_tk 9 (v := ?vb9) rfl (by kernel_rfl) (by kernel_rfl) (by kernel_rfl) (fun _ _ _ h => h) (by rfl) ?hyb9 (by assumption) ?_
                case hyb9 => (intro w hSw; (try dsimp only at hSw); go_simp <;> with_reducible rfl)
                (try simp only [Act.put, List.setIfInBounds_toArray, List.set_cons_zero, List.set_cons_succ])
                refine wpAnyH_tk 10 (v := ?vb10) rfl (by kernel_rfl) (by kernel_rfl) (by kernel_rfl) (fun _ _ _ h => h) (by rfl) ?hyb10 (by assumption) ?_
                case hyb10 => (intro w hSw; (try dsimp only at hSw); go_simp <;> with_reducible rfl)
                (try simp only [Act.put, List.setIfInBounds_toArray, List.set_cons_zero, List.set_cons_succ])
                refine wpAnyH_tk 11 (v := ?vb11) rfl (by kernel_rfl) (by kernel_rfl) (by kernel_rfl) (fun _ _ _ h => h) (by rfl) ?hyb11 (by assumption) ?_
                case hyb11 => (intro w hSw; (try dsimp only at hSw); go_simp <;> with_reducible rfl)
                (try simp only [Act.put, List.setIfInBounds_toArray, List.set_cons_zero, List.set_cons_succ])
                refine wpAnyH_tk 12 (v := ?vb12) rfl (by kernel_rfl) (by kernel_rfl) (by kernel_rfl) (fun _ _ _ h => h) (by rfl) ?hyb12 (by assumption) ?_
                case hyb12 => (intro w hSw; (try dsimp only at hSw); go_simp <;> with_reducible rfl)
                (try simp only [Act.put, List.setIfInBounds_toArray, List.set_cons_zero, List.set_cons_succ])
                refine wpAnyH_tk 13 (v := ?vb13) rfl (by kernel_rfl) (by kernel_rfl) (by kernel_rfl) (fun _ _ _ h => h) (by rfl) ?hyb13 (by assumption) ?_
                case hyb13 => (intro w hSw; (try dsimp only at hSw); go_simp <;> with_reducible rfl)
                (try simp only [Act.put, List.setIfInBounds_toArray, List.set_cons_zero, List.set_cons_succ])
                refine wpAnyH_tk 14 (v := ?vb14) rfl (by kernel_rfl) (by kernel_rfl) (by kernel_rfl) (fun _ _ _ h => h) (by rfl) ?hyb14 (by assumption) ?_
                case hyb14 => (intro w hSw; (try dsimp only at hSw); go_simp <;> with_reducible rfl)
                (try simp only [Act.put, List.setIfInBounds_toArray, List.set_cons_zero, List.set_cons_succ])
                refine wpAnyH_tk 15 (v := ?vb15) rfl (by kernel_rfl) (by kernel_rfl) (by kernel_rfl) (fun _ _ _ h => h) (by rfl) ?hyb15 (by assumption) ?_
                case hyb15 => (intro w hSw; (try dsimp only at hSw); go_simp <;> with_reducible rfl)
                (try simp only [Act.put, List.setIfInBounds_toArray, List.set_cons_zero, List.set_cons_succ])
                refine wpAnyH_tk 16 (v := ?vb16) rfl (by kernel_rfl) (by kernel_rfl) (by kernel_rfl) (fun _ _ _ h => h) (by rfl) ?hyb16 (by assumption) ?_
                case hyb16 => (intro w hSw; (try dsimp only at hSw); go_simp <;> with_reducible rfl)
                (try simp only [Act.put, List.setIfInBounds_toArray, List.set_cons_zero, List.set_cons_succ])
                refine wpAnyH_tk 17 (v := ?vb17) rfl (by kernel_rfl) (by kernel_rfl) (by kernel_rfl) (fun _ _ _ h => h) (by rfl) ?hyb17 (by assumption) ?_
                case hyb17 => (intro w hSw; (try dsimp only at hSw); go_simp <;> with_reducible rfl)
                (try simp only [Act.put, List.setIfInBounds_toArray, List.set_cons_zero, List.set_cons_succ])
                refine wpAnyH_tk 18 (v := ?vb18) rfl (by kernel_rfl) (by kernel_rfl) (by kernel_rfl) (fun _ _ _ h => h) (by rfl) ?hyb18 (by assumption) ?_
                case hyb18 => (intro w hSw; (try dsimp only at hSw); go_simp <;> with_reducible rfl)
                (try simp only [Act.put, List.setIfInBounds_toArray, List.set_cons_zero, List.set_cons_succ])
                refine wpAnyH_tk 19 (v := ?vb19) rfl (by kernel_rfl) (by kernel_rfl) (by kernel_rfl) (fun _ _ _ h => h) (by rfl) ?hyb19 (by assumption) ?_
                case hyb19 => (intro w hSw; (try dsimp only at hSw); go_simp <;> with_reducible rfl)
                (try simp only [Act.put, List.setIfInBounds_toArray, List.set_cons_zero, List.set_cons_succ])
                refine wpAnyH_tk 20 (v := ?vb20) rfl (by kernel_rfl) (by kernel_rfl) (by kernel_rfl) (fun _ _ _ h => h) (by rfl) ?hyb20 (by assumption) ?_
                case hyb20 => (intro w hSw; (try dsimp only at hSw); go_simp <;> with_reducible rfl)
                (try simp only [Act.put, List.setIfInBounds_toArray, List.set_cons_zero, List.set_cons_succ])
                refine wpAnyH_tk 21 (v := ?vb21) rfl (by kernel_rfl) (by kernel_rfl) (by kernel_rfl) (fun _ _ _ h => h) (by rfl) ?hyb21 (by assumption) ?_
                case hyb21 => (intro w hSw; (try dsimp only at hSw); go_simp <;> with_reducible rfl)
                (try simp only [Act.put, List.setIfInBounds_toArray, List.set_cons_zero, List.set_cons_succ])
                refine wpAnyH_tk 22 (v := ?vb22) rfl (by kernel_rfl) (by kernel_rfl) (by kernel_rfl) (fun _ _ _ h => h) (by rfl) ?hyb22 (by assumption) ?_
                case hyb22 => (intro w hSw; (try dsimp only at hSw); go_simp <;> with_reducible rfl)
                (try simp only [Act.put, List.setIfInBounds_toArray, List.set_cons_zero, List.set_cons_succ])
                refine wpAnyH_done (by kernel_rfl) ?_ _
                clear dl d0 ea eb hHeld
                go_wp2
                go_ret
                exact ⟨by rw [HR.out]; rfl, EFD.out⟩
              · have heb : (pa - pb == s) = false := beq_eq_false_iff_ne.2 he
                have HR : Hid (shownB rs N way pot = false) := shown_last (by rw [Hval.out, Hcost.out]; exact he)
                clear he
                go_wp2
                refine wp_region_held_drew (S := (fun w' => w'.cell? ⟨bw, ow + (way.length - 1), none⟩ = some (.int .i64 xl) ∧ w'.cell? ⟨bw, ow, none⟩ = some (.int .i64 xf) ∧ w'.cell? ⟨bp, op + xl.toNat, none⟩ = some (.int .i64 pa) ∧ w'.cell? ⟨bp, op + xf.toNat, none⟩ = some (.int .i64 pb))) (by kernel_rfl) ?hSc0 (fun hHeld => ?_)
                case hSc0 => (first | (exact ⟨dl, d0, ea, eb⟩) | ((try dsimp only); exact ⟨dl, d0, ea, eb⟩))
                refine wpAnyH_tk 0 (v := ?vc0) rfl (by kernel_rfl) (by kernel_rfl) (by kernel_rfl) (fun _ _ _ h => h) (by rfl) ?hyc0 (by assumption) ?_
                case hyc0 => (intro w hSw; (try dsimp only at hSw); go_simp <;> with_reducible rfl)
                (try simp only [Act.put, List.setIfInBounds_toArray, List.set_cons_zero, List.set_cons_succ])
                refine wpAnyH_tk 1 (v := ?vc1) rfl (by kernel_rfl) (by kernel_rfl) (by kernel_rfl) (fun _ _ _ h => h) (by rfl) ?hyc1 (by assumption) ?_
                case hyc1 => (intro w hSw; (try dsimp only at hSw); go_simp <;> with_reducible rfl)
                (try simp only [Act.put, List.setIfInBounds_toArray, List.set_cons_zero, List.set_cons_succ])
                refine wpAnyH_tk 2 (v := ?vc2) rfl (by kernel_rfl) (by kernel_rfl) (by kernel_rfl) (fun _ _ _ h => h) (by rfl) ?hyc2 (by assumption) ?_
                case hyc2 => (intro w hSw; (try dsimp only at hSw); go_simp <;> with_reducible rfl)
                (try simp only [Act.put, List.setIfInBounds_toArray, List.set_cons_zero, List.set_cons_succ])
                refine wpAnyH_tk 3 (v := ?vc3) rfl (by kernel_rfl) (by kernel_rfl) (by kernel_rfl) (fun _ _ _ h => h) (by rfl) ?hyc3 (by assumption) ?_
                case hyc3 => (intro w hSw; (try dsimp only at hSw); go_simp <;> with_reducible rfl)
                (try simp only [Act.put, List.setIfInBounds_toArray, List.set_cons_zero, List.set_cons_succ])
                refine wpAnyH_tk 4 (v := ?vc4) rfl (by kernel_rfl) (by kernel_rfl) (by kernel_rfl) (fun _ _ _ h => h) (by rfl) ?hyc4 (by assumption) ?_
                case hyc4 => (intro w hSw; (try dsimp only at hSw); go_simp <;> with_reducible rfl)
                (try simp only [Act.put, List.setIfInBounds_toArray, List.set_cons_zero, List.set_cons_succ])
                refine wpAnyH_tk 5 (v := ?vc5) rfl (by kernel_rfl) (by kernel_rfl) (by kernel_rfl) (fun _ _ _ h => h) (by rfl) ?hyc5 (by assumption) ?_
                case hyc5 => (intro w hSw; (try dsimp only at hSw); go_simp <;> with_reducible rfl)
                (try simp only [Act.put, List.setIfInBounds_toArray, List.set_cons_zero, List.set_cons_succ])
                refine wpAnyH_tk 6 (v := ?vc6) rfl (by kernel_rfl) (by kernel_rfl) (by kernel_rfl) (fun _ _ _ h => h) (by rfl) ?hyc6 (by assumption) ?_
                case hyc6 => (intro w hSw; (try dsimp only at hSw); go_simp <;> with_reducible rfl)
                (try simp only [Act.put, List.setIfInBounds_toArray, List.set_cons_zero, List.set_cons_succ])
                refine wpAnyH_tk 7 (v := ?vc7) rfl (by kernel_rfl) (by kernel_rfl) (by kernel_rfl) (fun _ _ _ h => h) (by rfl) ?hyc7 (by assumption) ?_
                case hyc7 => (intro w hSw; (try dsimp only at hSw); go_simp <;> with_reducible rfl)
                (try simp only [Act.put, List.setIfInBounds_toArray, List.set_cons_zero, List.set_cons_succ])
                refine wpAnyH_tk 8 (v := ?vc8) rfl (by kernel_rfl) (by kernel_rfl) (by kernel_rfl) (fun _ _ _ h => h) (by rfl) ?hyc8 (by assumption) ?_
                case hyc8 => (intro w hSw; (try dsimp only at hSw); go_simp <;> with_reducible rfl)
                (try simp only [Act.put, List.setIfInBounds_toArray, List.set_cons_zero, List.set_cons_succ])
                refine wpAnyH_tk 9 (v := ?vc9) rfl (by kernel_rfl) (by kernel_rfl) (by kernel_rfl) (fun _ _ _ h => h) (by rfl) ?hyc9 (by assumption) ?_
                case hyc9 => (intro w hSw; (try dsimp only at hSw); go_simp <;> with_reducible rfl)
                (try simp only [Act.put, List.setIfInBounds_toArray, List.set_cons_zero, List.set_cons_succ])
                refine wpAnyH_tk 10 (v := ?vc10) rfl (by kernel_rfl) (by kernel_rfl) (by kernel_rfl) (fun _ _ _ h => h) (by rfl) ?hyc10 (by assumption) ?_
                case hyc10 => (intro w hSw; (try dsimp only at hSw); go_simp <;> with_reducible rfl)
                (try simp only [Act.put, List.setIfInBounds_toArray, List.set_cons_zero, List.set_cons_succ])
                refine wpAnyH_tk 11 (v := ?vc11) rfl (by kernel_rfl) (by kernel_rfl) (by kernel_rfl) (fun _ _ _ h => h) (by rfl) ?hyc11 (by assumption) ?_
                case hyc11 => (intro w hSw; (try dsimp only at hSw); go_simp <;> with_reducible rfl)
                (try simp only [Act.put, List.setIfInBounds_toArray, List.set_cons_zero, List.set_cons_succ])
                refine wpAnyH_tk 12 (v := ?vc12) rfl (by kernel_rfl) (by kernel_rfl) (by kernel_rfl) (fun _ _ _ h => h) (by rfl) ?hyc12 (by assumption) ?_
                case hyc12 => (intro w hSw; (try dsimp only at hSw); go_simp <;> with_reducible rfl)
                (try simp only [Act.put, List.setIfInBounds_toArray, List.set_cons_zero, List.set_cons_succ])
                refine wpAnyH_tk 13 (v := ?vc13) rfl (by kernel_rfl) (by kernel_rfl) (by kernel_rfl) (fun _ _ _ h => h) (by rfl) ?hyc13 (by assumption) ?_
                case hyc13 => (intro w hSw; (try dsimp only at hSw); go_simp <;> with_reducible rfl)
                (try simp only [Act.put, List.setIfInBounds_toArray, List.set_cons_zero, List.set_cons_succ])
                refine wpAnyH_tk 14 (v := ?vc14) rfl (by kernel_rfl) (by kernel_rfl) (by kernel_rfl) (fun _ _ _ h => h) (by rfl) ?hyc14 (by assumption) ?_
                case hyc14 => (intro w hSw; (try dsimp only at hSw); go_simp <;> with_reducible rfl)
                (try simp only [Act.put, List.setIfInBounds_toArray, List.set_cons_zero, List.set_cons_succ])
                refine wpAnyH_tk 15 (v := ?vc15) rfl (by kernel_rfl) (by kernel_rfl) (by kernel_rfl) (fun _ _ _ h => h) (by rfl) ?hyc15 (by assumption) ?_
                case hyc15 => (intro w hSw; (try dsimp only at hSw); go_simp <;> with_reducible rfl)
                (try simp only [Act.put, List.setIfInBounds_toArray, List.set_cons_zero, List.set_cons_succ])
                refine wpAnyH_tk 16 (v := ?vc16) rfl (by kernel_rfl) (by kernel_rfl) (by kernel_rfl) (fun _ _ _ h => h) (by rfl) ?hyc16 (by assumption) ?_
                case hyc16 => (intro w hSw; (try dsimp only at hSw); go_simp <;> with_reducible rfl)
                (try simp only [Act.put, List.setIfInBounds_toArray, List.set_cons_zero, List.set_cons_succ])
                refine wpAnyH_tk 17 (v := ?vc17) rfl (by kernel_rfl) (by kernel_rfl) (by kernel_rfl) (fun _ _ _ h => h) (by rfl) ?hyc17 (by assumption) ?_
                case hyc17 => (intro w hSw; (try dsimp only at hSw); go_simp <;> with_reducible rfl)
                (try simp only [Act.put, List.setIfInBounds_toArray, List.set_cons_zero, List.set_cons_succ])
                refine wpAnyH_tk 18 (v := ?vc18) rfl (by kernel_rfl) (by kernel_rfl) (by kernel_rfl) (fun _ _ _ h => h) (by rfl) ?hyc18 (by assumption) ?_
                case hyc18 => (intro w hSw; (try dsimp only at hSw); go_simp <;> with_reducible rfl)
                (try simp only [Act.put, List.setIfInBounds_toArray, List.set_cons_zero, List.set_cons_succ])
                refine wpAnyH_tk 19 (v := ?vc19) rfl (by kernel_rfl) (by kernel_rfl) (by kernel_rfl) (fun _ _ _ h => h) (by rfl) ?hyc19 (by assumption) ?_
                case hyc19 => (intro w hSw; (try dsimp only at hSw); go_simp <;> with_reducible rfl)
                (try simp only [Act.put, List.setIfInBounds_toArray, List.set_cons_zero, List.set_cons_succ])
                refine wpAnyH_tk 20 (v := ?vc20) rfl (by kernel_rfl) (by kernel_rfl) (by kernel_rfl) (fun _ _ _ h => h) (by rfl) ?hyc20 (by assumption) ?_
                case hyc20 => (intro w hSw; (try dsimp only at hSw); go_simp <;> with_reducible rfl)
                (try simp only [Act.put, List.setIfInBounds_toArray, List.set_cons_zero, List.set_cons_succ])
                refine wpAnyH_tk 21 (v := ?vc21) rfl (by kernel_rfl) (by kernel_rfl) (by kernel_rfl) (fun _ _ _ h => h) (by rfl) ?hyc21 (by assumption) ?_
                case hyc21 => (intro w hSw; (try dsimp only at hSw); go_simp <;> with_reducible rfl)
                (try simp only [Act.put, List.setIfInBounds_toArray, List.set_cons_zero, List.set_cons_succ])
                refine wpAnyH_tk 22 (v := ?vc22) rfl (by kernel_rfl) (by kernel_rfl) (by kernel_rfl) (fun _ _ _ h => h) (by rfl) ?hyc22 (by assumption) ?_
                case hyc22 => (intro w hSw; (try dsimp only at hSw); go_simp <;> with_reducible rfl)
                (try simp only [Act.put, List.setIfInBounds_toArray, List.set_cons_zero, List.set_cons_succ])
                refine wpAnyH_done (by kernel_rfl) ?_ _
                clear dl d0 ea eb hHeld
                go_wp2
                go_ret
                exact ⟨by rw [HR.out]; rfl, EFD.out⟩
            · have hfb : decide (0 ≤ s) = false := decide_eq_false hs0
              have HR : Hid (shownB rs N way pot = false) := shown_cost (by rw [Hcost.out]; omega)
              clear hs0
              go_wp2
              refine wp_region_held_drew (S := (fun _ => True)) (by kernel_rfl) ?hSd0 (fun hHeld => ?_)
              case hSd0 => (first | (trivial) | ((try dsimp only); trivial))
              refine wpAnyH_tk 0 (v := ?vd0) rfl (by kernel_rfl) (by kernel_rfl) (by kernel_rfl) (fun _ _ _ h => h) (by rfl) ?hyd0 (by assumption) ?_
              case hyd0 => (intro w hSw; (try dsimp only at hSw); go_simp <;> with_reducible rfl)
              (try simp only [Act.put, List.setIfInBounds_toArray, List.set_cons_zero, List.set_cons_succ])
              refine wpAnyH_tk 1 (v := ?vd1) rfl (by kernel_rfl) (by kernel_rfl) (by kernel_rfl) (fun _ _ _ h => h) (by rfl) ?hyd1 (by assumption) ?_
              case hyd1 => (intro w hSw; (try dsimp only at hSw); go_simp <;> with_reducible rfl)
              (try simp only [Act.put, List.setIfInBounds_toArray, List.set_cons_zero, List.set_cons_succ])
              refine wpAnyH_tk 2 (v := ?vd2) rfl (by kernel_rfl) (by kernel_rfl) (by kernel_rfl) (fun _ _ _ h => h) (by rfl) ?hyd2 (by assumption) ?_
              case hyd2 => (intro w hSw; (try dsimp only at hSw); go_simp <;> with_reducible rfl)
              (try simp only [Act.put, List.setIfInBounds_toArray, List.set_cons_zero, List.set_cons_succ])
              refine wpAnyH_skips 2 true 66 2 (by kernel_rfl) rfl (fun _ _ _ _ _ h => h) [3, 4, 5, 6, 7, 8, 9, 10, 11, 12, 13, 14, 15, 16, 17, 18, 19, 20] [67, 68, 69, 70, 71, 72, 73, 74, 75, 76, 77, 78, 79, 80, 81, 82, 83, 84] _ _ _ rfl (by kernel_rfl) (by rfl) (by assumption) ?_
              (try simp only [putsAll, List.foldl, Act.put, List.setIfInBounds_toArray, List.set_cons_zero, List.set_cons_succ])
              refine wpAnyH_tk 21 (v := ?vd21) rfl (by kernel_rfl) (by kernel_rfl) (by kernel_rfl) (fun _ _ _ h => h) (by rfl) ?hyd21 (by assumption) ?_
              case hyd21 => (intro w hSw; (try dsimp only at hSw); go_simp <;> with_reducible rfl)
              (try simp only [Act.put, List.setIfInBounds_toArray, List.set_cons_zero, List.set_cons_succ])
              refine wpAnyH_tk 22 (v := ?vd22) rfl (by kernel_rfl) (by kernel_rfl) (by kernel_rfl) (fun _ _ _ h => h) (by rfl) ?hyd22 (by assumption) ?_
              case hyd22 => (intro w hSw; (try dsimp only at hSw); go_simp <;> with_reducible rfl)
              (try simp only [Act.put, List.setIfInBounds_toArray, List.set_cons_zero, List.set_cons_succ])
              refine wpAnyH_done (by kernel_rfl) ?_ _
              go_wp2
              go_ret
              exact ⟨by rw [HR.out]; rfl, EFD.out⟩
  · have hpb : ((pot.length : Int) != (N : Int)) = true := by rw [bne_iff_ne]; omega
    have HR : Hid (shownB rs N way pot = false) := shown_len hpn
    clear hpn
    go_enter Try.func27, Try.ntmps27
    go_wp2
    go_ret
    exact ⟨by rw [HR.out]; rfl, HE0.out⟩

end Go.Proofs.Ytkbkgkmogbkabaa
