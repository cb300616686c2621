/-
  Contracts of the reference's over and Covers.
-/
import Derived.Test.YtkdfbbkonbgfmaaRefE
import Derived.Test.YtkdfbbkonbgfmaaCovers
namespace Go.Proofs.Ytkdfbbkonbgfmaa
open Go.RowKit

set_option maxHeartbeats 1000000 in
theorem Rover_any (vh vs vp va vb : Value) (p : PlanD) (hok : PlanOk p) (a b : List Int) (w : World) (hp : PlanR w vh vs vp p) (hva : Ints w va a) (hvb : Ints w vb b) (hma : MatL p hok a) (hmb : MatL p hok b) :
    Calls Try.prog 74 #[.agg #[vh, vs, vp], va, vb] w fun e w' => e = .returned (.bool (leB p a b && !leB p b a)) ∧ Ext w w' := by
  obtain ⟨aoh, caph, aos, caps, aop, capp, rfl, rfl, rfl⟩ := planR_shape hp
  have HP := hid hp
  have HA := hid hva
  have HB := hid hvb
  have HMa := hid hma
  have HMb := hid hmb
  obtain ⟨-, aoa, capa, rfl, -⟩ := id hva
  obtain ⟨-, aob, capb, rfl, -⟩ := id hvb
  have X0 := hid (Box3.alloc w 25 (.slice aoh p.hands.length caph) (.slice aos p.shifts.length caps) (.slice aop p.places.length capp))
  clear hp hva hvb hma hmb
  go_enter Try.func74, Try.ntmps74
  go_wp2_with (fail)
  refine (RGood_any _ _ _ _ _ p hok a b _ (HP.out.ext (Ext.ofAlloc _ _)) (HA.out.ext (Ext.ofAlloc _ _)) (HB.out.ext (Ext.ofAlloc _ _)) HMa.out HMb.out).mono ?_
  cases h1 : leB p a b
  · rintro e w1 ⟨rfl, he⟩
    have HE := hid ((Ext.ofAlloc w _).trans he)
    clear he
    have H1 := hid h1
    clear h1
    go_wp2
    go_ret
    exact ⟨ret_bool (by rw [H1.out]; rfl), HE.out⟩
  · rintro e w1 ⟨rfl, he⟩
    have HE := hid ((Ext.ofAlloc w _).trans he)
    obtain ⟨c0, c1, c2⟩ := (X0.out.ext he).cells
    clear he
    go_wp2_with (fail)
    refine (RGood_any _ _ _ _ _ p hok b a _ (HP.out.ext HE.out) (HB.out.ext HE.out) (HA.out.ext HE.out) HMb.out HMa.out).mono ?_
    rintro e w2 ⟨rfl, he2⟩
    have HE2 := hid (HE.out.trans he2)
    clear he2 c0 c1 c2
    have H1 := hid h1
    clear h1
    go_wp2
    go_ret
    exact ⟨ret_bool (by rw [H1.out]; simp), HE2.out⟩

theorem overL_ref {p : PlanD} {hp : PlanOk p} {L : List (List Int)} (hL : L = stAll p hp) {i j : Nat} (hi : i < L.length) (hj : j < L.length) : (leB p (rowAt L i) (rowAt L j) && !leB p (rowAt L j) (rowAt L i)) = overL p L i j := by
  have mem : ∀ k, k < L.length → StL p hp (rowAt L k) := fun k hk => mem_stAll.1 (by rw [← hL]; exact rowAt_mem (Int.natCast_nonneg k) (by exact_mod_cast hk))
  have get : ∀ k (hk : k < L.length), rowAt L k = L[k] := fun k hk => by unfold rowAt; rw [Int.toNat_natCast, List.getD_eq_getElem?_getD, List.getElem?_eq_getElem hk]; rfl
  have nd : L.Nodup := by rw [hL]; exact stAll_nodup
  unfold overL
  by_cases e : i = j
  · subst e
    rw [leB_iff.2 (LeM.refl p _)]; simp
  · rw [decide_eq_true (by simpa using e)]
    cases h : leB p (rowAt L i) (rowAt L j)
    · rfl
    · have hn : leB p (rowAt L j) (rowAt L i) = false := leB_no (fun h2 => by
        have := LeM.antisymm (mem i hi) (mem j hj) (leB_iff.1 h) h2
        rw [get i hi, get j hj] at this
        exact e ((List.getElem_inj nd).1 this))
      rw [hn]; rfl

set_option maxRecDepth 20000 in
set_option maxHeartbeats 4000000 in
theorem RCovers_any (vh vs vp : Value) (p : PlanD) (hok : PlanOk p) (w : World) (hp : PlanR w vh vs vp p) :
    Calls Try.prog 40 #[.agg #[vh, vs, vp]] w fun e w' => ∃ u, e = .returned u ∧ OwnPr w.heap.size w' u (prTo (covB p (stAll p hok)) (stAll p hok).length (stAll p hok).length) ∧ Ext w w' := by
  obtain ⟨aoh, caph, aos, caps, aop, capp, rfl, rfl, rfl⟩ := planR_shape hp
  have HP := hid hp
  have X0 := hid (Box3.alloc w 25 (.slice aoh p.hands.length caph) (.slice aos p.shifts.length caps) (.slice aop p.places.length capp))
  obtain ⟨i0, hi, hz0, hz1, hz2⟩ := info_parts info_pair
  clear hp
  go_enter Try.func40, Try.ntmps40
  go_wp2_with (fail)
  refine (RStable_any _ _ _ p hok _ (HP.out.ext (Ext.ofAlloc _ _))).mono ?_
  rintro e W ⟨ul, rfl, hul, he⟩
  obtain ⟨L, hL⟩ : ∃ L, L = stAll p hok := ⟨_, rfl⟩
  rw [← hL] at hul
  have hL2 : L.length ≤ 15625 := by rw [hL]; exact stAll_le
  have hLs : Hid (∀ k : Nat, k < L.length → MatL p hok (rowAt L k)) := fun k hk => (mem_stAll.1 (show rowAt L k ∈ stAll p hok by rw [← hL]; exact rowAt_mem (Int.natCast_nonneg k) (by exact_mod_cast hk))).mat
  have hr := hul.rows2 (by omega)
  have hL1 : 0 < L.length := by rw [hL]; exact stAll_pos
  obtain ⟨-, aol, capl, rfl, -⟩ := id hr
  obtain ⟨bL, oL, -, -, rfl, -, -⟩ := hr.at 0 (by omega) (by omega)
  have HR := hid hr
  have HL := hid hL
  have XW := hid (X0.out.ext he)
  have HEW := hid ((Ext.ofAlloc w _).trans he)
  have hszW := HEW.out.size
  clear hul hr he hL
  go_wp2
  go_loopg [16, 3] L.length (fun g i v wr => ∃ k : Nat, k + g = L.length ∧ i = .int .i64 k ∧ Hid (OwnPr W.heap.size wr v (prTo (covB p L) L.length k)) ∧ Hid (Ext W wr))
  case atStart => exact ⟨0, by omega, rfl, World.ownsRow_nil _ _ _ _, Ext.refl _⟩
  case round =>
    obtain ⟨i, hk, rfl, OWN, E⟩ := hrel
    have hkl : i ≤ L.length := by omega
    have Hk := hid hk
    clear hk
    by_cases hlt : i < L.length
    · obtain ⟨-, ari, cri, hrowi, hrii⟩ := HR.out.row i hlt
      have di := hrowi _ E.out
      have HI := hid hrii
      clear hrowi hrii
      go_wp2
      clear di
      go_loopg [23, 3] L.length (fun g i2 v wr => ∃ j : Nat, j + g = L.length ∧ i2 = .int .i64 j ∧ Hid (OwnPr W.heap.size wr v (prTo (covB p L) L.length i ++ prRow (covB p L) i j)) ∧ Hid (Ext W wr))
      case atStart => exact ⟨0, by omega, rfl, hid (by have := OWN.out; simpa [prRow] using this), E⟩
      case round =>
        clear OWN E
        obtain ⟨j, hj, rfl, OWN, E⟩ := hrel
        have hjl : j ≤ L.length := by omega
        have Hj := hid hj
        clear hj
        by_cases hjlt : j < L.length
        · obtain ⟨-, arj, crj, hrowj, hrij⟩ := HR.out.row j hjlt
          have dj := hrowj _ E.out
          have HJ := hid hrij
          obtain ⟨c0, c1, c2⟩ := (XW.out.ext E.out).cells
          clear hrowj hrij
          go_wp2_with (fail)
          refine (Rover_any _ _ _ _ _ p hok (rowAt L i) (rowAt L j) _ (HP.out.ext (HEW.out.trans E.out)) (HI.out.ext E.out) (HJ.out.ext E.out) (hLs.out i hlt) (hLs.out j hjlt)).mono ?_
          rw [overL_ref HL.out hlt hjlt]
          rintro e w5 ⟨rfl, he5⟩
          have O5 := hid (ownsRow_ext OWN.out he5)
          have E5 := hid (E.out.trans he5)
          clear he5 dj c0 c1 c2
          go_wp2
          go_loopg [34, 9] L.length (fun g i3 t wr => ∃ k : Nat, k + g = L.length ∧ i3 = .int .i64 k ∧ t = .bool (overL p L i j && !midTo p L i j k) ∧ Hid (OwnPr W.heap.size wr u3 (prTo (covB p L) L.length i ++ prRow (covB p L) i j)) ∧ Hid (Ext W wr))
          case atStart => exact ⟨0, by omega, rfl, by unfold midTo; simp, O5, E5⟩
          case round =>
            obtain ⟨k, hkk, rfl, rfl, O6, E6⟩ := hrel
            have hkkl : k ≤ L.length := by omega
            have Hkk := hid hkk
            clear hkk
            by_cases hkt : k < L.length
            · have Ms := hid (midTo_succ p L i j k)
              obtain ⟨-, ark, crk, hrowk, hrik⟩ := HR.out.row k hkt
              have dk := hrowk _ E6.out
              have HK := hid hrik
              obtain ⟨c0, c1, c2⟩ := (XW.out.ext E6.out).cells
              clear hrowk hrik
              generalize hT : (overL p L i j && !midTo p L i j k) = T
              have HT := hid hT
              clear hT
              go_wp2_with (fail)
              refine (Rover_any _ _ _ _ _ p hok (rowAt L i) (rowAt L k) _ (HP.out.ext (HEW.out.trans E6.out)) (HI.out.ext E6.out) (HK.out.ext E6.out) (hLs.out i hlt) (hLs.out k hkt)).mono ?_
              rw [overL_ref HL.out hlt hkt]
              cases h1 : overL p L i k
              · rw [h1] at Ms
                rintro e w7 ⟨rfl, he7⟩
                have O7 := hid (ownsRow_ext O6.out he7)
                have E7 := hid (E6.out.trans he7)
                clear he7 dk c0 c1 c2
                go_wp2
                go_roundg (gk - 1)
                case rel => exact ⟨k + 1, by have := Hkk.out; omega, by go_num, by rw [Ms.out, ← HT.out]; simp, O7, E7⟩
                case measure => have := Hkk.out; omega
              · rintro e w7 ⟨rfl, he7⟩
                have O7 := hid (ownsRow_ext O6.out he7)
                have E7 := hid (E6.out.trans he7)
                clear he7 dk c0 c1 c2
                obtain ⟨c0, c1, c2⟩ := (XW.out.ext E7.out).cells
                go_wp2_with (fail)
                refine (Rover_any _ _ _ _ _ p hok (rowAt L k) (rowAt L j) _ (HP.out.ext (HEW.out.trans E7.out)) (HK.out.ext E7.out) (HJ.out.ext E7.out) (hLs.out k hkt) (hLs.out j hjlt)).mono ?_
                rw [overL_ref HL.out hkt hjlt]
                cases h2 : overL p L k j
                · rw [h1, h2] at Ms
                  rintro e w8 ⟨rfl, he8⟩
                  have O8 := hid (ownsRow_ext O7.out he8)
                  have E8 := hid (E7.out.trans he8)
                  clear he8 c0 c1 c2
                  go_wp2
                  go_roundg (gk - 1)
                  case rel => exact ⟨k + 1, by have := Hkk.out; omega, by go_num, by rw [Ms.out, ← HT.out]; simp, O8, E8⟩
                  case measure => have := Hkk.out; omega
                · rw [h1, h2] at Ms
                  rintro e w8 ⟨rfl, he8⟩
                  have O8 := hid (ownsRow_ext O7.out he8)
                  have E8 := hid (E7.out.trans he8)
                  clear he8 c0 c1 c2
                  go_wp2
                  go_roundg (gk - 1)
                  case rel => exact ⟨k + 1, by have := Hkk.out; omega, by go_num, by rw [Ms.out]; simp, O8, E8⟩
                  case measure => have := Hkk.out; omega
            · have ek : k = L.length := by omega
              have hcv : (overL p L i j && !midTo p L i j k) = covB p L i j := by rw [ek]; rfl
              rw [hcv]
              clear hcv ek
              have Hbs := hid (prSum_len (P := covB p L) hL2 hlt hjl)
              have hsz6 := E6.out.size
              cases hc : covB p L i j
              · have Hno := hid (prRow_no hc)
                go_wp2
                go_roundg (L.length - (j + 1))
                case rel => exact ⟨j + 1, by omega, by go_num, by rw [Hno.out]; exact O6.out, E6⟩
                case measure => have := Hj.out; omega
              · have Hyes := hid (prRow_yes hc)
                go_wp2_with (at_builtin; go_must (refine wpList_append_own _ rfl _ _ 46 rfl W.heap.size 52 i0 (.agg #[.int .i64 0, .int .i64 0]) 2 16 Try.underlying46 hi hz0 hz1 hz2 rfl (by decide) _ _ _ rfl (O6.out.alloc _) ⟨wr.heap.size, 0, none⟩ 1 1 [.int .i64 i, .int .i64 j] rfl rfl ?c1 ?c2 ?c3 ?c4 ?c5 ?_))
                case c1 => exact cell_two_new _ _ _ _
                case c2 => intro u hu; simp at hu; rcases hu with rfl | rfl <;> rfl
                case c3 => have := Hbs.out; unfold maxLen; omega
                case c4 => have := Hbs.out; omega
                case c5 => simp; omega
                intro v' w' hown' hg _
                have hR := OwnPr.push (by rw [List.length_append]) hown'
                rw [List.append_assoc, ← Hyes.out] at hR
                have hE := Ext.push E6.out O6.out (Nat.le_refl _) hg
                have HR2 := hid hR
                have HE := hid hE
                clear hown' hg hR hE
                go_wp2
                go_roundg (L.length - (j + 1))
                case rel => exact ⟨j + 1, by omega, by go_num, HR2.out, HE.out⟩
                case measure => have := Hj.out; omega
        · have hO := OWN.out
          have ej : j = L.length := by omega
          rw [ej, ← prTo_succ] at hO
          have HO := hid hO
          clear hO ej
          go_wp2
          go_roundg (L.length - (i + 1))
          case rel => exact ⟨i + 1, by omega, by go_num, HO.out, E⟩
          case measure => have := Hk.out; omega
    · have ei : i = L.length := by omega
      have hO := OWN.out
      rw [ei] at hO
      have HO := hid hO
      clear hO ei
      go_wp2
      go_ret
      exact ⟨_, rfl, by rw [← HL.out]; exact ownsRow_base HO.out hszW, HEW.out.trans E.out⟩

end Go.Proofs.Ytkdfbbkonbgfmaa
