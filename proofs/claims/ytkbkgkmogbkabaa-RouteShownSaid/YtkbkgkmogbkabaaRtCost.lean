/-
  Contract of the reference's Cost.
-/
import Derived.Test.YtkbkgkmogbkabaaRtCostPlain
namespace Go.Proofs.Ytkbkgkmogbkabaa
open Go.RowKit

set_option maxRecDepth 20000 in
set_option maxHeartbeats 8000000 in
theorem Cost_any (vr v : Value) (N : Nat) (rs : List RoadD) (way : List Int) (w : World) (hv : Roads w vr rs) (hok : ∀ r ∈ rs, roadOk N r = true) (hw : Ints w v way) :
    Calls Try.prog 42 #[.agg #[.int .i64 N, vr], v] w fun e w' => e = .returned (.int .i64 (costR rs N way)) ∧ Ext w w' := by
  obtain ⟨ao, cap, rfl⟩ := hv.shape
  have HV := hid hv
  have HAll := hid hok
  have HWI := hid hw
  obtain ⟨hl, aw, cw, rfl, hcap, -⟩ := hw
  have X0 := hid (Box2.alloc w 24 (.int .i64 N) (.slice ao rs.length cap))
  have hE := Ext.ofAlloc w (.cells #[.int .i64 N, .slice ao rs.length cap] 24)
  clear hv hok
  go_enter Try.func42, Try.ntmps42
  go_wp2
  generalize w.alloc (.cells #[.int .i64 N, .slice ao rs.length cap] 24) = W at *
  have HE := hid hE
  clear hE
  go_loopg [13, 5] way.length (fun g i v wr => ∃ (k : Nat) (s : Int), k + g = way.length ∧ i = .int .i64 k ∧ v = .int .i64 s ∧ 0 ≤ s ∧ s ≤ 50 * (k : Int) ∧ Hid (cst rs N way k = some s) ∧ Hid (Ext W wr))
  case atStart => exact ⟨0, 0, by omega, rfl, rfl, by omega, by omega, rfl, Ext.refl _⟩
  case round =>
    obtain ⟨k, s, hk, rfl, rfl, hs0, hs1, CS, E⟩ := hrel
    have hkl : k ≤ way.length := by omega
    have Hk := hid hk
    clear hk
    by_cases hlt : k < way.length
    · obtain ⟨bw, ow, rfl, -, hcell⟩ := HWI.out.get k hlt
      have dk := hcell _ (HE.out.trans E.out)
      have c0 := (X0.out.ext E.out).cells.1
      have Hx : Hid (fn way k < 0 ∨ (N : Int) ≤ fn way k ∨ fn way k ∈ way.take k → cst rs N way (k + 1) = none) := cst_bad CS.out
      clear hcell
      obtain ⟨x, hx⟩ : ∃ x, x = fn way k := ⟨_, rfl⟩
      rw [← hx] at dk Hx
      have HX := hid hx
      clear hx
      by_cases x0 : x < 0
      · have HR := hid (costR_none hlt (Hx.out (.inl x0)))
        go_wp2
        go_ret
        exact ⟨by rw [HR.out]; rfl, HE.out.trans E.out⟩
      · by_cases x1 : (N : Int) ≤ x
        · have HR := hid (costR_none hlt (Hx.out (.inr (.inl x1))))
          go_wp2
          go_ret
          exact ⟨by rw [HR.out]; rfl, HE.out.trans E.out⟩
        · have hkc : k ≤ cw := by omega
          go_wp2
          clear dk c0
          go_loopg [30] k (fun g i wq => ∃ j : Nat, j + g = k ∧ i = .int .i64 j ∧ Hid (x ∉ way.take j) ∧ Hid (Ext W wq))
          case atStart => exact ⟨0, by omega, rfl, by show x ∉ way.take 0; simp, E⟩
          case round =>
            clear E
            obtain ⟨j, hj, rfl, NI, E⟩ := hrel
            have hjl : j ≤ k := by omega
            have Hj := hid hj
            clear hj
            by_cases hjlt : j < k
            · obtain ⟨bw2, ow2, he2, -, hcell⟩ := HWI.out.get j (by omega)
              simp only [Option.some.injEq, Addr.mk.injEq, and_true] at he2
              obtain ⟨rfl, rfl⟩ := he2
              have dj := hcell _ (HE.out.trans E.out)
              clear hcell
              have hfj := fn_get (m := way) (h := j) (by omega)
              have Hfj := hid hfj
              clear hfj
              by_cases xe : x = fn way j
              · have xeb : (x == fn way j) = true := beq_iff_eq.2 xe
                have hin : x ∈ way.take k := by
                  rw [xe, Hfj.out]
                  have h1 : way[j]'(by omega) = (way.take k)[j]'(by rw [List.length_take]; omega) := by rw [List.getElem_take]
                  rw [h1]; exact List.getElem_mem _
                have HR := hid (costR_none hlt (Hx.out (.inr (.inr hin))))
                clear xe hin
                go_wp2
                go_ret
                exact ⟨by rw [HR.out]; rfl, HE.out.trans E.out⟩
              · have xeb : (x == fn way j) = false := beq_eq_false_iff_ne.2 xe
                have NI2 := hid (notin_succ (by omega) (by rw [← Hfj.out]; exact xe) NI.out)
                clear xe
                go_wp2
                go_roundg (gk - 1)
                case rel => exact ⟨j + 1, by have := Hj.out; omega, by go_num, NI2.out, E.out⟩
                case measure => have := Hj.out; omega
            · have hni : x ∉ way.take k := by
                have h := NI.out
                rw [show j = k by omega] at h; exact h
              have HNI := hid hni
              clear hni
              have HB : Hid (¬ (fn way k < 0 ∨ (N : Int) ≤ fn way k ∨ fn way k ∈ way.take k)) := by
                show ¬ _
                rw [← HX.out]
                rintro (h | h | h)
                · omega
                · omega
                · exact HNI.out h
              by_cases k0 : 0 < k
              · obtain ⟨bw2, ow2, he2, -, hcell⟩ := HWI.out.get (k - 1) (by omega)
                simp only [Option.some.injEq, Addr.mk.injEq, and_true] at he2
                obtain ⟨rfl, rfl⟩ := he2
                have dp := hcell _ (HE.out.trans E.out)
                obtain ⟨c0, c1⟩ := (X0.out.ext E.out).cells
                have hk1 : ((k : Int) - 1).toNat = k - 1 := by omega
                have hk2 : IntKind.i64.wrap ((k : Int) - 1) = (k : Int) - 1 := by rw [IntKind.wrap_i64]; omega
                have hk3 : (1 : Int) ≤ (k : Int) := by omega
                have hk4 : (k : Int) - 1 < way.length := by omega
                have HNO := hid (fun h => cst_no CS.out k0 (by rw [← HX.out]; exact h) : stepR rs (fn way (k - 1)) x < 0 → cst rs N way (k + 1) = none)
                have HYES := hid (fun h => by have h2 := cst_yes CS.out HB.out k0 (by rw [← HX.out]; exact h); rw [← HX.out] at h2; exact h2 : ¬ stepR rs (fn way (k - 1)) x < 0 → cst rs N way (k + 1) = some (s + stepR rs (fn way (k - 1)) x))
                clear hcell
                have PREV : Hid (∃ i : Nat, fn way (k - 1) = i) := by
                  have hcs := CS.out
                  show ∃ i : Nat, _
                  by_cases hp : fn way (k - 1) < 0
                  · exfalso
                    obtain ⟨m, rfl⟩ : ∃ m, k = m + 1 := ⟨k - 1, by omega⟩
                    rw [Nat.add_sub_cancel] at hp
                    cases e : cst rs N way m with
                    | none => rw [cst_none e 1] at hcs; simp at hcs
                    | some t => rw [cst_bad e (.inl hp)] at hcs; simp at hcs
                  · exact ⟨(fn way (k - 1)).toNat, by omega⟩
                obtain ⟨p, hp⟩ := PREV.out
                obtain ⟨xn, hxn⟩ : ∃ i : Nat, x = i := ⟨x.toNat, by omega⟩
                have hbd := stepR_hi HAll.out p xn
                rw [← hp, ← hxn] at hbd
                clear hp hxn
                generalize fn way (k - 1) = y at *
                have HE9 := hid (HE.out.trans E.out)
                go_wp2
                refine wp_region_held_drew (S := (fun w' => w'.cell? ⟨w.heap.size, 0, none⟩ = some (.int .i64 N) ∧ w'.cell? ⟨w.heap.size, 1, none⟩ = some (.slice ao rs.length cap) ∧ w'.cell? ⟨bw, ow + (k - 1), none⟩ = some (.int .i64 y))) (by kernel_rfl) ?hSa0 (fun hHeld => ?_)
                case hSa0 => (first | (exact ⟨c0, c1, dp⟩) | ((try dsimp only); exact ⟨c0, c1, dp⟩))
                refine wpAnyH_tk 0 (v := ?va0) rfl (by kernel_rfl) (by kernel_rfl) (by kernel_rfl) (fun _ _ _ h => h) (by rfl) ?hya0 (by assumption) ?_
                case hya0 => (intro w hSw; (try dsimp only at hSw); go_simp <;> with_reducible rfl)
                (try simp only [Act.put, List.setIfInBounds_toArray, List.set_cons_zero, List.set_cons_succ])
                refine wpAnyH_tk 1 (v := ?va1) rfl (by kernel_rfl) (by kernel_rfl) (by kernel_rfl) (fun _ _ _ h => h) (by rfl) ?hya1 (by assumption) ?_
                case hya1 => (intro w hSw; (try dsimp only at hSw); go_simp <;> with_reducible rfl)
                (try simp only [Act.put, List.setIfInBounds_toArray, List.set_cons_zero, List.set_cons_succ])
                refine wpAnyH_tk 2 (v := ?va2) rfl (by kernel_rfl) (by kernel_rfl) (by kernel_rfl) (fun _ _ _ h => h) (by rfl) ?hya2 (by assumption) ?_
                case hya2 => (intro w hSw; (try dsimp only at hSw); go_simp <;> with_reducible rfl)
                (try simp only [Act.put, List.setIfInBounds_toArray, List.set_cons_zero, List.set_cons_succ])
                refine wpAnyH_tk 3 (v := ?va3) rfl (by kernel_rfl) (by kernel_rfl) (by kernel_rfl) (fun _ _ _ h => h) (by rfl) ?hya3 (by assumption) ?_
                case hya3 => (intro w hSw; (try dsimp only at hSw); go_simp <;> with_reducible rfl)
                (try simp only [Act.put, List.setIfInBounds_toArray, List.set_cons_zero, List.set_cons_succ])
                refine wpAnyH_tk 4 (v := ?va4) rfl (by kernel_rfl) (by kernel_rfl) (by kernel_rfl) (fun _ _ _ h => h) (by rfl) ?hya4 (by assumption) ?_
                case hya4 => (intro w hSw; (try dsimp only at hSw); go_simp <;> with_reducible rfl)
                (try simp only [Act.put, List.setIfInBounds_toArray, List.set_cons_zero, List.set_cons_succ])
                refine wpAnyH_tk 5 (v := ?va5) rfl (by kernel_rfl) (by kernel_rfl) (by kernel_rfl) (fun _ _ _ h => h) (by rfl) ?hya5 (by assumption) ?_
                case hya5 => (intro w hSw; (try dsimp only at hSw); go_simp <;> with_reducible rfl)
                (try simp only [Act.put, List.setIfInBounds_toArray, List.set_cons_zero, List.set_cons_succ])
                refine wpAnyH_tk 6 (v := ?va6) rfl (by kernel_rfl) (by kernel_rfl) (by kernel_rfl) (fun _ _ _ h => h) (by rfl) ?hya6 (by assumption) ?_
                case hya6 => (intro w hSw; (try dsimp only at hSw); go_simp <;> with_reducible rfl)
                (try simp only [Act.put, List.setIfInBounds_toArray, List.set_cons_zero, List.set_cons_succ])
                refine wpAnyH_one 7 rfl (by kernel_rfl) (by rfl) (fun K hK => ?_)
                go_simp
                (refine (step_any _ ⟨N, rs⟩ y x _ (MapR.ext (m := ⟨N, rs⟩) HV.out HE9.out.drew)).mono ?_; rintro e w5 ⟨rfl, he5⟩; dsimp only)
                refine hK.out _ _ ?hSa8 (fun hHeld => ?_)
                case hSa8 => (first | (exact ⟨he5.cell c0, he5.cell c1, he5.cell dp⟩) | ((try dsimp only); exact ⟨he5.cell c0, he5.cell c1, he5.cell dp⟩))
                clear hK K
                (try simp only [Act.put, List.setIfInBounds_toArray, List.set_cons_zero, List.set_cons_succ])
                refine wpAnyH_tk 8 (v := ?va8) rfl (by kernel_rfl) (by kernel_rfl) (by kernel_rfl) (fun _ _ _ h => h) (by rfl) ?hya8 (by assumption) ?_
                case hya8 => (intro w hSw; (try dsimp only at hSw); go_simp <;> with_reducible rfl)
                (try simp only [Act.put, List.setIfInBounds_toArray, List.set_cons_zero, List.set_cons_succ])
                refine wpAnyH_done (by kernel_rfl) ?_ _
                have HE2 := hid (E.out.trans ((Ext.refl wr).drew.trans he5))
                obtain ⟨c, hc⟩ : ∃ c, c = stepR rs y x := ⟨_, rfl⟩
                rw [← hc] at hbd HNO HYES ⊢
                clear dp c0 c1 he5 hHeld hc
                by_cases cn : c < 0
                · have HR := hid (costR_none hlt (HNO.out cn))
                  go_wp2
                  go_ret
                  exact ⟨by rw [HR.out]; rfl, HE.out.trans HE2.out⟩
                · have HCS := hid (HYES.out (by omega))
                  go_wp2
                  go_roundg (way.length - (k + 1))
                  case rel => exact ⟨k + 1, s + c, by omega, by go_num, by go_num, by omega, by omega, HCS.out, HE2.out⟩
                  case measure => have := Hk.out; omega
              · have ek : k = 0 := by omega
                have hcs := CS.out
                have hb := HB.out
                rw [ek] at hcs hb
                have HCS := hid (cst_first hcs hb)
                clear hcs hb
                go_wp2
                go_roundg (way.length - (k + 1))
                case rel => exact ⟨k + 1, s, by omega, by go_num, rfl, by omega, by omega, by rw [ek]; exact HCS.out, E.out⟩
                case measure => have := Hk.out; omega
    · have ek : k = way.length := by omega
      have hcs := CS.out
      rw [ek] at hcs
      have HCS := hid hcs
      clear hcs
      by_cases h0 : way.length = 0
      · have hz : ((way.length : Int) == 0) = true := by rw [h0]; rfl
        have HR : Hid (costR rs N way = -1) := by
          show _ = _
          unfold costR
          rw [if_pos (List.eq_nil_of_length_eq_zero h0)]
        clear ek
        go_wp2
        go_ret
        exact ⟨by rw [HR.out]; rfl, HE.out.trans E.out⟩
      · have hz : ((way.length : Int) == 0) = false := beq_eq_false_iff_ne.2 (by omega)
        have hz2 : ¬ (way.length : Int) = 0 := by omega
        have HR : Hid (costR rs N way = s) := costR_some (fun h => h0 (by rw [h]; rfl)) HCS.out
        clear ek
        go_wp2
        go_ret
        exact ⟨by rw [HR.out]; rfl, HE.out.trans E.out⟩

end Go.Proofs.Ytkbkgkmogbkabaa
