/-
  Contract of the reference's joined.
-/
import Derived.Test.YtkbkgkmogbkabaaDoorTrMeets
import Derived.Test.YtkbkgkmogbkabaaDoorRtBits
import Derived.Test.YtkbkgkmogbkabaaDoorRtRValid
namespace Go.Proofs.YtkbkgkmogbkabaaDoor
open Go.RowKit

theorem meet1_lt {m : Nat} {r : RoadD} (h : m < 256) (ha : r.a.toNat < 8) (hb : r.b.toNat < 8) : meet1 m r < 256 := by
  have e : (256 : Nat) = 2 ^ 8 := by decide
  unfold meet1
  split
  · rw [e] at h ⊢
    exact Nat.or_lt_two_pow h (by rw [← e]; exact both_lt ha hb)
  · exact h
theorem bits_or_nat (a b : Nat) (ha : a < 2 ^ 62) (hb : b < 2 ^ 62) : bits .or .i64 a b = ((a ||| b : Nat) : Int) := (bits_nat .i64 62 (by decide) wraps_i64_62 a b ha hb).2
theorem bits_and_nat (a b : Nat) (ha : a < 2 ^ 62) (hb : b < 2 ^ 62) : bits .and .i64 a b = ((a &&& b : Nat) : Int) := (bits_nat .i64 62 (by decide) wraps_i64_62 a b ha hb).1

set_option maxRecDepth 20000 in
set_option maxHeartbeats 8000000 in
theorem joined_any (vr v : Value) (N : Nat) (rs : List RoadD) (idx : List Int) (s : Nat) (w : World) (hv : Roads w vr rs) (hi : Ints w v idx) (hix : ∀ i ∈ idx, 0 ≤ i ∧ i < rs.length) (hok : ∀ r ∈ rs, roadOk N r = true) (hN8 : N ≤ 8) (hs : s < N) (E : List RoadD) (hE : E = idx.map (fun i => roadAt rs i.toNat)) :
    Calls Tryd.prog 34 #[.agg #[.int .i64 N, vr], v, .int .i64 s] w fun e w' => e = .returned (.int .i64 (meetN E (2 ^ s) N : Nat)) ∧ Ext w w' := by
  obtain ⟨ao, cap, rfl⟩ := hv.shape
  have HV := hid hv
  have HI := hid hi
  obtain ⟨hlen, ai, ci, rfl, -⟩ := id hi
  have HIX := hid hix
  have HAll := hid hok
  have HE := hid hE
  have hEl : E.length = idx.length := by rw [hE]; simp
  have X0 := hid (Box2.alloc w 24 (.int .i64 N) (.slice ao rs.length cap))
  have HE0 := hid (Ext.ofAlloc w (.cells #[.int .i64 N, .slice ao rs.length cap] 24))
  have p2 : 2 ^ s < 256 := by
    have e : (256 : Nat) = 2 ^ 8 := by decide
    rw [e]; exact Nat.pow_lt_pow_right (by decide) (by omega)
  obtain ⟨m0, hm0⟩ : ∃ m0, m0 = 2 ^ s := ⟨_, rfl⟩
  have hsh : wrap64 (2 ^ s) = (m0 : Int) := by
    have e : ((2 : Int) ^ s) = ((2 ^ s : Nat) : Int) := by simp
    rw [e, hm0]; exact IntWalk.wrap64_in _ (by omega)
  have HSH := hid hsh
  rw [← hm0] at p2 ⊢
  clear hm0 hv hi hix hok hE
  go_enter Tryd.func34, Tryd.ntmps34
  go_wp2
  generalize w.alloc (.cells #[.int .i64 N, .slice ao rs.length cap] 24) = W at *
  clear hsh
  go_loopg [15, 7] N (fun g i u wr => ∃ (k m : Nat), k + g = N ∧ i = .int .i64 k ∧ u = .int .i64 m ∧ m < 256 ∧ Hid (m = meetN E m0 k) ∧ Hid (Ext W wr))
  case atStart => exact ⟨0, m0, by omega, rfl, by rw [HSH.out], p2, rfl, Ext.refl _⟩
  case round =>
    obtain ⟨k, m, hk, rfl, rfl, hm, HM, E1⟩ := hrel
    have hkN : k ≤ N := by omega
    have Hk := hid hk
    clear hk
    by_cases hlt : k < N
    · go_wp2
      go_loopg [19, 7] idx.length (fun g i u wr => ∃ (j n : Nat), j + g = idx.length ∧ i = .int .i64 j ∧ u = .int .i64 n ∧ n < 256 ∧ Hid (n = (E.take j).foldl meet1 m) ∧ Hid (Ext W wr))
      case atStart => exact ⟨0, m, by omega, rfl, rfl, hm, rfl, E1⟩
      case round =>
        clear E1
        obtain ⟨j, n, hj, rfl, rfl, hn, HN, E2⟩ := hrel
        have hjl : j ≤ idx.length := by omega
        have Hj := hid hj
        clear hj
        by_cases hjlt : j < idx.length
        · obtain ⟨bi, oi, rfl, -, hce⟩ := HI.out.get j hjlt
          have dj := hce _ (HE0.out.trans E2.out)
          have hfx := HIX.out (fn idx j) (by rw [fn_get hjlt]; exact List.getElem_mem _)
          have Htk : Hid (E.take (j + 1) = E.take j ++ [roadAt rs (fn idx j).toNat]) := by
            show _ = _
            rw [List.take_succ_eq_append_getElem (by omega)]
            congr 2
            have e := HE.out
            subst e
            rw [List.getElem_map, fn_get hjlt]
          obtain ⟨q, hq⟩ := Int.eq_ofNat_of_zero_le hfx.1
          rw [hq] at dj hfx Htk
          rw [Int.toNat_natCast] at Htk
          have hql : q < rs.length := by omega
          have hqi : (q : Int) < rs.length := by omega
          obtain ⟨bb, off, rfl, -, hcc⟩ := Roads.get HV.out q hql
          obtain ⟨r0, r1, -⟩ := hcc _ (HE0.out.trans E2.out)
          obtain ⟨q1, q2, q3, q4, -, -, -⟩ := roadOk_iff.1 (HAll.out _ (roadAt_mem hql))
          generalize roadAt rs q = r at *
          have ca := pow_in r.a q1 (by omega)
          have c0 := (X0.out.ext E2.out).cells.2
          have ha8 : r.a.toNat < 8 := by omega
          have hb8 : r.b.toNat < 8 := by omega
          have hbl := both_lt ha8 hb8
          have pa : 2 ^ r.a.toNat < 2 ^ 62 := Nat.pow_lt_pow_right (by decide) (by omega)
          have pb : 2 ^ r.b.toNat < 2 ^ 62 := Nat.pow_lt_pow_right (by decide) (by omega)
          obtain ⟨xa, hxa⟩ : ∃ x, x = 2 ^ r.a.toNat := ⟨_, rfl⟩
          obtain ⟨xb, hxb⟩ : ∃ x, x = 2 ^ r.b.toNat := ⟨_, rfl⟩
          have ea : ((2 : Int) ^ r.a.toNat) = (xa : Int) := by rw [hxa]; simp
          have eb : ((2 : Int) ^ r.b.toNat) = (xb : Int) := by rw [hxb]; simp
          have wa : IntKind.i64.wrap (2 ^ r.a.toNat) = (xa : Int) := by rw [ea]; exact wraps_i64_62 _ (by omega) (by omega)
          have wb : IntKind.i64.wrap (2 ^ r.b.toNat) = (xb : Int) := by rw [eb]; exact wraps_i64_62 _ (by omega) (by omega)
          have wo : bits .or .i64 xa xb = (bothN r : Int) := by rw [bits_or_nat xa xb (by omega) (by omega), hxa, hxb]; rfl
          have wn : bits .and .i64 n (bothN r) = ((n &&& bothN r : Nat) : Int) := bits_and_nat n (bothN r) (by omega) (by omega)
          have wm : bits .or .i64 n (bothN r) = ((n ||| bothN r : Nat) : Int) := bits_or_nat n (bothN r) (by omega) (by omega)
          have HL := hid (meet1_lt hn ha8 hb8)
          have HS : Hid (meet1 n r = (E.take (j + 1)).foldl meet1 m) := by
            show _ = _
            rw [Htk.out, List.foldl_append, ← HN.out]; rfl
          have E3 := hid E2.out.drew
          clear hce hcc ca pa pb hxa hxb ea eb hbl
          obtain ⟨bo, hbo⟩ : ∃ x, x = bothN r := ⟨_, rfl⟩
          rw [← hbo] at wo wn wm
          have HBO := hid hbo
          clear hbo
          go_wp2
          refine wp_region_held_drew (S := (fun w' => w'.cell? ⟨w.heap.size, 1, none⟩ = some (.slice (some ⟨bb, off, none⟩) rs.length cap) ∧ w'.cell? ⟨bb, off + q * 3, none⟩ = some (.int .i64 r.a) ∧ w'.cell? ⟨bb, off + q * 3 + 1, none⟩ = some (.int .i64 r.b))) (by kernel_rfl) ?hSa0 (fun hHeld => ?_)
          case hSa0 => (first | (exact ⟨c0, r0, r1⟩) | ((try dsimp only); exact ⟨c0, r0, r1⟩))
          refine wpAnyH_tk 0 (v := ?va0) rfl (by kernel_rfl) (by kernel_rfl) (by kernel_rfl) (fun _ _ _ h => h) (by rfl) ?hya0 (by assumption) ?_
          case hya0 => (intro w hSw; (try dsimp only at hSw); go_simp <;> with_reducible rfl)
          (try simp only [Act.put, List.setIfInBounds_toArray, List.set_cons_zero, List.set_cons_succ])
          refine wpAnyH_tk 1 (v := ?va1) rfl (by kernel_rfl) (by kernel_rfl) (by kernel_rfl) (fun _ _ _ h => h) (by rfl) ?hya1 (by assumption) ?_
          case hya1 => (intro w hSw; (try dsimp only at hSw); go_simp <;> with_reducible rfl)
          (try simp only [Act.put, List.setIfInBounds_toArray, List.set_cons_zero, List.set_cons_succ])
          refine wpAnyH_tk 2 (v := ?va2) rfl (by kernel_rfl) (by kernel_rfl) (by kernel_rfl) (fun _ _ _ h => h) (by rfl) ?hya2 (by assumption) ?_
          case hya2 => (intro w hSw; (try dsimp only at hSw); go_simp <;> with_reducible rfl)
          (try simp only [Act.put, List.setIfInBounds_toArray, List.set_cons_zero, List.set_cons_succ])
          refine wpAnyH_tk 3 (v := ?va3) rfl (by kernel_rfl) (by kernel_rfl) (by kernel_rfl) (fun _ _ _ h => h) (by rfl) ?hya3 (by assumption) ?_
          case hya3 => (intro w hSw; (try dsimp only at hSw); go_simp <;> with_reducible rfl)
          (try simp only [Act.put, List.setIfInBounds_toArray, List.set_cons_zero, List.set_cons_succ])
          refine wpAnyH_tk 4 (v := ?va4) rfl (by kernel_rfl) (by kernel_rfl) (by kernel_rfl) (fun _ _ _ h => h) (by rfl) ?hya4 (by assumption) ?_
          case hya4 => (intro w hSw; (try dsimp only at hSw); go_simp <;> with_reducible rfl)
          (try simp only [Act.put, List.setIfInBounds_toArray, List.set_cons_zero, List.set_cons_succ])
          refine wpAnyH_tk 5 (v := ?va5) rfl (by kernel_rfl) (by kernel_rfl) (by kernel_rfl) (fun _ _ _ h => h) (by rfl) ?hya5 (by assumption) ?_
          case hya5 => (intro w hSw; (try dsimp only at hSw); go_simp <;> with_reducible rfl)
          (try simp only [Act.put, List.setIfInBounds_toArray, List.set_cons_zero, List.set_cons_succ])
          refine wpAnyH_tk 6 (v := ?va6) rfl (by kernel_rfl) (by kernel_rfl) (by kernel_rfl) (fun _ _ _ h => h) (by rfl) ?hya6 (by assumption) ?_
          case hya6 => (intro w hSw; (try dsimp only at hSw); go_simp <;> with_reducible rfl)
          (try simp only [Act.put, List.setIfInBounds_toArray, List.set_cons_zero, List.set_cons_succ])
          refine wpAnyH_tk 7 (v := ?va7) rfl (by kernel_rfl) (by kernel_rfl) (by kernel_rfl) (fun _ _ _ h => h) (by rfl) ?hya7 (by assumption) ?_
          case hya7 => (intro w hSw; (try dsimp only at hSw); go_simp <;> with_reducible rfl)
          (try simp only [Act.put, List.setIfInBounds_toArray, List.set_cons_zero, List.set_cons_succ])
          refine wpAnyH_tk 8 (v := ?va8) rfl (by kernel_rfl) (by kernel_rfl) (by kernel_rfl) (fun _ _ _ h => h) (by rfl) ?hya8 (by assumption) ?_
          case hya8 => (intro w hSw; (try dsimp only at hSw); go_simp <;> with_reducible rfl)
          (try simp only [Act.put, List.setIfInBounds_toArray, List.set_cons_zero, List.set_cons_succ])
          refine wpAnyH_tk 9 (v := ?va9) rfl (by kernel_rfl) (by kernel_rfl) (by kernel_rfl) (fun _ _ _ h => h) (by rfl) ?hya9 (by assumption) ?_
          case hya9 => (intro w hSw; (try dsimp only at hSw); go_simp <;> with_reducible rfl)
          (try simp only [Act.put, List.setIfInBounds_toArray, List.set_cons_zero, List.set_cons_succ])
          refine wpAnyH_tk 10 (v := ?va10) rfl (by kernel_rfl) (by kernel_rfl) (by kernel_rfl) (fun _ _ _ h => h) (by rfl) ?hya10 (by assumption) ?_
          case hya10 => (intro w hSw; (try dsimp only at hSw); go_simp <;> with_reducible rfl)
          (try simp only [Act.put, List.setIfInBounds_toArray, List.set_cons_zero, List.set_cons_succ])
          refine wpAnyH_tk 11 (v := ?va11) rfl (by kernel_rfl) (by kernel_rfl) (by kernel_rfl) (fun _ _ _ h => h) (by rfl) ?hya11 (by assumption) ?_
          case hya11 => (intro w hSw; (try dsimp only at hSw); go_simp <;> with_reducible rfl)
          (try simp only [Act.put, List.setIfInBounds_toArray, List.set_cons_zero, List.set_cons_succ])
          refine wpAnyH_tk 12 (v := ?va12) rfl (by kernel_rfl) (by kernel_rfl) (by kernel_rfl) (fun _ _ _ h => h) (by rfl) ?hya12 (by assumption) ?_
          case hya12 => (intro w hSw; (try dsimp only at hSw); go_simp <;> with_reducible rfl)
          (try simp only [Act.put, List.setIfInBounds_toArray, List.set_cons_zero, List.set_cons_succ])
          refine wpAnyH_tk 13 (v := ?va13) rfl (by kernel_rfl) (by kernel_rfl) (by kernel_rfl) (fun _ _ _ h => h) (by rfl) ?hya13 (by assumption) ?_
          case hya13 => (intro w hSw; (try dsimp only at hSw); go_simp <;> with_reducible rfl)
          (try simp only [Act.put, List.setIfInBounds_toArray, List.set_cons_zero, List.set_cons_succ])
          refine wpAnyH_tk 14 (v := ?va14) rfl (by kernel_rfl) (by kernel_rfl) (by kernel_rfl) (fun _ _ _ h => h) (by rfl) ?hya14 (by assumption) ?_
          case hya14 => (intro w hSw; (try dsimp only at hSw); go_simp <;> with_reducible rfl)
          (try simp only [Act.put, List.setIfInBounds_toArray, List.set_cons_zero, List.set_cons_succ])
          refine wpAnyH_tk 15 (v := ?va15) rfl (by kernel_rfl) (by kernel_rfl) (by kernel_rfl) (fun _ _ _ h => h) (by rfl) ?hya15 (by assumption) ?_
          case hya15 => (intro w hSw; (try dsimp only at hSw); go_simp <;> with_reducible rfl)
          (try simp only [Act.put, List.setIfInBounds_toArray, List.set_cons_zero, List.set_cons_succ])
          refine wpAnyH_done (by kernel_rfl) ?_ _
          clear hHeld dj r0 r1 wa wb wo c0
          by_cases hz : n &&& bo = 0
          · have hzb : (((n &&& bo : Nat) : Int) != 0) = false := by rw [hz]; rfl
            have HV2 : Hid (meet1 n r = n) := by show _ = _; unfold meet1; rw [← HBO.out, if_neg (by simp [hz])]
            rw [hz] at wn
            clear hz
            go_wp2
            go_roundg (gk - 1)
            case rel => exact ⟨j + 1, n, by have := Hj.out; omega, by go_num, rfl, hn, by show _ = _; rw [← HS.out]; exact HV2.out.symm, E3.out⟩
            case measure => have := Hj.out; omega
          · have HV2 : Hid (meet1 n r = n ||| bo) := by show _ = _; unfold meet1; rw [← HBO.out, if_pos hz]
            obtain ⟨an, han⟩ : ∃ x, x = n &&& bo := ⟨_, rfl⟩
            rw [← han] at wn hz
            have hzi : ¬ (an : Int) = 0 := by omega
            have hzb : ((an : Int) != 0) = true := by rw [bne_iff_ne]; exact hzi
            clear hz han
            go_wp2
            go_roundg (gk - 1)
            case rel => exact ⟨j + 1, n ||| bo, by have := Hj.out; omega, by go_num, rfl, by rw [← HV2.out]; exact HL.out, by rw [← HV2.out]; exact HS.out, E3.out⟩
            case measure => have := Hj.out; omega
        · have h1 := HN.out
          rw [List.take_of_length_le (by omega)] at h1
          have HN2 : Hid (n = meetN E m0 (k + 1)) := by
            show _ = _
            rw [h1, HM.out]; rfl
          clear h1
          go_wp2
          go_roundg (N - (k + 1))
          case rel => exact ⟨k + 1, n, by omega, by go_num, rfl, hn, HN2.out, E2.out⟩
          case measure => have := Hk.out; omega
    · have ek : k = N := by omega
      have h1 := HM.out
      rw [ek] at h1
      have H1 := hid h1
      clear h1 ek
      go_wp2
      go_ret
      exact ⟨by rw [← H1.out]; rfl, HE0.out.trans E1.out⟩

end Go.Proofs.YtkbkgkmogbkabaaDoor
