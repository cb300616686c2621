/-
  Contract of the reference's Distances.
-/
import Derived.Test.YtkbkgkmogbkabaaRtStep
import Derived.Test.YtkbkgkmogbkabaaRtHalf
namespace Go.Proofs.Ytkbkgkmogbkabaa
open Go.RowKit

/-- In the middle of making row i. -/
def mk0 (i j : Nat) : Nat → Nat → Int := fun a c => if a = i then (if c < j then bf0 a c else 0) else bf0 a c
theorem mk0_zero (i : Nat) : mk0 i 0 = fun a => if a = i then (fun _ => 0) else bf0 a := by
  funext a c; unfold mk0
  by_cases e : a = i <;> simp [e]
theorem mk0_end {i N a c : Nat} (hc : c < N) : mk0 i N a c = bf0 a c := by
  unfold mk0
  by_cases e : a = i
  · rw [if_pos e, if_pos hc]
  · rw [if_neg e]
theorem mk0_set {i j : Nat} (hne : i ≠ j) : updM (mk0 i j) i j (-1) = mk0 i (j + 1) := by
  funext a c
  unfold updM updF mk0
  by_cases e : a = i
  · subst e
    by_cases e2 : c = j
    · subst e2; simp [bf0, hne]
    · have h : (c < j + 1) ↔ c < j := by omega
      simp [e2, h]
  · simp [e]
theorem mk0_same {i : Nat} : mk0 i (i + 1) = mk0 i i := by
  funext a c
  unfold mk0
  by_cases e : a = i
  · subst e
    by_cases e2 : c = a
    · subst e2; simp [bf0]
    · have h : (c < a + 1) ↔ c < a := by omega
      simp [h]
  · simp [e]

theorem bf1_on {rs : List RoadD} {D : Nat → Nat → Int} {a b c : Nat} {s : Int} (hs : s = stepR rs b c) (h : 0 ≤ s ∧ 0 ≤ D a b ∧ (D a c < 0 ∨ D a b + s < D a c)) : bf1 rs a b D c = updM D a c (D a b + s) := by
  subst hs
  unfold bf1
  exact if_pos h
theorem bf1_off {rs : List RoadD} {D : Nat → Nat → Int} {a b c : Nat} {s : Int} (hs : s = stepR rs b c) (h : ¬ (0 ≤ s ∧ 0 ≤ D a b ∧ (D a c < 0 ∨ D a b + s < D a c))) : bf1 rs a b D c = D := by
  subst hs
  unfold bf1
  exact if_neg h

set_option maxRecDepth 20000 in
set_option maxHeartbeats 16000000 in
theorem RDistances_any (vr : Value) (N : Nat) (rs : List RoadD) (w : World) (hv : Roads w vr rs) (hok : mapOk ⟨N, rs⟩ = true) :
    Calls Try.prog 15 #[.agg #[.int .i64 N, vr]] w fun e w' => ∃ v, e = .returned v ∧ Mat w.heap.size w' v N N (fun i j => nn (fw (costTo rs) N i j)) ∧ Ext w w' := by
  obtain ⟨ao, cap, rfl⟩ := hv.shape
  have HV := hid hv
  have hok2 := hok
  unfold mapOk at hok2
  rw [Bool.and_eq_true, decide_eq_true_iff, List.all_eq_true] at hok2
  obtain ⟨⟨h1, h8, h16⟩, hall⟩ := hok2
  dsimp only at h1 h8 h16 hall
  have hN1 : 1 ≤ N := by omega
  have hN8 : N ≤ 8 := by omega
  have HAll := hid hall
  have X0 := hid (Box2.alloc w 24 (.int .i64 N) (.slice ao rs.length cap))
  have hmk := run_make_row' (P := Try.prog) 25 34 (.slice none 0 0) 24 Try.underlying25 info_ints rfl .i64 .i64 N (by omega) (by omega)
  have hmk2 := run_make_row' (P := Try.prog) 34 3 (.int .i64 0) 8 Try.underlying34 info_int rfl .i64 .i64 N (by omega) (by omega)
  have HMK2 := hid hmk2
  clear hv hok hall hmk2
  go_enter Try.func15, Try.ntmps15
  go_wp2
  have hh := HalfM.zero (B := (w.alloc (.cells #[.int .i64 N, .slice ao rs.length cap] 24)).heap.size) (n := N) (w.alloc (.cells #[.int .i64 N, .slice ao rs.length cap] 24)) bf0 (Nat.le_refl _) (by omega)
  have hsz : (w.alloc (.cells #[.int .i64 N, .slice ao rs.length cap] 24)).heap.size = w.heap.size + 1 := by simp
  rw [hsz] at hh
  have HE0 := hid (Ext.ofAlloc w (.cells #[.int .i64 N, .slice ao rs.length cap] 24))
  have hE1 := Ext.ofAlloc (w.alloc (.cells #[.int .i64 N, .slice ao rs.length cap] 24)) (.cells (madeCells #[Value.slice none 0 0] N) 34)
  generalize (w.alloc (.cells #[.int .i64 N, .slice ao rs.length cap] 24)).alloc (.cells (madeCells #[Value.slice none 0 0] N) 34) = W1 at hh hE1 ⊢
  generalize w.alloc (.cells #[.int .i64 N, .slice ao rs.length cap] 24) = W0 at X0 HE0 hsz hE1
  generalize w.heap.size + 1 = gb at hh hsz ⊢
  have HH := hid hh
  have HE1 := hid hE1
  have Hsz := hid hsz
  clear hh hE1 hsz hmk
  go_loopg [15] N (fun g i wr => ∃ k : Nat, k + g = N ∧ i = .int .i64 k ∧ Hid (HalfM gb wr (.slice (some ⟨gb, 0, none⟩) N N) k N bf0) ∧ Hid (Ext W0 wr))
  case atStart => exact ⟨0, by omega, rfl, HH, HE1⟩
  case round =>
    clear HH HE1
    obtain ⟨k, hk, rfl, HH, E⟩ := hrel
    have hkl : k ≤ N := by omega
    have Hk := hid hk
    clear hk
    by_cases hlt : k < N
    · obtain ⟨d0, fr, -⟩ := HH.out.next hlt
      have cn := (X0.out.ext E.out).cells.1
      have hmk2 := HMK2.out
      have hb : IntBlock (wr.alloc (.cells (madeCells #[Value.int .i64 0] N) 3)) wr.heap.size (rowL N (fun _ => 0)) := by
        have hmade : madeCells #[Value.int .i64 0] N = ((List.replicate N (0 : Int)).map (Value.int .i64)).toArray := by
          apply Array.ext'
          rw [toList_madeCells_one]; simp
        rw [← rowL_rep, hmade]; exact heap_alloc_new wr _
      have d0a := (Ext.ofAlloc wr (.cells (madeCells #[Value.int .i64 0] N) 3)).cell d0
      have fra := frozen_ext (Ext.ofAlloc wr (.cells (madeCells #[Value.int .i64 0] N) 3)) d0 fr
      have hgw : gb ≤ wr.heap.size := by have h1 := E.out.size; have h2 := Hsz.out; omega
      have hh2 : HalfM gb ((wr.alloc (.cells (madeCells #[Value.int .i64 0] N) 3)).setCell ⟨gb, k, none⟩ (.slice (some ⟨wr.heap.size, 0, none⟩) N N)) (.slice (some ⟨gb, 0, none⟩) N N) (k + 1) N (mk0 k 0) := by
        rw [mk0_zero]; exact HH.out.make hlt (Ext.ofAlloc _ _) (Nat.le_refl _) hgw hb
      have HH2 := hid hh2
      have HE2 := hid ((E.out.alloc (.cells (madeCells #[Value.int .i64 0] N) 3)).setCell (show W0.heap.size ≤ gb by have h2 := Hsz.out; omega) k (.slice (some ⟨wr.heap.size, 0, none⟩) N N))
      clear hb hh2 HH E
      go_wp2
      generalize (wr.alloc (.cells (madeCells #[Value.int .i64 0] N) 3)).setCell ⟨gb, k, none⟩ (.slice (some ⟨wr.heap.size, 0, none⟩) N N) = wq at HH2 HE2 ⊢
      clear d0 fr cn hmk2 hgw d0a fra
      go_loopg [29] N (fun g i wr => ∃ j : Nat, j + g = N ∧ i = .int .i64 j ∧ Hid (HalfM gb wr (.slice (some ⟨gb, 0, none⟩) N N) (k + 1) N (mk0 k j)) ∧ Hid (Ext W0 wr))
      case atStart => exact ⟨0, by omega, rfl, HH2, HE2⟩
      case round =>
        clear HH2 HE2
        obtain ⟨j, hj, rfl, HH, E⟩ := hrel
        have hjl : j ≤ N := by omega
        have Hj := hid hj
        clear hj
        by_cases hjlt : j < N
        · by_cases ekj : k = j
          · have e1b : ((k : Int) != (j : Int)) = false := by rw [ekj]; simp
            have h := HH.out
            rw [← ekj, ← mk0_same] at h
            have HH2 := hid h
            have Hekj := hid ekj
            clear h ekj
            go_wp2
            go_roundg (gk - 1)
            case rel => exact ⟨j + 1, by have := Hj.out; omega, by go_num, by rw [← Hekj.out]; exact HH2.out, E.out⟩
            case measure => have := Hj.out; omega
          · have e1b : ((k : Int) != (j : Int)) = true := by rw [bne_iff_ne]; omega
            obtain ⟨g, rc, rb, rB, -, rset⟩ := HH.out.row (k := k) (by omega)
            have d1 := rb.cell (i := j) (by rw [rowL_len]; exact hjlt)
            have fr := rb.free j
            have h := rset j (-1) hjlt
            rw [mk0_set ekj] at h
            have HH2 := hid h
            have HE2 := hid (E.out.setCell (show W0.heap.size ≤ g by have h2 := Hsz.out; omega) j (.int .i64 (-1)))
            clear rb rset h ekj rB
            go_wp2
            go_roundg (gk - 1)
            case rel => exact ⟨j + 1, by have := Hj.out; omega, by go_num, HH2.out, HE2.out⟩
            case measure => have := Hj.out; omega
        · have ej : j = N := by omega
          have h := HH.out
          rw [ej] at h
          have HH2 := hid (h.congr (D' := bf0) (fun a c _ hc => mk0_end hc))
          clear h ej
          go_wp2
          go_roundg (N - (k + 1))
          case rel => exact ⟨k + 1, by omega, by go_num, HH2.out, E.out⟩
          case measure => have := Hk.out; omega
    · have ek : k = N := by omega
      have h := HH.out
      rw [ek] at h
      have MAT := hid h.mat
      have cn := (X0.out.ext E.out).cells.1
      clear h ek HMK2 HH
      go_wp2
      clear cn
      go_loopg [45] N (fun g i wr => ∃ t : Nat, t + g = N ∧ i = .int .i64 t ∧ Hid (Mat gb wr (.slice (some ⟨gb, 0, none⟩) N N) N N (bfT rs N t)) ∧ Hid (Ext W0 wr) ∧ Hid (Bd N (512 * t) (bfT rs N t)))
      case atStart => exact ⟨0, by omega, rfl, MAT, E, Bd.zero N⟩
      case round =>
        clear MAT E
        obtain ⟨t, ht, rfl, MAT, E, BD⟩ := hrel
        have htl : t ≤ N := by omega
        have Ht := hid ht
        clear ht
        by_cases htlt : t < N
        · obtain ⟨D0, hD0⟩ : ∃ D, D = bfT rs N t := ⟨_, rfl⟩
          rw [← hD0] at MAT BD
          have HD0 : Hid (bfT rs N (t + 1) = (List.range N).foldl (bfB rs N) D0) := by
            show (List.range (t + 1)).foldl (bfA rs N) bf0 = _
            rw [fold_succ, hD0]; rfl
          clear hD0
          go_wp2
          go_loopg [49] N (fun g i wr => ∃ a : Nat, a + g = N ∧ i = .int .i64 a ∧ Hid (Mat gb wr (.slice (some ⟨gb, 0, none⟩) N N) N N ((List.range a).foldl (bfB rs N) D0)) ∧ Hid (Ext W0 wr) ∧ Hid (Bd N (512 * t + 64 * a) ((List.range a).foldl (bfB rs N) D0)))
          case atStart => exact ⟨0, by omega, rfl, MAT, E, BD⟩
          case round =>
            clear MAT E BD
            obtain ⟨a, ha, rfl, MAT, E, BD⟩ := hrel
            have hal : a ≤ N := by omega
            have Ha := hid ha
            clear ha
            by_cases halt : a < N
            · obtain ⟨D1, hD1⟩ : ∃ D, D = (List.range a).foldl (bfB rs N) D0 := ⟨_, rfl⟩
              rw [← hD1] at MAT BD
              have HD1 : Hid ((List.range (a + 1)).foldl (bfB rs N) D0 = (List.range N).foldl (bfC rs N a) D1) := by
                show _ = _
                rw [fold_succ, hD1]; rfl
              clear hD1
              go_wp2
              go_loopg [54] N (fun g i wr => ∃ b : Nat, b + g = N ∧ i = .int .i64 b ∧ Hid (Mat gb wr (.slice (some ⟨gb, 0, none⟩) N N) N N ((List.range b).foldl (bfC rs N a) D1)) ∧ Hid (Ext W0 wr) ∧ Hid (Bd N (512 * t + 64 * a + 8 * b) ((List.range b).foldl (bfC rs N a) D1)))
              case atStart => exact ⟨0, by omega, rfl, MAT, E, BD⟩
              case round =>
                clear MAT E BD
                obtain ⟨b, hb, rfl, MAT, E, BD⟩ := hrel
                have hbl : b ≤ N := by omega
                have Hb := hid hb
                clear hb
                by_cases hblt : b < N
                · obtain ⟨D2, hD2⟩ : ∃ D, D = (List.range b).foldl (bfC rs N a) D1 := ⟨_, rfl⟩
                  rw [← hD2] at MAT BD
                  have HD2 : Hid ((List.range (b + 1)).foldl (bfC rs N a) D1 = (List.range N).foldl (bf1 rs a b) D2) := by
                    show _ = _
                    rw [fold_succ, hD2]; rfl
                  clear hD2
                  go_wp2
                  go_loopg [59] N (fun g i wr => ∃ c : Nat, c + g = N ∧ i = .int .i64 c ∧ Hid (Mat gb wr (.slice (some ⟨gb, 0, none⟩) N N) N N ((List.range c).foldl (bf1 rs a b) D2)) ∧ Hid (Ext W0 wr) ∧ Hid (Bd N (512 * t + 64 * a + 8 * b + c) ((List.range c).foldl (bf1 rs a b) D2)))
                  case atStart => exact ⟨0, by omega, rfl, MAT, E, BD⟩
                  case round =>
                    clear MAT E BD
                    obtain ⟨c, hc, rfl, MAT, E, BD⟩ := hrel
                    have hcl : c ≤ N := by omega
                    have Hc := hid hc
                    clear hc
                    by_cases hclt : c < N
                    · obtain ⟨D, hD⟩ : ∃ D, D = (List.range c).foldl (bf1 rs a b) D2 := ⟨_, rfl⟩
                      rw [← hD] at MAT BD
                      have HD : Hid ((List.range (c + 1)).foldl (bf1 rs a b) D2 = bf1 rs a b D c) := by
                        show _ = _
                        rw [fold_succ, hD]
                      have HBD := hid (BD.out.step HAll.out halt hblt hclt)
                      obtain ⟨c0, c1⟩ := (X0.out.ext E.out).cells
                      clear hD
                      go_wp2_with (fail)
                      refine (step_any _ ⟨N, rs⟩ b c _ (MapR.ext (m := ⟨N, rs⟩) HV.out (HE0.out.trans E.out))).mono ?_
                      rintro e wr2 ⟨rfl, he⟩
                      dsimp only
                      have hs50 := stepR_hi HAll.out b c
                      have Hself := hid (stepR_self HAll.out b)
                      obtain ⟨s, hs⟩ : ∃ s, s = stepR rs b c := ⟨_, rfl⟩
                      rw [← hs] at hs50 ⊢
                      have Hs := hid hs
                      have MATd := hid ((MAT.out.ext he).ext (Ext.refl wr2).drew)
                      have Ed := hid (E.out.trans he).drew
                      obtain ⟨ga, ca, ia, -⟩ := (MAT.out.ext he).row halt
                      have ca' : wr2.cell? ⟨gb, a, none⟩ = some (.slice (some ⟨ga, 0, none⟩) N N) := ca
                      have dab := ia.cell (i := b) (by rw [rowL_len]; exact hblt)
                      have dac := ia.cell (i := c) (by rw [rowL_len]; exact hclt)
                      rw [rowL_fn hblt] at dab
                      rw [rowL_fn hclt] at dac
                      have bab := BD.out a b halt hblt
                      have hw1 : IntKind.i64.wrap (D a b + s) = D a b + s := by rw [IntKind.wrap_i64]; omega
                      have HW1 := hid hw1
                      clear ca ia he MAT E c0 c1 hs bab hs50
                      by_cases p1 : 0 ≤ s
                      · have p1b : decide (0 ≤ s) = true := decide_eq_true p1
                        by_cases p2 : 0 ≤ D a b
                        · have p2b : decide (0 ≤ D a b) = true := decide_eq_true p2
                          by_cases p3 : D a c < 0
                          · have p3b : decide (D a c < 0) = true := decide_eq_true p3
                            have HF : Hid (bf1 rs a b D c = updM D a c (D a b + s)) := by
                              exact bf1_on Hs.out (by omega)
                            have Hne : Hid (b ≠ c) := by
                              intro e
                              have h1 := Hs.out
                              have h2 := Hself.out
                              rw [← e] at h1
                              omega
                            clear p1 p2 p3
                            go_wp2
                            refine wp_region_held_drew (S := (fun w' => w'.cell? ⟨gb, a, none⟩ = some (.slice (some ⟨ga, 0, none⟩) N N) ∧ w'.cell? ⟨ga, b, none⟩ = some (.int .i64 (D a b)) ∧ w'.cell? ⟨ga, c, none⟩ = some (.int .i64 (D a c)))) (by kernel_rfl) ?hSa0 (fun hHeld => ?_)
                            case hSa0 => (first | (exact ⟨ca', dab, dac⟩) | ((try dsimp only); exact ⟨ca', dab, dac⟩))
                            refine wpAnyH_tk 0 (v := ?va0) rfl (by kernel_rfl) (by kernel_rfl) (by kernel_rfl) (fun _ _ _ h => h) (by rfl) ?hya0 (by assumption) ?_
                            case hya0 => (intro w hSw; (try dsimp only at hSw); go_simp <;> with_reducible rfl)
                            (try simp only [Act.put, List.setIfInBounds_toArray, List.set_cons_zero, List.set_cons_succ])
                            refine wpAnyH_tk 1 (v := ?va1) rfl (by kernel_rfl) (by kernel_rfl) (by kernel_rfl) (fun _ _ _ h => h) (by rfl) ?hya1 (by assumption) ?_
                            case hya1 => (intro w hSw; (try dsimp only at hSw); go_simp <;> with_reducible rfl)
                            (try simp only [Act.put, List.setIfInBounds_toArray, List.set_cons_zero, List.set_cons_succ])
                            refine wpAnyH_tk 2 (v := ?va2) rfl (by kernel_rfl) (by kernel_rfl) (by kernel_rfl) (fun _ _ _ h => h) (by rfl) ?hya2 (by assumption) ?_
                            case hya2 => (intro w hSw; (try dsimp only at hSw); go_simp <;> with_reducible rfl)
                            (try simp only [Act.put, List.setIfInBounds_toArray, List.set_cons_zero, List.set_cons_succ])
                            refine wpAnyH_tk 3 (v := ?va3) rfl (by kernel_rfl) (by kernel_rfl) (by kernel_rfl) (fun _ _ _ h => h) (by rfl) ?hya3 (by assumption) ?_
                            case hya3 => (intro w hSw; (try dsimp only at hSw); go_simp <;> with_reducible rfl)
                            (try simp only [Act.put, List.setIfInBounds_toArray, List.set_cons_zero, List.set_cons_succ])
                            refine wpAnyH_tk 4 (v := ?va4) rfl (by kernel_rfl) (by kernel_rfl) (by kernel_rfl) (fun _ _ _ h => h) (by rfl) ?hya4 (by assumption) ?_
                            case hya4 => (intro w hSw; (try dsimp only at hSw); go_simp <;> with_reducible rfl)
                            (try simp only [Act.put, List.setIfInBounds_toArray, List.set_cons_zero, List.set_cons_succ])
                            refine wpAnyH_tk 5 (v := ?va5) rfl (by kernel_rfl) (by kernel_rfl) (by kernel_rfl) (fun _ _ _ h => h) (by rfl) ?hya5 (by assumption) ?_
                            case hya5 => (intro w hSw; (try dsimp only at hSw); go_simp <;> with_reducible rfl)
                            (try simp only [Act.put, List.setIfInBounds_toArray, List.set_cons_zero, List.set_cons_succ])
                            refine wpAnyH_tk 6 (v := ?va6) rfl (by kernel_rfl) (by kernel_rfl) (by kernel_rfl) (fun _ _ _ h => h) (by rfl) ?hya6 (by assumption) ?_
                            case hya6 => (intro w hSw; (try dsimp only at hSw); go_simp <;> with_reducible rfl)
                            (try simp only [Act.put, List.setIfInBounds_toArray, List.set_cons_zero, List.set_cons_succ])
                            refine wpAnyH_tk 7 (v := ?va7) rfl (by kernel_rfl) (by kernel_rfl) (by kernel_rfl) (fun _ _ _ h => h) (by rfl) ?hya7 (by assumption) ?_
                            case hya7 => (intro w hSw; (try dsimp only at hSw); go_simp <;> with_reducible rfl)
                            (try simp only [Act.put, List.setIfInBounds_toArray, List.set_cons_zero, List.set_cons_succ])
                            refine wpAnyH_tk 8 (v := ?va8) rfl (by kernel_rfl) (by kernel_rfl) (by kernel_rfl) (fun _ _ _ h => h) (by rfl) ?hya8 (by assumption) ?_
                            case hya8 => (intro w hSw; (try dsimp only at hSw); go_simp <;> with_reducible rfl)
                            (try simp only [Act.put, List.setIfInBounds_toArray, List.set_cons_zero, List.set_cons_succ])
                            refine wpAnyH_tk 9 (v := ?va9) rfl (by kernel_rfl) (by kernel_rfl) (by kernel_rfl) (fun _ _ _ h => h) (by rfl) ?hya9 (by assumption) ?_
                            case hya9 => (intro w hSw; (try dsimp only at hSw); go_simp <;> with_reducible rfl)
                            (try simp only [Act.put, List.setIfInBounds_toArray, List.set_cons_zero, List.set_cons_succ])
                            refine wpAnyH_tk 10 (v := ?va10) rfl (by kernel_rfl) (by kernel_rfl) (by kernel_rfl) (fun _ _ _ h => h) (by rfl) ?hya10 (by assumption) ?_
                            case hya10 => (intro w hSw; (try dsimp only at hSw); go_simp <;> with_reducible rfl)
                            (try simp only [Act.put, List.setIfInBounds_toArray, List.set_cons_zero, List.set_cons_succ])
                            refine wpAnyH_tk 11 (v := ?va11) rfl (by kernel_rfl) (by kernel_rfl) (by kernel_rfl) (fun _ _ _ h => h) (by rfl) ?hya11 (by assumption) ?_
                            case hya11 => (intro w hSw; (try dsimp only at hSw); go_simp <;> with_reducible rfl)
                            (try simp only [Act.put, List.setIfInBounds_toArray, List.set_cons_zero, List.set_cons_succ])
                            refine wpAnyH_tk 12 (v := ?va12) rfl (by kernel_rfl) (by kernel_rfl) (by kernel_rfl) (fun _ _ _ h => h) (by rfl) ?hya12 (by assumption) ?_
                            case hya12 => (intro w hSw; (try dsimp only at hSw); go_simp <;> with_reducible rfl)
                            (try simp only [Act.put, List.setIfInBounds_toArray, List.set_cons_zero, List.set_cons_succ])
                            refine wpAnyH_tk 13 (v := ?va13) rfl (by kernel_rfl) (by kernel_rfl) (by kernel_rfl) (fun _ _ _ h => h) (by rfl) ?hya13 (by assumption) ?_
                            case hya13 => (intro w hSw; (try dsimp only at hSw); go_simp <;> with_reducible rfl)
                            (try simp only [Act.put, List.setIfInBounds_toArray, List.set_cons_zero, List.set_cons_succ])
                            refine wpAnyH_tk 14 (v := ?va14) rfl (by kernel_rfl) (by kernel_rfl) (by kernel_rfl) (fun _ _ _ h => h) (by rfl) ?hya14 (by assumption) ?_
                            case hya14 => (intro w hSw; (try dsimp only at hSw); go_simp <;> with_reducible rfl)
                            (try simp only [Act.put, List.setIfInBounds_toArray, List.set_cons_zero, List.set_cons_succ])
                            refine wpAnyH_tk 15 (v := ?va15) rfl (by kernel_rfl) (by kernel_rfl) (by kernel_rfl) (fun _ _ _ h => h) (by rfl) ?hya15 (by assumption) ?_
                            case hya15 => (intro w hSw; (try dsimp only at hSw); go_simp <;> with_reducible rfl)
                            (try simp only [Act.put, List.setIfInBounds_toArray, List.set_cons_zero, List.set_cons_succ])
                            refine wpAnyH_tk 16 (v := ?va16) rfl (by kernel_rfl) (by kernel_rfl) (by kernel_rfl) (fun _ _ _ h => h) (by rfl) ?hya16 (by assumption) ?_
                            case hya16 => (intro w hSw; (try dsimp only at hSw); go_simp <;> with_reducible rfl)
                            (try simp only [Act.put, List.setIfInBounds_toArray, List.set_cons_zero, List.set_cons_succ])
                            refine wpAnyH_tk 17 (v := ?va17) rfl (by kernel_rfl) (by kernel_rfl) (by kernel_rfl) (fun _ _ _ h => h) (by rfl) ?hya17 (by assumption) ?_
                            case hya17 => (intro w hSw; (try dsimp only at hSw); go_simp <;> with_reducible rfl)
                            (try simp only [Act.put, List.setIfInBounds_toArray, List.set_cons_zero, List.set_cons_succ])
                            refine wpAnyH_tk 18 (v := ?va18) rfl (by kernel_rfl) (by kernel_rfl) (by kernel_rfl) (fun _ _ _ h => h) (by rfl) ?hya18 (by assumption) ?_
                            case hya18 => (intro w hSw; (try dsimp only at hSw); go_simp <;> with_reducible rfl)
                            (try simp only [Act.put, List.setIfInBounds_toArray, List.set_cons_zero, List.set_cons_succ])
                            refine wpAnyH_tk 19 (v := ?va19) rfl (by kernel_rfl) (by kernel_rfl) (by kernel_rfl) (fun _ _ _ h => h) (by rfl) ?hya19 (by assumption) ?_
                            case hya19 => (intro w hSw; (try dsimp only at hSw); go_simp <;> with_reducible rfl)
                            (try simp only [Act.put, List.setIfInBounds_toArray, List.set_cons_zero, List.set_cons_succ])
                            refine wpAnyH_tk 20 (v := ?va20) rfl (by kernel_rfl) (by kernel_rfl) (by kernel_rfl) (fun _ _ _ h => h) (by rfl) ?hya20 (by assumption) ?_
                            case hya20 => (intro w hSw; (try dsimp only at hSw); go_simp <;> with_reducible rfl)
                            (try simp only [Act.put, List.setIfInBounds_toArray, List.set_cons_zero, List.set_cons_succ])
                            refine wpAnyH_tk 21 (v := ?va21) rfl (by kernel_rfl) (by kernel_rfl) (by kernel_rfl) (fun _ _ _ h => h) (by rfl) ?hya21 (by assumption) ?_
                            case hya21 => (intro w hSw; (try dsimp only at hSw); go_simp <;> with_reducible rfl)
                            (try simp only [Act.put, List.setIfInBounds_toArray, List.set_cons_zero, List.set_cons_succ])
                            refine wpAnyH_skips 21 false 87 2 (by kernel_rfl) rfl (fun _ _ _ _ _ h => h) [22, 23, 24, 25, 26, 27, 28, 29, 30, 31, 32, 33, 34, 35, 36, 37, 38] [88, 89, 90, 91, 92, 93, 94, 95, 96, 97, 98, 99, 100, 101, 102, 103, 104] _ _ _ rfl (by kernel_rfl) (by rfl) (by assumption) ?_
                            (try simp only [putsAll, List.foldl, Act.put, List.setIfInBounds_toArray, List.set_cons_zero, List.set_cons_succ])
                            refine wpAnyH_tk 39 (v := ?va39) rfl (by kernel_rfl) (by kernel_rfl) (by kernel_rfl) (fun _ _ _ h => h) (by rfl) ?hya39 (by assumption) ?_
                            case hya39 => (intro w hSw; (try dsimp only at hSw); go_simp <;> with_reducible rfl)
                            (try simp only [Act.put, List.setIfInBounds_toArray, List.set_cons_zero, List.set_cons_succ])
                            refine wpAnyH_tk 40 (v := ?va40) rfl (by kernel_rfl) (by kernel_rfl) (by kernel_rfl) (fun _ _ _ h => h) (by rfl) ?hya40 (by assumption) ?_
                            case hya40 => (intro w hSw; (try dsimp only at hSw); go_simp <;> with_reducible rfl)
                            (try simp only [Act.put, List.setIfInBounds_toArray, List.set_cons_zero, List.set_cons_succ])
                            refine wpAnyH_done (by kernel_rfl) ?_ _
                            clear ca' dab dac hHeld hw1 p1b p2b p3b
                            generalize wr2.drew = wd at MATd Ed ⊢
                            obtain ⟨ga, ca, ia, gaB, gne, aset, -⟩ := MATd.out.row halt
                            have ca' : wd.cell? ⟨gb, a, none⟩ = some (.slice (some ⟨ga, 0, none⟩) N N) := ca
                            have dab := ia.cell (i := b) (by rw [rowL_len]; exact hblt)
                            have dac := ia.cell (i := c) (by rw [rowL_len]; exact hclt)
                            have fr := ia.free c
                            rw [rowL_fn hblt] at dab
                            rw [rowL_fn hclt] at dac
                            have hw1 := HW1.out
                            have hne := Hne.out
                            have q1 : (wd.setCell ⟨ga, c, none⟩ (.int .i64 (D a b + s))).cell? ⟨gb, a, none⟩ = some (.slice (some ⟨ga, 0, none⟩) N N) := by rw [World.cell?_setCell_other (h := by first | (simp; done) | (simp; omega) | simp [gne])]; exact ca'
                            have q2 : (wd.setCell ⟨ga, c, none⟩ (.int .i64 (D a b + s))).cell? ⟨ga, b, none⟩ = some (.int .i64 (D a b)) := by rw [World.cell?_setCell_other (h := by first | (simp; done) | (simp; omega))]; exact dab
                            have HM2 := hid ((aset c (D a b + s) hclt).ext (Ext.refl _).drew)
                            have HE2 := hid (Ed.out.setCell (show W0.heap.size ≤ ga by have h2 := Hsz.out; omega) c (.int .i64 (D a b + s))).drew
                            clear ca ia aset gaB hne
                            go_wp2
                            refine wp_region_held_drew (S := (fun w' => w'.cell? ⟨gb, a, none⟩ = some (.slice (some ⟨ga, 0, none⟩) N N) ∧ w'.cell? ⟨ga, b, none⟩ = some (.int .i64 (D a b)))) (by kernel_rfl) ?hSb0 (fun hHeld => ?_)
                            case hSb0 => (first | (first | exact ⟨ca', dab⟩ | exact ⟨q1, q2⟩) | ((try dsimp only); first | exact ⟨ca', dab⟩ | exact ⟨q1, q2⟩))
                            refine wpAnyH_tk 0 (v := ?vb0) rfl (by kernel_rfl) (by kernel_rfl) (by kernel_rfl) (fun _ _ _ h => h) (by rfl) ?hyb0 (by assumption) ?_
                            case hyb0 => (intro w hSw; (try dsimp only at hSw); go_simp <;> with_reducible rfl)
                            (try simp only [Act.put, List.setIfInBounds_toArray, List.set_cons_zero, List.set_cons_succ])
                            refine wpAnyH_tk 1 (v := ?vb1) rfl (by kernel_rfl) (by kernel_rfl) (by kernel_rfl) (fun _ _ _ h => h) (by rfl) ?hyb1 (by assumption) ?_
                            case hyb1 => (intro w hSw; (try dsimp only at hSw); go_simp <;> with_reducible rfl)
                            (try simp only [Act.put, List.setIfInBounds_toArray, List.set_cons_zero, List.set_cons_succ])
                            refine wpAnyH_tk 2 (v := ?vb2) rfl (by kernel_rfl) (by kernel_rfl) (by kernel_rfl) (fun _ _ _ h => h) (by rfl) ?hyb2 (by assumption) ?_
                            case hyb2 => (intro w hSw; (try dsimp only at hSw); go_simp <;> with_reducible rfl)
                            (try simp only [Act.put, List.setIfInBounds_toArray, List.set_cons_zero, List.set_cons_succ])
                            refine wpAnyH_tk 3 (v := ?vb3) rfl (by kernel_rfl) (by kernel_rfl) (by kernel_rfl) (fun _ _ _ h => h) (by rfl) ?hyb3 (by assumption) ?_
                            case hyb3 => (intro w hSw; (try dsimp only at hSw); go_simp <;> with_reducible rfl)
                            (try simp only [Act.put, List.setIfInBounds_toArray, List.set_cons_zero, List.set_cons_succ])
                            refine wpAnyH_tk 4 (v := ?vb4) rfl (by kernel_rfl) (by kernel_rfl) (by kernel_rfl) (fun _ _ _ h => h) (by rfl) ?hyb4 (by assumption) ?_
                            case hyb4 => (intro w hSw; (try dsimp only at hSw); go_simp <;> with_reducible rfl)
                            (try simp only [Act.put, List.setIfInBounds_toArray, List.set_cons_zero, List.set_cons_succ])
                            refine wpAnyH_tk 5 (v := ?vb5) rfl (by kernel_rfl) (by kernel_rfl) (by kernel_rfl) (fun _ _ _ h => h) (by rfl) ?hyb5 (by assumption) ?_
                            case hyb5 => (intro w hSw; (try dsimp only at hSw); go_simp <;> with_reducible rfl)
                            (try simp only [Act.put, List.setIfInBounds_toArray, List.set_cons_zero, List.set_cons_succ])
                            refine wpAnyH_tk 6 (v := ?vb6) rfl (by kernel_rfl) (by kernel_rfl) (by kernel_rfl) (fun _ _ _ h => h) (by rfl) ?hyb6 (by assumption) ?_
                            case hyb6 => (intro w hSw; (try dsimp only at hSw); go_simp <;> with_reducible rfl)
                            (try simp only [Act.put, List.setIfInBounds_toArray, List.set_cons_zero, List.set_cons_succ])
                            refine wpAnyH_tk 7 (v := ?vb7) rfl (by kernel_rfl) (by kernel_rfl) (by kernel_rfl) (fun _ _ _ h => h) (by rfl) ?hyb7 (by assumption) ?_
                            case hyb7 => (intro w hSw; (try dsimp only at hSw); go_simp <;> with_reducible rfl)
                            (try simp only [Act.put, List.setIfInBounds_toArray, List.set_cons_zero, List.set_cons_succ])
                            refine wpAnyH_tk 8 (v := ?vb8) rfl (by kernel_rfl) (by kernel_rfl) (by kernel_rfl) (fun _ _ _ h => h) (by rfl) ?hyb8 (by assumption) ?_
                            case hyb8 => (intro w hSw; (try dsimp only at hSw); go_simp <;> with_reducible rfl)
                            (try simp only [Act.put, List.setIfInBounds_toArray, List.set_cons_zero, List.set_cons_succ])
                            refine wpAnyH_tk 9 (v := ?vb9) rfl (by kernel_rfl) (by kernel_rfl) (by kernel_rfl) (fun _ _ _ h => h) (by rfl) ?hyb9 (by assumption) ?_
                            case hyb9 => (intro w hSw; (try dsimp only at hSw); go_simp <;> with_reducible rfl)
                            (try simp only [Act.put, List.setIfInBounds_toArray, List.set_cons_zero, List.set_cons_succ])
                            refine wpAnyH_tk 10 (v := ?vb10) rfl (by kernel_rfl) (by kernel_rfl) (by kernel_rfl) (fun _ _ _ h => h) (by rfl) ?hyb10 (by assumption) ?_
                            case hyb10 => (intro w hSw; (try dsimp only at hSw); go_simp <;> with_reducible rfl)
                            (try simp only [Act.put, List.setIfInBounds_toArray, List.set_cons_zero, List.set_cons_succ])
                            refine wpAnyH_tk 11 (v := ?vb11) rfl (by kernel_rfl) (by kernel_rfl) (by kernel_rfl) (fun _ _ _ h => h) (by rfl) ?hyb11 (by assumption) ?_
                            case hyb11 => (intro w hSw; (try dsimp only at hSw); go_simp <;> with_reducible rfl)
                            (try simp only [Act.put, List.setIfInBounds_toArray, List.set_cons_zero, List.set_cons_succ])
                            refine wpAnyH_tk 12 (v := ?vb12) rfl (by kernel_rfl) (by kernel_rfl) (by kernel_rfl) (fun _ _ _ h => h) (by rfl) ?hyb12 (by assumption) ?_
                            case hyb12 => (intro w hSw; (try dsimp only at hSw); go_simp <;> with_reducible rfl)
                            (try simp only [Act.put, List.setIfInBounds_toArray, List.set_cons_zero, List.set_cons_succ])
                            refine wpAnyH_tk 13 (v := ?vb13) rfl (by kernel_rfl) (by kernel_rfl) (by kernel_rfl) (fun _ _ _ h => h) (by rfl) ?hyb13 (by assumption) ?_
                            case hyb13 => (intro w hSw; (try dsimp only at hSw); go_simp <;> with_reducible rfl)
                            (try simp only [Act.put, List.setIfInBounds_toArray, List.set_cons_zero, List.set_cons_succ])
                            refine wpAnyH_tk 14 (v := ?vb14) rfl (by kernel_rfl) (by kernel_rfl) (by kernel_rfl) (fun _ _ _ h => h) (by rfl) ?hyb14 (by assumption) ?_
                            case hyb14 => (intro w hSw; (try dsimp only at hSw); go_simp <;> with_reducible rfl)
                            (try simp only [Act.put, List.setIfInBounds_toArray, List.set_cons_zero, List.set_cons_succ])
                            refine wpAnyH_one 15 rfl (by kernel_rfl) (by rfl) (fun K hK => ?_)
                            go_simp
                            (skip)
                            refine hK.out _ _ ?hSb16 (fun hHeld => ?_)
                            case hSb16 => (first | (first | exact ⟨ca', dab⟩ | exact ⟨q1, q2⟩) | ((try dsimp only); first | exact ⟨ca', dab⟩ | exact ⟨q1, q2⟩))
                            clear hK K
                            (try simp only [Act.put, List.setIfInBounds_toArray, List.set_cons_zero, List.set_cons_succ])
                            refine wpAnyH_done (by kernel_rfl) ?_ _
                            clear ca' dab dac fr q1 q2 hHeld hw1
                            go_wp2
                            go_roundg (gk - 1)
                            case rel => exact ⟨c + 1, by have := Hc.out; omega, by go_num, by rw [HD.out, HF.out]; exact HM2.out, HE2.out, by rw [HD.out]; exact HBD.out⟩
                            case measure => have := Hc.out; omega
                          · have p3b : decide (D a c < 0) = false := decide_eq_false p3
                            by_cases p4 : D a b + s < D a c
                            · have p4b : decide (D a b + s < D a c) = true := decide_eq_true p4
                              have HF : Hid (bf1 rs a b D c = updM D a c (D a b + s)) := by
                                exact bf1_on Hs.out (by omega)
                              have Hne : Hid (b ≠ c) := by
                                intro e
                                have h1 := Hs.out
                                have h2 := Hself.out
                                rw [← e] at h1
                                omega
                              clear p1 p2 p3 p4
                              go_wp2
                              refine wp_region_held_drew (S := (fun w' => w'.cell? ⟨gb, a, none⟩ = some (.slice (some ⟨ga, 0, none⟩) N N) ∧ w'.cell? ⟨ga, b, none⟩ = some (.int .i64 (D a b)) ∧ w'.cell? ⟨ga, c, none⟩ = some (.int .i64 (D a c)))) (by kernel_rfl) ?hSc0 (fun hHeld => ?_)
                              case hSc0 => (first | (exact ⟨ca', dab, dac⟩) | ((try dsimp only); exact ⟨ca', dab, dac⟩))
                              refine wpAnyH_tk 0 (v := ?vc0) rfl (by kernel_rfl) (by kernel_rfl) (by kernel_rfl) (fun _ _ _ h => h) (by rfl) ?hyc0 (by assumption) ?_
                              case hyc0 => (intro w hSw; (try dsimp only at hSw); go_simp <;> with_reducible rfl)
                              (try simp only [Act.put, List.setIfInBounds_toArray, List.set_cons_zero, List.set_cons_succ])
                              refine wpAnyH_tk 1 (v := ?vc1) rfl (by kernel_rfl) (by kernel_rfl) (by kernel_rfl) (fun _ _ _ h => h) (by rfl) ?hyc1 (by assumption) ?_
                              case hyc1 => (intro w hSw; (try dsimp only at hSw); go_simp <;> with_reducible rfl)
                              (try simp only [Act.put, List.setIfInBounds_toArray, List.set_cons_zero, List.set_cons_succ])
                              refine wpAnyH_tk 2 (v := ?vc2) rfl (by kernel_rfl) (by kernel_rfl) (by kernel_rfl) (fun _ _ _ h => h) (by rfl) ?hyc2 (by assumption) ?_
                              case hyc2 => (intro w hSw; (try dsimp only at hSw); go_simp <;> with_reducible rfl)
                              (try simp only [Act.put, List.setIfInBounds_toArray, List.set_cons_zero, List.set_cons_succ])
                              refine wpAnyH_tk 3 (v := ?vc3) rfl (by kernel_rfl) (by kernel_rfl) (by kernel_rfl) (fun _ _ _ h => h) (by rfl) ?hyc3 (by assumption) ?_
                              case hyc3 => (intro w hSw; (try dsimp only at hSw); go_simp <;> with_reducible rfl)
                              (try simp only [Act.put, List.setIfInBounds_toArray, List.set_cons_zero, List.set_cons_succ])
                              refine wpAnyH_tk 4 (v := ?vc4) rfl (by kernel_rfl) (by kernel_rfl) (by kernel_rfl) (fun _ _ _ h => h) (by rfl) ?hyc4 (by assumption) ?_
                              case hyc4 => (intro w hSw; (try dsimp only at hSw); go_simp <;> with_reducible rfl)
                              (try simp only [Act.put, List.setIfInBounds_toArray, List.set_cons_zero, List.set_cons_succ])
                              refine wpAnyH_tk 5 (v := ?vc5) rfl (by kernel_rfl) (by kernel_rfl) (by kernel_rfl) (fun _ _ _ h => h) (by rfl) ?hyc5 (by assumption) ?_
                              case hyc5 => (intro w hSw; (try dsimp only at hSw); go_simp <;> with_reducible rfl)
                              (try simp only [Act.put, List.setIfInBounds_toArray, List.set_cons_zero, List.set_cons_succ])
                              refine wpAnyH_tk 6 (v := ?vc6) rfl (by kernel_rfl) (by kernel_rfl) (by kernel_rfl) (fun _ _ _ h => h) (by rfl) ?hyc6 (by assumption) ?_
                              case hyc6 => (intro w hSw; (try dsimp only at hSw); go_simp <;> with_reducible rfl)
                              (try simp only [Act.put, List.setIfInBounds_toArray, List.set_cons_zero, List.set_cons_succ])
                              refine wpAnyH_tk 7 (v := ?vc7) rfl (by kernel_rfl) (by kernel_rfl) (by kernel_rfl) (fun _ _ _ h => h) (by rfl) ?hyc7 (by assumption) ?_
                              case hyc7 => (intro w hSw; (try dsimp only at hSw); go_simp <;> with_reducible rfl)
                              (try simp only [Act.put, List.setIfInBounds_toArray, List.set_cons_zero, List.set_cons_succ])
                              refine wpAnyH_tk 8 (v := ?vc8) rfl (by kernel_rfl) (by kernel_rfl) (by kernel_rfl) (fun _ _ _ h => h) (by rfl) ?hyc8 (by assumption) ?_
                              case hyc8 => (intro w hSw; (try dsimp only at hSw); go_simp <;> with_reducible rfl)
                              (try simp only [Act.put, List.setIfInBounds_toArray, List.set_cons_zero, List.set_cons_succ])
                              refine wpAnyH_tk 9 (v := ?vc9) rfl (by kernel_rfl) (by kernel_rfl) (by kernel_rfl) (fun _ _ _ h => h) (by rfl) ?hyc9 (by assumption) ?_
                              case hyc9 => (intro w hSw; (try dsimp only at hSw); go_simp <;> with_reducible rfl)
                              (try simp only [Act.put, List.setIfInBounds_toArray, List.set_cons_zero, List.set_cons_succ])
                              refine wpAnyH_tk 10 (v := ?vc10) rfl (by kernel_rfl) (by kernel_rfl) (by kernel_rfl) (fun _ _ _ h => h) (by rfl) ?hyc10 (by assumption) ?_
                              case hyc10 => (intro w hSw; (try dsimp only at hSw); go_simp <;> with_reducible rfl)
                              (try simp only [Act.put, List.setIfInBounds_toArray, List.set_cons_zero, List.set_cons_succ])
                              refine wpAnyH_tk 11 (v := ?vc11) rfl (by kernel_rfl) (by kernel_rfl) (by kernel_rfl) (fun _ _ _ h => h) (by rfl) ?hyc11 (by assumption) ?_
                              case hyc11 => (intro w hSw; (try dsimp only at hSw); go_simp <;> with_reducible rfl)
                              (try simp only [Act.put, List.setIfInBounds_toArray, List.set_cons_zero, List.set_cons_succ])
                              refine wpAnyH_tk 12 (v := ?vc12) rfl (by kernel_rfl) (by kernel_rfl) (by kernel_rfl) (fun _ _ _ h => h) (by rfl) ?hyc12 (by assumption) ?_
                              case hyc12 => (intro w hSw; (try dsimp only at hSw); go_simp <;> with_reducible rfl)
                              (try simp only [Act.put, List.setIfInBounds_toArray, List.set_cons_zero, List.set_cons_succ])
                              refine wpAnyH_tk 13 (v := ?vc13) rfl (by kernel_rfl) (by kernel_rfl) (by kernel_rfl) (fun _ _ _ h => h) (by rfl) ?hyc13 (by assumption) ?_
                              case hyc13 => (intro w hSw; (try dsimp only at hSw); go_simp <;> with_reducible rfl)
                              (try simp only [Act.put, List.setIfInBounds_toArray, List.set_cons_zero, List.set_cons_succ])
                              refine wpAnyH_tk 14 (v := ?vc14) rfl (by kernel_rfl) (by kernel_rfl) (by kernel_rfl) (fun _ _ _ h => h) (by rfl) ?hyc14 (by assumption) ?_
                              case hyc14 => (intro w hSw; (try dsimp only at hSw); go_simp <;> with_reducible rfl)
                              (try simp only [Act.put, List.setIfInBounds_toArray, List.set_cons_zero, List.set_cons_succ])
                              refine wpAnyH_tk 15 (v := ?vc15) rfl (by kernel_rfl) (by kernel_rfl) (by kernel_rfl) (fun _ _ _ h => h) (by rfl) ?hyc15 (by assumption) ?_
                              case hyc15 => (intro w hSw; (try dsimp only at hSw); go_simp <;> with_reducible rfl)
                              (try simp only [Act.put, List.setIfInBounds_toArray, List.set_cons_zero, List.set_cons_succ])
                              refine wpAnyH_tk 16 (v := ?vc16) rfl (by kernel_rfl) (by kernel_rfl) (by kernel_rfl) (fun _ _ _ h => h) (by rfl) ?hyc16 (by assumption) ?_
                              case hyc16 => (intro w hSw; (try dsimp only at hSw); go_simp <;> with_reducible rfl)
                              (try simp only [Act.put, List.setIfInBounds_toArray, List.set_cons_zero, List.set_cons_succ])
                              refine wpAnyH_tk 17 (v := ?vc17) rfl (by kernel_rfl) (by kernel_rfl) (by kernel_rfl) (fun _ _ _ h => h) (by rfl) ?hyc17 (by assumption) ?_
                              case hyc17 => (intro w hSw; (try dsimp only at hSw); go_simp <;> with_reducible rfl)
                              (try simp only [Act.put, List.setIfInBounds_toArray, List.set_cons_zero, List.set_cons_succ])
                              refine wpAnyH_tk 18 (v := ?vc18) rfl (by kernel_rfl) (by kernel_rfl) (by kernel_rfl) (fun _ _ _ h => h) (by rfl) ?hyc18 (by assumption) ?_
                              case hyc18 => (intro w hSw; (try dsimp only at hSw); go_simp <;> with_reducible rfl)
                              (try simp only [Act.put, List.setIfInBounds_toArray, List.set_cons_zero, List.set_cons_succ])
                              refine wpAnyH_tk 19 (v := ?vc19) rfl (by kernel_rfl) (by kernel_rfl) (by kernel_rfl) (fun _ _ _ h => h) (by rfl) ?hyc19 (by assumption) ?_
                              case hyc19 => (intro w hSw; (try dsimp only at hSw); go_simp <;> with_reducible rfl)
                              (try simp only [Act.put, List.setIfInBounds_toArray, List.set_cons_zero, List.set_cons_succ])
                              refine wpAnyH_tk 20 (v := ?vc20) rfl (by kernel_rfl) (by kernel_rfl) (by kernel_rfl) (fun _ _ _ h => h) (by rfl) ?hyc20 (by assumption) ?_
                              case hyc20 => (intro w hSw; (try dsimp only at hSw); go_simp <;> with_reducible rfl)
                              (try simp only [Act.put, List.setIfInBounds_toArray, List.set_cons_zero, List.set_cons_succ])
                              refine wpAnyH_tk 21 (v := ?vc21) rfl (by kernel_rfl) (by kernel_rfl) (by kernel_rfl) (fun _ _ _ h => h) (by rfl) ?hyc21 (by assumption) ?_
                              case hyc21 => (intro w hSw; (try dsimp only at hSw); go_simp <;> with_reducible rfl)
                              (try simp only [Act.put, List.setIfInBounds_toArray, List.set_cons_zero, List.set_cons_succ])
                              refine wpAnyH_tk 22 (v := ?vc22) rfl (by kernel_rfl) (by kernel_rfl) (by kernel_rfl) (fun _ _ _ h => h) (by rfl) ?hyc22 (by assumption) ?_
                              case hyc22 => (intro w hSw; (try dsimp only at hSw); go_simp <;> with_reducible rfl)
                              (try simp only [Act.put, List.setIfInBounds_toArray, List.set_cons_zero, List.set_cons_succ])
                              refine wpAnyH_tk 23 (v := ?vc23) rfl (by kernel_rfl) (by kernel_rfl) (by kernel_rfl) (fun _ _ _ h => h) (by rfl) ?hyc23 (by assumption) ?_
                              case hyc23 => (intro w hSw; (try dsimp only at hSw); go_simp <;> with_reducible rfl)
                              (try simp only [Act.put, List.setIfInBounds_toArray, List.set_cons_zero, List.set_cons_succ])
                              refine wpAnyH_tk 24 (v := ?vc24) rfl (by kernel_rfl) (by kernel_rfl) (by kernel_rfl) (fun _ _ _ h => h) (by rfl) ?hyc24 (by assumption) ?_
                              case hyc24 => (intro w hSw; (try dsimp only at hSw); go_simp <;> with_reducible rfl)
                              (try simp only [Act.put, List.setIfInBounds_toArray, List.set_cons_zero, List.set_cons_succ])
                              refine wpAnyH_tk 25 (v := ?vc25) rfl (by kernel_rfl) (by kernel_rfl) (by kernel_rfl) (fun _ _ _ h => h) (by rfl) ?hyc25 (by assumption) ?_
                              case hyc25 => (intro w hSw; (try dsimp only at hSw); go_simp <;> with_reducible rfl)
                              (try simp only [Act.put, List.setIfInBounds_toArray, List.set_cons_zero, List.set_cons_succ])
                              refine wpAnyH_tk 26 (v := ?vc26) rfl (by kernel_rfl) (by kernel_rfl) (by kernel_rfl) (fun _ _ _ h => h) (by rfl) ?hyc26 (by assumption) ?_
                              case hyc26 => (intro w hSw; (try dsimp only at hSw); go_simp <;> with_reducible rfl)
                              (try simp only [Act.put, List.setIfInBounds_toArray, List.set_cons_zero, List.set_cons_succ])
                              refine wpAnyH_tk 27 (v := ?vc27) rfl (by kernel_rfl) (by kernel_rfl) (by kernel_rfl) (fun _ _ _ h => h) (by rfl) ?hyc27 (by assumption) ?_
                              case hyc27 => (intro w hSw; (try dsimp only at hSw); go_simp <;> with_reducible rfl)
                              (try simp only [Act.put, List.setIfInBounds_toArray, List.set_cons_zero, List.set_cons_succ])
                              refine wpAnyH_tk 28 (v := ?vc28) rfl (by kernel_rfl) (by kernel_rfl) (by kernel_rfl) (fun _ _ _ h => h) (by rfl) ?hyc28 (by assumption) ?_
                              case hyc28 => (intro w hSw; (try dsimp only at hSw); go_simp <;> with_reducible rfl)
                              (try simp only [Act.put, List.setIfInBounds_toArray, List.set_cons_zero, List.set_cons_succ])
                              refine wpAnyH_tk 29 (v := ?vc29) rfl (by kernel_rfl) (by kernel_rfl) (by kernel_rfl) (fun _ _ _ h => h) (by rfl) ?hyc29 (by assumption) ?_
                              case hyc29 => (intro w hSw; (try dsimp only at hSw); go_simp <;> with_reducible rfl)
                              (try simp only [Act.put, List.setIfInBounds_toArray, List.set_cons_zero, List.set_cons_succ])
                              refine wpAnyH_tk 30 (v := ?vc30) rfl (by kernel_rfl) (by kernel_rfl) (by kernel_rfl) (fun _ _ _ h => h) (by rfl) ?hyc30 (by assumption) ?_
                              case hyc30 => (intro w hSw; (try dsimp only at hSw); go_simp <;> with_reducible rfl)
                              (try simp only [Act.put, List.setIfInBounds_toArray, List.set_cons_zero, List.set_cons_succ])
                              refine wpAnyH_tk 31 (v := ?vc31) rfl (by kernel_rfl) (by kernel_rfl) (by kernel_rfl) (fun _ _ _ h => h) (by rfl) ?hyc31 (by assumption) ?_
                              case hyc31 => (intro w hSw; (try dsimp only at hSw); go_simp <;> with_reducible rfl)
                              (try simp only [Act.put, List.setIfInBounds_toArray, List.set_cons_zero, List.set_cons_succ])
                              refine wpAnyH_tk 32 (v := ?vc32) rfl (by kernel_rfl) (by kernel_rfl) (by kernel_rfl) (fun _ _ _ h => h) (by rfl) ?hyc32 (by assumption) ?_
                              case hyc32 => (intro w hSw; (try dsimp only at hSw); go_simp <;> with_reducible rfl)
                              (try simp only [Act.put, List.setIfInBounds_toArray, List.set_cons_zero, List.set_cons_succ])
                              refine wpAnyH_tk 33 (v := ?vc33) rfl (by kernel_rfl) (by kernel_rfl) (by kernel_rfl) (fun _ _ _ h => h) (by rfl) ?hyc33 (by assumption) ?_
                              case hyc33 => (intro w hSw; (try dsimp only at hSw); go_simp <;> with_reducible rfl)
                              (try simp only [Act.put, List.setIfInBounds_toArray, List.set_cons_zero, List.set_cons_succ])
                              refine wpAnyH_tk 34 (v := ?vc34) rfl (by kernel_rfl) (by kernel_rfl) (by kernel_rfl) (fun _ _ _ h => h) (by rfl) ?hyc34 (by assumption) ?_
                              case hyc34 => (intro w hSw; (try dsimp only at hSw); go_simp <;> with_reducible rfl)
                              (try simp only [Act.put, List.setIfInBounds_toArray, List.set_cons_zero, List.set_cons_succ])
                              refine wpAnyH_tk 35 (v := ?vc35) rfl (by kernel_rfl) (by kernel_rfl) (by kernel_rfl) (fun _ _ _ h => h) (by rfl) ?hyc35 (by assumption) ?_
                              case hyc35 => (intro w hSw; (try dsimp only at hSw); go_simp <;> with_reducible rfl)
                              (try simp only [Act.put, List.setIfInBounds_toArray, List.set_cons_zero, List.set_cons_succ])
                              refine wpAnyH_tk 36 (v := ?vc36) rfl (by kernel_rfl) (by kernel_rfl) (by kernel_rfl) (fun _ _ _ h => h) (by rfl) ?hyc36 (by assumption) ?_
                              case hyc36 => (intro w hSw; (try dsimp only at hSw); go_simp <;> with_reducible rfl)
                              (try simp only [Act.put, List.setIfInBounds_toArray, List.set_cons_zero, List.set_cons_succ])
                              refine wpAnyH_tk 37 (v := ?vc37) rfl (by kernel_rfl) (by kernel_rfl) (by kernel_rfl) (fun _ _ _ h => h) (by rfl) ?hyc37 (by assumption) ?_
                              case hyc37 => (intro w hSw; (try dsimp only at hSw); go_simp <;> with_reducible rfl)
                              (try simp only [Act.put, List.setIfInBounds_toArray, List.set_cons_zero, List.set_cons_succ])
                              refine wpAnyH_tk 38 (v := ?vc38) rfl (by kernel_rfl) (by kernel_rfl) (by kernel_rfl) (fun _ _ _ h => h) (by rfl) ?hyc38 (by assumption) ?_
                              case hyc38 => (intro w hSw; (try dsimp only at hSw); go_simp <;> with_reducible rfl)
                              (try simp only [Act.put, List.setIfInBounds_toArray, List.set_cons_zero, List.set_cons_succ])
                              refine wpAnyH_tk 39 (v := ?vc39) rfl (by kernel_rfl) (by kernel_rfl) (by kernel_rfl) (fun _ _ _ h => h) (by rfl) ?hyc39 (by assumption) ?_
                              case hyc39 => (intro w hSw; (try dsimp only at hSw); go_simp <;> with_reducible rfl)
                              (try simp only [Act.put, List.setIfInBounds_toArray, List.set_cons_zero, List.set_cons_succ])
                              refine wpAnyH_tk 40 (v := ?vc40) rfl (by kernel_rfl) (by kernel_rfl) (by kernel_rfl) (fun _ _ _ h => h) (by rfl) ?hyc40 (by assumption) ?_
                              case hyc40 => (intro w hSw; (try dsimp only at hSw); go_simp <;> with_reducible rfl)
                              (try simp only [Act.put, List.setIfInBounds_toArray, List.set_cons_zero, List.set_cons_succ])
                              refine wpAnyH_done (by kernel_rfl) ?_ _
                              clear ca' dab dac hHeld hw1 p1b p2b p3b p4b
                              generalize wr2.drew = wd at MATd Ed ⊢
                              obtain ⟨ga, ca, ia, gaB, gne, aset, -⟩ := MATd.out.row halt
                              have ca' : wd.cell? ⟨gb, a, none⟩ = some (.slice (some ⟨ga, 0, none⟩) N N) := ca
                              have dab := ia.cell (i := b) (by rw [rowL_len]; exact hblt)
                              have dac := ia.cell (i := c) (by rw [rowL_len]; exact hclt)
                              have fr := ia.free c
                              rw [rowL_fn hblt] at dab
                              rw [rowL_fn hclt] at dac
                              have hw1 := HW1.out
                              have hne := Hne.out
                              have q1 : (wd.setCell ⟨ga, c, none⟩ (.int .i64 (D a b + s))).cell? ⟨gb, a, none⟩ = some (.slice (some ⟨ga, 0, none⟩) N N) := by rw [World.cell?_setCell_other (h := by first | (simp; done) | (simp; omega) | simp [gne])]; exact ca'
                              have q2 : (wd.setCell ⟨ga, c, none⟩ (.int .i64 (D a b + s))).cell? ⟨ga, b, none⟩ = some (.int .i64 (D a b)) := by rw [World.cell?_setCell_other (h := by first | (simp; done) | (simp; omega))]; exact dab
                              have HM2 := hid ((aset c (D a b + s) hclt).ext (Ext.refl _).drew)
                              have HE2 := hid (Ed.out.setCell (show W0.heap.size ≤ ga by have h2 := Hsz.out; omega) c (.int .i64 (D a b + s))).drew
                              clear ca ia aset gaB hne
                              go_wp2
                              refine wp_region_held_drew (S := (fun w' => w'.cell? ⟨gb, a, none⟩ = some (.slice (some ⟨ga, 0, none⟩) N N) ∧ w'.cell? ⟨ga, b, none⟩ = some (.int .i64 (D a b)))) (by kernel_rfl) ?hSd0 (fun hHeld => ?_)
                              case hSd0 => (first | (first | exact ⟨ca', dab⟩ | exact ⟨q1, q2⟩) | ((try dsimp only); first | exact ⟨ca', dab⟩ | exact ⟨q1, q2⟩))
                              refine wpAnyH_tk 0 (v := ?vd0) rfl (by kernel_rfl) (by kernel_rfl) (by kernel_rfl) (fun _ _ _ h => h) (by rfl) ?hyd0 (by assumption) ?_
                              case hyd0 => (intro w hSw; (try dsimp only at hSw); go_simp <;> with_reducible rfl)
                              (try simp only [Act.put, List.setIfInBounds_toArray, List.set_cons_zero, List.set_cons_succ])
                              refine wpAnyH_tk 1 (v := ?vd1) rfl (by kernel_rfl) (by kernel_rfl) (by kernel_rfl) (fun _ _ _ h => h) (by rfl) ?hyd1 (by assumption) ?_
                              case hyd1 => (intro w hSw; (try dsimp only at hSw); go_simp <;> with_reducible rfl)
                              (try simp only [Act.put, List.setIfInBounds_toArray, List.set_cons_zero, List.set_cons_succ])
                              refine wpAnyH_tk 2 (v := ?vd2) rfl (by kernel_rfl) (by kernel_rfl) (by kernel_rfl) (fun _ _ _ h => h) (by rfl) ?hyd2 (by assumption) ?_
                              case hyd2 => (intro w hSw; (try dsimp only at hSw); go_simp <;> with_reducible rfl)
                              (try simp only [Act.put, List.setIfInBounds_toArray, List.set_cons_zero, List.set_cons_succ])
                              refine wpAnyH_tk 3 (v := ?vd3) rfl (by kernel_rfl) (by kernel_rfl) (by kernel_rfl) (fun _ _ _ h => h) (by rfl) ?hyd3 (by assumption) ?_
                              case hyd3 => (intro w hSw; (try dsimp only at hSw); go_simp <;> with_reducible rfl)
                              (try simp only [Act.put, List.setIfInBounds_toArray, List.set_cons_zero, List.set_cons_succ])
                              refine wpAnyH_tk 4 (v := ?vd4) rfl (by kernel_rfl) (by kernel_rfl) (by kernel_rfl) (fun _ _ _ h => h) (by rfl) ?hyd4 (by assumption) ?_
                              case hyd4 => (intro w hSw; (try dsimp only at hSw); go_simp <;> with_reducible rfl)
                              (try simp only [Act.put, List.setIfInBounds_toArray, List.set_cons_zero, List.set_cons_succ])
                              refine wpAnyH_tk 5 (v := ?vd5) rfl (by kernel_rfl) (by kernel_rfl) (by kernel_rfl) (fun _ _ _ h => h) (by rfl) ?hyd5 (by assumption) ?_
                              case hyd5 => (intro w hSw; (try dsimp only at hSw); go_simp <;> with_reducible rfl)
                              (try simp only [Act.put, List.setIfInBounds_toArray, List.set_cons_zero, List.set_cons_succ])
                              refine wpAnyH_tk 6 (v := ?vd6) rfl (by kernel_rfl) (by kernel_rfl) (by kernel_rfl) (fun _ _ _ h => h) (by rfl) ?hyd6 (by assumption) ?_
                              case hyd6 => (intro w hSw; (try dsimp only at hSw); go_simp <;> with_reducible rfl)
                              (try simp only [Act.put, List.setIfInBounds_toArray, List.set_cons_zero, List.set_cons_succ])
                              refine wpAnyH_tk 7 (v := ?vd7) rfl (by kernel_rfl) (by kernel_rfl) (by kernel_rfl) (fun _ _ _ h => h) (by rfl) ?hyd7 (by assumption) ?_
                              case hyd7 => (intro w hSw; (try dsimp only at hSw); go_simp <;> with_reducible rfl)
                              (try simp only [Act.put, List.setIfInBounds_toArray, List.set_cons_zero, List.set_cons_succ])
                              refine wpAnyH_tk 8 (v := ?vd8) rfl (by kernel_rfl) (by kernel_rfl) (by kernel_rfl) (fun _ _ _ h => h) (by rfl) ?hyd8 (by assumption) ?_
                              case hyd8 => (intro w hSw; (try dsimp only at hSw); go_simp <;> with_reducible rfl)
                              (try simp only [Act.put, List.setIfInBounds_toArray, List.set_cons_zero, List.set_cons_succ])
                              refine wpAnyH_tk 9 (v := ?vd9) rfl (by kernel_rfl) (by kernel_rfl) (by kernel_rfl) (fun _ _ _ h => h) (by rfl) ?hyd9 (by assumption) ?_
                              case hyd9 => (intro w hSw; (try dsimp only at hSw); go_simp <;> with_reducible rfl)
                              (try simp only [Act.put, List.setIfInBounds_toArray, List.set_cons_zero, List.set_cons_succ])
                              refine wpAnyH_tk 10 (v := ?vd10) rfl (by kernel_rfl) (by kernel_rfl) (by kernel_rfl) (fun _ _ _ h => h) (by rfl) ?hyd10 (by assumption) ?_
                              case hyd10 => (intro w hSw; (try dsimp only at hSw); go_simp <;> with_reducible rfl)
                              (try simp only [Act.put, List.setIfInBounds_toArray, List.set_cons_zero, List.set_cons_succ])
                              refine wpAnyH_tk 11 (v := ?vd11) rfl (by kernel_rfl) (by kernel_rfl) (by kernel_rfl) (fun _ _ _ h => h) (by rfl) ?hyd11 (by assumption) ?_
                              case hyd11 => (intro w hSw; (try dsimp only at hSw); go_simp <;> with_reducible rfl)
                              (try simp only [Act.put, List.setIfInBounds_toArray, List.set_cons_zero, List.set_cons_succ])
                              refine wpAnyH_tk 12 (v := ?vd12) rfl (by kernel_rfl) (by kernel_rfl) (by kernel_rfl) (fun _ _ _ h => h) (by rfl) ?hyd12 (by assumption) ?_
                              case hyd12 => (intro w hSw; (try dsimp only at hSw); go_simp <;> with_reducible rfl)
                              (try simp only [Act.put, List.setIfInBounds_toArray, List.set_cons_zero, List.set_cons_succ])
                              refine wpAnyH_tk 13 (v := ?vd13) rfl (by kernel_rfl) (by kernel_rfl) (by kernel_rfl) (fun _ _ _ h => h) (by rfl) ?hyd13 (by assumption) ?_
                              case hyd13 => (intro w hSw; (try dsimp only at hSw); go_simp <;> with_reducible rfl)
                              (try simp only [Act.put, List.setIfInBounds_toArray, List.set_cons_zero, List.set_cons_succ])
                              refine wpAnyH_tk 14 (v := ?vd14) rfl (by kernel_rfl) (by kernel_rfl) (by kernel_rfl) (fun _ _ _ h => h) (by rfl) ?hyd14 (by assumption) ?_
                              case hyd14 => (intro w hSw; (try dsimp only at hSw); go_simp <;> with_reducible rfl)
                              (try simp only [Act.put, List.setIfInBounds_toArray, List.set_cons_zero, List.set_cons_succ])
                              refine wpAnyH_one 15 rfl (by kernel_rfl) (by rfl) (fun K hK => ?_)
                              go_simp
                              (skip)
                              refine hK.out _ _ ?hSd16 (fun hHeld => ?_)
                              case hSd16 => (first | (first | exact ⟨ca', dab⟩ | exact ⟨q1, q2⟩) | ((try dsimp only); first | exact ⟨ca', dab⟩ | exact ⟨q1, q2⟩))
                              clear hK K
                              (try simp only [Act.put, List.setIfInBounds_toArray, List.set_cons_zero, List.set_cons_succ])
                              refine wpAnyH_done (by kernel_rfl) ?_ _
                              clear ca' dab dac fr q1 q2 hHeld hw1
                              go_wp2
                              go_roundg (gk - 1)
                              case rel => exact ⟨c + 1, by have := Hc.out; omega, by go_num, by rw [HD.out, HF.out]; exact HM2.out, HE2.out, by rw [HD.out]; exact HBD.out⟩
                              case measure => have := Hc.out; omega
                            · have p4b : decide (D a b + s < D a c) = false := decide_eq_false p4
                              have HF : Hid (bf1 rs a b D c = D) := by
                                exact bf1_off Hs.out (by omega)
                              clear p1 p2 p3 p4
                              go_wp2
                              refine wp_region_held_drew (S := (fun w' => w'.cell? ⟨gb, a, none⟩ = some (.slice (some ⟨ga, 0, none⟩) N N) ∧ w'.cell? ⟨ga, b, none⟩ = some (.int .i64 (D a b)) ∧ w'.cell? ⟨ga, c, none⟩ = some (.int .i64 (D a c)))) (by kernel_rfl) ?hSe0 (fun hHeld => ?_)
                              case hSe0 => (first | (exact ⟨ca', dab, dac⟩) | ((try dsimp only); exact ⟨ca', dab, dac⟩))
                              refine wpAnyH_tk 0 (v := ?ve0) rfl (by kernel_rfl) (by kernel_rfl) (by kernel_rfl) (fun _ _ _ h => h) (by rfl) ?hye0 (by assumption) ?_
                              case hye0 => (intro w hSw; (try dsimp only at hSw); go_simp <;> with_reducible rfl)
                              (try simp only [Act.put, List.setIfInBounds_toArray, List.set_cons_zero, List.set_cons_succ])
                              refine wpAnyH_tk 1 (v := ?ve1) rfl (by kernel_rfl) (by kernel_rfl) (by kernel_rfl) (fun _ _ _ h => h) (by rfl) ?hye1 (by assumption) ?_
                              case hye1 => (intro w hSw; (try dsimp only at hSw); go_simp <;> with_reducible rfl)
                              (try simp only [Act.put, List.setIfInBounds_toArray, List.set_cons_zero, List.set_cons_succ])
                              refine wpAnyH_tk 2 (v := ?ve2) rfl (by kernel_rfl) (by kernel_rfl) (by kernel_rfl) (fun _ _ _ h => h) (by rfl) ?hye2 (by assumption) ?_
                              case hye2 => (intro w hSw; (try dsimp only at hSw); go_simp <;> with_reducible rfl)
                              (try simp only [Act.put, List.setIfInBounds_toArray, List.set_cons_zero, List.set_cons_succ])
                              refine wpAnyH_tk 3 (v := ?ve3) rfl (by kernel_rfl) (by kernel_rfl) (by kernel_rfl) (fun _ _ _ h => h) (by rfl) ?hye3 (by assumption) ?_
                              case hye3 => (intro w hSw; (try dsimp only at hSw); go_simp <;> with_reducible rfl)
                              (try simp only [Act.put, List.setIfInBounds_toArray, List.set_cons_zero, List.set_cons_succ])
                              refine wpAnyH_tk 4 (v := ?ve4) rfl (by kernel_rfl) (by kernel_rfl) (by kernel_rfl) (fun _ _ _ h => h) (by rfl) ?hye4 (by assumption) ?_
                              case hye4 => (intro w hSw; (try dsimp only at hSw); go_simp <;> with_reducible rfl)
                              (try simp only [Act.put, List.setIfInBounds_toArray, List.set_cons_zero, List.set_cons_succ])
                              refine wpAnyH_tk 5 (v := ?ve5) rfl (by kernel_rfl) (by kernel_rfl) (by kernel_rfl) (fun _ _ _ h => h) (by rfl) ?hye5 (by assumption) ?_
                              case hye5 => (intro w hSw; (try dsimp only at hSw); go_simp <;> with_reducible rfl)
                              (try simp only [Act.put, List.setIfInBounds_toArray, List.set_cons_zero, List.set_cons_succ])
                              refine wpAnyH_tk 6 (v := ?ve6) rfl (by kernel_rfl) (by kernel_rfl) (by kernel_rfl) (fun _ _ _ h => h) (by rfl) ?hye6 (by assumption) ?_
                              case hye6 => (intro w hSw; (try dsimp only at hSw); go_simp <;> with_reducible rfl)
                              (try simp only [Act.put, List.setIfInBounds_toArray, List.set_cons_zero, List.set_cons_succ])
                              refine wpAnyH_tk 7 (v := ?ve7) rfl (by kernel_rfl) (by kernel_rfl) (by kernel_rfl) (fun _ _ _ h => h) (by rfl) ?hye7 (by assumption) ?_
                              case hye7 => (intro w hSw; (try dsimp only at hSw); go_simp <;> with_reducible rfl)
                              (try simp only [Act.put, List.setIfInBounds_toArray, List.set_cons_zero, List.set_cons_succ])
                              refine wpAnyH_tk 8 (v := ?ve8) rfl (by kernel_rfl) (by kernel_rfl) (by kernel_rfl) (fun _ _ _ h => h) (by rfl) ?hye8 (by assumption) ?_
                              case hye8 => (intro w hSw; (try dsimp only at hSw); go_simp <;> with_reducible rfl)
                              (try simp only [Act.put, List.setIfInBounds_toArray, List.set_cons_zero, List.set_cons_succ])
                              refine wpAnyH_tk 9 (v := ?ve9) rfl (by kernel_rfl) (by kernel_rfl) (by kernel_rfl) (fun _ _ _ h => h) (by rfl) ?hye9 (by assumption) ?_
                              case hye9 => (intro w hSw; (try dsimp only at hSw); go_simp <;> with_reducible rfl)
                              (try simp only [Act.put, List.setIfInBounds_toArray, List.set_cons_zero, List.set_cons_succ])
                              refine wpAnyH_tk 10 (v := ?ve10) rfl (by kernel_rfl) (by kernel_rfl) (by kernel_rfl) (fun _ _ _ h => h) (by rfl) ?hye10 (by assumption) ?_
                              case hye10 => (intro w hSw; (try dsimp only at hSw); go_simp <;> with_reducible rfl)
                              (try simp only [Act.put, List.setIfInBounds_toArray, List.set_cons_zero, List.set_cons_succ])
                              refine wpAnyH_tk 11 (v := ?ve11) rfl (by kernel_rfl) (by kernel_rfl) (by kernel_rfl) (fun _ _ _ h => h) (by rfl) ?hye11 (by assumption) ?_
                              case hye11 => (intro w hSw; (try dsimp only at hSw); go_simp <;> with_reducible rfl)
                              (try simp only [Act.put, List.setIfInBounds_toArray, List.set_cons_zero, List.set_cons_succ])
                              refine wpAnyH_tk 12 (v := ?ve12) rfl (by kernel_rfl) (by kernel_rfl) (by kernel_rfl) (fun _ _ _ h => h) (by rfl) ?hye12 (by assumption) ?_
                              case hye12 => (intro w hSw; (try dsimp only at hSw); go_simp <;> with_reducible rfl)
                              (try simp only [Act.put, List.setIfInBounds_toArray, List.set_cons_zero, List.set_cons_succ])
                              refine wpAnyH_tk 13 (v := ?ve13) rfl (by kernel_rfl) (by kernel_rfl) (by kernel_rfl) (fun _ _ _ h => h) (by rfl) ?hye13 (by assumption) ?_
                              case hye13 => (intro w hSw; (try dsimp only at hSw); go_simp <;> with_reducible rfl)
                              (try simp only [Act.put, List.setIfInBounds_toArray, List.set_cons_zero, List.set_cons_succ])
                              refine wpAnyH_tk 14 (v := ?ve14) rfl (by kernel_rfl) (by kernel_rfl) (by kernel_rfl) (fun _ _ _ h => h) (by rfl) ?hye14 (by assumption) ?_
                              case hye14 => (intro w hSw; (try dsimp only at hSw); go_simp <;> with_reducible rfl)
                              (try simp only [Act.put, List.setIfInBounds_toArray, List.set_cons_zero, List.set_cons_succ])
                              refine wpAnyH_tk 15 (v := ?ve15) rfl (by kernel_rfl) (by kernel_rfl) (by kernel_rfl) (fun _ _ _ h => h) (by rfl) ?hye15 (by assumption) ?_
                              case hye15 => (intro w hSw; (try dsimp only at hSw); go_simp <;> with_reducible rfl)
                              (try simp only [Act.put, List.setIfInBounds_toArray, List.set_cons_zero, List.set_cons_succ])
                              refine wpAnyH_tk 16 (v := ?ve16) rfl (by kernel_rfl) (by kernel_rfl) (by kernel_rfl) (fun _ _ _ h => h) (by rfl) ?hye16 (by assumption) ?_
                              case hye16 => (intro w hSw; (try dsimp only at hSw); go_simp <;> with_reducible rfl)
                              (try simp only [Act.put, List.setIfInBounds_toArray, List.set_cons_zero, List.set_cons_succ])
                              refine wpAnyH_tk 17 (v := ?ve17) rfl (by kernel_rfl) (by kernel_rfl) (by kernel_rfl) (fun _ _ _ h => h) (by rfl) ?hye17 (by assumption) ?_
                              case hye17 => (intro w hSw; (try dsimp only at hSw); go_simp <;> with_reducible rfl)
                              (try simp only [Act.put, List.setIfInBounds_toArray, List.set_cons_zero, List.set_cons_succ])
                              refine wpAnyH_tk 18 (v := ?ve18) rfl (by kernel_rfl) (by kernel_rfl) (by kernel_rfl) (fun _ _ _ h => h) (by rfl) ?hye18 (by assumption) ?_
                              case hye18 => (intro w hSw; (try dsimp only at hSw); go_simp <;> with_reducible rfl)
                              (try simp only [Act.put, List.setIfInBounds_toArray, List.set_cons_zero, List.set_cons_succ])
                              refine wpAnyH_tk 19 (v := ?ve19) rfl (by kernel_rfl) (by kernel_rfl) (by kernel_rfl) (fun _ _ _ h => h) (by rfl) ?hye19 (by assumption) ?_
                              case hye19 => (intro w hSw; (try dsimp only at hSw); go_simp <;> with_reducible rfl)
                              (try simp only [Act.put, List.setIfInBounds_toArray, List.set_cons_zero, List.set_cons_succ])
                              refine wpAnyH_tk 20 (v := ?ve20) rfl (by kernel_rfl) (by kernel_rfl) (by kernel_rfl) (fun _ _ _ h => h) (by rfl) ?hye20 (by assumption) ?_
                              case hye20 => (intro w hSw; (try dsimp only at hSw); go_simp <;> with_reducible rfl)
                              (try simp only [Act.put, List.setIfInBounds_toArray, List.set_cons_zero, List.set_cons_succ])
                              refine wpAnyH_tk 21 (v := ?ve21) rfl (by kernel_rfl) (by kernel_rfl) (by kernel_rfl) (fun _ _ _ h => h) (by rfl) ?hye21 (by assumption) ?_
                              case hye21 => (intro w hSw; (try dsimp only at hSw); go_simp <;> with_reducible rfl)
                              (try simp only [Act.put, List.setIfInBounds_toArray, List.set_cons_zero, List.set_cons_succ])
                              refine wpAnyH_tk 22 (v := ?ve22) rfl (by kernel_rfl) (by kernel_rfl) (by kernel_rfl) (fun _ _ _ h => h) (by rfl) ?hye22 (by assumption) ?_
                              case hye22 => (intro w hSw; (try dsimp only at hSw); go_simp <;> with_reducible rfl)
                              (try simp only [Act.put, List.setIfInBounds_toArray, List.set_cons_zero, List.set_cons_succ])
                              refine wpAnyH_tk 23 (v := ?ve23) rfl (by kernel_rfl) (by kernel_rfl) (by kernel_rfl) (fun _ _ _ h => h) (by rfl) ?hye23 (by assumption) ?_
                              case hye23 => (intro w hSw; (try dsimp only at hSw); go_simp <;> with_reducible rfl)
                              (try simp only [Act.put, List.setIfInBounds_toArray, List.set_cons_zero, List.set_cons_succ])
                              refine wpAnyH_tk 24 (v := ?ve24) rfl (by kernel_rfl) (by kernel_rfl) (by kernel_rfl) (fun _ _ _ h => h) (by rfl) ?hye24 (by assumption) ?_
                              case hye24 => (intro w hSw; (try dsimp only at hSw); go_simp <;> with_reducible rfl)
                              (try simp only [Act.put, List.setIfInBounds_toArray, List.set_cons_zero, List.set_cons_succ])
                              refine wpAnyH_tk 25 (v := ?ve25) rfl (by kernel_rfl) (by kernel_rfl) (by kernel_rfl) (fun _ _ _ h => h) (by rfl) ?hye25 (by assumption) ?_
                              case hye25 => (intro w hSw; (try dsimp only at hSw); go_simp <;> with_reducible rfl)
                              (try simp only [Act.put, List.setIfInBounds_toArray, List.set_cons_zero, List.set_cons_succ])
                              refine wpAnyH_tk 26 (v := ?ve26) rfl (by kernel_rfl) (by kernel_rfl) (by kernel_rfl) (fun _ _ _ h => h) (by rfl) ?hye26 (by assumption) ?_
                              case hye26 => (intro w hSw; (try dsimp only at hSw); go_simp <;> with_reducible rfl)
                              (try simp only [Act.put, List.setIfInBounds_toArray, List.set_cons_zero, List.set_cons_succ])
                              refine wpAnyH_tk 27 (v := ?ve27) rfl (by kernel_rfl) (by kernel_rfl) (by kernel_rfl) (fun _ _ _ h => h) (by rfl) ?hye27 (by assumption) ?_
                              case hye27 => (intro w hSw; (try dsimp only at hSw); go_simp <;> with_reducible rfl)
                              (try simp only [Act.put, List.setIfInBounds_toArray, List.set_cons_zero, List.set_cons_succ])
                              refine wpAnyH_tk 28 (v := ?ve28) rfl (by kernel_rfl) (by kernel_rfl) (by kernel_rfl) (fun _ _ _ h => h) (by rfl) ?hye28 (by assumption) ?_
                              case hye28 => (intro w hSw; (try dsimp only at hSw); go_simp <;> with_reducible rfl)
                              (try simp only [Act.put, List.setIfInBounds_toArray, List.set_cons_zero, List.set_cons_succ])
                              refine wpAnyH_tk 29 (v := ?ve29) rfl (by kernel_rfl) (by kernel_rfl) (by kernel_rfl) (fun _ _ _ h => h) (by rfl) ?hye29 (by assumption) ?_
                              case hye29 => (intro w hSw; (try dsimp only at hSw); go_simp <;> with_reducible rfl)
                              (try simp only [Act.put, List.setIfInBounds_toArray, List.set_cons_zero, List.set_cons_succ])
                              refine wpAnyH_tk 30 (v := ?ve30) rfl (by kernel_rfl) (by kernel_rfl) (by kernel_rfl) (fun _ _ _ h => h) (by rfl) ?hye30 (by assumption) ?_
                              case hye30 => (intro w hSw; (try dsimp only at hSw); go_simp <;> with_reducible rfl)
                              (try simp only [Act.put, List.setIfInBounds_toArray, List.set_cons_zero, List.set_cons_succ])
                              refine wpAnyH_tk 31 (v := ?ve31) rfl (by kernel_rfl) (by kernel_rfl) (by kernel_rfl) (fun _ _ _ h => h) (by rfl) ?hye31 (by assumption) ?_
                              case hye31 => (intro w hSw; (try dsimp only at hSw); go_simp <;> with_reducible rfl)
                              (try simp only [Act.put, List.setIfInBounds_toArray, List.set_cons_zero, List.set_cons_succ])
                              refine wpAnyH_tk 32 (v := ?ve32) rfl (by kernel_rfl) (by kernel_rfl) (by kernel_rfl) (fun _ _ _ h => h) (by rfl) ?hye32 (by assumption) ?_
                              case hye32 => (intro w hSw; (try dsimp only at hSw); go_simp <;> with_reducible rfl)
                              (try simp only [Act.put, List.setIfInBounds_toArray, List.set_cons_zero, List.set_cons_succ])
                              refine wpAnyH_tk 33 (v := ?ve33) rfl (by kernel_rfl) (by kernel_rfl) (by kernel_rfl) (fun _ _ _ h => h) (by rfl) ?hye33 (by assumption) ?_
                              case hye33 => (intro w hSw; (try dsimp only at hSw); go_simp <;> with_reducible rfl)
                              (try simp only [Act.put, List.setIfInBounds_toArray, List.set_cons_zero, List.set_cons_succ])
                              refine wpAnyH_tk 34 (v := ?ve34) rfl (by kernel_rfl) (by kernel_rfl) (by kernel_rfl) (fun _ _ _ h => h) (by rfl) ?hye34 (by assumption) ?_
                              case hye34 => (intro w hSw; (try dsimp only at hSw); go_simp <;> with_reducible rfl)
                              (try simp only [Act.put, List.setIfInBounds_toArray, List.set_cons_zero, List.set_cons_succ])
                              refine wpAnyH_tk 35 (v := ?ve35) rfl (by kernel_rfl) (by kernel_rfl) (by kernel_rfl) (fun _ _ _ h => h) (by rfl) ?hye35 (by assumption) ?_
                              case hye35 => (intro w hSw; (try dsimp only at hSw); go_simp <;> with_reducible rfl)
                              (try simp only [Act.put, List.setIfInBounds_toArray, List.set_cons_zero, List.set_cons_succ])
                              refine wpAnyH_tk 36 (v := ?ve36) rfl (by kernel_rfl) (by kernel_rfl) (by kernel_rfl) (fun _ _ _ h => h) (by rfl) ?hye36 (by assumption) ?_
                              case hye36 => (intro w hSw; (try dsimp only at hSw); go_simp <;> with_reducible rfl)
                              (try simp only [Act.put, List.setIfInBounds_toArray, List.set_cons_zero, List.set_cons_succ])
                              refine wpAnyH_tk 37 (v := ?ve37) rfl (by kernel_rfl) (by kernel_rfl) (by kernel_rfl) (fun _ _ _ h => h) (by rfl) ?hye37 (by assumption) ?_
                              case hye37 => (intro w hSw; (try dsimp only at hSw); go_simp <;> with_reducible rfl)
                              (try simp only [Act.put, List.setIfInBounds_toArray, List.set_cons_zero, List.set_cons_succ])
                              refine wpAnyH_tk 38 (v := ?ve38) rfl (by kernel_rfl) (by kernel_rfl) (by kernel_rfl) (fun _ _ _ h => h) (by rfl) ?hye38 (by assumption) ?_
                              case hye38 => (intro w hSw; (try dsimp only at hSw); go_simp <;> with_reducible rfl)
                              (try simp only [Act.put, List.setIfInBounds_toArray, List.set_cons_zero, List.set_cons_succ])
                              refine wpAnyH_tk 39 (v := ?ve39) rfl (by kernel_rfl) (by kernel_rfl) (by kernel_rfl) (fun _ _ _ h => h) (by rfl) ?hye39 (by assumption) ?_
                              case hye39 => (intro w hSw; (try dsimp only at hSw); go_simp <;> with_reducible rfl)
                              (try simp only [Act.put, List.setIfInBounds_toArray, List.set_cons_zero, List.set_cons_succ])
                              refine wpAnyH_tk 40 (v := ?ve40) rfl (by kernel_rfl) (by kernel_rfl) (by kernel_rfl) (fun _ _ _ h => h) (by rfl) ?hye40 (by assumption) ?_
                              case hye40 => (intro w hSw; (try dsimp only at hSw); go_simp <;> with_reducible rfl)
                              (try simp only [Act.put, List.setIfInBounds_toArray, List.set_cons_zero, List.set_cons_succ])
                              refine wpAnyH_done (by kernel_rfl) ?_ _
                              clear ca' dab dac hHeld hw1 p1b p2b p3b p4b
                              go_wp2
                              go_roundg (gk - 1)
                              case rel => exact ⟨c + 1, by have := Hc.out; omega, by go_num, by rw [HD.out, HF.out]; exact MATd.out, Ed.out, by rw [HD.out]; exact HBD.out⟩
                              case measure => have := Hc.out; omega
                        · have p2b : decide (0 ≤ D a b) = false := decide_eq_false p2
                          have HF : Hid (bf1 rs a b D c = D) := by
                            exact bf1_off Hs.out (by omega)
                          clear p1 p2
                          go_wp2
                          refine wp_region_held_drew (S := (fun w' => w'.cell? ⟨gb, a, none⟩ = some (.slice (some ⟨ga, 0, none⟩) N N) ∧ w'.cell? ⟨ga, b, none⟩ = some (.int .i64 (D a b)) ∧ w'.cell? ⟨ga, c, none⟩ = some (.int .i64 (D a c)))) (by kernel_rfl) ?hSf0 (fun hHeld => ?_)
                          case hSf0 => (first | (exact ⟨ca', dab, dac⟩) | ((try dsimp only); exact ⟨ca', dab, dac⟩))
                          refine wpAnyH_tk 0 (v := ?vf0) rfl (by kernel_rfl) (by kernel_rfl) (by kernel_rfl) (fun _ _ _ h => h) (by rfl) ?hyf0 (by assumption) ?_
                          case hyf0 => (intro w hSw; (try dsimp only at hSw); go_simp <;> with_reducible rfl)
                          (try simp only [Act.put, List.setIfInBounds_toArray, List.set_cons_zero, List.set_cons_succ])
                          refine wpAnyH_tk 1 (v := ?vf1) rfl (by kernel_rfl) (by kernel_rfl) (by kernel_rfl) (fun _ _ _ h => h) (by rfl) ?hyf1 (by assumption) ?_
                          case hyf1 => (intro w hSw; (try dsimp only at hSw); go_simp <;> with_reducible rfl)
                          (try simp only [Act.put, List.setIfInBounds_toArray, List.set_cons_zero, List.set_cons_succ])
                          refine wpAnyH_tk 2 (v := ?vf2) rfl (by kernel_rfl) (by kernel_rfl) (by kernel_rfl) (fun _ _ _ h => h) (by rfl) ?hyf2 (by assumption) ?_
                          case hyf2 => (intro w hSw; (try dsimp only at hSw); go_simp <;> with_reducible rfl)
                          (try simp only [Act.put, List.setIfInBounds_toArray, List.set_cons_zero, List.set_cons_succ])
                          refine wpAnyH_tk 3 (v := ?vf3) rfl (by kernel_rfl) (by kernel_rfl) (by kernel_rfl) (fun _ _ _ h => h) (by rfl) ?hyf3 (by assumption) ?_
                          case hyf3 => (intro w hSw; (try dsimp only at hSw); go_simp <;> with_reducible rfl)
                          (try simp only [Act.put, List.setIfInBounds_toArray, List.set_cons_zero, List.set_cons_succ])
                          refine wpAnyH_tk 4 (v := ?vf4) rfl (by kernel_rfl) (by kernel_rfl) (by kernel_rfl) (fun _ _ _ h => h) (by rfl) ?hyf4 (by assumption) ?_
                          case hyf4 => (intro w hSw; (try dsimp only at hSw); go_simp <;> with_reducible rfl)
                          (try simp only [Act.put, List.setIfInBounds_toArray, List.set_cons_zero, List.set_cons_succ])
                          refine wpAnyH_tk 5 (v := ?vf5) rfl (by kernel_rfl) (by kernel_rfl) (by kernel_rfl) (fun _ _ _ h => h) (by rfl) ?hyf5 (by assumption) ?_
                          case hyf5 => (intro w hSw; (try dsimp only at hSw); go_simp <;> with_reducible rfl)
                          (try simp only [Act.put, List.setIfInBounds_toArray, List.set_cons_zero, List.set_cons_succ])
                          refine wpAnyH_tk 6 (v := ?vf6) rfl (by kernel_rfl) (by kernel_rfl) (by kernel_rfl) (fun _ _ _ h => h) (by rfl) ?hyf6 (by assumption) ?_
                          case hyf6 => (intro w hSw; (try dsimp only at hSw); go_simp <;> with_reducible rfl)
                          (try simp only [Act.put, List.setIfInBounds_toArray, List.set_cons_zero, List.set_cons_succ])
                          refine wpAnyH_tk 7 (v := ?vf7) rfl (by kernel_rfl) (by kernel_rfl) (by kernel_rfl) (fun _ _ _ h => h) (by rfl) ?hyf7 (by assumption) ?_
                          case hyf7 => (intro w hSw; (try dsimp only at hSw); go_simp <;> with_reducible rfl)
                          (try simp only [Act.put, List.setIfInBounds_toArray, List.set_cons_zero, List.set_cons_succ])
                          refine wpAnyH_tk 8 (v := ?vf8) rfl (by kernel_rfl) (by kernel_rfl) (by kernel_rfl) (fun _ _ _ h => h) (by rfl) ?hyf8 (by assumption) ?_
                          case hyf8 => (intro w hSw; (try dsimp only at hSw); go_simp <;> with_reducible rfl)
                          (try simp only [Act.put, List.setIfInBounds_toArray, List.set_cons_zero, List.set_cons_succ])
                          refine wpAnyH_tk 9 (v := ?vf9) rfl (by kernel_rfl) (by kernel_rfl) (by kernel_rfl) (fun _ _ _ h => h) (by rfl) ?hyf9 (by assumption) ?_
                          case hyf9 => (intro w hSw; (try dsimp only at hSw); go_simp <;> with_reducible rfl)
                          (try simp only [Act.put, List.setIfInBounds_toArray, List.set_cons_zero, List.set_cons_succ])
                          refine wpAnyH_tk 10 (v := ?vf10) rfl (by kernel_rfl) (by kernel_rfl) (by kernel_rfl) (fun _ _ _ h => h) (by rfl) ?hyf10 (by assumption) ?_
                          case hyf10 => (intro w hSw; (try dsimp only at hSw); go_simp <;> with_reducible rfl)
                          (try simp only [Act.put, List.setIfInBounds_toArray, List.set_cons_zero, List.set_cons_succ])
                          refine wpAnyH_tk 11 (v := ?vf11) rfl (by kernel_rfl) (by kernel_rfl) (by kernel_rfl) (fun _ _ _ h => h) (by rfl) ?hyf11 (by assumption) ?_
                          case hyf11 => (intro w hSw; (try dsimp only at hSw); go_simp <;> with_reducible rfl)
                          (try simp only [Act.put, List.setIfInBounds_toArray, List.set_cons_zero, List.set_cons_succ])
                          refine wpAnyH_tk 12 (v := ?vf12) rfl (by kernel_rfl) (by kernel_rfl) (by kernel_rfl) (fun _ _ _ h => h) (by rfl) ?hyf12 (by assumption) ?_
                          case hyf12 => (intro w hSw; (try dsimp only at hSw); go_simp <;> with_reducible rfl)
                          (try simp only [Act.put, List.setIfInBounds_toArray, List.set_cons_zero, List.set_cons_succ])
                          refine wpAnyH_skips 12 true 78 19 (by kernel_rfl) rfl (fun _ _ _ _ _ h => h) [13, 14, 15, 16, 17, 18, 19, 20, 21] [79, 80, 81, 82, 83, 84, 85, 86, 87] _ _ _ rfl (by kernel_rfl) (by rfl) (by assumption) ?_
                          (try simp only [putsAll, List.foldl, Act.put, List.setIfInBounds_toArray, List.set_cons_zero, List.set_cons_succ])
                          refine wpAnyH_skipsU 21 false 87 2 (by kernel_rfl) rfl (fun _ _ _ _ _ h => h) [22, 23, 24, 25, 26, 27, 28, 29, 30, 31, 32, 33, 34, 35, 36, 37, 38] [88, 89, 90, 91, 92, 93, 94, 95, 96, 97, 98, 99, 100, 101, 102, 103, 104] _ _ _ rfl (by kernel_rfl) (by rfl) (by assumption) ?_
                          (try simp only [putsAll, List.foldl, Act.put, List.setIfInBounds_toArray, List.set_cons_zero, List.set_cons_succ])
                          refine wpAnyH_skips 12 true 78 1 (by kernel_rfl) rfl (fun _ _ _ _ _ h => h) [39] [105] _ _ _ rfl (by kernel_rfl) (by rfl) (by assumption) ?_
                          (try simp only [putsAll, List.foldl, Act.put, List.setIfInBounds_toArray, List.set_cons_zero, List.set_cons_succ])
                          refine wpAnyH_tk 40 (v := ?vf40) rfl (by kernel_rfl) (by kernel_rfl) (by kernel_rfl) (fun _ _ _ h => h) (by rfl) ?hyf40 (by assumption) ?_
                          case hyf40 => (intro w hSw; (try dsimp only at hSw); go_simp <;> with_reducible rfl)
                          (try simp only [Act.put, List.setIfInBounds_toArray, List.set_cons_zero, List.set_cons_succ])
                          refine wpAnyH_done (by kernel_rfl) ?_ _
                          clear ca' dab dac hHeld hw1 p1b p2b
                          go_wp2
                          go_roundg (gk - 1)
                          case rel => exact ⟨c + 1, by have := Hc.out; omega, by go_num, by rw [HD.out, HF.out]; exact MATd.out, Ed.out, by rw [HD.out]; exact HBD.out⟩
                          case measure => have := Hc.out; omega
                      · have p1b : decide (0 ≤ s) = false := decide_eq_false p1
                        have HF : Hid (bf1 rs a b D c = D) := by
                          exact bf1_off Hs.out (by omega)
                        clear p1
                        go_wp2
                        refine wp_region_held_drew (S := (fun w' => w'.cell? ⟨gb, a, none⟩ = some (.slice (some ⟨ga, 0, none⟩) N N) ∧ w'.cell? ⟨ga, b, none⟩ = some (.int .i64 (D a b)) ∧ w'.cell? ⟨ga, c, none⟩ = some (.int .i64 (D a c)))) (by kernel_rfl) ?hSg0 (fun hHeld => ?_)
                        case hSg0 => (first | (exact ⟨ca', dab, dac⟩) | ((try dsimp only); exact ⟨ca', dab, dac⟩))
                        refine wpAnyH_tk 0 (v := ?vg0) rfl (by kernel_rfl) (by kernel_rfl) (by kernel_rfl) (fun _ _ _ h => h) (by rfl) ?hyg0 (by assumption) ?_
                        case hyg0 => (intro w hSw; (try dsimp only at hSw); go_simp <;> with_reducible rfl)
                        (try simp only [Act.put, List.setIfInBounds_toArray, List.set_cons_zero, List.set_cons_succ])
                        refine wpAnyH_tk 1 (v := ?vg1) rfl (by kernel_rfl) (by kernel_rfl) (by kernel_rfl) (fun _ _ _ h => h) (by rfl) ?hyg1 (by assumption) ?_
                        case hyg1 => (intro w hSw; (try dsimp only at hSw); go_simp <;> with_reducible rfl)
                        (try simp only [Act.put, List.setIfInBounds_toArray, List.set_cons_zero, List.set_cons_succ])
                        refine wpAnyH_tk 2 (v := ?vg2) rfl (by kernel_rfl) (by kernel_rfl) (by kernel_rfl) (fun _ _ _ h => h) (by rfl) ?hyg2 (by assumption) ?_
                        case hyg2 => (intro w hSw; (try dsimp only at hSw); go_simp <;> with_reducible rfl)
                        (try simp only [Act.put, List.setIfInBounds_toArray, List.set_cons_zero, List.set_cons_succ])
                        refine wpAnyH_skips 2 true 68 30 (by kernel_rfl) rfl (fun _ _ _ _ _ h => h) [3, 4, 5, 6, 7, 8, 9, 10] [69, 70, 71, 72, 73, 74, 75, 76] _ _ _ rfl (by kernel_rfl) (by rfl) (by assumption) ?_
                        (try simp only [putsAll, List.foldl, Act.put, List.setIfInBounds_toArray, List.set_cons_zero, List.set_cons_succ])
                        refine wpAnyH_tk 11 (v := ?vg11) rfl (by kernel_rfl) (by kernel_rfl) (by kernel_rfl) (fun _ _ _ h => h) (by rfl) ?hyg11 (by assumption) ?_
                        case hyg11 => (intro w hSw; (try dsimp only at hSw); go_simp <;> with_reducible rfl)
                        (try simp only [Act.put, List.setIfInBounds_toArray, List.set_cons_zero, List.set_cons_succ])
                        refine wpAnyH_tk 12 (v := ?vg12) rfl (by kernel_rfl) (by kernel_rfl) (by kernel_rfl) (fun _ _ _ h => h) (by rfl) ?hyg12 (by assumption) ?_
                        case hyg12 => (intro w hSw; (try dsimp only at hSw); go_simp <;> with_reducible rfl)
                        (try simp only [Act.put, List.setIfInBounds_toArray, List.set_cons_zero, List.set_cons_succ])
                        refine wpAnyH_skips 12 true 78 19 (by kernel_rfl) rfl (fun _ _ _ _ _ h => h) [13, 14, 15, 16, 17, 18, 19, 20, 21] [79, 80, 81, 82, 83, 84, 85, 86, 87] _ _ _ rfl (by kernel_rfl) (by rfl) (by assumption) ?_
                        (try simp only [putsAll, List.foldl, Act.put, List.setIfInBounds_toArray, List.set_cons_zero, List.set_cons_succ])
                        refine wpAnyH_skipsU 21 false 87 2 (by kernel_rfl) rfl (fun _ _ _ _ _ h => h) [22, 23, 24, 25, 26, 27, 28, 29, 30, 31, 32, 33, 34, 35, 36, 37, 38] [88, 89, 90, 91, 92, 93, 94, 95, 96, 97, 98, 99, 100, 101, 102, 103, 104] _ _ _ rfl (by kernel_rfl) (by rfl) (by assumption) ?_
                        (try simp only [putsAll, List.foldl, Act.put, List.setIfInBounds_toArray, List.set_cons_zero, List.set_cons_succ])
                        refine wpAnyH_skips 12 true 78 1 (by kernel_rfl) rfl (fun _ _ _ _ _ h => h) [39] [105] _ _ _ rfl (by kernel_rfl) (by rfl) (by assumption) ?_
                        (try simp only [putsAll, List.foldl, Act.put, List.setIfInBounds_toArray, List.set_cons_zero, List.set_cons_succ])
                        refine wpAnyH_tk 40 (v := ?vg40) rfl (by kernel_rfl) (by kernel_rfl) (by kernel_rfl) (fun _ _ _ h => h) (by rfl) ?hyg40 (by assumption) ?_
                        case hyg40 => (intro w hSw; (try dsimp only at hSw); go_simp <;> with_reducible rfl)
                        (try simp only [Act.put, List.setIfInBounds_toArray, List.set_cons_zero, List.set_cons_succ])
                        refine wpAnyH_done (by kernel_rfl) ?_ _
                        clear ca' dab dac hHeld hw1 p1b
                        go_wp2
                        go_roundg (gk - 1)
                        case rel => exact ⟨c + 1, by have := Hc.out; omega, by go_num, by rw [HD.out, HF.out]; exact MATd.out, Ed.out, by rw [HD.out]; exact HBD.out⟩
                        case measure => have := Hc.out; omega
                    · have ec : c = N := by omega
                      have h := MAT.out
                      have h2 := BD.out
                      rw [ec, ← HD2.out] at h h2
                      have HM2 := hid h
                      have HB2 := hid (h2.mono (k' := 512 * t + 64 * a + 8 * (b + 1)) (by omega))
                      clear h h2 ec
                      go_wp2
                      go_roundg (N - (b + 1))
                      case rel => exact ⟨b + 1, by omega, by go_num, HM2.out, E.out, HB2.out⟩
                      case measure => have := Hb.out; omega
                · have eb : b = N := by omega
                  have h := MAT.out
                  have h2 := BD.out
                  rw [eb, ← HD1.out] at h h2
                  have HM2 := hid h
                  have HB2 := hid (h2.mono (k' := 512 * t + 64 * (a + 1)) (by omega))
                  clear h h2 eb
                  go_wp2
                  go_roundg (N - (a + 1))
                  case rel => exact ⟨a + 1, by omega, by go_num, HM2.out, E.out, HB2.out⟩
                  case measure => have := Ha.out; omega
            · have ea : a = N := by omega
              have h := MAT.out
              have h2 := BD.out
              rw [ea, ← HD0.out] at h h2
              have HM2 := hid h
              have HB2 := hid (h2.mono (k' := 512 * (t + 1)) (by omega))
              clear h h2 ea
              go_wp2
              go_roundg (N - (t + 1))
              case rel => exact ⟨t + 1, by omega, by go_num, HM2.out, E.out, HB2.out⟩
              case measure => have := Ht.out; omega
        · have et : t = N := by omega
          have h := MAT.out
          rw [et] at h
          have HM2 := hid ((h.congr (fun i j hi hj => bf_eq HAll.out hN8 hi hj)).base (B' := w.heap.size) (by have h1 := HE0.out.size; have h2 := Hsz.out; omega))
          clear h et
          go_wp2
          go_ret
          exact ⟨_, rfl, HM2.out, HE0.out.trans E.out⟩

end Go.Proofs.Ytkbkgkmogbkabaa
