/-
  Contracts of the reference's possible, likes, Matching, blocks, Blocks, IsStable.
-/
import Derived.Test.YtkdfbbkonbgfmaaRefPlain
import Derived.Test.YtkdfbbkonbgfmaaStableTop
import Derived.Test.YtkdfbbkonbgfmaaAppend
import Derived.Outline
namespace Go.Proofs.Ytkdfbbkonbgfmaa
open Go.RowKit

theorem rankI_has' (l : List Int) (x : Int) : decide (rankI l x ≥ 0) = hasI l x := rankI_has l x

set_option maxHeartbeats 400000 in
theorem Rpossible_any (vh vs vp : Value) (p : PlanD) (h s : Int) (w : World) (hp : PlanR w vh vs vp p) (h0 : 0 ≤ h) (h1 : h < p.hands.length) (s0 : 0 ≤ s) (s1 : s < p.shifts.length) :
    Calls Try.prog 64 #[.agg #[vh, vs, vp], .int .i64 h, .int .i64 s] w fun e w' => e = .returned (.bool (possB p h s)) ∧ Ext w w' := by
  obtain ⟨hh, hs, hpp⟩ := hp
  obtain ⟨hlh, aoh, caph, rfl, hch, hhc⟩ := id hh
  obtain ⟨hls, aos, caps, rfl, hcs, hsc⟩ := id hs
  obtain ⟨bh, oh, arh, crh, rfl, cellh, inth⟩ := hh.at h h0 h1
  obtain ⟨bs, os, ars, crs, rfl, cells, ints⟩ := hs.at s s0 s1
  have ch := cellh _ (Ext.refl w)
  have cs := cells _ (Ext.refl w)
  have hbh := World.block_lt_of_cell? _ _ ch
  have hbs := World.block_lt_of_cell? _ _ cs
  have Inth := hid inth
  have Ints := hid ints
  have Hr1 := hid (rankI_has (rowAt p.hands h) s)
  have Hr2 := hid (rankI_has (rowAt p.shifts s) h)
  clear hhc hsc hh hs cellh cells inth ints hpp hch hcs
  cases hb : hasI (rowAt p.hands h) s
  · have hf : possB p h s = false := by unfold possB; rw [hb]; rfl
    have Hf := hid hf
    have hr : decide (0 ≤ rankI (rowAt p.hands h) s) = false := by rw [Hr1.out, hb]
    clear hf
    go_enter Try.func64, Try.ntmps64
    go_wp2_with (go_at_call 101; go_must (refine (Rank_any _ _ s _ (Inth.out.ext (Ext.ofAlloc _ _))).mono ?_); rintro e w' ⟨rfl, rfl⟩)
    go_ret
    exact ⟨ret_bool Hf.out.symm, Ext.ofAlloc _ _⟩
  · have hf : possB p h s = hasI (rowAt p.shifts s) h := by unfold possB; rw [hb]; rfl
    have Hf := hid hf
    have hr : decide (0 ≤ rankI (rowAt p.hands h) s) = true := by rw [Hr1.out, hb]
    clear hf
    go_enter Try.func64, Try.ntmps64
    go_wp2_with (fail)
    refine (Rank_any _ (rowAt p.hands h) s _ (Inth.out.ext (Ext.ofAlloc _ _))).mono ?_
    rintro e w' ⟨rfl, rfl⟩
    go_wp2_with (fail)
    refine (Rank_any _ (rowAt p.shifts s) h _ (Ints.out.ext (Ext.ofAlloc _ _))).mono ?_
    rintro e w' ⟨rfl, rfl⟩
    go_wp2
    go_ret
    exact ⟨ret_bool (by rw [Hf.out, ← Hr2.out]), Ext.ofAlloc _ _⟩

theorem likes_no {p : PlanD} {h a b : Int} (e : a = -1 ∨ a = b) : likesB p h a b = false := by
  unfold likesB; rw [decide_eq_false_iff_not]; rintro ⟨h1, h2, -⟩; rcases e with e | e
  · exact h1 e
  · exact h2 e
theorem likes_none {p : PlanD} {h a b : Int} (h1 : a ≠ -1) (h2 : a ≠ b) (h3 : b = -1) : likesB p h a b = true := by
  unfold likesB; rw [decide_eq_true_iff]; exact ⟨h1, h2, .inl h3⟩
theorem likes_both {p : PlanD} {h a b : Int} (h1 : a ≠ -1) (h2 : a ≠ b) (h3 : b ≠ -1) : likesB p h a b = decide (rankI (rowAt p.hands h) a < rankI (rowAt p.hands h) b) := by
  unfold likesB; rw [decide_eq_decide]
  constructor
  · rintro ⟨-, -, h | h⟩
    · exact absurd h h3
    · exact h
  · exact fun h => ⟨h1, h2, .inr h⟩

set_option maxHeartbeats 1000000 in
theorem likes_any (vh vs vp : Value) (p : PlanD) (h a b : Int) (w : World) (hp : PlanR w vh vs vp p) (h0 : 0 ≤ h) (h1 : h < p.hands.length) :
    Calls Try.prog 65 #[.agg #[vh, vs, vp], .int .i64 h, .int .i64 a, .int .i64 b] w fun e w' => e = .returned (.bool (likesB p h a b)) ∧ Ext w w' := by
  obtain ⟨hh, hs, hpp⟩ := hp
  obtain ⟨hlh, aoh, caph, rfl, hch, hhc⟩ := id hh
  obtain ⟨hls, aos, caps, rfl, hcs, hsc⟩ := id hs
  obtain ⟨hlp, aop, capp, rfl, hcp, hpc⟩ := id hpp
  obtain ⟨bh, oh, arh, crh, rfl, cellh, inth⟩ := hh.at h h0 h1
  have ch := cellh _ (Ext.refl w)
  have hbh := World.block_lt_of_cell? _ _ ch
  have Inth := hid inth
  clear hhc hsc hpc hh hs cellh inth hpp hch hcs hcp
  by_cases e1 : a = -1
  · have Hf := hid (likes_no (p := p) (h := h) (a := a) (b := b) (.inl e1))
    have e1' : (a == -1) = true := by simpa using e1
    clear e1
    go_enter Try.func65, Try.ntmps65
    go_wp2
    go_ret
    exact ⟨ret_bool Hf.out.symm, Ext.ofAlloc _ _⟩
  · have e1' : (a == -1) = false := by simpa using e1
    by_cases e2 : a = b
    · have Hf := hid (likes_no (p := p) (h := h) (a := a) (b := b) (.inr e2))
      have e2' : (a == b) = true := by simpa using e2
      clear e1 e2
      go_enter Try.func65, Try.ntmps65
      go_wp2
      go_ret
      exact ⟨ret_bool Hf.out.symm, Ext.ofAlloc _ _⟩
    · have e2' : (a == b) = false := by simpa using e2
      by_cases e3 : b = -1
      · have Hf := hid (likes_none (p := p) (h := h) e1 e2 e3)
        have e3' : (b == -1) = true := by simpa using e3
        clear e1 e2 e3
        go_enter Try.func65, Try.ntmps65
        go_wp2
        go_quiet (fail)
        go_wp2
        go_ret
        exact ⟨ret_bool Hf.out.symm, (Ext.ofAlloc _ _).drewN _⟩
      · have Hf := hid (likes_both (p := p) (h := h) e1 e2 e3)
        have e3' : (b == -1) = false := by simpa using e3
        have S : ∀ n x, Calls Try.prog 101 #[.slice arh (rowAt p.hands h).length crh, .int .i64 x] ((w.alloc (.cells #[.slice (some ⟨bh, oh, none⟩) p.hands.length caph, .slice aos p.shifts.length caps, .slice aop p.places.length capp] 25)).drewN n) fun e w' => e = .returned (.int .i64 (rankI (rowAt p.hands h) x)) ∧ w' = ((w.alloc (.cells #[.slice (some ⟨bh, oh, none⟩) p.hands.length caph, .slice aos p.shifts.length caps, .slice aop p.places.length capp] 25)).drewN n) :=
          fun n x => (Rank_any _ _ x _ (Inth.out.ext ((Ext.ofAlloc _ _).drewN n))).mono fun _ _ ⟨he, hw⟩ => ⟨he, hw.symm⟩
        have HS := hid S
        clear e1 e2 e3 S
        go_enter Try.func65, Try.ntmps65
        go_wp2
        go_quiet ((go_at_call 101; exact Calls.quiet_of_same (HS.out _ _)))
        go_wp2
        go_ret
        exact ⟨ret_bool Hf.out.symm, (Ext.ofAlloc _ _).drewN _⟩

theorem MatTo.of {p : PlanD} {m : List Int} {k : Nat} (h1 : ∀ h, h < k → fn m h = -1 ∨ possB p h (fn m h) = true) (h2 : ∀ s : Nat, s < p.shifts.length → (cntTo m k s : Int) ≤ intAt p.places s) : MatTo p m k := ⟨h1, h2⟩
theorem mat_over {p : PlanD} {hp : PlanOk p} {m : List Int} {s : Nat} (hs : s < p.shifts.length) (h : intAt p.places s < ((cntTo m p.hands.length s : Nat) : Int)) : matB p hp m = false := by
  refine matB_no fun hm => ?_
  have h3 : Mkt.cnt (mkt p hp) (fn m) s ≤ (intAt p.places s).toNat := hm.2.room s (by omega) (show (s : Int) < p.shifts.length by omega)
  rw [← cntTo_all] at h3
  have := planPlaces hp (s := s) (by omega) (by omega)
  omega
theorem okTo_succ {p : PlanD} {m : List Int} {k : Nat} (h : ∀ h, h < k → fn m h = -1 ∨ possB p h (fn m h) = true) (e : fn m k = -1 ∨ possB p k (fn m k) = true) : ∀ h, h < k + 1 → fn m h = -1 ∨ possB p h (fn m h) = true := by
  intro x hx
  rcases Nat.lt_or_ge x k with h' | h'
  · exact h x h'
  · obtain rfl : x = k := by omega
    exact e

set_option maxRecDepth 20000 in
set_option maxHeartbeats 4000000 in
theorem RMatching_any (vh vs vp vm : Value) (p : PlanD) (hok : PlanOk p) (m : List Int) (w : World) (hp : PlanR w vh vs vp p) (hm : Ints w vm m) :
    Calls Try.prog 29 #[.agg #[vh, vs, vp], vm] w fun e w' => e = .returned (.bool (matB p hok m)) ∧ Ext w w' := by
  have HPR := hid hp
  obtain ⟨hh, hs, hpp⟩ := hp
  obtain ⟨hlh, aoh, caph, rfl, hch, hhc⟩ := id hh
  obtain ⟨hls, aos, caps, rfl, hcs, hsc⟩ := id hs
  obtain ⟨hlp, aop, capp, rfl, hcp, hpc⟩ := id hpp
  obtain ⟨bp, op, rfl, -⟩ := hpc 0 (by have := hok.pl; have := hok.s1; omega)
  obtain ⟨hlm, am, cm, rfl, hcm, hmc⟩ := id hm
  clear hhc hsc hpc hch hcs hcp hcm
  have Hp := hid hpp
  have Hok := hid hok
  have hn1 := hok.h1
  have hn6 := hok.h6
  have hs1' := hok.s1
  have hs4 := hok.s4
  have Hpl := hid hok.pl
  clear hh hs hpp hm
  have e0 := Ext.ofAlloc w (.cells #[.slice aoh p.hands.length caph, .slice aos p.shifts.length caps, .slice (some ⟨bp, op, none⟩) p.places.length capp] 25)
  by_cases hlen : m.length = p.hands.length
  · have hlen' : ((m.length : Int) != (p.hands.length : Int)) = false := by rw [hlen]; simp
    have Hlen := hid hlen
    clear hlen
    have hmk := run_make_row' (P := Try.prog) 23 3 (.int .i64 0) 8 Try.underlying23 info_int rfl .i64 .i64 p.shifts.length (by omega) (by omega)
    go_enter Try.func29, Try.ntmps29
    go_wp2
    have hmade : madeCells #[Value.int .i64 0] p.shifts.length = ((List.replicate p.shifts.length (0 : Int)).map (Value.int .i64)).toArray := by
      apply Array.ext'
      rw [toList_madeCells_one]; simp
    rw [hmade]
    have hb1 : IntBlock ((w.alloc (.cells #[.slice aoh p.hands.length caph, .slice aos p.shifts.length caps, .slice (some ⟨bp, op, none⟩) p.places.length capp] 25)).alloc (.cells ((List.replicate p.shifts.length (0 : Int)).map (Value.int .i64)).toArray 3)) (w.heap.size + 1) (List.replicate p.shifts.length 0) := by
      have h1 := heap_alloc_new (w.alloc (.cells #[.slice aoh p.hands.length caph, .slice aos p.shifts.length caps, .slice (some ⟨bp, op, none⟩) p.places.length capp] 25)) (.cells ((List.replicate p.shifts.length (0 : Int)).map (Value.int .i64)).toArray 3)
      rw [World.size_alloc] at h1
      exact h1
    have hbx := (Box3.alloc w 25 (.slice aoh p.hands.length caph) (.slice aos p.shifts.length caps) (.slice (some ⟨bp, op, none⟩) p.places.length capp)).ext (Ext.ofAlloc _ (.cells ((List.replicate p.shifts.length (0 : Int)).map (Value.int .i64)).toArray 3))
    have Hb1 := hid hb1
    have Hbx := hid hbx
    have He0 := hid (e0.alloc (.cells ((List.replicate p.shifts.length (0 : Int)).map (Value.int .i64)).toArray 3))
    clear hb1 hbx e0 hmk hmade
    go_loopg [22] m.length (fun g i wr => ∃ k : Nat, k + g = m.length ∧ i = .int .i64 k ∧ Hid (∀ h, h < k → fn m h = -1 ∨ possB p h (fn m h) = true) ∧ Hid (IntBlock wr (w.heap.size + 1) (cnts m k p.shifts.length)) ∧ Hid (Box3 wr w.heap.size 25 (.slice aoh p.hands.length caph) (.slice aos p.shifts.length caps) (.slice (some ⟨bp, op, none⟩) p.places.length capp)) ∧ Hid (Ext w wr))
    case atStart => exact ⟨0, by omega, rfl, fun h hh => by omega, by rw [cnts_zero]; exact Hb1.out, Hbx.out, He0.out⟩
    case round =>
      obtain ⟨k, hk, rfl, M, C, X, E⟩ := hrel
      have hkl : k ≤ m.length := by omega
      have Hk := hid hk
      clear hk
      obtain ⟨c0, c1, c2⟩ := X.out.cells
      by_cases hlt : k < m.length
      · have hkn : k < p.hands.length := by have := Hlen.out; omega
        obtain ⟨bm, om, rfl, hcm⟩ := hmc k hlt
        have hmk := E.out.cell hcm
        rw [← fn_get hlt] at hmk
        have hk0 : (0 : Int) ≤ (k : Int) := by omega
        have hk1 : (k : Int) < p.hands.length := by omega
        clear hcm hmc
        by_cases hnone : fn m k = -1
        · have hnone' : (fn m k == -1) = true := by simpa using hnone
          have Hnone := hid hnone
          clear hnone
          go_wp2
          go_roundg (gk - 1)
          case rel => exact ⟨k + 1, by have := Hk.out; omega, by go_num, okTo_succ M.out (.inl Hnone.out), by rw [cnts_none Hnone.out]; exact C.out, X, E⟩
          case measure => have := Hk.out; omega
        · have hnone' : (fn m k == -1) = false := by simpa using hnone
          have Hnone := hid hnone
          clear hnone
          by_cases hs0 : fn m k < 0
          · have Hf := hid (mat_bad (hp := hok) hkn Hnone.out (fun h => by have := (poss_range hok h).1; omega))
            go_wp2
            go_ret
            exact ⟨ret_bool Hf.out.symm, E.out⟩
          · by_cases hs1 : (p.shifts.length : Int) ≤ fn m k
            · have Hf := hid (mat_bad (hp := hok) hkn Hnone.out (fun h => by have := (poss_range hok h).2; omega))
              go_wp2
              go_ret
              exact ⟨ret_bool Hf.out.symm, E.out⟩
            · have hs0 : 0 ≤ fn m k := by omega
              have hs1 : fn m k < p.shifts.length := by omega
              cases hps : possB p k (fn m k)
              · have Hf := hid (mat_bad (hp := hok) hkn Hnone.out (by rw [hps]; simp))
                go_wp2_with (fail)
                refine (Rpossible_any _ _ _ p k (fn m k) _ (HPR.out.ext E.out) hk0 hk1 hs0 hs1).mono ?_
                rw [hps]
                rintro e w5 ⟨rfl, he5⟩
                have He5 := hid (E.out.trans he5)
                clear c0 c1 c2 he5
                go_wp2
                go_ret
                exact ⟨ret_bool Hf.out.symm, He5.out⟩
              · have hin : (((fn m k).toNat : Nat) : Int) = fn m k := Int.toNat_of_nonneg hs0
                have hset := cnts_set (m := m) (k := k) (S := p.shifts.length) (s := (fn m k).toNat) (by omega) hin.symm
                rw [hin] at hset
                have Hset := hid hset
                have hccb := cntTo_le m k (fn m k)
                have Hin := hid hin
                clear hset hin
                go_wp2_with (fail)
                refine (Rpossible_any _ _ _ p k (fn m k) _ (HPR.out.ext E.out) hk0 hk1 hs0 hs1).mono ?_
                rw [hps]
                rintro e w5 ⟨rfl, he5⟩
                have He5 := hid (E.out.trans he5)
                have C5 := C.out.ext he5
                have X5 := X.out.ext he5
                have hcc5 := C5.cell (i := (fn m k).toNat) (by rw [cnts_len]; omega)
                rw [cnts_fn (by omega), Hin.out] at hcc5
                have hfree5 := C5.free (fn m k).toNat
                have HC := hid (C5.set (fn m k).toNat (((cntTo m k (fn m k) : Nat) : Int) + 1))
                have HX := hid (X5.other (g' := w.heap.size + 1) (by omega) (fn m k).toNat (.int .i64 (((cntTo m k (fn m k) : Nat) : Int) + 1)))
                have HE := hid (He5.out.setCell (g := w.heap.size + 1) (by omega) (fn m k).toNat (.int .i64 (((cntTo m k (fn m k) : Nat) : Int) + 1)))
                rw [Hset.out] at HC
                have Hps := hid hps
                clear c0 c1 c2 he5 C5 X5 hps
                go_wp2
                go_roundg (gk - 1)
                case rel => exact ⟨k + 1, by have := Hk.out; omega, by go_num, okTo_succ M.out (.inr Hps.out), HC, HX, HE⟩
                case measure => have := Hk.out; omega
      · obtain rfl : k = p.hands.length := by have := Hlen.out; omega
        have hcl : (cnts m p.hands.length p.shifts.length).length = p.shifts.length := cnts_len _ _ _
        go_wp2
        go_loopg [54] p.shifts.length (fun g i wj => ∃ s : Nat, s + g = p.shifts.length ∧ i = .int .i64 s ∧ wr = wj ∧ Hid (∀ x : Nat, x < s → (cntTo m p.hands.length x : Int) ≤ intAt p.places x))
        case atStart => exact ⟨0, by omega, rfl, rfl, fun x hx => by omega⟩
        case round =>
          obtain ⟨s, hs, rfl, rfl, Hroom⟩ := hrel
          have hsl : s ≤ p.shifts.length := by omega
          have Hs := hid hs
          clear hs
          by_cases hslt : s < p.shifts.length
          · have dc := C.out.cell (i := s) (by rw [cnts_len]; exact hslt)
            rw [cnts_fn hslt] at dc
            obtain ⟨bp', op', hpe, hpc⟩ := Hp.out.at s (by omega) (by have := Hpl.out; omega)
            simp only [Option.some.injEq, Addr.mk.injEq, and_true] at hpe
            obtain ⟨rfl, rfl⟩ := hpe
            have dp := hpc _ E.out
            rw [Int.toNat_natCast] at dp
            have hs2 : (s : Int) < p.places.length := by have := Hpl.out; omega
            clear hpc hcl
            by_cases hov : intAt p.places s < ((cntTo m p.hands.length s : Nat) : Int)
            · have Hf := hid (mat_over (hp := hok) (m := m) hslt hov)
              go_wp2
              go_ret
              exact ⟨ret_bool Hf.out.symm, E.out⟩
            · have Hov := hid hov
              go_wp2
              go_roundg (gk - 1)
              case rel => exact ⟨s + 1, by have := Hs.out; omega, by go_num, rfl, fun x hx => by
                rcases Nat.lt_or_ge x s with h' | h'
                · exact Hroom.out x h'
                · obtain rfl : x = s := by omega
                  have := Hov.out; omega⟩
              case measure => have := Hs.out; omega
          · have Hf := hid (matB_iff.2 (MatTo.done (hp := hok) (m := m) (MatTo.of M.out (fun x hx => Hroom.out x (by omega))) Hlen.out))
            go_wp2
            go_ret
            exact ⟨ret_bool Hf.out.symm, E.out⟩
  · have hlen' : ((m.length : Int) != (p.hands.length : Int)) = true := by simp; omega
    have Hf := hid (matB_no (p := p) (hp := hok) (m := m) (fun h => hlen h.1))
    clear hlen
    go_enter Try.func29, Try.ntmps29
    go_wp2
    go_ret
    exact ⟨ret_bool Hf.out.symm, e0⟩

end Go.Proofs.Ytkdfbbkonbgfmaa
