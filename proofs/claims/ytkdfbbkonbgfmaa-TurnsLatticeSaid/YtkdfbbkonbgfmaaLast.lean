/-
  Contract of turns.Plan.last, and of turns.Last: the stable matching that is worst for the hands.
-/
import Derived.Test.YtkdfbbkonbgfmaaLastPlain
import Derived.Test.YtkdfbbkonbgfmaaLawA
import Derived.Test.YtkdfbbkonbgfmaaSkips
namespace Go.Proofs.Ytkdfbbkonbgfmaa
open Go.RowKit

set_option maxRecDepth 20000 in
set_option maxHeartbeats 2500000 in
theorem last_any (vh vs vp : Value) (p : PlanD) (hok : PlanOk p) (w : World) (hp : PlanR w vh vs vp p) :
    Calls Try.prog 58 #[.agg #[vh, vs, vp]] w fun e w' => ∃ u, e = .returned u ∧ ∃ m, OwnI w.heap.size w' u m ∧ IsLast p hok m ∧ Ext w w' := by
  obtain ⟨hh, hs, hpp⟩ := hp
  obtain ⟨hlh, aoh, caph, rfl, hch, hhc⟩ := id hh
  obtain ⟨hls, aos, caps, rfl, hcs, hsc⟩ := id hs
  obtain ⟨hlp, aop, capp, rfl, hcp, hpc⟩ := id hpp
  obtain ⟨bh, oh, -, rfl, -, -⟩ := hhc 0 (by have := hok.h1; omega)
  obtain ⟨bs, os, -, rfl, -, -⟩ := hsc 0 (by have := hok.s1; omega)
  obtain ⟨bp, op, rfl, -⟩ := hpc 0 (by have := hok.pl; have := hok.s1; omega)
  clear hhc hsc hpc hch hcs hcp
  have Hh := hid hh
  have Hs' := hid hs
  have Hp := hid hpp
  have Hok := hid hok
  have hn1 := hok.h1
  have hn6 := hok.h6
  have hs1 := hok.s1
  have hs4 := hok.s4
  clear hh hs hpp
  have hmk := run_make_row' (P := Try.prog) 23 3 (.int .i64 0) 8 Try.underlying23 info_int rfl .i64 .i64 p.shifts.length (by omega) (by omega)
  go_enter Try.func58, Try.ntmps58
  go_wp2_with (fail)
  refine (Repeat_any _ (-1) p.hands.length _ ?hi (by omega)).mono ?_
  case hi =>
    have h1 := heap_alloc_new (w.alloc (.cells #[.slice (some ⟨bh, oh, none⟩) p.hands.length caph, .slice (some ⟨bs, os, none⟩) p.shifts.length caps, .slice (some ⟨bp, op, none⟩) p.places.length capp] 29)) (.cells #[.int .i64 (-1)] 3)
    rw [World.size_alloc] at h1
    exact IntBlock.ints (xs := [-1]) h1 rfl (by decide)
  rintro e w1 ⟨g1, rfl, hg1, hb1, he1⟩
  have hbx := ((Box3.alloc w 29 (.slice (some ⟨bh, oh, none⟩) p.hands.length caph) (.slice (some ⟨bs, os, none⟩) p.shifts.length caps) (.slice (some ⟨bp, op, none⟩) p.places.length capp)).ext (Ext.ofAlloc _ (.cells #[.int .i64 (-1)] 3))).ext he1
  obtain ⟨c0, c1, c2⟩ := hbx.cells
  have hsz1 := he1.size
  have hew := (((Ext.refl w).alloc _).alloc _).trans he1
  simp only [World.size_alloc] at hg1 hsz1
  have Hbx := hid hbx
  have Hb1 := hid hb1
  have Hew := hid hew
  have hg1s := hb1.lt
  clear hbx hb1 he1 hew
  go_wp2
  have hmade : madeCells #[Value.int .i64 0] p.shifts.length = ((List.replicate p.shifts.length (0 : Int)).map (Value.int .i64)).toArray := by
    apply Array.ext'
    rw [toList_madeCells_one]; simp
  rw [hmade]
  have hb2 : IntBlock (w1.alloc (.cells ((List.replicate p.shifts.length (0 : Int)).map (Value.int .i64)).toArray 3)) w1.heap.size (List.replicate p.shifts.length 0) := heap_alloc_new w1 _
  have Hb2 := hid hb2
  have hea := Ext.ofAlloc w1 (.cells ((List.replicate p.shifts.length (0 : Int)).map (Value.int .i64)).toArray 3)
  have Hea := hid hea
  clear hb2 hmk hmade c0 c1 c2 hea
  go_loopg [5] (sig p (List.replicate p.shifts.length 0) + 1) (fun g ag wr => ∃ (m a : List Int) (b : Bool), ag = .bool b ∧ Hid (LS p hok m a) ∧ Hid (IntBlock wr g1 m) ∧ Hid (IntBlock wr w1.heap.size a) ∧ Hid (Box3 wr w.heap.size 29 (.slice (some ⟨bh, oh, none⟩) p.hands.length caph) (.slice (some ⟨bs, os, none⟩) p.shifts.length caps) (.slice (some ⟨bp, op, none⟩) p.places.length capp)) ∧ Hid (Ext w wr) ∧ (b = true → sig p a < g) ∧ (b = false → Hid (∀ s : Nat, s < p.shifts.length → intAt p.places s ≤ (handsI (rowAt p.shifts s) m s).length ∨ fn a s = (rowAt p.shifts s).length)))
  case atStart => exact ⟨_, _, true, rfl, LS.start, Hb1.out.ext Hea.out, Hb2.out, Hbx.out.ext Hea.out, Hew.out.trans Hea.out, fun _ => by omega, fun h => by simp at h⟩
  case round =>
    obtain ⟨m0, a0, b, rfl, F0, M0, A0, X0, E0, hrho, hend⟩ := hrel
    cases b
    · have hd := hend rfl
      clear hend hrho
      go_wp2
      go_ret
      exact ⟨_, rfl, m0, IntBlock.own M0.out (by omega) F0.out.lm.symm (by have := F0.out.lm; omega), F0.out.last hd.out, E0.out⟩
    · have hr0 := hrho rfl
      clear hrho hend
      obtain ⟨c0, c1, c2⟩ := X0.out.cells
      go_wp2
      clear c0 c1 c2
      go_loopg [22, 5] p.shifts.length (fun g i ag wr => ∃ (k : Nat) (m a : List Int) (b : Bool), k + g = p.shifts.length ∧ i = .int .i64 k ∧ ag = .bool b ∧ Hid (LS p hok m a) ∧ Hid (IntBlock wr g1 m) ∧ Hid (IntBlock wr w1.heap.size a) ∧ Hid (Box3 wr w.heap.size 29 (.slice (some ⟨bh, oh, none⟩) p.hands.length caph) (.slice (some ⟨bs, os, none⟩) p.shifts.length caps) (.slice (some ⟨bp, op, none⟩) p.places.length capp)) ∧ Hid (Ext w wr) ∧ Hid (b = true → sig p a < sig p a0) ∧ Hid (b = false → sig p a = sig p a0 ∧ ∀ s : Nat, s < k → intAt p.places s ≤ (handsI (rowAt p.shifts s) m s).length ∨ fn a s = (rowAt p.shifts s).length))
      case atStart => exact ⟨0, m0, a0, false, by omega, rfl, rfl, F0, M0, A0, X0, E0, fun h => by simp at h, fun _ => ⟨rfl, fun h hh => by omega⟩⟩
      case round =>
        obtain ⟨k, m, a, b, hk, rfl, rfl, F, M, A, X, E, hT, hF⟩ := hrel
        have hkl : k ≤ p.shifts.length := by omega
        have Hk := hid hk
        clear hk
        by_cases hlt : k < p.shifts.length
        · obtain ⟨hbs, ar, cr, hrow, hri⟩ := Hs'.out.row k hlt
          have hrow' := hrow _ E.out
          have Hri := hid hri
          obtain ⟨c0, c1, c2⟩ := X.out.cells
          have hrl := Hri.out.1
          have hbs' := E.out.size
          clear hrow hri
          go_wp2
          clear c0 c1 c2 hrow'
          go_loopg [5] (sig p a) (fun g ag wr => ∃ (m' a' : List Int) (b' : Bool), sig p a' ≤ g ∧ ag = .bool b' ∧ Hid (LS p hok m' a') ∧ Hid (IntBlock wr g1 m') ∧ Hid (IntBlock wr w1.heap.size a') ∧ Hid (Box3 wr w.heap.size 29 (.slice (some ⟨bh, oh, none⟩) p.hands.length caph) (.slice (some ⟨bs, os, none⟩) p.shifts.length caps) (.slice (some ⟨bp, op, none⟩) p.places.length capp)) ∧ Hid (Ext w wr) ∧ Hid (b' = true → sig p a' < sig p a0) ∧ Hid (b' = false → b = false ∧ m' = m ∧ a' = a))
          case atStart => exact ⟨m, a, b, Nat.le_refl _, rfl, F, M, A, X, E, hT, fun h => ⟨h, rfl, rfl⟩⟩
          case round =>
            clear F M A X E
            obtain ⟨m', a', b', hsg, rfl, F, M, A, X, E, hT', hF'⟩ := hrel
            have hlm := F.out.lm
            have hla := F.out.la
            have hak' := A.out.cell (i := k) (by omega)
            obtain ⟨c0, c1, c2⟩ := X.out.cells
            have hlo := F.out.lo k hlt
            have ha0 := hlo.1
            obtain ⟨bp', op', hpe, hpc⟩ := Hp.out.at k (by omega) (by have := Hok.out.pl; omega)
            simp only [Option.some.injEq, Addr.mk.injEq, and_true] at hpe
            obtain ⟨rfl, rfl⟩ := hpe
            have hpc' := hpc _ E.out
            rw [Int.toNat_natCast] at hpc'
            have hk0 : (0 : Int) ≤ (k : Int) := by omega
            have hk1 : (k : Int) < p.shifts.length := by omega
            have hk2 : (k : Int) < p.places.length := by have := Hok.out.pl; omega
            have hk3 : (k : Int) < a'.length := by omega
            have Hsg := hid hsg
            have Hlm := hid hlm
            have Hla := hid hla
            obtain ⟨N, hN⟩ : ∃ N, N = (handsI (rowAt p.shifts k) m' k).length := ⟨_, rfl⟩
            have HN := hid hN
            have hcl := F.out.cnt (s := k) hk0
            have hcle := List.countP_le_length (p := fun h => decide (fn m' h = k)) (l := List.range p.hands.length)
            rw [List.length_range] at hcle
            have hcle2 : Mkt.cnt (mkt p hok) (fn m') k = (List.range p.hands.length).countP (fun h => decide (fn m' h = k)) := rfl
            have hN6 : N ≤ 6 := by omega
            have HN6 := hid (show (handsI (rowAt p.shifts k) m' k).length ≤ 17592186044416 by omega)
            clear hpc hsg hlm hla hN hcl hcle hcle2
            by_cases hroom : (N : Int) < intAt p.places k
            · by_cases hleft : fn a' k < (rowAt p.shifts k).length
              · -- an offer
                obtain ⟨h, hh⟩ : ∃ h, h = nextH p a' k := ⟨_, rfl⟩
                have hsr := nextH_range Hok.out ha0 hleft
                have hsg := nextH_get ha0 hleft
                rw [← hh] at hsr hsg
                have hh0 := hsr.1
                have hh1 := hsr.2
                obtain ⟨br, orr, rfl, hbr, hcr⟩ := Hri.out.get (fn a' k).toNat (by omega)
                have hfs : fn (rowAt p.shifts k) (fn a' k).toNat = h := by rw [fn_get (h := (fn a' k).toNat) (by omega)]; exact hsg.symm
                rw [hfs] at hcr
                have Hcr := hid hcr
                have hrs := sig_step (p := p) hlt Hla.out hleft
                have Hrs := hid hrs
                have Hnh := hid hh
                have Hleft := hid hleft
                have Hroom := hid hroom
                obtain ⟨bh', oh', arh, crh, hbe, hch, hrh⟩ := Hh.out.at h hh0 hh1
                simp only [Option.some.injEq, Addr.mk.injEq, and_true] at hbe
                obtain ⟨rfl, rfl⟩ := hbe
                have Hch := hid hch
                have Hrh := hid hrh
                have hh2 : (h : Int) < m'.length := by rw [Hlm.out]; omega
                clear hh hsg hsr hcr hrs hfs hch hrh
                go_wp2
                go_region_held3 (fun w' => w'.cell? ⟨w.heap.size, 0, none⟩ = some (.slice (some ⟨bh, oh, none⟩) p.hands.length caph) ∧ w'.cell? ⟨w.heap.size, 1, none⟩ = some (.slice (some ⟨bs, os, none⟩) p.shifts.length caps) ∧ w'.cell? ⟨w.heap.size, 2, none⟩ = some (.slice (some ⟨bp, op, none⟩) p.places.length capp) ∧ w'.cell? ⟨bp, op + k, none⟩ = some (.int .i64 (intAt p.places k)) ∧ w'.cell? ⟨w1.heap.size, k, none⟩ = some (.int .i64 (fn a' k)))
                  (first | exact ⟨c0, c1, c2, hpc', hak'⟩ | exact ⟨he3.cell c0, he3.cell c1, he3.cell c2, he3.cell hpc', he3.cell hak'⟩)
                  (first | (go_at_call 82; refine (hands_any _ _ _ _ p m' k _ ⟨Hh.out.ext E.out.drew, Hs'.out.ext E.out.drew, Hp.out.ext E.out.drew⟩ ((M.out.ext (Ext.refl _).drew).ints Hlm.out.symm (by rw [Hlm.out]; omega)) hk0 hk1 (by rw [Hlm.out]; exact (Hok.out.col hk0).1)).mono ?_; rintro e w3 ⟨u, rfl, hu, he3⟩; obtain ⟨-, ao3, cap3, rfl, -, -⟩ := id (hu.ints HN6.out); rw [← HN.out]))
                have M3 := hid (M.out.ext ((Ext.refl _).drew.trans he3))
                have A3 := hid (A.out.ext ((Ext.refl _).drew.trans he3))
                have X3 := hid (X.out.ext ((Ext.refl _).drew.trans he3))
                have E3 := hid (E.out.drew.trans he3)
                have hfree := A3.out.free k
                have ha3 := A3.out.cell (i := k) (by omega)
                have hcr3 := Hcr.out _ E3.out
                have Aa := hid (A3.out.set k (fn a' k + 1))
                have Ma := hid (M3.out.other (g' := w1.heap.size) (by omega) k (.int .i64 (fn a' k + 1)))
                have Xa := hid (X3.out.other (g' := w1.heap.size) (by omega) k (.int .i64 (fn a' k + 1)))
                have E4 := hid (E3.out.setCell (g := w1.heap.size) (by omega) k (.int .i64 (fn a' k + 1)))
                have hT2 : Hid (∀ m2, LS p hok m2 (a'.set k (fn a' k + 1)) → (true = true → sig p (a'.set k (fn a' k + 1)) < sig p a0)) := by
                  intro m2 _ _
                  have h1 := Hrs.out
                  cases b'
                  · obtain ⟨hb, -, rfl⟩ := hF'.out rfl
                    have := (hF.out hb).1; omega
                  · have := hT'.out rfl; omega
                clear hu he3 c0 c1 c2 hpc' hak'
                go_wp2
                obtain ⟨d0, d1, d2⟩ := Xa.out.cells
                have h6 : fn m' h.toNat = intAt m' h := by unfold fn; rw [Int.toNat_of_nonneg hh0]
                have dm := Ma.out.cell (i := h.toNat) (by omega)
                rw [h6] at dm
                clear h6
                have dh := Hch.out _ E4.out
                generalize World.setCell _ _ _ = W4 at *
                cases hps : possB p h k
                · have Fn := hid (F.out.skip hlt Hleft.out (.inl (by rw [← Hnh.out]; exact hps)))
                  refine wp_region_held_drew (S := (fun w' => w'.cell? ⟨w.heap.size, 0, none⟩ = some (.slice (some ⟨bh, oh, none⟩) p.hands.length caph) ∧ w'.cell? ⟨w.heap.size, 1, none⟩ = some (.slice (some ⟨bs, os, none⟩) p.shifts.length caps) ∧ w'.cell? ⟨w.heap.size, 2, none⟩ = some (.slice (some ⟨bp, op, none⟩) p.places.length capp) ∧ w'.cell? ⟨bh, oh + h.toNat, none⟩ = some (.slice arh (rowAt p.hands h).length crh) ∧ w'.cell? ⟨g1, h.toNat, none⟩ = some (.int .i64 (intAt m' h)))) (by kernel_rfl) ?hSb0 (fun hHeld => ?_)
                  case hSb0 => (first | (first | exact ⟨d0, d1, d2, dh, dm⟩ | exact ⟨he5.cell d0, he5.cell d1, he5.cell d2, he5.cell dh, he5.cell dm⟩) | ((try dsimp only); first | exact ⟨d0, d1, d2, dh, dm⟩ | exact ⟨he5.cell d0, he5.cell d1, he5.cell d2, he5.cell dh, he5.cell dm⟩))
                  refine wpAnyH_tk 0 (v := ?vb0) rfl (by kernel_rfl) (by kernel_rfl) (by kernel_rfl) (fun _ _ _ h => h) (by rfl) ?hyb0 (by assumption) ?_
                  case hyb0 => (intro w hSw; (try dsimp only at hSw); go_simp <;> with_reducible rfl)
                  (try simp only [Act.put, List.setIfInBounds_toArray, List.set_cons_zero, List.set_cons_succ])
                  refine wpAnyH_tk 1 (v := ?vb1) rfl (by kernel_rfl) (by kernel_rfl) (by kernel_rfl) (fun _ _ _ h => h) (by rfl) ?hyb1 (by assumption) ?_
                  case hyb1 => (intro w hSw; (try dsimp only at hSw); go_simp <;> with_reducible rfl)
                  (try simp only [Act.put, List.setIfInBounds_toArray, List.set_cons_zero, List.set_cons_succ])
                  refine wpAnyH_tk 2 (v := ?vb2) rfl (by kernel_rfl) (by kernel_rfl) (by kernel_rfl) (fun _ _ _ h => h) (by rfl) ?hyb2 (by assumption) ?_
                  case hyb2 => (intro w hSw; (try dsimp only at hSw); go_simp <;> with_reducible rfl)
                  (try simp only [Act.put, List.setIfInBounds_toArray, List.set_cons_zero, List.set_cons_succ])
                  refine wpAnyH_one 3 rfl (by kernel_rfl) (by rfl) (fun K hK => ?_)
                  go_simp
                  (go_at_call 100; refine (possible_any _ _ _ p h k _ ⟨Hh.out.ext E4.out.drew, Hs'.out.ext E4.out.drew, Hp.out.ext E4.out.drew⟩ hh0 hh1 hk0 hk1).mono ?_; rintro e w5 ⟨rfl, he5⟩)
                  refine hK.out _ _ ?hSb4 (fun hHeld => ?_)
                  case hSb4 => (first | (first | exact ⟨d0, d1, d2, dh, dm⟩ | exact ⟨he5.cell d0, he5.cell d1, he5.cell d2, he5.cell dh, he5.cell dm⟩) | ((try dsimp only); first | exact ⟨d0, d1, d2, dh, dm⟩ | exact ⟨he5.cell d0, he5.cell d1, he5.cell d2, he5.cell dh, he5.cell dm⟩))
                  clear hK K
                  (try simp only [Act.put, List.setIfInBounds_toArray, List.set_cons_zero, List.set_cons_succ])
                  refine wpAnyH_tk 4 (v := ?vb4) rfl (by kernel_rfl) (by kernel_rfl) (by kernel_rfl) (fun _ _ _ h => h) (by rfl) ?hyb4 (by assumption) ?_
                  case hyb4 => (intro w hSw; (try dsimp only at hSw); go_simp <;> with_reducible rfl)
                  (try simp only [Act.put, List.setIfInBounds_toArray, List.set_cons_zero, List.set_cons_succ])
                  refine wpAnyH_skips 4 true 64 1 (by kernel_rfl) rfl (fun _ _ _ _ _ h => h) [5, 6, 7, 8, 9, 10, 11, 12, 13, 14, 15, 16, 17, 18, 19, 20, 21, 22] [65, 66, 67, 68, 69, 70, 71, 72, 73, 74, 75, 76, 77, 78, 79, 80, 81, 82] _ _ _ rfl (by kernel_rfl) (by rfl) (by assumption) ?_
                  (try simp only [putsAll, List.foldl, Act.put, List.setIfInBounds_toArray, List.set_cons_zero, List.set_cons_succ])
                  refine wpAnyH_tk 23 (v := ?vb23) rfl (by kernel_rfl) (by kernel_rfl) (by kernel_rfl) (fun _ _ _ h => h) (by rfl) ?hyb23 (by assumption) ?_
                  case hyb23 => (intro w hSw; (try dsimp only at hSw); go_simp <;> with_reducible rfl)
                  (try simp only [Act.put, List.setIfInBounds_toArray, List.set_cons_zero, List.set_cons_succ])
                  refine wpAnyH_done (by kernel_rfl) ?_ _
                  clear d0 d1 d2 dm dh
                  go_wp2
                  go_roundg (sig p a' - 1)
                  case rel => exact ⟨m', _, true, by have := Hrs.out; omega, rfl, Fn, Ma.out.ext ((Ext.refl _).drew.trans he5), Aa.out.ext ((Ext.refl _).drew.trans he5), Xa.out.ext ((Ext.refl _).drew.trans he5), E4.out.drew.trans he5, fun _ => hT2.out m' Fn.out trivial, fun h => by simp at h⟩
                  case measure => have := Hrs.out; have := Hsg.out; omega
                · by_cases hlike : rankP (rowAt p.hands h) k < rankP (rowAt p.hands h) (intAt m' h)
                  · have Fn := hid (F.out.come hlt Hleft.out (by rw [← Hnh.out]; exact hps) (by rw [← Hnh.out]; exact hlike) (by rw [← HN.out]; exact Hroom.out))
                    rw [← Hnh.out] at Fn
                    refine wp_region_held_drew (S := (fun w' => w'.cell? ⟨w.heap.size, 0, none⟩ = some (.slice (some ⟨bh, oh, none⟩) p.hands.length caph) ∧ w'.cell? ⟨w.heap.size, 1, none⟩ = some (.slice (some ⟨bs, os, none⟩) p.shifts.length caps) ∧ w'.cell? ⟨w.heap.size, 2, none⟩ = some (.slice (some ⟨bp, op, none⟩) p.places.length capp) ∧ w'.cell? ⟨bh, oh + h.toNat, none⟩ = some (.slice arh (rowAt p.hands h).length crh) ∧ w'.cell? ⟨g1, h.toNat, none⟩ = some (.int .i64 (intAt m' h)))) (by kernel_rfl) ?hSc0 (fun hHeld => ?_)
                    case hSc0 => (first | (first | exact ⟨d0, d1, d2, dh, dm⟩ | exact ⟨he5.cell d0, he5.cell d1, he5.cell d2, he5.cell dh, he5.cell dm⟩) | ((try dsimp only); first | exact ⟨d0, d1, d2, dh, dm⟩ | exact ⟨he5.cell d0, he5.cell d1, he5.cell d2, he5.cell dh, he5.cell dm⟩))
                    refine wpAnyH_tk 0 (v := ?vc0) rfl (by kernel_rfl) (by kernel_rfl) (by kernel_rfl) (fun _ _ _ h => h) (by rfl) ?hyc0 (by assumption) ?_
                    case hyc0 => (intro w hSw; (try dsimp only at hSw); go_simp <;> with_reducible rfl)
                    (try simp only [Act.put, List.setIfInBounds_toArray, List.set_cons_zero, List.set_cons_succ])
                    refine wpAnyH_tk 1 (v := ?vc1) rfl (by kernel_rfl) (by kernel_rfl) (by kernel_rfl) (fun _ _ _ h => h) (by rfl) ?hyc1 (by assumption) ?_
                    case hyc1 => (intro w hSw; (try dsimp only at hSw); go_simp <;> with_reducible rfl)
                    (try simp only [Act.put, List.setIfInBounds_toArray, List.set_cons_zero, List.set_cons_succ])
                    refine wpAnyH_tk 2 (v := ?vc2) rfl (by kernel_rfl) (by kernel_rfl) (by kernel_rfl) (fun _ _ _ h => h) (by rfl) ?hyc2 (by assumption) ?_
                    case hyc2 => (intro w hSw; (try dsimp only at hSw); go_simp <;> with_reducible rfl)
                    (try simp only [Act.put, List.setIfInBounds_toArray, List.set_cons_zero, List.set_cons_succ])
                    refine wpAnyH_one 3 rfl (by kernel_rfl) (by rfl) (fun K hK => ?_)
                    go_simp
                    (go_at_call 100; refine (possible_any _ _ _ p h k _ ⟨Hh.out.ext E4.out.drew, Hs'.out.ext E4.out.drew, Hp.out.ext E4.out.drew⟩ hh0 hh1 hk0 hk1).mono ?_; rintro e w5 ⟨rfl, he5⟩)
                    refine hK.out _ _ ?hSc4 (fun hHeld => ?_)
                    case hSc4 => (first | (first | exact ⟨d0, d1, d2, dh, dm⟩ | exact ⟨he5.cell d0, he5.cell d1, he5.cell d2, he5.cell dh, he5.cell dm⟩) | ((try dsimp only); first | exact ⟨d0, d1, d2, dh, dm⟩ | exact ⟨he5.cell d0, he5.cell d1, he5.cell d2, he5.cell dh, he5.cell dm⟩))
                    clear hK K
                    (try simp only [Act.put, List.setIfInBounds_toArray, List.set_cons_zero, List.set_cons_succ])
                    refine wpAnyH_tk 4 (v := ?vc4) rfl (by kernel_rfl) (by kernel_rfl) (by kernel_rfl) (fun _ _ _ h => h) (by rfl) ?hyc4 (by assumption) ?_
                    case hyc4 => (intro w hSw; (try dsimp only at hSw); go_simp <;> with_reducible rfl)
                    (try simp only [Act.put, List.setIfInBounds_toArray, List.set_cons_zero, List.set_cons_succ])
                    refine wpAnyH_tk 5 (v := ?vc5) rfl (by kernel_rfl) (by kernel_rfl) (by kernel_rfl) (fun _ _ _ h => h) (by rfl) ?hyc5 (by assumption) ?_
                    case hyc5 => (intro w hSw; (try dsimp only at hSw); go_simp <;> with_reducible rfl)
                    (try simp only [Act.put, List.setIfInBounds_toArray, List.set_cons_zero, List.set_cons_succ])
                    refine wpAnyH_tk 6 (v := ?vc6) rfl (by kernel_rfl) (by kernel_rfl) (by kernel_rfl) (fun _ _ _ h => h) (by rfl) ?hyc6 (by assumption) ?_
                    case hyc6 => (intro w hSw; (try dsimp only at hSw); go_simp <;> with_reducible rfl)
                    (try simp only [Act.put, List.setIfInBounds_toArray, List.set_cons_zero, List.set_cons_succ])
                    refine wpAnyH_tk 7 (v := ?vc7) rfl (by kernel_rfl) (by kernel_rfl) (by kernel_rfl) (fun _ _ _ h => h) (by rfl) ?hyc7 (by assumption) ?_
                    case hyc7 => (intro w hSw; (try dsimp only at hSw); go_simp <;> with_reducible rfl)
                    (try simp only [Act.put, List.setIfInBounds_toArray, List.set_cons_zero, List.set_cons_succ])
                    refine wpAnyH_tk 8 (v := ?vc8) rfl (by kernel_rfl) (by kernel_rfl) (by kernel_rfl) (fun _ _ _ h => h) (by rfl) ?hyc8 (by assumption) ?_
                    case hyc8 => (intro w hSw; (try dsimp only at hSw); go_simp <;> with_reducible rfl)
                    (try simp only [Act.put, List.setIfInBounds_toArray, List.set_cons_zero, List.set_cons_succ])
                    refine wpAnyH_tk 9 (v := ?vc9) rfl (by kernel_rfl) (by kernel_rfl) (by kernel_rfl) (fun _ _ _ h => h) (by rfl) ?hyc9 (by assumption) ?_
                    case hyc9 => (intro w hSw; (try dsimp only at hSw); go_simp <;> with_reducible rfl)
                    (try simp only [Act.put, List.setIfInBounds_toArray, List.set_cons_zero, List.set_cons_succ])
                    refine wpAnyH_tk 10 (v := ?vc10) rfl (by kernel_rfl) (by kernel_rfl) (by kernel_rfl) (fun _ _ _ h => h) (by rfl) ?hyc10 (by assumption) ?_
                    case hyc10 => (intro w hSw; (try dsimp only at hSw); go_simp <;> with_reducible rfl)
                    (try simp only [Act.put, List.setIfInBounds_toArray, List.set_cons_zero, List.set_cons_succ])
                    refine wpAnyH_tk 12 (v := ?vc12) rfl (by kernel_rfl) (by kernel_rfl) (by kernel_rfl) (fun _ _ _ h => h) (by rfl) ?hyc12 (by assumption) ?_
                    case hyc12 => (intro w hSw; (try dsimp only at hSw); go_simp <;> with_reducible rfl)
                    (try simp only [Act.put, List.setIfInBounds_toArray, List.set_cons_zero, List.set_cons_succ])
                    refine wpAnyH_tk 13 (v := ?vc13) rfl (by kernel_rfl) (by kernel_rfl) (by kernel_rfl) (fun _ _ _ h => h) (by rfl) ?hyc13 (by assumption) ?_
                    case hyc13 => (intro w hSw; (try dsimp only at hSw); go_simp <;> with_reducible rfl)
                    (try simp only [Act.put, List.setIfInBounds_toArray, List.set_cons_zero, List.set_cons_succ])
                    refine wpAnyH_tk 14 (v := ?vc14) rfl (by kernel_rfl) (by kernel_rfl) (by kernel_rfl) (fun _ _ _ h => h) (by rfl) ?hyc14 (by assumption) ?_
                    case hyc14 => (intro w hSw; (try dsimp only at hSw); go_simp <;> with_reducible rfl)
                    (try simp only [Act.put, List.setIfInBounds_toArray, List.set_cons_zero, List.set_cons_succ])
                    refine wpAnyH_tk 15 (v := ?vc15) rfl (by kernel_rfl) (by kernel_rfl) (by kernel_rfl) (fun _ _ _ h => h) (by rfl) ?hyc15 (by assumption) ?_
                    case hyc15 => (intro w hSw; (try dsimp only at hSw); go_simp <;> with_reducible rfl)
                    (try simp only [Act.put, List.setIfInBounds_toArray, List.set_cons_zero, List.set_cons_succ])
                    refine wpAnyH_tk 16 (v := ?vc16) rfl (by kernel_rfl) (by kernel_rfl) (by kernel_rfl) (fun _ _ _ h => h) (by rfl) ?hyc16 (by assumption) ?_
                    case hyc16 => (intro w hSw; (try dsimp only at hSw); go_simp <;> with_reducible rfl)
                    (try simp only [Act.put, List.setIfInBounds_toArray, List.set_cons_zero, List.set_cons_succ])
                    refine wpAnyH_tk 17 (v := ?vc17) rfl (by kernel_rfl) (by kernel_rfl) (by kernel_rfl) (fun _ _ _ h => h) (by rfl) ?hyc17 (by assumption) ?_
                    case hyc17 => (intro w hSw; (try dsimp only at hSw); go_simp <;> with_reducible rfl)
                    (try simp only [Act.put, List.setIfInBounds_toArray, List.set_cons_zero, List.set_cons_succ])
                    refine wpAnyH_tk 18 (v := ?vc18) rfl (by kernel_rfl) (by kernel_rfl) (by kernel_rfl) (fun _ _ _ h => h) (by rfl) ?hyc18 (by assumption) ?_
                    case hyc18 => (intro w hSw; (try dsimp only at hSw); go_simp <;> with_reducible rfl)
                    (try simp only [Act.put, List.setIfInBounds_toArray, List.set_cons_zero, List.set_cons_succ])
                    refine wpAnyH_tk 19 (v := ?vc19) rfl (by kernel_rfl) (by kernel_rfl) (by kernel_rfl) (fun _ _ _ h => h) (by rfl) ?hyc19 (by assumption) ?_
                    case hyc19 => (intro w hSw; (try dsimp only at hSw); go_simp <;> with_reducible rfl)
                    (try simp only [Act.put, List.setIfInBounds_toArray, List.set_cons_zero, List.set_cons_succ])
                    refine wpAnyH_tk 20 (v := ?vc20) rfl (by kernel_rfl) (by kernel_rfl) (by kernel_rfl) (fun _ _ _ h => h) (by rfl) ?hyc20 (by assumption) ?_
                    case hyc20 => (intro w hSw; (try dsimp only at hSw); go_simp <;> with_reducible rfl)
                    (try simp only [Act.put, List.setIfInBounds_toArray, List.set_cons_zero, List.set_cons_succ])
                    refine wpAnyH_one 11 rfl (by kernel_rfl) (by rfl) (fun K hK => ?_)
                    go_simp
                    (go_at_call 80; refine (rank_any _ (rowAt p.hands h) k _ (Hrh.out.ext (E4.out.drew.trans he5))).mono ?_; rintro e w' ⟨rfl, rfl⟩)
                    refine hK.out _ _ ?hSc12 (fun hHeld => ?_)
                    case hSc12 => (first | (first | exact ⟨d0, d1, d2, dh, dm⟩ | exact ⟨he5.cell d0, he5.cell d1, he5.cell d2, he5.cell dh, he5.cell dm⟩) | ((try dsimp only); first | exact ⟨d0, d1, d2, dh, dm⟩ | exact ⟨he5.cell d0, he5.cell d1, he5.cell d2, he5.cell dh, he5.cell dm⟩))
                    clear hK K
                    (try simp only [Act.put, List.setIfInBounds_toArray, List.set_cons_zero, List.set_cons_succ])
                    refine wpAnyH_one 21 rfl (by kernel_rfl) (by rfl) (fun K hK => ?_)
                    go_simp
                    (go_at_call 80; refine (rank_any _ (rowAt p.hands h) (intAt m' h) _ (Hrh.out.ext (E4.out.drew.trans he5))).mono ?_; rintro e w' ⟨rfl, rfl⟩)
                    refine hK.out _ _ ?hSc22 (fun hHeld => ?_)
                    case hSc22 => (first | (first | exact ⟨d0, d1, d2, dh, dm⟩ | exact ⟨he5.cell d0, he5.cell d1, he5.cell d2, he5.cell dh, he5.cell dm⟩) | ((try dsimp only); first | exact ⟨d0, d1, d2, dh, dm⟩ | exact ⟨he5.cell d0, he5.cell d1, he5.cell d2, he5.cell dh, he5.cell dm⟩))
                    clear hK K
                    (try simp only [Act.put, List.setIfInBounds_toArray, List.set_cons_zero, List.set_cons_succ])
                    refine wpAnyH_tk 22 (v := ?vc22) rfl (by kernel_rfl) (by kernel_rfl) (by kernel_rfl) (fun _ _ _ h => h) (by rfl) ?hyc22 (by assumption) ?_
                    case hyc22 => (intro w hSw; (try dsimp only at hSw); go_simp <;> with_reducible rfl)
                    (try simp only [Act.put, List.setIfInBounds_toArray, List.set_cons_zero, List.set_cons_succ])
                    refine wpAnyH_tk 23 (v := ?vc23) rfl (by kernel_rfl) (by kernel_rfl) (by kernel_rfl) (fun _ _ _ h => h) (by rfl) ?hyc23 (by assumption) ?_
                    case hyc23 => (intro w hSw; (try dsimp only at hSw); go_simp <;> with_reducible rfl)
                    (try simp only [Act.put, List.setIfInBounds_toArray, List.set_cons_zero, List.set_cons_succ])
                    refine wpAnyH_done (by kernel_rfl) ?_ _
                    have hmf := Ma.out.ext ((Ext.refl _).drew.trans he5)
                    have hm6 := hmf.cell (i := h.toNat) (by omega)
                    have hf6 := hmf.free h.toNat
                    have M6 := hid (hmf.set h.toNat k)
                    have A6 := hid ((Aa.out.ext ((Ext.refl _).drew.trans he5)).other (g' := g1) (by omega) h.toNat (.int .i64 k))
                    have X6 := hid ((Xa.out.ext ((Ext.refl _).drew.trans he5)).other (g' := g1) (by omega) h.toNat (.int .i64 k))
                    have E6 := hid ((E4.out.drew.trans he5).setCell (g := g1) (by omega) h.toNat (.int .i64 k))
                    clear d0 d1 d2 dm dh hmf
                    go_wp2
                    go_roundg (sig p a' - 1)
                    case rel => exact ⟨_, _, true, by have := Hrs.out; omega, rfl, Fn, M6, A6, X6, E6, fun _ => hT2.out _ Fn.out trivial, fun h => by simp at h⟩
                    case measure => have := Hrs.out; have := Hsg.out; omega
                  · have Fn := hid (F.out.skip hlt Hleft.out (.inr (by rw [← Hnh.out]; omega)))
                    refine wp_region_held_drew (S := (fun w' => w'.cell? ⟨w.heap.size, 0, none⟩ = some (.slice (some ⟨bh, oh, none⟩) p.hands.length caph) ∧ w'.cell? ⟨w.heap.size, 1, none⟩ = some (.slice (some ⟨bs, os, none⟩) p.shifts.length caps) ∧ w'.cell? ⟨w.heap.size, 2, none⟩ = some (.slice (some ⟨bp, op, none⟩) p.places.length capp) ∧ w'.cell? ⟨bh, oh + h.toNat, none⟩ = some (.slice arh (rowAt p.hands h).length crh) ∧ w'.cell? ⟨g1, h.toNat, none⟩ = some (.int .i64 (intAt m' h)))) (by kernel_rfl) ?hSd0 (fun hHeld => ?_)
                    case hSd0 => (first | (first | exact ⟨d0, d1, d2, dh, dm⟩ | exact ⟨he5.cell d0, he5.cell d1, he5.cell d2, he5.cell dh, he5.cell dm⟩) | ((try dsimp only); first | exact ⟨d0, d1, d2, dh, dm⟩ | exact ⟨he5.cell d0, he5.cell d1, he5.cell d2, he5.cell dh, he5.cell dm⟩))
                    refine wpAnyH_tk 0 (v := ?vd0) rfl (by kernel_rfl) (by kernel_rfl) (by kernel_rfl) (fun _ _ _ h => h) (by rfl) ?hyd0 (by assumption) ?_
                    case hyd0 => (intro w hSw; (try dsimp only at hSw); go_simp <;> with_reducible rfl)
                    (try simp only [Act.put, List.setIfInBounds_toArray, List.set_cons_zero, List.set_cons_succ])
                    refine wpAnyH_tk 1 (v := ?vd1) rfl (by kernel_rfl) (by kernel_rfl) (by kernel_rfl) (fun _ _ _ h => h) (by rfl) ?hyd1 (by assumption) ?_
                    case hyd1 => (intro w hSw; (try dsimp only at hSw); go_simp <;> with_reducible rfl)
                    (try simp only [Act.put, List.setIfInBounds_toArray, List.set_cons_zero, List.set_cons_succ])
                    refine wpAnyH_tk 2 (v := ?vd2) rfl (by kernel_rfl) (by kernel_rfl) (by kernel_rfl) (fun _ _ _ h => h) (by rfl) ?hyd2 (by assumption) ?_
                    case hyd2 => (intro w hSw; (try dsimp only at hSw); go_simp <;> with_reducible rfl)
                    (try simp only [Act.put, List.setIfInBounds_toArray, List.set_cons_zero, List.set_cons_succ])
                    refine wpAnyH_one 3 rfl (by kernel_rfl) (by rfl) (fun K hK => ?_)
                    go_simp
                    (go_at_call 100; refine (possible_any _ _ _ p h k _ ⟨Hh.out.ext E4.out.drew, Hs'.out.ext E4.out.drew, Hp.out.ext E4.out.drew⟩ hh0 hh1 hk0 hk1).mono ?_; rintro e w5 ⟨rfl, he5⟩)
                    refine hK.out _ _ ?hSd4 (fun hHeld => ?_)
                    case hSd4 => (first | (first | exact ⟨d0, d1, d2, dh, dm⟩ | exact ⟨he5.cell d0, he5.cell d1, he5.cell d2, he5.cell dh, he5.cell dm⟩) | ((try dsimp only); first | exact ⟨d0, d1, d2, dh, dm⟩ | exact ⟨he5.cell d0, he5.cell d1, he5.cell d2, he5.cell dh, he5.cell dm⟩))
                    clear hK K
                    (try simp only [Act.put, List.setIfInBounds_toArray, List.set_cons_zero, List.set_cons_succ])
                    refine wpAnyH_tk 4 (v := ?vd4) rfl (by kernel_rfl) (by kernel_rfl) (by kernel_rfl) (fun _ _ _ h => h) (by rfl) ?hyd4 (by assumption) ?_
                    case hyd4 => (intro w hSw; (try dsimp only at hSw); go_simp <;> with_reducible rfl)
                    (try simp only [Act.put, List.setIfInBounds_toArray, List.set_cons_zero, List.set_cons_succ])
                    refine wpAnyH_tk 5 (v := ?vd5) rfl (by kernel_rfl) (by kernel_rfl) (by kernel_rfl) (fun _ _ _ h => h) (by rfl) ?hyd5 (by assumption) ?_
                    case hyd5 => (intro w hSw; (try dsimp only at hSw); go_simp <;> with_reducible rfl)
                    (try simp only [Act.put, List.setIfInBounds_toArray, List.set_cons_zero, List.set_cons_succ])
                    refine wpAnyH_tk 6 (v := ?vd6) rfl (by kernel_rfl) (by kernel_rfl) (by kernel_rfl) (fun _ _ _ h => h) (by rfl) ?hyd6 (by assumption) ?_
                    case hyd6 => (intro w hSw; (try dsimp only at hSw); go_simp <;> with_reducible rfl)
                    (try simp only [Act.put, List.setIfInBounds_toArray, List.set_cons_zero, List.set_cons_succ])
                    refine wpAnyH_tk 7 (v := ?vd7) rfl (by kernel_rfl) (by kernel_rfl) (by kernel_rfl) (fun _ _ _ h => h) (by rfl) ?hyd7 (by assumption) ?_
                    case hyd7 => (intro w hSw; (try dsimp only at hSw); go_simp <;> with_reducible rfl)
                    (try simp only [Act.put, List.setIfInBounds_toArray, List.set_cons_zero, List.set_cons_succ])
                    refine wpAnyH_tk 8 (v := ?vd8) rfl (by kernel_rfl) (by kernel_rfl) (by kernel_rfl) (fun _ _ _ h => h) (by rfl) ?hyd8 (by assumption) ?_
                    case hyd8 => (intro w hSw; (try dsimp only at hSw); go_simp <;> with_reducible rfl)
                    (try simp only [Act.put, List.setIfInBounds_toArray, List.set_cons_zero, List.set_cons_succ])
                    refine wpAnyH_tk 9 (v := ?vd9) rfl (by kernel_rfl) (by kernel_rfl) (by kernel_rfl) (fun _ _ _ h => h) (by rfl) ?hyd9 (by assumption) ?_
                    case hyd9 => (intro w hSw; (try dsimp only at hSw); go_simp <;> with_reducible rfl)
                    (try simp only [Act.put, List.setIfInBounds_toArray, List.set_cons_zero, List.set_cons_succ])
                    refine wpAnyH_tk 10 (v := ?vd10) rfl (by kernel_rfl) (by kernel_rfl) (by kernel_rfl) (fun _ _ _ h => h) (by rfl) ?hyd10 (by assumption) ?_
                    case hyd10 => (intro w hSw; (try dsimp only at hSw); go_simp <;> with_reducible rfl)
                    (try simp only [Act.put, List.setIfInBounds_toArray, List.set_cons_zero, List.set_cons_succ])
                    refine wpAnyH_tk 12 (v := ?vd12) rfl (by kernel_rfl) (by kernel_rfl) (by kernel_rfl) (fun _ _ _ h => h) (by rfl) ?hyd12 (by assumption) ?_
                    case hyd12 => (intro w hSw; (try dsimp only at hSw); go_simp <;> with_reducible rfl)
                    (try simp only [Act.put, List.setIfInBounds_toArray, List.set_cons_zero, List.set_cons_succ])
                    refine wpAnyH_tk 13 (v := ?vd13) rfl (by kernel_rfl) (by kernel_rfl) (by kernel_rfl) (fun _ _ _ h => h) (by rfl) ?hyd13 (by assumption) ?_
                    case hyd13 => (intro w hSw; (try dsimp only at hSw); go_simp <;> with_reducible rfl)
                    (try simp only [Act.put, List.setIfInBounds_toArray, List.set_cons_zero, List.set_cons_succ])
                    refine wpAnyH_tk 14 (v := ?vd14) rfl (by kernel_rfl) (by kernel_rfl) (by kernel_rfl) (fun _ _ _ h => h) (by rfl) ?hyd14 (by assumption) ?_
                    case hyd14 => (intro w hSw; (try dsimp only at hSw); go_simp <;> with_reducible rfl)
                    (try simp only [Act.put, List.setIfInBounds_toArray, List.set_cons_zero, List.set_cons_succ])
                    refine wpAnyH_tk 15 (v := ?vd15) rfl (by kernel_rfl) (by kernel_rfl) (by kernel_rfl) (fun _ _ _ h => h) (by rfl) ?hyd15 (by assumption) ?_
                    case hyd15 => (intro w hSw; (try dsimp only at hSw); go_simp <;> with_reducible rfl)
                    (try simp only [Act.put, List.setIfInBounds_toArray, List.set_cons_zero, List.set_cons_succ])
                    refine wpAnyH_tk 16 (v := ?vd16) rfl (by kernel_rfl) (by kernel_rfl) (by kernel_rfl) (fun _ _ _ h => h) (by rfl) ?hyd16 (by assumption) ?_
                    case hyd16 => (intro w hSw; (try dsimp only at hSw); go_simp <;> with_reducible rfl)
                    (try simp only [Act.put, List.setIfInBounds_toArray, List.set_cons_zero, List.set_cons_succ])
                    refine wpAnyH_tk 17 (v := ?vd17) rfl (by kernel_rfl) (by kernel_rfl) (by kernel_rfl) (fun _ _ _ h => h) (by rfl) ?hyd17 (by assumption) ?_
                    case hyd17 => (intro w hSw; (try dsimp only at hSw); go_simp <;> with_reducible rfl)
                    (try simp only [Act.put, List.setIfInBounds_toArray, List.set_cons_zero, List.set_cons_succ])
                    refine wpAnyH_tk 18 (v := ?vd18) rfl (by kernel_rfl) (by kernel_rfl) (by kernel_rfl) (fun _ _ _ h => h) (by rfl) ?hyd18 (by assumption) ?_
                    case hyd18 => (intro w hSw; (try dsimp only at hSw); go_simp <;> with_reducible rfl)
                    (try simp only [Act.put, List.setIfInBounds_toArray, List.set_cons_zero, List.set_cons_succ])
                    refine wpAnyH_tk 19 (v := ?vd19) rfl (by kernel_rfl) (by kernel_rfl) (by kernel_rfl) (fun _ _ _ h => h) (by rfl) ?hyd19 (by assumption) ?_
                    case hyd19 => (intro w hSw; (try dsimp only at hSw); go_simp <;> with_reducible rfl)
                    (try simp only [Act.put, List.setIfInBounds_toArray, List.set_cons_zero, List.set_cons_succ])
                    refine wpAnyH_tk 20 (v := ?vd20) rfl (by kernel_rfl) (by kernel_rfl) (by kernel_rfl) (fun _ _ _ h => h) (by rfl) ?hyd20 (by assumption) ?_
                    case hyd20 => (intro w hSw; (try dsimp only at hSw); go_simp <;> with_reducible rfl)
                    (try simp only [Act.put, List.setIfInBounds_toArray, List.set_cons_zero, List.set_cons_succ])
                    refine wpAnyH_one 11 rfl (by kernel_rfl) (by rfl) (fun K hK => ?_)
                    go_simp
                    (go_at_call 80; refine (rank_any _ (rowAt p.hands h) k _ (Hrh.out.ext (E4.out.drew.trans he5))).mono ?_; rintro e w' ⟨rfl, rfl⟩)
                    refine hK.out _ _ ?hSd12 (fun hHeld => ?_)
                    case hSd12 => (first | (first | exact ⟨d0, d1, d2, dh, dm⟩ | exact ⟨he5.cell d0, he5.cell d1, he5.cell d2, he5.cell dh, he5.cell dm⟩) | ((try dsimp only); first | exact ⟨d0, d1, d2, dh, dm⟩ | exact ⟨he5.cell d0, he5.cell d1, he5.cell d2, he5.cell dh, he5.cell dm⟩))
                    clear hK K
                    (try simp only [Act.put, List.setIfInBounds_toArray, List.set_cons_zero, List.set_cons_succ])
                    refine wpAnyH_one 21 rfl (by kernel_rfl) (by rfl) (fun K hK => ?_)
                    go_simp
                    (go_at_call 80; refine (rank_any _ (rowAt p.hands h) (intAt m' h) _ (Hrh.out.ext (E4.out.drew.trans he5))).mono ?_; rintro e w' ⟨rfl, rfl⟩)
                    refine hK.out _ _ ?hSd22 (fun hHeld => ?_)
                    case hSd22 => (first | (first | exact ⟨d0, d1, d2, dh, dm⟩ | exact ⟨he5.cell d0, he5.cell d1, he5.cell d2, he5.cell dh, he5.cell dm⟩) | ((try dsimp only); first | exact ⟨d0, d1, d2, dh, dm⟩ | exact ⟨he5.cell d0, he5.cell d1, he5.cell d2, he5.cell dh, he5.cell dm⟩))
                    clear hK K
                    (try simp only [Act.put, List.setIfInBounds_toArray, List.set_cons_zero, List.set_cons_succ])
                    refine wpAnyH_tk 22 (v := ?vd22) rfl (by kernel_rfl) (by kernel_rfl) (by kernel_rfl) (fun _ _ _ h => h) (by rfl) ?hyd22 (by assumption) ?_
                    case hyd22 => (intro w hSw; (try dsimp only at hSw); go_simp <;> with_reducible rfl)
                    (try simp only [Act.put, List.setIfInBounds_toArray, List.set_cons_zero, List.set_cons_succ])
                    refine wpAnyH_tk 23 (v := ?vd23) rfl (by kernel_rfl) (by kernel_rfl) (by kernel_rfl) (fun _ _ _ h => h) (by rfl) ?hyd23 (by assumption) ?_
                    case hyd23 => (intro w hSw; (try dsimp only at hSw); go_simp <;> with_reducible rfl)
                    (try simp only [Act.put, List.setIfInBounds_toArray, List.set_cons_zero, List.set_cons_succ])
                    refine wpAnyH_done (by kernel_rfl) ?_ _
                    clear d0 d1 d2 dm dh
                    go_wp2
                    go_roundg (sig p a' - 1)
                    case rel => exact ⟨m', _, true, by have := Hrs.out; omega, rfl, Fn, Ma.out.ext ((Ext.refl _).drew.trans he5), Aa.out.ext ((Ext.refl _).drew.trans he5), Xa.out.ext ((Ext.refl _).drew.trans he5), E4.out.drew.trans he5, fun _ => hT2.out m' Fn.out trivial, fun h => by simp at h⟩
                    case measure => have := Hrs.out; have := Hsg.out; omega
              · have Hleft := hid hleft
                have Hroom := hid hroom
                go_wp2
                go_region_held3 (fun w' => w'.cell? ⟨w.heap.size, 0, none⟩ = some (.slice (some ⟨bh, oh, none⟩) p.hands.length caph) ∧ w'.cell? ⟨w.heap.size, 1, none⟩ = some (.slice (some ⟨bs, os, none⟩) p.shifts.length caps) ∧ w'.cell? ⟨w.heap.size, 2, none⟩ = some (.slice (some ⟨bp, op, none⟩) p.places.length capp) ∧ w'.cell? ⟨bp, op + k, none⟩ = some (.int .i64 (intAt p.places k)) ∧ w'.cell? ⟨w1.heap.size, k, none⟩ = some (.int .i64 (fn a' k)))
                  (first | exact ⟨c0, c1, c2, hpc', hak'⟩ | exact ⟨he3.cell c0, he3.cell c1, he3.cell c2, he3.cell hpc', he3.cell hak'⟩)
                  (first | (go_at_call 82; refine (hands_any _ _ _ _ p m' k _ ⟨Hh.out.ext E.out.drew, Hs'.out.ext E.out.drew, Hp.out.ext E.out.drew⟩ ((M.out.ext (Ext.refl _).drew).ints Hlm.out.symm (by rw [Hlm.out]; omega)) hk0 hk1 (by rw [Hlm.out]; exact (Hok.out.col hk0).1)).mono ?_; rintro e w3 ⟨u, rfl, hu, he3⟩; obtain ⟨-, ao3, cap3, rfl, -, -⟩ := id (hu.ints HN6.out); rw [← HN.out]))
                have he4 := hid ((Ext.refl wr).drew.trans he3)
                clear hu he3 c0 c1 c2 hpc' hak'
                go_wp2
                go_roundg (p.shifts.length - (k + 1))
                case rel => exact ⟨k + 1, m', a', b', by have := Hk.out; omega, by go_num, rfl, F, M.out.ext he4.out, A.out.ext he4.out, X.out.ext he4.out, E.out.trans he4.out, hT', fun h => by
                  obtain ⟨hb, rfl, rfl⟩ := hF'.out h
                  exact ⟨(hF.out hb).1, fun x hx => by
                    rcases Nat.lt_or_ge x k with h' | h'
                    · exact (hF.out hb).2 x h'
                    · obtain rfl : x = k := by omega
                      exact .inr (by have := Hleft.out; omega)⟩⟩
                case measure => have := Hk.out; omega
            · have Hroom := hid hroom
              have hroom' : decide ((N : Int) < intAt p.places k) = false := by simpa using hroom
              clear hroom
              go_wp2
              refine wp_region_held_drew (S := (fun w' => w'.cell? ⟨w.heap.size, 0, none⟩ = some (.slice (some ⟨bh, oh, none⟩) p.hands.length caph) ∧ w'.cell? ⟨w.heap.size, 1, none⟩ = some (.slice (some ⟨bs, os, none⟩) p.shifts.length caps) ∧ w'.cell? ⟨w.heap.size, 2, none⟩ = some (.slice (some ⟨bp, op, none⟩) p.places.length capp) ∧ w'.cell? ⟨bp, op + k, none⟩ = some (.int .i64 (intAt p.places k)) ∧ w'.cell? ⟨w1.heap.size, k, none⟩ = some (.int .i64 (fn a' k)))) (by kernel_rfl) ?hSa0 (fun hHeld => ?_)
              case hSa0 => (first | (first | exact ⟨c0, c1, c2, hpc', hak'⟩ | exact ⟨he3.cell c0, he3.cell c1, he3.cell c2, he3.cell hpc', he3.cell hak'⟩) | ((try dsimp only); first | exact ⟨c0, c1, c2, hpc', hak'⟩ | exact ⟨he3.cell c0, he3.cell c1, he3.cell c2, he3.cell hpc', he3.cell hak'⟩))
              refine wpAnyH_tk 0 (v := ?va0) rfl (by kernel_rfl) (by kernel_rfl) (by kernel_rfl) (fun _ _ _ h => h) (by rfl) ?hya0 (by assumption) ?_
              case hya0 => (intro w hSw; (try dsimp only at hSw); go_simp <;> with_reducible rfl)
              (try simp only [Act.put, List.setIfInBounds_toArray, List.set_cons_zero, List.set_cons_succ])
              refine wpAnyH_tk 1 (v := ?va1) rfl (by kernel_rfl) (by kernel_rfl) (by kernel_rfl) (fun _ _ _ h => h) (by rfl) ?hya1 (by assumption) ?_
              case hya1 => (intro w hSw; (try dsimp only at hSw); go_simp <;> with_reducible rfl)
              (try simp only [Act.put, List.setIfInBounds_toArray, List.set_cons_zero, List.set_cons_succ])
              refine wpAnyH_tk 2 (v := ?va2) rfl (by kernel_rfl) (by kernel_rfl) (by kernel_rfl) (fun _ _ _ h => h) (by rfl) ?hya2 (by assumption) ?_
              case hya2 => (intro w hSw; (try dsimp only at hSw); go_simp <;> with_reducible rfl)
              (try simp only [Act.put, List.setIfInBounds_toArray, List.set_cons_zero, List.set_cons_succ])
              refine wpAnyH_tk 5 (v := ?va5) rfl (by kernel_rfl) (by kernel_rfl) (by kernel_rfl) (fun _ _ _ h => h) (by rfl) ?hya5 (by assumption) ?_
              case hya5 => (intro w hSw; (try dsimp only at hSw); go_simp <;> with_reducible rfl)
              (try simp only [Act.put, List.setIfInBounds_toArray, List.set_cons_zero, List.set_cons_succ])
              refine wpAnyH_tk 6 (v := ?va6) rfl (by kernel_rfl) (by kernel_rfl) (by kernel_rfl) (fun _ _ _ h => h) (by rfl) ?hya6 (by assumption) ?_
              case hya6 => (intro w hSw; (try dsimp only at hSw); go_simp <;> with_reducible rfl)
              (try simp only [Act.put, List.setIfInBounds_toArray, List.set_cons_zero, List.set_cons_succ])
              refine wpAnyH_tk 7 (v := ?va7) rfl (by kernel_rfl) (by kernel_rfl) (by kernel_rfl) (fun _ _ _ h => h) (by rfl) ?hya7 (by assumption) ?_
              case hya7 => (intro w hSw; (try dsimp only at hSw); go_simp <;> with_reducible rfl)
              (try simp only [Act.put, List.setIfInBounds_toArray, List.set_cons_zero, List.set_cons_succ])
              refine wpAnyH_tk 8 (v := ?va8) rfl (by kernel_rfl) (by kernel_rfl) (by kernel_rfl) (fun _ _ _ h => h) (by rfl) ?hya8 (by assumption) ?_
              case hya8 => (intro w hSw; (try dsimp only at hSw); go_simp <;> with_reducible rfl)
              (try simp only [Act.put, List.setIfInBounds_toArray, List.set_cons_zero, List.set_cons_succ])
              refine wpAnyH_tk 9 (v := ?va9) rfl (by kernel_rfl) (by kernel_rfl) (by kernel_rfl) (fun _ _ _ h => h) (by rfl) ?hya9 (by assumption) ?_
              case hya9 => (intro w hSw; (try dsimp only at hSw); go_simp <;> with_reducible rfl)
              (try simp only [Act.put, List.setIfInBounds_toArray, List.set_cons_zero, List.set_cons_succ])
              refine wpAnyH_one 3 rfl (by kernel_rfl) (by rfl) (fun K hK => ?_)
              go_simp
              (go_at_call 82; refine (hands_any _ _ _ _ p m' k _ ⟨Hh.out.ext E.out.drew, Hs'.out.ext E.out.drew, Hp.out.ext E.out.drew⟩ ((M.out.ext (Ext.refl _).drew).ints Hlm.out.symm (by rw [Hlm.out]; omega)) hk0 hk1 (by rw [Hlm.out]; exact (Hok.out.col hk0).1)).mono ?_; rintro e w3 ⟨u, rfl, hu, he3⟩; obtain ⟨-, ao3, cap3, rfl, -, -⟩ := id (hu.ints HN6.out); rw [← HN.out])
              refine hK.out _ _ ?hSa4 (fun hHeld => ?_)
              case hSa4 => (first | (first | exact ⟨c0, c1, c2, hpc', hak'⟩ | exact ⟨he3.cell c0, he3.cell c1, he3.cell c2, he3.cell hpc', he3.cell hak'⟩) | ((try dsimp only); first | exact ⟨c0, c1, c2, hpc', hak'⟩ | exact ⟨he3.cell c0, he3.cell c1, he3.cell c2, he3.cell hpc', he3.cell hak'⟩))
              clear hK K
              (try simp only [Act.put, List.setIfInBounds_toArray, List.set_cons_zero, List.set_cons_succ])
              refine wpAnyH_tk 4 (v := ?va4) rfl (by kernel_rfl) (by kernel_rfl) (by kernel_rfl) (fun _ _ _ h => h) (by rfl) ?hya4 (by assumption) ?_
              case hya4 => (intro w hSw; (try dsimp only at hSw); go_simp <;> with_reducible rfl)
              (try simp only [Act.put, List.setIfInBounds_toArray, List.set_cons_zero, List.set_cons_succ])
              refine wpAnyH_tk 10 (v := ?va10) rfl (by kernel_rfl) (by kernel_rfl) (by kernel_rfl) (fun _ _ _ h => h) (by rfl) ?hya10 (by assumption) ?_
              case hya10 => (intro w hSw; (try dsimp only at hSw); go_simp <;> with_reducible rfl)
              (try simp only [Act.put, List.setIfInBounds_toArray, List.set_cons_zero, List.set_cons_succ])
              refine wpAnyH_tk 11 (v := ?va11) rfl (by kernel_rfl) (by kernel_rfl) (by kernel_rfl) (fun _ _ _ h => h) (by rfl) ?hya11 (by assumption) ?_
              case hya11 => (intro w hSw; (try dsimp only at hSw); go_simp <;> with_reducible rfl)
              (try simp only [Act.put, List.setIfInBounds_toArray, List.set_cons_zero, List.set_cons_succ])
              refine wpAnyH_skips 11 true 38 1 (by kernel_rfl) rfl (fun _ _ _ _ _ h => h) [12, 13, 14, 15, 16, 17, 18] [39, 40, 41, 42, 43, 44, 45] _ _ _ rfl (by kernel_rfl) (by rfl) (by assumption) ?_
              (try simp only [putsAll, List.foldl, Act.put, List.setIfInBounds_toArray, List.set_cons_zero, List.set_cons_succ])
              refine wpAnyH_tk 19 (v := ?va19) rfl (by kernel_rfl) (by kernel_rfl) (by kernel_rfl) (fun _ _ _ h => h) (by rfl) ?hya19 (by assumption) ?_
              case hya19 => (intro w hSw; (try dsimp only at hSw); go_simp <;> with_reducible rfl)
              (try simp only [Act.put, List.setIfInBounds_toArray, List.set_cons_zero, List.set_cons_succ])
              refine wpAnyH_done (by kernel_rfl) ?_ _
              have he4 := hid ((Ext.refl wr).drew.trans he3)
              clear hu he3 c0 c1 c2 hpc' hak' hroom'
              go_wp2
              go_roundg (p.shifts.length - (k + 1))
              case rel => exact ⟨k + 1, m', a', b', by have := Hk.out; omega, by go_num, rfl, F, M.out.ext he4.out, A.out.ext he4.out, X.out.ext he4.out, E.out.trans he4.out, hT', fun h => by
                obtain ⟨hb, rfl, rfl⟩ := hF'.out h
                exact ⟨(hF.out hb).1, fun x hx => by
                  rcases Nat.lt_or_ge x k with h' | h'
                  · exact (hF.out hb).2 x h'
                  · obtain rfl : x = k := by omega
                    exact .inl (by rw [← HN.out]; have := Hroom.out; omega)⟩⟩
              case measure => have := Hk.out; omega
        · go_wp2
          cases b
          · go_roundg 0
            case rel => exact ⟨m, a, false, rfl, F, M, A, X, E, fun h => by simp at h, fun _ => show ∀ s : Nat, s < p.shifts.length → intAt p.places s ≤ (handsI (rowAt p.shifts s) m s).length ∨ fn a s = (rowAt p.shifts s).length from fun h hh => (hF.out rfl).2 h (by omega)⟩
            case measure => omega
          · have := hT.out rfl
            go_roundg (sig p a0)
            case rel => exact ⟨m, a, true, rfl, F, M, A, X, E, fun _ => this, fun h => by simp at h⟩
            case measure => omega

end Go.Proofs.Ytkdfbbkonbgfmaa
