/-
  Contracts of turns.Plan.blocks and turns.Plan.isStable.
-/
import Derived.Test.YtkdfbbkonbgfmaaMatching
import Derived.Test.YtkdfbbkonbgfmaaLastPlain
import Derived.IntWalk
namespace Go.Proofs.Ytkdfbbkonbgfmaa
open Go.RowKit

def pcells (ps : List (Int × Int)) : List Value := ps.flatMap (fun q => [Value.int .i64 q.1, Value.int .i64 q.2])
/-- A row of pairs of the call's own. -/
abbrev OwnPr (base : Nat) (w : World) (v : Value) (ps : List (Int × Int)) : Prop := w.ownsRow base 52 2 v ps.length (pcells ps)
theorem info_pair : (Try.prog.info? 52).map (fun i => (i.zero, i.size, i.bytes)) = some (some (.agg #[.int .i64 0, .int .i64 0]), 2, 16) := by kernel_rfl
theorem OwnPr.push {B : Nat} {w' : World} {v' : Value} {ps : List (Int × Int)} {x y : Int} {n : Nat} (hn : n = ps.length + 1) (h : w'.ownsRow B 52 2 v' n (pcells ps ++ [.int .i64 x, .int .i64 y])) : OwnPr B w' v' (ps ++ [(x, y)]) := by
  subst hn
  show w'.ownsRow B 52 2 v' (ps ++ [(x, y)]).length (pcells (ps ++ [(x, y)]))
  rw [List.length_append]
  unfold pcells
  rw [List.flatMap_append]; exact h
theorem cell_two_new (w : World) (t : TypeId) (x y : Value) : ∀ (j : Nat) (u : Value), [x, y][j]? = some u → (w.alloc (.cells #[x, y] t)).cell? ((⟨w.heap.size, 0, none⟩ : Addr).add j) = some u := by
  intro j u hu
  have hadd : (⟨w.heap.size, 0, none⟩ : Addr).add j = ⟨w.heap.size, j, none⟩ := by unfold Addr.add; split <;> simp_all
  rw [hadd, cell_of_row _ _ j #[x, y] t (0, 0) (heap_alloc_new w _)]
  simpa using hu

theorem MatL.col {p : PlanD} {hp : PlanOk p} {m : List Int} (hm : MatL p hp m) {s : Int} (s0 : 0 ≤ s) : ∀ x, x < p.hands.length → fn m x = s → (x : Int) ∈ rowAt p.shifts s := by
  intro x hx e
  rcases hm.2.ok x hx with c | c
  · omega
  · rw [e] at c; exact (possB_iff.1 c).2
theorem MatL.cnt {p : PlanD} {hp : PlanOk p} {m : List Int} (hm : MatL p hp m) {s : Int} (s0 : 0 ≤ s) : (handsI (rowAt p.shifts s) m s).length = Mkt.cnt (mkt p hp) (fn m) s := hands_cnt hp s0 (hm.col s0)
theorem blk_room {p : PlanD} {hp : PlanOk p} {m : List Int} (hm : MatL p hp m) {h s : Nat} (hps : possB p h s = true) (hr : rankP (rowAt p.hands h) s < rankP (rowAt p.hands h) (fn m h))
    (hl : ((handsI (rowAt p.shifts s) m s).length : Int) < intAt p.places s) : blkB p hp m h s = true := by
  rw [hm.cnt (by omega)] at hl
  refine blkB_iff.2 ⟨hps, hr, .inl ?_⟩
  show _ < (intAt p.places s).toNat
  omega
theorem blk_last {p : PlanD} {hp : PlanOk p} {m : List Int} (hm : MatL p hp m) {h s : Nat} (hs : s < p.shifts.length) (hps : possB p h s = true) (hr : rankP (rowAt p.hands h) s < rankP (rowAt p.hands h) (fn m h))
    (hl : ¬ ((handsI (rowAt p.shifts s) m s).length : Int) < intAt p.places s) {kept : List Int} (hk : kept = handsI (rowAt p.shifts s) m s) :
    1 ≤ kept.length ∧ blkB p hp m h s = decide (rankP (rowAt p.shifts s) h < rankP (rowAt p.shifts s) (fn kept (kept.length - 1))) := by
  have hpl := (planPlaces hp (s := s) (by omega) (by omega)).1
  have hlen : 1 ≤ kept.length := by rw [hk]; omega
  refine ⟨hlen, ?_⟩
  have hne : kept ≠ [] := by intro e; rw [e] at hlen; simp at hlen
  have hlast : kept.getLast hne = fn kept (kept.length - 1) := by rw [List.getLast_eq_getElem, fn_get (by omega)]
  have hpw : kept.Pairwise (fun x y => rankP (rowAt p.shifts s) x < rankP (rowAt p.shifts s) y) := by
    rw [hk]; exact (row_pairwise (hp.col (s := s) (by omega)).2).sublist List.filter_sublist
  have hmax : ∀ x ∈ kept, rankP (rowAt p.shifts s) x ≤ rankP (rowAt p.shifts s) (fn kept (kept.length - 1)) := by
    intro x hx
    rcases last_max hpw hne x hx with e | e
    · rw [e, hlast]; exact Int.le_refl _
    · rw [hlast] at e; omega
  have hmem : ∀ x : Int, x ∈ kept ↔ x ∈ rowAt p.shifts s ∧ intAt m x = s := by
    intro x; rw [hk]; unfold handsI; rw [List.mem_filter, beq_iff_eq]
  by_cases hd : rankP (rowAt p.shifts s) h < rankP (rowAt p.shifts s) (fn kept (kept.length - 1))
  · rw [decide_eq_true hd]
    have hlm := (hmem _).1 (hlast ▸ List.getLast_mem hne)
    have hlr := (hp.col (s := s) (by omega)).1 _ hlm.1
    obtain ⟨y, hy⟩ := Int.eq_ofNat_of_zero_le hlr.1
    refine blkB_iff.2 ⟨hps, hr, .inr ⟨y, by omega, ?_, ?_⟩⟩
    · show intAt m y = s
      rw [← hy]; exact hlm.2
    · rw [← hy]; omega
  · rw [decide_eq_false hd]
    refine blkB_no fun hb => ?_
    rcases hb.2.2 with e | ⟨x, hx, hxs, hk2⟩
    · rw [← hm.cnt (by omega)] at e
      have : (mkt p hp).q s = (intAt p.places s).toNat := rfl
      omega
    · have hxk : (x : Int) ∈ kept := (hmem _).2 ⟨hm.col (s := s) (by omega) x hx hxs, hxs⟩
      have h1 := hmax _ hxk
      have he : rankP (rowAt p.shifts s) h = rankP (rowAt p.shifts s) x := by omega
      have hxh := rankP_inj (possB_iff.1 hps).2 (hm.col (s := s) (by omega) x hx hxs) he
      have : h = x := by omega
      subst this
      rw [hxs] at hr; omega

set_option maxRecDepth 20000 in
set_option maxHeartbeats 4000000 in
theorem blocks_any (vh vs vp vm : Value) (p : PlanD) (hok : PlanOk p) (m : List Int) (w : World) (hp : PlanR w vh vs vp p) (hm : Ints w vm m) (hmat : MatL p hok m) :
    Calls Try.prog 68 #[.agg #[vh, vs, vp], vm] w fun e w' => ∃ u, e = .returned u ∧ OwnPr w.heap.size w' u (blkAll p hok m) ∧ Ext w w' := by
  obtain ⟨hh, hs, hpp⟩ := hp
  obtain ⟨hlh, aoh, caph, rfl, hch, hhc⟩ := id hh
  obtain ⟨hls, aos, caps, rfl, hcs, hsc⟩ := id hs
  obtain ⟨hlp, aop, capp, rfl, hcp, hpc⟩ := id hpp
  obtain ⟨bh, oh, -, rfl, -, -⟩ := hhc 0 (by have := hok.h1; omega)
  obtain ⟨bs, os, -, rfl, -, -⟩ := hsc 0 (by have := hok.s1; omega)
  obtain ⟨bp, op, rfl, -⟩ := hpc 0 (by have := hok.pl; have := hok.s1; omega)
  obtain ⟨hlm, am, cm, rfl, hcm, hmc⟩ := id hm
  obtain ⟨bm, om, rfl, -⟩ := hmc 0 (by have := hmat.1; have := hok.h1; omega)
  clear hhc hsc hpc hch hcs hcp hcm hmc
  have Hh := hid hh
  have Hs := hid hs
  have Hp := hid hpp
  have Hm := hid hm
  have Hok := hid hok
  have Hmat := hid hmat
  have hn6 := hok.h6
  have hs4 := hok.s4
  have Hpl := hid hok.pl
  have Hml := hid hmat.1
  clear hh hs hpp hm
  obtain ⟨i0, hi, hz0, hz1, hz2⟩ := info_parts info_pair
  have e0 := hid (Ext.ofAlloc w (.cells #[.slice (some ⟨bh, oh, none⟩) p.hands.length caph, .slice (some ⟨bs, os, none⟩) p.shifts.length caps, .slice (some ⟨bp, op, none⟩) p.places.length capp] 29))
  have X0 := hid (Box3.alloc w 29 (.slice (some ⟨bh, oh, none⟩) p.hands.length caph) (.slice (some ⟨bs, os, none⟩) p.shifts.length caps) (.slice (some ⟨bp, op, none⟩) p.places.length capp))
  go_enter Try.func68, Try.ntmps68
  go_wp2
  have hszW : (w.alloc (.cells #[.slice (some ⟨bh, oh, none⟩) p.hands.length caph, .slice (some ⟨bs, os, none⟩) p.shifts.length caps, .slice (some ⟨bp, op, none⟩) p.places.length capp] 29)).heap.size = w.heap.size + 1 := by simp
  have HszW := hid hszW
  clear hszW
  generalize w.alloc (.cells #[.slice (some ⟨bh, oh, none⟩) p.hands.length caph, .slice (some ⟨bs, os, none⟩) p.shifts.length caps, .slice (some ⟨bp, op, none⟩) p.places.length capp] 29) = W at *
  go_loopg [12, 5] p.hands.length (fun g i v wr => ∃ k : Nat, k + g = p.hands.length ∧ i = .int .i64 k ∧ Hid (OwnPr (w.heap.size + 1) wr v (blkTo p hok m k)) ∧ Hid (Ext W wr))
  case atStart => exact ⟨0, by omega, rfl, World.ownsRow_nil _ _ _ _, Ext.refl _⟩
  case round =>
    obtain ⟨h, hk, rfl, OWN, EE⟩ := hrel
    have Hkh := hid hk
    have hkl : h ≤ p.hands.length := by omega
    clear hk
    by_cases hlt : h < p.hands.length
    · obtain ⟨c0, c1, c2⟩ := (X0.out.ext EE.out).cells
      go_wp2
      clear c0 c1 c2
      go_loopg [18, 5] p.shifts.length (fun g i v wr => ∃ k : Nat, k + g = p.shifts.length ∧ i = .int .i64 k ∧ Hid (OwnPr (w.heap.size + 1) wr v (blkTo p hok m h ++ blkRow p hok m h k)) ∧ Hid (Ext W wr))
      case atStart => exact ⟨0, by omega, rfl, hid (by have := OWN.out; simpa [blkRow] using this), EE⟩
      case round =>
        clear OWN EE
        obtain ⟨s, hks, rfl, OWN, EE⟩ := hrel
        have Hks := hid hks
        have hksl : s ≤ p.shifts.length := by omega
        clear hks
        by_cases hslt : s < p.shifts.length
        · have E := hid (e0.out.trans EE.out)
          obtain ⟨c0, c1, c2⟩ := (X0.out.ext EE.out).cells
          obtain ⟨-, arh, crh, hrow, hri⟩ := Hh.out.row h hlt
          have dh := hrow _ E.out
          have Hrh := hid hri
          obtain ⟨bm', om', hbm, -, hca⟩ := Hm.out.get h (by have := Hml.out; omega)
          simp only [Option.some.injEq, Addr.mk.injEq, and_true] at hbm
          obtain ⟨rfl, rfl⟩ := hbm
          have dm := hca _ E.out
          have hh0 : (0 : Int) ≤ (h : Int) := by omega
          have hh1 : (h : Int) < p.hands.length := by omega
          have hh2 : (h : Int) < m.length := by have := Hml.out; omega
          have hs0 : (0 : Int) ≤ (s : Int) := by omega
          have hs1 : (s : Int) < p.shifts.length := by omega
          have hsz := EE.out.size
          rw [HszW.out] at hsz
          have hbl := blkTo_len (p := p) (hp := hok) (m := m) (j := h)
          have hbr := blkRow_len (p := p) (hp := hok) (m := m) (h := h) (k := s)
          have hbsum : (blkTo p hok m h ++ blkRow p hok m h s).length ≤ 40 := by rw [List.length_append]; omega
          have Hbs := hid hbsum
          clear hrow hri hca hbl hbr hbsum
          cases hps : possB p h s
          · have Hno := hid (blkRow_no (p := p) (hp := hok) (m := m) (h := h) (k := s) (blkB_no fun hb => by have := hb.1; rw [hps] at this; simp at this))
            go_wp2
            refine wp_region_held_drew (S := (fun w' => w'.cell? ⟨w.heap.size, 0, none⟩ = some (.slice (some ⟨bh, oh, none⟩) p.hands.length caph) ∧ w'.cell? ⟨w.heap.size, 1, none⟩ = some (.slice (some ⟨bs, os, none⟩) p.shifts.length caps) ∧ w'.cell? ⟨w.heap.size, 2, none⟩ = some (.slice (some ⟨bp, op, none⟩) p.places.length capp) ∧ w'.cell? ⟨bh, oh + h, none⟩ = some (.slice arh (rowAt p.hands h).length crh) ∧ w'.cell? ⟨bm, om + h, none⟩ = some (.int .i64 (fn m h)))) (by kernel_rfl) ?hSa0 (fun hHeld => ?_)
            case hSa0 => (first | (first | exact ⟨c0, c1, c2, dh, dm⟩ | exact ⟨he5.cell c0, he5.cell c1, he5.cell c2, he5.cell dh, he5.cell dm⟩) | ((try dsimp only); first | exact ⟨c0, c1, c2, dh, dm⟩ | exact ⟨he5.cell c0, he5.cell c1, he5.cell c2, he5.cell dh, he5.cell dm⟩))
            refine wpAnyH_tk 0 (v := ?va0) rfl (by kernel_rfl) (by kernel_rfl) (by kernel_rfl) (fun _ _ _ h => h) (by rfl) ?hya0 (by assumption) ?_
            case hya0 => (intro w hSw; (try dsimp only at hSw); go_simp <;> with_reducible rfl)
            (try simp only [Act.put, List.setIfInBounds_toArray, List.set_cons_zero, List.set_cons_succ])
            refine wpAnyH_tk 1 (v := ?va1) rfl (by kernel_rfl) (by kernel_rfl) (by kernel_rfl) (fun _ _ _ h => h) (by rfl) ?hya1 (by assumption) ?_
            case hya1 => (intro w hSw; (try dsimp only at hSw); go_simp <;> with_reducible rfl)
            (try simp only [Act.put, List.setIfInBounds_toArray, List.set_cons_zero, List.set_cons_succ])
            refine wpAnyH_tk 2 (v := ?va2) rfl (by kernel_rfl) (by kernel_rfl) (by kernel_rfl) (fun _ _ _ h => h) (by rfl) ?hya2 (by assumption) ?_
            case hya2 => (intro w hSw; (try dsimp only at hSw); go_simp <;> with_reducible rfl)
            (try simp only [Act.put, List.setIfInBounds_toArray, List.set_cons_zero, List.set_cons_succ])
            refine wpAnyH_one 3 rfl (by kernel_rfl) (by rfl) (fun K hK => ?_)
            go_simp
            (go_at_call 100; refine (possible_any _ _ _ p h s _ ⟨Hh.out.ext E.out.drew, Hs.out.ext E.out.drew, Hp.out.ext E.out.drew⟩ hh0 hh1 hs0 hs1).mono ?_; rintro e w5 ⟨rfl, he5⟩; rw [hps])
            refine hK.out _ _ ?hSa4 (fun hHeld => ?_)
            case hSa4 => (first | (first | exact ⟨c0, c1, c2, dh, dm⟩ | exact ⟨he5.cell c0, he5.cell c1, he5.cell c2, he5.cell dh, he5.cell dm⟩) | ((try dsimp only); first | exact ⟨c0, c1, c2, dh, dm⟩ | exact ⟨he5.cell c0, he5.cell c1, he5.cell c2, he5.cell dh, he5.cell dm⟩))
            clear hK K
            (try simp only [Act.put, List.setIfInBounds_toArray, List.set_cons_zero, List.set_cons_succ])
            refine wpAnyH_tk 4 (v := ?va4) rfl (by kernel_rfl) (by kernel_rfl) (by kernel_rfl) (fun _ _ _ h => h) (by rfl) ?hya4 (by assumption) ?_
            case hya4 => (intro w hSw; (try dsimp only at hSw); go_simp <;> with_reducible rfl)
            (try simp only [Act.put, List.setIfInBounds_toArray, List.set_cons_zero, List.set_cons_succ])
            refine wpAnyH_tk 5 (v := ?va5) rfl (by kernel_rfl) (by kernel_rfl) (by kernel_rfl) (fun _ _ _ h => h) (by rfl) ?hya5 (by assumption) ?_
            case hya5 => (intro w hSw; (try dsimp only at hSw); go_simp <;> with_reducible rfl)
            (try simp only [Act.put, List.setIfInBounds_toArray, List.set_cons_zero, List.set_cons_succ])
            refine wpAnyH_skips 5 false 26 1 (by kernel_rfl) rfl (fun _ _ _ _ _ h => h) [6, 7, 8, 9, 10, 11, 12, 13, 14, 15, 16, 17, 18, 19, 20, 21, 22, 23] [27, 28, 29, 30, 31, 32, 33, 34, 35, 36, 37, 38, 39, 40, 41, 42, 43, 44] _ _ _ rfl (by kernel_rfl) (by rfl) (by assumption) ?_
            (try simp only [putsAll, List.foldl, Act.put, List.setIfInBounds_toArray, List.set_cons_zero, List.set_cons_succ])
            refine wpAnyH_tk 24 (v := ?va24) rfl (by kernel_rfl) (by kernel_rfl) (by kernel_rfl) (fun _ _ _ h => h) (by rfl) ?hya24 (by assumption) ?_
            case hya24 => (intro w hSw; (try dsimp only at hSw); go_simp <;> with_reducible rfl)
            (try simp only [Act.put, List.setIfInBounds_toArray, List.set_cons_zero, List.set_cons_succ])
            refine wpAnyH_done (by kernel_rfl) ?_ _
            have O8 := ownsRow_ext OWN.out ((Ext.refl wr).drew.trans he5)
            have E8 := (EE.out.drew.trans he5)
            have HO8 := hid O8
            have HE8 := hid E8
            clear c0 c1 c2 dh dm he5 O8 E8
            go_wp2
            go_roundg (gk - 1)
            case rel => exact ⟨s + 1, by have := Hks.out; omega, by go_num, by rw [Hno.out]; exact HO8.out, HE8.out⟩
            case measure => have := Hks.out; omega
          · by_cases hrk : rankP (rowAt p.hands h) s < rankP (rowAt p.hands h) (fn m h)
            · go_wp2
              refine wp_region_held_drew (S := (fun w' => w'.cell? ⟨w.heap.size, 0, none⟩ = some (.slice (some ⟨bh, oh, none⟩) p.hands.length caph) ∧ w'.cell? ⟨w.heap.size, 1, none⟩ = some (.slice (some ⟨bs, os, none⟩) p.shifts.length caps) ∧ w'.cell? ⟨w.heap.size, 2, none⟩ = some (.slice (some ⟨bp, op, none⟩) p.places.length capp) ∧ w'.cell? ⟨bh, oh + h, none⟩ = some (.slice arh (rowAt p.hands h).length crh) ∧ w'.cell? ⟨bm, om + h, none⟩ = some (.int .i64 (fn m h)))) (by kernel_rfl) ?hSb0 (fun hHeld => ?_)
              case hSb0 => (first | (first | exact ⟨c0, c1, c2, dh, dm⟩ | exact ⟨he5.cell c0, he5.cell c1, he5.cell c2, he5.cell dh, he5.cell dm⟩) | ((try dsimp only); first | exact ⟨c0, c1, c2, dh, dm⟩ | exact ⟨he5.cell c0, he5.cell c1, he5.cell c2, he5.cell dh, he5.cell dm⟩))
              refine wpAnyH_tk 0 (v := ?vb0) rfl (by kernel_rfl) (by kernel_rfl) (by kernel_rfl) (fun _ _ _ h => h) (by rfl) ?hyb0 (by assumption) ?_
              case hyb0 => (intro w hSw; (try dsimp only at hSw); go_simp <;> with_reducible rfl)
              (try simp only [Act.put, List.setIfInBounds_toArray, List.set_cons_zero, List.set_cons_succ])
              refine wpAnyH_tk 1 (v := ?vb1) rfl (by kernel_rfl) (by kernel_rfl) (by kernel_rfl) (fun _ _ _ h => h) (by rfl) ?hyb1 (by assumption) ?_
              case hyb1 => (intro w hSw; (try dsimp only at hSw); go_simp <;> with_reducible rfl)
              (try simp only [Act.put, List.setIfInBounds_toArray, List.set_cons_zero, List.set_cons_succ])
              refine wpAnyH_tk 2 (v := ?vb2) rfl (by kernel_rfl) (by kernel_rfl) (by kernel_rfl) (fun _ _ _ h => h) (by rfl) ?hyb2 (by assumption) ?_
              case hyb2 => (intro w hSw; (try dsimp only at hSw); go_simp <;> with_reducible rfl)
              (try simp only [Act.put, List.setIfInBounds_toArray, List.set_cons_zero, List.set_cons_succ])
              refine wpAnyH_one 3 rfl (by kernel_rfl) (by rfl) (fun K hK => ?_)
              go_simp
              (go_at_call 100; refine (possible_any _ _ _ p h s _ ⟨Hh.out.ext E.out.drew, Hs.out.ext E.out.drew, Hp.out.ext E.out.drew⟩ hh0 hh1 hs0 hs1).mono ?_; rintro e w5 ⟨rfl, he5⟩; rw [hps])
              refine hK.out _ _ ?hSb4 (fun hHeld => ?_)
              case hSb4 => (first | (first | exact ⟨c0, c1, c2, dh, dm⟩ | exact ⟨he5.cell c0, he5.cell c1, he5.cell c2, he5.cell dh, he5.cell dm⟩) | ((try dsimp only); first | exact ⟨c0, c1, c2, dh, dm⟩ | exact ⟨he5.cell c0, he5.cell c1, he5.cell c2, he5.cell dh, he5.cell dm⟩))
              clear hK K
              (try simp only [Act.put, List.setIfInBounds_toArray, List.set_cons_zero, List.set_cons_succ])
              refine wpAnyH_tk 4 (v := ?vb4) rfl (by kernel_rfl) (by kernel_rfl) (by kernel_rfl) (fun _ _ _ h => h) (by rfl) ?hyb4 (by assumption) ?_
              case hyb4 => (intro w hSw; (try dsimp only at hSw); go_simp <;> with_reducible rfl)
              (try simp only [Act.put, List.setIfInBounds_toArray, List.set_cons_zero, List.set_cons_succ])
              refine wpAnyH_tk 5 (v := ?vb5) rfl (by kernel_rfl) (by kernel_rfl) (by kernel_rfl) (fun _ _ _ h => h) (by rfl) ?hyb5 (by assumption) ?_
              case hyb5 => (intro w hSw; (try dsimp only at hSw); go_simp <;> with_reducible rfl)
              (try simp only [Act.put, List.setIfInBounds_toArray, List.set_cons_zero, List.set_cons_succ])
              refine wpAnyH_tk 6 (v := ?vb6) rfl (by kernel_rfl) (by kernel_rfl) (by kernel_rfl) (fun _ _ _ h => h) (by rfl) ?hyb6 (by assumption) ?_
              case hyb6 => (intro w hSw; (try dsimp only at hSw); go_simp <;> with_reducible rfl)
              (try simp only [Act.put, List.setIfInBounds_toArray, List.set_cons_zero, List.set_cons_succ])
              refine wpAnyH_tk 7 (v := ?vb7) rfl (by kernel_rfl) (by kernel_rfl) (by kernel_rfl) (fun _ _ _ h => h) (by rfl) ?hyb7 (by assumption) ?_
              case hyb7 => (intro w hSw; (try dsimp only at hSw); go_simp <;> with_reducible rfl)
              (try simp only [Act.put, List.setIfInBounds_toArray, List.set_cons_zero, List.set_cons_succ])
              refine wpAnyH_tk 8 (v := ?vb8) rfl (by kernel_rfl) (by kernel_rfl) (by kernel_rfl) (fun _ _ _ h => h) (by rfl) ?hyb8 (by assumption) ?_
              case hyb8 => (intro w hSw; (try dsimp only at hSw); go_simp <;> with_reducible rfl)
              (try simp only [Act.put, List.setIfInBounds_toArray, List.set_cons_zero, List.set_cons_succ])
              refine wpAnyH_tk 9 (v := ?vb9) rfl (by kernel_rfl) (by kernel_rfl) (by kernel_rfl) (fun _ _ _ h => h) (by rfl) ?hyb9 (by assumption) ?_
              case hyb9 => (intro w hSw; (try dsimp only at hSw); go_simp <;> with_reducible rfl)
              (try simp only [Act.put, List.setIfInBounds_toArray, List.set_cons_zero, List.set_cons_succ])
              refine wpAnyH_tk 10 (v := ?vb10) rfl (by kernel_rfl) (by kernel_rfl) (by kernel_rfl) (fun _ _ _ h => h) (by rfl) ?hyb10 (by assumption) ?_
              case hyb10 => (intro w hSw; (try dsimp only at hSw); go_simp <;> with_reducible rfl)
              (try simp only [Act.put, List.setIfInBounds_toArray, List.set_cons_zero, List.set_cons_succ])
              refine wpAnyH_tk 11 (v := ?vb11) rfl (by kernel_rfl) (by kernel_rfl) (by kernel_rfl) (fun _ _ _ h => h) (by rfl) ?hyb11 (by assumption) ?_
              case hyb11 => (intro w hSw; (try dsimp only at hSw); go_simp <;> with_reducible rfl)
              (try simp only [Act.put, List.setIfInBounds_toArray, List.set_cons_zero, List.set_cons_succ])
              refine wpAnyH_tk 13 (v := ?vb13) rfl (by kernel_rfl) (by kernel_rfl) (by kernel_rfl) (fun _ _ _ h => h) (by rfl) ?hyb13 (by assumption) ?_
              case hyb13 => (intro w hSw; (try dsimp only at hSw); go_simp <;> with_reducible rfl)
              (try simp only [Act.put, List.setIfInBounds_toArray, List.set_cons_zero, List.set_cons_succ])
              refine wpAnyH_tk 14 (v := ?vb14) rfl (by kernel_rfl) (by kernel_rfl) (by kernel_rfl) (fun _ _ _ h => h) (by rfl) ?hyb14 (by assumption) ?_
              case hyb14 => (intro w hSw; (try dsimp only at hSw); go_simp <;> with_reducible rfl)
              (try simp only [Act.put, List.setIfInBounds_toArray, List.set_cons_zero, List.set_cons_succ])
              refine wpAnyH_tk 15 (v := ?vb15) rfl (by kernel_rfl) (by kernel_rfl) (by kernel_rfl) (fun _ _ _ h => h) (by rfl) ?hyb15 (by assumption) ?_
              case hyb15 => (intro w hSw; (try dsimp only at hSw); go_simp <;> with_reducible rfl)
              (try simp only [Act.put, List.setIfInBounds_toArray, List.set_cons_zero, List.set_cons_succ])
              refine wpAnyH_tk 16 (v := ?vb16) rfl (by kernel_rfl) (by kernel_rfl) (by kernel_rfl) (fun _ _ _ h => h) (by rfl) ?hyb16 (by assumption) ?_
              case hyb16 => (intro w hSw; (try dsimp only at hSw); go_simp <;> with_reducible rfl)
              (try simp only [Act.put, List.setIfInBounds_toArray, List.set_cons_zero, List.set_cons_succ])
              refine wpAnyH_tk 17 (v := ?vb17) rfl (by kernel_rfl) (by kernel_rfl) (by kernel_rfl) (fun _ _ _ h => h) (by rfl) ?hyb17 (by assumption) ?_
              case hyb17 => (intro w hSw; (try dsimp only at hSw); go_simp <;> with_reducible rfl)
              (try simp only [Act.put, List.setIfInBounds_toArray, List.set_cons_zero, List.set_cons_succ])
              refine wpAnyH_tk 18 (v := ?vb18) rfl (by kernel_rfl) (by kernel_rfl) (by kernel_rfl) (fun _ _ _ h => h) (by rfl) ?hyb18 (by assumption) ?_
              case hyb18 => (intro w hSw; (try dsimp only at hSw); go_simp <;> with_reducible rfl)
              (try simp only [Act.put, List.setIfInBounds_toArray, List.set_cons_zero, List.set_cons_succ])
              refine wpAnyH_tk 19 (v := ?vb19) rfl (by kernel_rfl) (by kernel_rfl) (by kernel_rfl) (fun _ _ _ h => h) (by rfl) ?hyb19 (by assumption) ?_
              case hyb19 => (intro w hSw; (try dsimp only at hSw); go_simp <;> with_reducible rfl)
              (try simp only [Act.put, List.setIfInBounds_toArray, List.set_cons_zero, List.set_cons_succ])
              refine wpAnyH_tk 20 (v := ?vb20) rfl (by kernel_rfl) (by kernel_rfl) (by kernel_rfl) (fun _ _ _ h => h) (by rfl) ?hyb20 (by assumption) ?_
              case hyb20 => (intro w hSw; (try dsimp only at hSw); go_simp <;> with_reducible rfl)
              (try simp only [Act.put, List.setIfInBounds_toArray, List.set_cons_zero, List.set_cons_succ])
              refine wpAnyH_tk 21 (v := ?vb21) rfl (by kernel_rfl) (by kernel_rfl) (by kernel_rfl) (fun _ _ _ h => h) (by rfl) ?hyb21 (by assumption) ?_
              case hyb21 => (intro w hSw; (try dsimp only at hSw); go_simp <;> with_reducible rfl)
              (try simp only [Act.put, List.setIfInBounds_toArray, List.set_cons_zero, List.set_cons_succ])
              refine wpAnyH_one 12 rfl (by kernel_rfl) (by rfl) (fun K hK => ?_)
              go_simp
              (go_at_call 80; refine (rank_any _ (rowAt p.hands h) s _ (Hrh.out.ext (E.out.drew.trans he5))).mono ?_; rintro e w' ⟨rfl, rfl⟩)
              refine hK.out _ _ ?hSb13 (fun hHeld => ?_)
              case hSb13 => (first | (first | exact ⟨c0, c1, c2, dh, dm⟩ | exact ⟨he5.cell c0, he5.cell c1, he5.cell c2, he5.cell dh, he5.cell dm⟩) | ((try dsimp only); first | exact ⟨c0, c1, c2, dh, dm⟩ | exact ⟨he5.cell c0, he5.cell c1, he5.cell c2, he5.cell dh, he5.cell dm⟩))
              clear hK K
              (try simp only [Act.put, List.setIfInBounds_toArray, List.set_cons_zero, List.set_cons_succ])
              refine wpAnyH_one 22 rfl (by kernel_rfl) (by rfl) (fun K hK => ?_)
              go_simp
              (go_at_call 80; refine (rank_any _ (rowAt p.hands h) (fn m h) _ (Hrh.out.ext (E.out.drew.trans he5))).mono ?_; rintro e w' ⟨rfl, rfl⟩)
              refine hK.out _ _ ?hSb23 (fun hHeld => ?_)
              case hSb23 => (first | (first | exact ⟨c0, c1, c2, dh, dm⟩ | exact ⟨he5.cell c0, he5.cell c1, he5.cell c2, he5.cell dh, he5.cell dm⟩) | ((try dsimp only); first | exact ⟨c0, c1, c2, dh, dm⟩ | exact ⟨he5.cell c0, he5.cell c1, he5.cell c2, he5.cell dh, he5.cell dm⟩))
              clear hK K
              (try simp only [Act.put, List.setIfInBounds_toArray, List.set_cons_zero, List.set_cons_succ])
              refine wpAnyH_tk 23 (v := ?vb23) rfl (by kernel_rfl) (by kernel_rfl) (by kernel_rfl) (fun _ _ _ h => h) (by rfl) ?hyb23 (by assumption) ?_
              case hyb23 => (intro w hSw; (try dsimp only at hSw); go_simp <;> with_reducible rfl)
              (try simp only [Act.put, List.setIfInBounds_toArray, List.set_cons_zero, List.set_cons_succ])
              refine wpAnyH_tk 24 (v := ?vb24) rfl (by kernel_rfl) (by kernel_rfl) (by kernel_rfl) (fun _ _ _ h => h) (by rfl) ?hyb24 (by assumption) ?_
              case hyb24 => (intro w hSw; (try dsimp only at hSw); go_simp <;> with_reducible rfl)
              (try simp only [Act.put, List.setIfInBounds_toArray, List.set_cons_zero, List.set_cons_succ])
              refine wpAnyH_done (by kernel_rfl) ?_ _
              have O8 := hid (ownsRow_ext OWN.out ((Ext.refl wr).drew.trans he5))
              have E8 := hid (EE.out.drew.trans he5)
              have E4 := hid (e0.out.trans E8.out)
              have hsz8 := E8.out.size
              rw [HszW.out] at hsz8
              have Hrk := hid hrk
              have Hps := hid hps
              clear dh dm he5 hps
              obtain ⟨c0, c1, c2⟩ := (X0.out.ext E8.out).cells
              go_wp2_with (fail)
              refine (hands_any _ _ _ _ p m s _ ⟨Hh.out.ext E4.out, Hs.out.ext E4.out, Hp.out.ext E4.out⟩ (Hm.out.ext E4.out) hs0 hs1 (by rw [Hml.out]; exact (Hok.out.col hs0).1)).mono ?_
              rintro e w6 ⟨u, rfl, hu, he6⟩
              obtain ⟨kept, hkept⟩ : ∃ kept, kept = handsI (rowAt p.shifts s) m s := ⟨_, rfl⟩
              rw [← hkept] at hu
              have hkl2 : kept.length ≤ 6 := by
                rw [hkept, Hmat.out.cnt hs0, ← cntTo_all]
                have := cntTo_le m p.hands.length s; omega
              have hui := hu.ints (by omega)
              have O6 := hid (ownsRow_ext O8.out he6)
              have EE6 := hid (E8.out.trans he6)
              have E6 := hid (E4.out.trans he6)
              have hsz6 := EE6.out.size
              rw [HszW.out] at hsz6
              obtain ⟨-, ao3, cap3, rfl, hcap3, -⟩ := id hui
              have HU := hid hui
              have Hkept := hid hkept
              have f0 := he6.cell c0
              have f1 := he6.cell c1
              have f2 := he6.cell c2
              obtain ⟨bp', op', hpe, hpc⟩ := Hp.out.at s hs0 (by have := Hpl.out; omega)
              simp only [Option.some.injEq, Addr.mk.injEq, and_true] at hpe
              obtain ⟨rfl, rfl⟩ := hpe
              have fp := hpc _ E6.out
              rw [Int.toNat_natCast] at fp
              have hs2 : (s : Int) < p.places.length := by have := Hpl.out; omega
              obtain ⟨-, ars, crs, hrow, hri⟩ := Hs.out.row s hslt
              have fs := hrow _ E6.out
              have Hrs := hid hri
              clear hu hui he6 hkept hpc hrow hri c0 c1 c2
              by_cases hroom : (kept.length : Int) < intAt p.places s
              · have Hyes := hid (blkRow_yes (p := p) (hp := hok) (m := m) (h := h) (k := s) (blk_room Hmat.out Hps.out Hrk.out (by rw [← Hkept.out]; exact hroom)))
                have hroom' : decide ((kept.length : Int) < intAt p.places s) = true := by simpa using hroom
                go_wp2
                refine wp_region_held_drew (S := (fun w' => w'.cell? ⟨w.heap.size, 1, none⟩ = some (.slice (some ⟨bs, os, none⟩) p.shifts.length caps) ∧ w'.cell? ⟨w.heap.size, 2, none⟩ = some (.slice (some ⟨bp, op, none⟩) p.places.length capp) ∧ w'.cell? ⟨bp, op + s, none⟩ = some (.int .i64 (intAt p.places s)) ∧ w'.cell? ⟨bs, os + s, none⟩ = some (.slice ars (rowAt p.shifts s).length crs) )) (by kernel_rfl) ?hSd0 (fun hHeld => ?_)
                case hSd0 => (first | (exact ⟨f1, f2, fp, fs⟩) | ((try dsimp only); exact ⟨f1, f2, fp, fs⟩))
                refine wpAnyH_tk 0 (v := ?vd0) rfl (by kernel_rfl) (by kernel_rfl) (by kernel_rfl) (fun _ _ _ h => h) (by rfl) ?hyd0 (by assumption) ?_
                case hyd0 => (intro w hSw; (try dsimp only at hSw); go_simp <;> with_reducible rfl)
                (try simp only [Act.put, List.setIfInBounds_toArray, List.set_cons_zero, List.set_cons_succ])
                refine wpAnyH_tk 1 (v := ?vd1) rfl (by kernel_rfl) (by kernel_rfl) (by kernel_rfl) (fun _ _ _ h => h) (by rfl) ?hyd1 (by assumption) ?_
                case hyd1 => (intro w hSw; (try dsimp only at hSw); go_simp <;> with_reducible rfl)
                (try simp only [Act.put, List.setIfInBounds_toArray, List.set_cons_zero, List.set_cons_succ])
                refine wpAnyH_tk 2 (v := ?vd2) rfl (by kernel_rfl) (by kernel_rfl) (by kernel_rfl) (fun _ _ _ h => h) (by rfl) ?hyd2 (by assumption) ?_
                case hyd2 => (intro w hSw; (try dsimp only at hSw); go_simp <;> with_reducible rfl)
                (try simp only [Act.put, List.setIfInBounds_toArray, List.set_cons_zero, List.set_cons_succ])
                refine wpAnyH_tk 3 (v := ?vd3) rfl (by kernel_rfl) (by kernel_rfl) (by kernel_rfl) (fun _ _ _ h => h) (by rfl) ?hyd3 (by assumption) ?_
                case hyd3 => (intro w hSw; (try dsimp only at hSw); go_simp <;> with_reducible rfl)
                (try simp only [Act.put, List.setIfInBounds_toArray, List.set_cons_zero, List.set_cons_succ])
                refine wpAnyH_tk 4 (v := ?vd4) rfl (by kernel_rfl) (by kernel_rfl) (by kernel_rfl) (fun _ _ _ h => h) (by rfl) ?hyd4 (by assumption) ?_
                case hyd4 => (intro w hSw; (try dsimp only at hSw); go_simp <;> with_reducible rfl)
                (try simp only [Act.put, List.setIfInBounds_toArray, List.set_cons_zero, List.set_cons_succ])
                refine wpAnyH_tk 5 (v := ?vd5) rfl (by kernel_rfl) (by kernel_rfl) (by kernel_rfl) (fun _ _ _ h => h) (by rfl) ?hyd5 (by assumption) ?_
                case hyd5 => (intro w hSw; (try dsimp only at hSw); go_simp <;> with_reducible rfl)
                (try simp only [Act.put, List.setIfInBounds_toArray, List.set_cons_zero, List.set_cons_succ])
                refine wpAnyH_tk 6 (v := ?vd6) rfl (by kernel_rfl) (by kernel_rfl) (by kernel_rfl) (fun _ _ _ h => h) (by rfl) ?hyd6 (by assumption) ?_
                case hyd6 => (intro w hSw; (try dsimp only at hSw); go_simp <;> with_reducible rfl)
                (try simp only [Act.put, List.setIfInBounds_toArray, List.set_cons_zero, List.set_cons_succ])
                refine wpAnyH_tk 7 (v := ?vd7) rfl (by kernel_rfl) (by kernel_rfl) (by kernel_rfl) (fun _ _ _ h => h) (by rfl) ?hyd7 (by assumption) ?_
                case hyd7 => (intro w hSw; (try dsimp only at hSw); go_simp <;> with_reducible rfl)
                (try simp only [Act.put, List.setIfInBounds_toArray, List.set_cons_zero, List.set_cons_succ])
                refine wpAnyH_tk 8 (v := ?vd8) rfl (by kernel_rfl) (by kernel_rfl) (by kernel_rfl) (fun _ _ _ h => h) (by rfl) ?hyd8 (by assumption) ?_
                case hyd8 => (intro w hSw; (try dsimp only at hSw); go_simp <;> with_reducible rfl)
                (try simp only [Act.put, List.setIfInBounds_toArray, List.set_cons_zero, List.set_cons_succ])
                refine wpAnyH_skips 8 false 58 1 (by kernel_rfl) rfl (fun _ _ _ _ _ h => h) [9, 10, 11, 12, 13, 14, 15, 16, 17, 18, 19, 20, 21, 22, 23, 24, 25, 26, 27, 28] [59, 60, 61, 62, 63, 64, 65, 66, 67, 68, 69, 70, 71, 72, 73, 74, 75, 76, 77, 78] _ _ _ rfl (by kernel_rfl) (by rfl) (by assumption) ?_
                (try simp only [putsAll, List.foldl, Act.put, List.setIfInBounds_toArray, List.set_cons_zero, List.set_cons_succ])
                refine wpAnyH_tk 29 (v := ?vd29) rfl (by kernel_rfl) (by kernel_rfl) (by kernel_rfl) (fun _ _ _ h => h) (by rfl) ?hyd29 (by assumption) ?_
                case hyd29 => (intro w hSw; (try dsimp only at hSw); go_simp <;> with_reducible rfl)
                (try simp only [Act.put, List.setIfInBounds_toArray, List.set_cons_zero, List.set_cons_succ])
                refine wpAnyH_done (by kernel_rfl) ?_ _
                have O7 := hid (ownsRow_ext O6.out ((Ext.refl w6).drew))
                have EE7 := hid (EE6.out.drew)
                clear f0 f1 f2 fp fs hroom'
                generalize hW7 : w6.drew = W7 at *
                have hsz7 : w.heap.size + 1 ≤ W7.heap.size := by rw [← hW7]; exact hsz6
                clear hW7
                go_wp2_with (at_builtin; refine wpList_append_own _ rfl _ _ 46 rfl (w.heap.size + 1) 52 i0 (.agg #[.int .i64 0, .int .i64 0]) 2 16 Try.underlying46 hi hz0 hz1 hz2 rfl (by decide) _ _ _ rfl (O7.out.alloc _) ⟨W7.heap.size, 0, none⟩ 1 1 [.int .i64 h, .int .i64 s] rfl rfl ?c1 ?c2 ?c3 ?c4 ?c5 ?_)
                case c1 => exact cell_two_new _ _ _ _
                case c2 => intro u hu; simp at hu; rcases hu with rfl | rfl <;> rfl
                case c3 => have := Hbs.out; unfold maxLen; omega
                case c4 => have := Hbs.out; omega
                case c5 => simp; omega
                intro v' w' hown' hg _
                have hR := OwnPr.push (by rw [List.length_append]) hown'
                rw [List.append_assoc, ← Hyes.out] at hR
                have hE := Ext.push EE7.out O7.out (Nat.le_of_eq HszW.out) hg
                have HR := hid hR
                have HE := hid hE
                clear hown' hg hR hE
                go_wp2
                go_roundg (gk - 1)
                case rel => exact ⟨s + 1, by have := Hks.out; omega, by go_num, HR.out, HE.out⟩
                case measure => have := Hks.out; omega
              · have hroom' : decide ((kept.length : Int) < intAt p.places s) = false := by simpa using hroom
                obtain ⟨hk1, hblk⟩ := blk_last Hmat.out hslt Hps.out Hrk.out (by rw [← Hkept.out]; exact hroom) Hkept.out
                obtain ⟨b3, o3, hb3, -, hc3⟩ := HU.out.get (kept.length - 1) (by omega)
                subst hb3
                have fl := hc3 _ (Ext.refl _)
                have Hblk := hid hblk
                clear hc3 hblk
                by_cases hlike : rankP (rowAt p.shifts s) h < rankP (rowAt p.shifts s) (fn kept (kept.length - 1))
                · have Hyes := hid (blkRow_yes (p := p) (hp := hok) (m := m) (h := h) (k := s) (by rw [Hblk.out]; simpa using hlike))
                  go_wp2
                  have hwr : IntKind.i64.wrap ((kept.length : Int) - 1) = (kept.length : Int) - 1 := IntWalk.i64_in _ (by omega)
                  have hk0 : (1 : Int) ≤ (kept.length : Int) := by omega
                  have hk2 : (kept.length : Int) - 1 < kept.length := by omega
                  have hk3 : ((kept.length : Int) - 1).toNat = kept.length - 1 := by omega
                  refine wp_region_held_drew (S := (fun w' => w'.cell? ⟨w.heap.size, 1, none⟩ = some (.slice (some ⟨bs, os, none⟩) p.shifts.length caps) ∧ w'.cell? ⟨w.heap.size, 2, none⟩ = some (.slice (some ⟨bp, op, none⟩) p.places.length capp) ∧ w'.cell? ⟨bp, op + s, none⟩ = some (.int .i64 (intAt p.places s)) ∧ w'.cell? ⟨bs, os + s, none⟩ = some (.slice ars (rowAt p.shifts s).length crs) ∧ w'.cell? ⟨b3, o3 + (kept.length - 1), none⟩ = some (.int .i64 (fn kept (kept.length - 1))))) (by kernel_rfl) ?hSe0 (fun hHeld => ?_)
                  case hSe0 => (first | (exact ⟨f1, f2, fp, fs, fl⟩) | ((try dsimp only); exact ⟨f1, f2, fp, fs, fl⟩))
                  refine wpAnyH_tk 0 (v := ?ve0) rfl (by kernel_rfl) (by kernel_rfl) (by kernel_rfl) (fun _ _ _ h => h) (by rfl) ?hye0 (by assumption) ?_
                  case hye0 => (intro w hSw; (try dsimp only at hSw); go_simp <;> with_reducible rfl)
                  (try simp only [Act.put, List.setIfInBounds_toArray, List.set_cons_zero, List.set_cons_succ])
                  refine wpAnyH_tk 1 (v := ?ve1) rfl (by kernel_rfl) (by kernel_rfl) (by kernel_rfl) (fun _ _ _ h => h) (by rfl) ?hye1 (by assumption) ?_
                  case hye1 => (intro w hSw; (try dsimp only at hSw); go_simp <;> with_reducible rfl)
                  (try simp only [Act.put, List.setIfInBounds_toArray, List.set_cons_zero, List.set_cons_succ])
                  refine wpAnyH_tk 2 (v := ?ve2) rfl (by kernel_rfl) (by kernel_rfl) (by kernel_rfl) (fun _ _ _ h => h) (by rfl) ?hye2 (by assumption) ?_
                  case hye2 => (intro w hSw; (try dsimp only at hSw); go_simp <;> with_reducible rfl)
                  (try simp only [Act.put, List.setIfInBounds_toArray, List.set_cons_zero, List.set_cons_succ])
                  refine wpAnyH_tk 3 (v := ?ve3) rfl (by kernel_rfl) (by kernel_rfl) (by kernel_rfl) (fun _ _ _ h => h) (by rfl) ?hye3 (by assumption) ?_
                  case hye3 => (intro w hSw; (try dsimp only at hSw); go_simp <;> with_reducible rfl)
                  (try simp only [Act.put, List.setIfInBounds_toArray, List.set_cons_zero, List.set_cons_succ])
                  refine wpAnyH_tk 4 (v := ?ve4) rfl (by kernel_rfl) (by kernel_rfl) (by kernel_rfl) (fun _ _ _ h => h) (by rfl) ?hye4 (by assumption) ?_
                  case hye4 => (intro w hSw; (try dsimp only at hSw); go_simp <;> with_reducible rfl)
                  (try simp only [Act.put, List.setIfInBounds_toArray, List.set_cons_zero, List.set_cons_succ])
                  refine wpAnyH_tk 5 (v := ?ve5) rfl (by kernel_rfl) (by kernel_rfl) (by kernel_rfl) (fun _ _ _ h => h) (by rfl) ?hye5 (by assumption) ?_
                  case hye5 => (intro w hSw; (try dsimp only at hSw); go_simp <;> with_reducible rfl)
                  (try simp only [Act.put, List.setIfInBounds_toArray, List.set_cons_zero, List.set_cons_succ])
                  refine wpAnyH_tk 6 (v := ?ve6) rfl (by kernel_rfl) (by kernel_rfl) (by kernel_rfl) (fun _ _ _ h => h) (by rfl) ?hye6 (by assumption) ?_
                  case hye6 => (intro w hSw; (try dsimp only at hSw); go_simp <;> with_reducible rfl)
                  (try simp only [Act.put, List.setIfInBounds_toArray, List.set_cons_zero, List.set_cons_succ])
                  refine wpAnyH_tk 7 (v := ?ve7) rfl (by kernel_rfl) (by kernel_rfl) (by kernel_rfl) (fun _ _ _ h => h) (by rfl) ?hye7 (by assumption) ?_
                  case hye7 => (intro w hSw; (try dsimp only at hSw); go_simp <;> with_reducible rfl)
                  (try simp only [Act.put, List.setIfInBounds_toArray, List.set_cons_zero, List.set_cons_succ])
                  refine wpAnyH_tk 8 (v := ?ve8) rfl (by kernel_rfl) (by kernel_rfl) (by kernel_rfl) (fun _ _ _ h => h) (by rfl) ?hye8 (by assumption) ?_
                  case hye8 => (intro w hSw; (try dsimp only at hSw); go_simp <;> with_reducible rfl)
                  (try simp only [Act.put, List.setIfInBounds_toArray, List.set_cons_zero, List.set_cons_succ])
                  refine wpAnyH_tk 9 (v := ?ve9) rfl (by kernel_rfl) (by kernel_rfl) (by kernel_rfl) (fun _ _ _ h => h) (by rfl) ?hye9 (by assumption) ?_
                  case hye9 => (intro w hSw; (try dsimp only at hSw); go_simp <;> with_reducible rfl)
                  (try simp only [Act.put, List.setIfInBounds_toArray, List.set_cons_zero, List.set_cons_succ])
                  refine wpAnyH_tk 10 (v := ?ve10) rfl (by kernel_rfl) (by kernel_rfl) (by kernel_rfl) (fun _ _ _ h => h) (by rfl) ?hye10 (by assumption) ?_
                  case hye10 => (intro w hSw; (try dsimp only at hSw); go_simp <;> with_reducible rfl)
                  (try simp only [Act.put, List.setIfInBounds_toArray, List.set_cons_zero, List.set_cons_succ])
                  refine wpAnyH_tk 11 (v := ?ve11) rfl (by kernel_rfl) (by kernel_rfl) (by kernel_rfl) (fun _ _ _ h => h) (by rfl) ?hye11 (by assumption) ?_
                  case hye11 => (intro w hSw; (try dsimp only at hSw); go_simp <;> with_reducible rfl)
                  (try simp only [Act.put, List.setIfInBounds_toArray, List.set_cons_zero, List.set_cons_succ])
                  refine wpAnyH_tk 12 (v := ?ve12) rfl (by kernel_rfl) (by kernel_rfl) (by kernel_rfl) (fun _ _ _ h => h) (by rfl) ?hye12 (by assumption) ?_
                  case hye12 => (intro w hSw; (try dsimp only at hSw); go_simp <;> with_reducible rfl)
                  (try simp only [Act.put, List.setIfInBounds_toArray, List.set_cons_zero, List.set_cons_succ])
                  refine wpAnyH_tk 13 (v := ?ve13) rfl (by kernel_rfl) (by kernel_rfl) (by kernel_rfl) (fun _ _ _ h => h) (by rfl) ?hye13 (by assumption) ?_
                  case hye13 => (intro w hSw; (try dsimp only at hSw); go_simp <;> with_reducible rfl)
                  (try simp only [Act.put, List.setIfInBounds_toArray, List.set_cons_zero, List.set_cons_succ])
                  refine wpAnyH_tk 14 (v := ?ve14) rfl (by kernel_rfl) (by kernel_rfl) (by kernel_rfl) (fun _ _ _ h => h) (by rfl) ?hye14 (by assumption) ?_
                  case hye14 => (intro w hSw; (try dsimp only at hSw); go_simp <;> with_reducible rfl)
                  (try simp only [Act.put, List.setIfInBounds_toArray, List.set_cons_zero, List.set_cons_succ])
                  refine wpAnyH_tk 16 (v := ?ve16) rfl (by kernel_rfl) (by kernel_rfl) (by kernel_rfl) (fun _ _ _ h => h) (by rfl) ?hye16 (by assumption) ?_
                  case hye16 => (intro w hSw; (try dsimp only at hSw); go_simp <;> with_reducible rfl)
                  (try simp only [Act.put, List.setIfInBounds_toArray, List.set_cons_zero, List.set_cons_succ])
                  refine wpAnyH_tk 17 (v := ?ve17) rfl (by kernel_rfl) (by kernel_rfl) (by kernel_rfl) (fun _ _ _ h => h) (by rfl) ?hye17 (by assumption) ?_
                  case hye17 => (intro w hSw; (try dsimp only at hSw); go_simp <;> with_reducible rfl)
                  (try simp only [Act.put, List.setIfInBounds_toArray, List.set_cons_zero, List.set_cons_succ])
                  refine wpAnyH_tk 18 (v := ?ve18) rfl (by kernel_rfl) (by kernel_rfl) (by kernel_rfl) (fun _ _ _ h => h) (by rfl) ?hye18 (by assumption) ?_
                  case hye18 => (intro w hSw; (try dsimp only at hSw); go_simp <;> with_reducible rfl)
                  (try simp only [Act.put, List.setIfInBounds_toArray, List.set_cons_zero, List.set_cons_succ])
                  refine wpAnyH_tk 19 (v := ?ve19) rfl (by kernel_rfl) (by kernel_rfl) (by kernel_rfl) (fun _ _ _ h => h) (by rfl) ?hye19 (by assumption) ?_
                  case hye19 => (intro w hSw; (try dsimp only at hSw); go_simp <;> with_reducible rfl)
                  (try simp only [Act.put, List.setIfInBounds_toArray, List.set_cons_zero, List.set_cons_succ])
                  refine wpAnyH_tk 20 (v := ?ve20) rfl (by kernel_rfl) (by kernel_rfl) (by kernel_rfl) (fun _ _ _ h => h) (by rfl) ?hye20 (by assumption) ?_
                  case hye20 => (intro w hSw; (try dsimp only at hSw); go_simp <;> with_reducible rfl)
                  (try simp only [Act.put, List.setIfInBounds_toArray, List.set_cons_zero, List.set_cons_succ])
                  refine wpAnyH_tk 21 (v := ?ve21) rfl (by kernel_rfl) (by kernel_rfl) (by kernel_rfl) (fun _ _ _ h => h) (by rfl) ?hye21 (by assumption) ?_
                  case hye21 => (intro w hSw; (try dsimp only at hSw); go_simp <;> with_reducible rfl)
                  (try simp only [Act.put, List.setIfInBounds_toArray, List.set_cons_zero, List.set_cons_succ])
                  refine wpAnyH_tk 22 (v := ?ve22) rfl (by kernel_rfl) (by kernel_rfl) (by kernel_rfl) (fun _ _ _ h => h) (by rfl) ?hye22 (by assumption) ?_
                  case hye22 => (intro w hSw; (try dsimp only at hSw); go_simp <;> with_reducible rfl)
                  (try simp only [Act.put, List.setIfInBounds_toArray, List.set_cons_zero, List.set_cons_succ])
                  refine wpAnyH_tk 23 (v := ?ve23) rfl (by kernel_rfl) (by kernel_rfl) (by kernel_rfl) (fun _ _ _ h => h) (by rfl) ?hye23 (by assumption) ?_
                  case hye23 => (intro w hSw; (try dsimp only at hSw); go_simp <;> with_reducible rfl)
                  (try simp only [Act.put, List.setIfInBounds_toArray, List.set_cons_zero, List.set_cons_succ])
                  refine wpAnyH_tk 24 (v := ?ve24) rfl (by kernel_rfl) (by kernel_rfl) (by kernel_rfl) (fun _ _ _ h => h) (by rfl) ?hye24 (by assumption) ?_
                  case hye24 => (intro w hSw; (try dsimp only at hSw); go_simp <;> with_reducible rfl)
                  (try simp only [Act.put, List.setIfInBounds_toArray, List.set_cons_zero, List.set_cons_succ])
                  refine wpAnyH_tk 25 (v := ?ve25) rfl (by kernel_rfl) (by kernel_rfl) (by kernel_rfl) (fun _ _ _ h => h) (by rfl) ?hye25 (by assumption) ?_
                  case hye25 => (intro w hSw; (try dsimp only at hSw); go_simp <;> with_reducible rfl)
                  (try simp only [Act.put, List.setIfInBounds_toArray, List.set_cons_zero, List.set_cons_succ])
                  refine wpAnyH_tk 26 (v := ?ve26) rfl (by kernel_rfl) (by kernel_rfl) (by kernel_rfl) (fun _ _ _ h => h) (by rfl) ?hye26 (by assumption) ?_
                  case hye26 => (intro w hSw; (try dsimp only at hSw); go_simp <;> with_reducible rfl)
                  (try simp only [Act.put, List.setIfInBounds_toArray, List.set_cons_zero, List.set_cons_succ])
                  refine wpAnyH_one 15 rfl (by kernel_rfl) (by rfl) (fun K hK => ?_)
                  go_simp
                  (go_at_call 80; refine (rank_any _ (rowAt p.shifts s) h _ (Hrs.out.ext E6.out.drew)).mono ?_; rintro e w' ⟨rfl, rfl⟩)
                  refine hK.out _ _ ?hSe16 (fun hHeld => ?_)
                  case hSe16 => (first | (exact ⟨f1, f2, fp, fs, fl⟩) | ((try dsimp only); exact ⟨f1, f2, fp, fs, fl⟩))
                  clear hK K
                  (try simp only [Act.put, List.setIfInBounds_toArray, List.set_cons_zero, List.set_cons_succ])
                  refine wpAnyH_one 27 rfl (by kernel_rfl) (by rfl) (fun K hK => ?_)
                  go_simp
                  (go_at_call 80; refine (rank_any _ (rowAt p.shifts s) (fn kept (kept.length - 1)) _ (Hrs.out.ext E6.out.drew)).mono ?_; rintro e w' ⟨rfl, rfl⟩)
                  refine hK.out _ _ ?hSe28 (fun hHeld => ?_)
                  case hSe28 => (first | (exact ⟨f1, f2, fp, fs, fl⟩) | ((try dsimp only); exact ⟨f1, f2, fp, fs, fl⟩))
                  clear hK K
                  (try simp only [Act.put, List.setIfInBounds_toArray, List.set_cons_zero, List.set_cons_succ])
                  refine wpAnyH_tk 28 (v := ?ve28) rfl (by kernel_rfl) (by kernel_rfl) (by kernel_rfl) (fun _ _ _ h => h) (by rfl) ?hye28 (by assumption) ?_
                  case hye28 => (intro w hSw; (try dsimp only at hSw); go_simp <;> with_reducible rfl)
                  (try simp only [Act.put, List.setIfInBounds_toArray, List.set_cons_zero, List.set_cons_succ])
                  refine wpAnyH_tk 29 (v := ?ve29) rfl (by kernel_rfl) (by kernel_rfl) (by kernel_rfl) (fun _ _ _ h => h) (by rfl) ?hye29 (by assumption) ?_
                  case hye29 => (intro w hSw; (try dsimp only at hSw); go_simp <;> with_reducible rfl)
                  (try simp only [Act.put, List.setIfInBounds_toArray, List.set_cons_zero, List.set_cons_succ])
                  refine wpAnyH_done (by kernel_rfl) ?_ _
                  clear hwr hk0 hk2 hk3
                  have O7 := hid (ownsRow_ext O6.out ((Ext.refl w6).drew))
                  have EE7 := hid (EE6.out.drew)
                  clear f0 f1 f2 fp fs fl hroom'
                  generalize hW7 : w6.drew = W7 at *
                  have hsz7 : w.heap.size + 1 ≤ W7.heap.size := by rw [← hW7]; exact hsz6
                  clear hW7
                  go_wp2_with (at_builtin; refine wpList_append_own _ rfl _ _ 46 rfl (w.heap.size + 1) 52 i0 (.agg #[.int .i64 0, .int .i64 0]) 2 16 Try.underlying46 hi hz0 hz1 hz2 rfl (by decide) _ _ _ rfl (O7.out.alloc _) ⟨W7.heap.size, 0, none⟩ 1 1 [.int .i64 h, .int .i64 s] rfl rfl ?c1 ?c2 ?c3 ?c4 ?c5 ?_)
                  case c1 => exact cell_two_new _ _ _ _
                  case c2 => intro u hu; simp at hu; rcases hu with rfl | rfl <;> rfl
                  case c3 => have := Hbs.out; unfold maxLen; omega
                  case c4 => have := Hbs.out; omega
                  case c5 => simp; omega
                  intro v' w' hown' hg _
                  have hR := OwnPr.push (by rw [List.length_append]) hown'
                  rw [List.append_assoc, ← Hyes.out] at hR
                  have hE := Ext.push EE7.out O7.out (Nat.le_of_eq HszW.out) hg
                  have HR := hid hR
                  have HE := hid hE
                  clear hown' hg hR hE
                  go_wp2
                  go_roundg (gk - 1)
                  case rel => exact ⟨s + 1, by have := Hks.out; omega, by go_num, HR.out, HE.out⟩
                  case measure => have := Hks.out; omega
                · have Hno := hid (blkRow_no (p := p) (hp := hok) (m := m) (h := h) (k := s) (by rw [Hblk.out]; simpa using hlike))
                  go_wp2
                  have hwr : IntKind.i64.wrap ((kept.length : Int) - 1) = (kept.length : Int) - 1 := IntWalk.i64_in _ (by omega)
                  have hk0 : (1 : Int) ≤ (kept.length : Int) := by omega
                  have hk2 : (kept.length : Int) - 1 < kept.length := by omega
                  have hk3 : ((kept.length : Int) - 1).toNat = kept.length - 1 := by omega
                  refine wp_region_held_drew (S := (fun w' => w'.cell? ⟨w.heap.size, 1, none⟩ = some (.slice (some ⟨bs, os, none⟩) p.shifts.length caps) ∧ w'.cell? ⟨w.heap.size, 2, none⟩ = some (.slice (some ⟨bp, op, none⟩) p.places.length capp) ∧ w'.cell? ⟨bp, op + s, none⟩ = some (.int .i64 (intAt p.places s)) ∧ w'.cell? ⟨bs, os + s, none⟩ = some (.slice ars (rowAt p.shifts s).length crs) ∧ w'.cell? ⟨b3, o3 + (kept.length - 1), none⟩ = some (.int .i64 (fn kept (kept.length - 1))))) (by kernel_rfl) ?hSf0 (fun hHeld => ?_)
                  case hSf0 => (first | (exact ⟨f1, f2, fp, fs, fl⟩) | ((try dsimp only); exact ⟨f1, f2, fp, fs, fl⟩))
                  refine wpAnyH_tk 0 (v := ?vf0) rfl (by kernel_rfl) (by kernel_rfl) (by kernel_rfl) (fun _ _ _ h => h) (by rfl) ?hyf0 (by assumption) ?_
                  case hyf0 => (intro w hSw; (try dsimp only at hSw); go_simp <;> with_reducible rfl)
                  (try simp only [Act.put, List.setIfInBounds_toArray, List.set_cons_zero, List.set_cons_succ])
                  refine wpAnyH_tk 1 (v := ?vf1) rfl (by kernel_rfl) (by kernel_rfl) (by kernel_rfl) (fun _ _ _ h => h) (by rfl) ?hyf1 (by assumption) ?_
                  case hyf1 => (intro w hSw; (try dsimp only at hSw); go_simp <;> with_reducible rfl)
                  (try simp only [Act.put, List.setIfInBounds_toArray, List.set_cons_zero, List.set_cons_succ])
                  refine wpAnyH_tk 2 (v := ?vf2) rfl (by kernel_rfl) (by kernel_rfl) (by kernel_rfl) (fun _ _ _ h => h) (by rfl) ?hyf2 (by assumption) ?_
                  case hyf2 => (intro w hSw; (try dsimp only at hSw); go_simp <;> with_reducible rfl)
                  (try simp only [Act.put, List.setIfInBounds_toArray, List.set_cons_zero, List.set_cons_succ])
                  refine wpAnyH_tk 3 (v := ?vf3) rfl (by kernel_rfl) (by kernel_rfl) (by kernel_rfl) (fun _ _ _ h => h) (by rfl) ?hyf3 (by assumption) ?_
                  case hyf3 => (intro w hSw; (try dsimp only at hSw); go_simp <;> with_reducible rfl)
                  (try simp only [Act.put, List.setIfInBounds_toArray, List.set_cons_zero, List.set_cons_succ])
                  refine wpAnyH_tk 4 (v := ?vf4) rfl (by kernel_rfl) (by kernel_rfl) (by kernel_rfl) (fun _ _ _ h => h) (by rfl) ?hyf4 (by assumption) ?_
                  case hyf4 => (intro w hSw; (try dsimp only at hSw); go_simp <;> with_reducible rfl)
                  (try simp only [Act.put, List.setIfInBounds_toArray, List.set_cons_zero, List.set_cons_succ])
                  refine wpAnyH_tk 5 (v := ?vf5) rfl (by kernel_rfl) (by kernel_rfl) (by kernel_rfl) (fun _ _ _ h => h) (by rfl) ?hyf5 (by assumption) ?_
                  case hyf5 => (intro w hSw; (try dsimp only at hSw); go_simp <;> with_reducible rfl)
                  (try simp only [Act.put, List.setIfInBounds_toArray, List.set_cons_zero, List.set_cons_succ])
                  refine wpAnyH_tk 6 (v := ?vf6) rfl (by kernel_rfl) (by kernel_rfl) (by kernel_rfl) (fun _ _ _ h => h) (by rfl) ?hyf6 (by assumption) ?_
                  case hyf6 => (intro w hSw; (try dsimp only at hSw); go_simp <;> with_reducible rfl)
                  (try simp only [Act.put, List.setIfInBounds_toArray, List.set_cons_zero, List.set_cons_succ])
                  refine wpAnyH_tk 7 (v := ?vf7) rfl (by kernel_rfl) (by kernel_rfl) (by kernel_rfl) (fun _ _ _ h => h) (by rfl) ?hyf7 (by assumption) ?_
                  case hyf7 => (intro w hSw; (try dsimp only at hSw); go_simp <;> with_reducible rfl)
                  (try simp only [Act.put, List.setIfInBounds_toArray, List.set_cons_zero, List.set_cons_succ])
                  refine wpAnyH_tk 8 (v := ?vf8) rfl (by kernel_rfl) (by kernel_rfl) (by kernel_rfl) (fun _ _ _ h => h) (by rfl) ?hyf8 (by assumption) ?_
                  case hyf8 => (intro w hSw; (try dsimp only at hSw); go_simp <;> with_reducible rfl)
                  (try simp only [Act.put, List.setIfInBounds_toArray, List.set_cons_zero, List.set_cons_succ])
                  refine wpAnyH_tk 9 (v := ?vf9) rfl (by kernel_rfl) (by kernel_rfl) (by kernel_rfl) (fun _ _ _ h => h) (by rfl) ?hyf9 (by assumption) ?_
                  case hyf9 => (intro w hSw; (try dsimp only at hSw); go_simp <;> with_reducible rfl)
                  (try simp only [Act.put, List.setIfInBounds_toArray, List.set_cons_zero, List.set_cons_succ])
                  refine wpAnyH_tk 10 (v := ?vf10) rfl (by kernel_rfl) (by kernel_rfl) (by kernel_rfl) (fun _ _ _ h => h) (by rfl) ?hyf10 (by assumption) ?_
                  case hyf10 => (intro w hSw; (try dsimp only at hSw); go_simp <;> with_reducible rfl)
                  (try simp only [Act.put, List.setIfInBounds_toArray, List.set_cons_zero, List.set_cons_succ])
                  refine wpAnyH_tk 11 (v := ?vf11) rfl (by kernel_rfl) (by kernel_rfl) (by kernel_rfl) (fun _ _ _ h => h) (by rfl) ?hyf11 (by assumption) ?_
                  case hyf11 => (intro w hSw; (try dsimp only at hSw); go_simp <;> with_reducible rfl)
                  (try simp only [Act.put, List.setIfInBounds_toArray, List.set_cons_zero, List.set_cons_succ])
                  refine wpAnyH_tk 12 (v := ?vf12) rfl (by kernel_rfl) (by kernel_rfl) (by kernel_rfl) (fun _ _ _ h => h) (by rfl) ?hyf12 (by assumption) ?_
                  case hyf12 => (intro w hSw; (try dsimp only at hSw); go_simp <;> with_reducible rfl)
                  (try simp only [Act.put, List.setIfInBounds_toArray, List.set_cons_zero, List.set_cons_succ])
                  refine wpAnyH_tk 13 (v := ?vf13) rfl (by kernel_rfl) (by kernel_rfl) (by kernel_rfl) (fun _ _ _ h => h) (by rfl) ?hyf13 (by assumption) ?_
                  case hyf13 => (intro w hSw; (try dsimp only at hSw); go_simp <;> with_reducible rfl)
                  (try simp only [Act.put, List.setIfInBounds_toArray, List.set_cons_zero, List.set_cons_succ])
                  refine wpAnyH_tk 14 (v := ?vf14) rfl (by kernel_rfl) (by kernel_rfl) (by kernel_rfl) (fun _ _ _ h => h) (by rfl) ?hyf14 (by assumption) ?_
                  case hyf14 => (intro w hSw; (try dsimp only at hSw); go_simp <;> with_reducible rfl)
                  (try simp only [Act.put, List.setIfInBounds_toArray, List.set_cons_zero, List.set_cons_succ])
                  refine wpAnyH_tk 16 (v := ?vf16) rfl (by kernel_rfl) (by kernel_rfl) (by kernel_rfl) (fun _ _ _ h => h) (by rfl) ?hyf16 (by assumption) ?_
                  case hyf16 => (intro w hSw; (try dsimp only at hSw); go_simp <;> with_reducible rfl)
                  (try simp only [Act.put, List.setIfInBounds_toArray, List.set_cons_zero, List.set_cons_succ])
                  refine wpAnyH_tk 17 (v := ?vf17) rfl (by kernel_rfl) (by kernel_rfl) (by kernel_rfl) (fun _ _ _ h => h) (by rfl) ?hyf17 (by assumption) ?_
                  case hyf17 => (intro w hSw; (try dsimp only at hSw); go_simp <;> with_reducible rfl)
                  (try simp only [Act.put, List.setIfInBounds_toArray, List.set_cons_zero, List.set_cons_succ])
                  refine wpAnyH_tk 18 (v := ?vf18) rfl (by kernel_rfl) (by kernel_rfl) (by kernel_rfl) (fun _ _ _ h => h) (by rfl) ?hyf18 (by assumption) ?_
                  case hyf18 => (intro w hSw; (try dsimp only at hSw); go_simp <;> with_reducible rfl)
                  (try simp only [Act.put, List.setIfInBounds_toArray, List.set_cons_zero, List.set_cons_succ])
                  refine wpAnyH_tk 19 (v := ?vf19) rfl (by kernel_rfl) (by kernel_rfl) (by kernel_rfl) (fun _ _ _ h => h) (by rfl) ?hyf19 (by assumption) ?_
                  case hyf19 => (intro w hSw; (try dsimp only at hSw); go_simp <;> with_reducible rfl)
                  (try simp only [Act.put, List.setIfInBounds_toArray, List.set_cons_zero, List.set_cons_succ])
                  refine wpAnyH_tk 20 (v := ?vf20) rfl (by kernel_rfl) (by kernel_rfl) (by kernel_rfl) (fun _ _ _ h => h) (by rfl) ?hyf20 (by assumption) ?_
                  case hyf20 => (intro w hSw; (try dsimp only at hSw); go_simp <;> with_reducible rfl)
                  (try simp only [Act.put, List.setIfInBounds_toArray, List.set_cons_zero, List.set_cons_succ])
                  refine wpAnyH_tk 21 (v := ?vf21) rfl (by kernel_rfl) (by kernel_rfl) (by kernel_rfl) (fun _ _ _ h => h) (by rfl) ?hyf21 (by assumption) ?_
                  case hyf21 => (intro w hSw; (try dsimp only at hSw); go_simp <;> with_reducible rfl)
                  (try simp only [Act.put, List.setIfInBounds_toArray, List.set_cons_zero, List.set_cons_succ])
                  refine wpAnyH_tk 22 (v := ?vf22) rfl (by kernel_rfl) (by kernel_rfl) (by kernel_rfl) (fun _ _ _ h => h) (by rfl) ?hyf22 (by assumption) ?_
                  case hyf22 => (intro w hSw; (try dsimp only at hSw); go_simp <;> with_reducible rfl)
                  (try simp only [Act.put, List.setIfInBounds_toArray, List.set_cons_zero, List.set_cons_succ])
                  refine wpAnyH_tk 23 (v := ?vf23) rfl (by kernel_rfl) (by kernel_rfl) (by kernel_rfl) (fun _ _ _ h => h) (by rfl) ?hyf23 (by assumption) ?_
                  case hyf23 => (intro w hSw; (try dsimp only at hSw); go_simp <;> with_reducible rfl)
                  (try simp only [Act.put, List.setIfInBounds_toArray, List.set_cons_zero, List.set_cons_succ])
                  refine wpAnyH_tk 24 (v := ?vf24) rfl (by kernel_rfl) (by kernel_rfl) (by kernel_rfl) (fun _ _ _ h => h) (by rfl) ?hyf24 (by assumption) ?_
                  case hyf24 => (intro w hSw; (try dsimp only at hSw); go_simp <;> with_reducible rfl)
                  (try simp only [Act.put, List.setIfInBounds_toArray, List.set_cons_zero, List.set_cons_succ])
                  refine wpAnyH_tk 25 (v := ?vf25) rfl (by kernel_rfl) (by kernel_rfl) (by kernel_rfl) (fun _ _ _ h => h) (by rfl) ?hyf25 (by assumption) ?_
                  case hyf25 => (intro w hSw; (try dsimp only at hSw); go_simp <;> with_reducible rfl)
                  (try simp only [Act.put, List.setIfInBounds_toArray, List.set_cons_zero, List.set_cons_succ])
                  refine wpAnyH_tk 26 (v := ?vf26) rfl (by kernel_rfl) (by kernel_rfl) (by kernel_rfl) (fun _ _ _ h => h) (by rfl) ?hyf26 (by assumption) ?_
                  case hyf26 => (intro w hSw; (try dsimp only at hSw); go_simp <;> with_reducible rfl)
                  (try simp only [Act.put, List.setIfInBounds_toArray, List.set_cons_zero, List.set_cons_succ])
                  refine wpAnyH_one 15 rfl (by kernel_rfl) (by rfl) (fun K hK => ?_)
                  go_simp
                  (go_at_call 80; refine (rank_any _ (rowAt p.shifts s) h _ (Hrs.out.ext E6.out.drew)).mono ?_; rintro e w' ⟨rfl, rfl⟩)
                  refine hK.out _ _ ?hSf16 (fun hHeld => ?_)
                  case hSf16 => (first | (exact ⟨f1, f2, fp, fs, fl⟩) | ((try dsimp only); exact ⟨f1, f2, fp, fs, fl⟩))
                  clear hK K
                  (try simp only [Act.put, List.setIfInBounds_toArray, List.set_cons_zero, List.set_cons_succ])
                  refine wpAnyH_one 27 rfl (by kernel_rfl) (by rfl) (fun K hK => ?_)
                  go_simp
                  (go_at_call 80; refine (rank_any _ (rowAt p.shifts s) (fn kept (kept.length - 1)) _ (Hrs.out.ext E6.out.drew)).mono ?_; rintro e w' ⟨rfl, rfl⟩)
                  refine hK.out _ _ ?hSf28 (fun hHeld => ?_)
                  case hSf28 => (first | (exact ⟨f1, f2, fp, fs, fl⟩) | ((try dsimp only); exact ⟨f1, f2, fp, fs, fl⟩))
                  clear hK K
                  (try simp only [Act.put, List.setIfInBounds_toArray, List.set_cons_zero, List.set_cons_succ])
                  refine wpAnyH_tk 28 (v := ?vf28) rfl (by kernel_rfl) (by kernel_rfl) (by kernel_rfl) (fun _ _ _ h => h) (by rfl) ?hyf28 (by assumption) ?_
                  case hyf28 => (intro w hSw; (try dsimp only at hSw); go_simp <;> with_reducible rfl)
                  (try simp only [Act.put, List.setIfInBounds_toArray, List.set_cons_zero, List.set_cons_succ])
                  refine wpAnyH_tk 29 (v := ?vf29) rfl (by kernel_rfl) (by kernel_rfl) (by kernel_rfl) (fun _ _ _ h => h) (by rfl) ?hyf29 (by assumption) ?_
                  case hyf29 => (intro w hSw; (try dsimp only at hSw); go_simp <;> with_reducible rfl)
                  (try simp only [Act.put, List.setIfInBounds_toArray, List.set_cons_zero, List.set_cons_succ])
                  refine wpAnyH_done (by kernel_rfl) ?_ _
                  clear hwr hk0 hk2 hk3
                  have O7 := hid (ownsRow_ext O6.out ((Ext.refl w6).drew))
                  have EE7 := hid (EE6.out.drew)
                  clear f0 f1 f2 fp fs fl hroom'
                  go_wp2
                  go_roundg (gk - 1)
                  case rel => exact ⟨s + 1, by have := Hks.out; omega, by go_num, by rw [Hno.out]; exact O7.out, EE7.out⟩
                  case measure => have := Hks.out; omega
            · have Hno := hid (blkRow_no (p := p) (hp := hok) (m := m) (h := h) (k := s) (blkB_no fun hb => hrk hb.2.1))
              go_wp2
              refine wp_region_held_drew (S := (fun w' => w'.cell? ⟨w.heap.size, 0, none⟩ = some (.slice (some ⟨bh, oh, none⟩) p.hands.length caph) ∧ w'.cell? ⟨w.heap.size, 1, none⟩ = some (.slice (some ⟨bs, os, none⟩) p.shifts.length caps) ∧ w'.cell? ⟨w.heap.size, 2, none⟩ = some (.slice (some ⟨bp, op, none⟩) p.places.length capp) ∧ w'.cell? ⟨bh, oh + h, none⟩ = some (.slice arh (rowAt p.hands h).length crh) ∧ w'.cell? ⟨bm, om + h, none⟩ = some (.int .i64 (fn m h)))) (by kernel_rfl) ?hSc0 (fun hHeld => ?_)
              case hSc0 => (first | (first | exact ⟨c0, c1, c2, dh, dm⟩ | exact ⟨he5.cell c0, he5.cell c1, he5.cell c2, he5.cell dh, he5.cell dm⟩) | ((try dsimp only); first | exact ⟨c0, c1, c2, dh, dm⟩ | exact ⟨he5.cell c0, he5.cell c1, he5.cell c2, he5.cell dh, he5.cell dm⟩))
              refine wpAnyH_tk 0 (v := ?vc0) rfl (by kernel_rfl) (by kernel_rfl) (by kernel_rfl) (fun _ _ _ h => h) (by rfl) ?hyc0 (by assumption) ?_
              case hyc0 => (intro w hSw; (try dsimp only at hSw); go_simp <;> with_reducible rfl)
              (try simp only [Act.put, List.setIfInBounds_toArray, List.set_cons_zero, List.set_cons_succ])
              refine wpAnyH_tk 1 (v := ?vc1) rfl (by kernel_rfl) (by kernel_rfl) (by kernel_rfl) (fun _ _ _ h => h) (by rfl) ?hyc1 (by assumption) ?_
              case hyc1 => (intro w hSw; (try dsimp only at hSw); go_simp <;> with_reducible rfl)
              (try simp only [Act.put, List.setIfInBounds_toArray, List.set_cons_zero, List.set_cons_succ])
              refine wpAnyH_tk 2 (v := ?vc2) rfl (by kernel_rfl) (by kernel_rfl) (by kernel_rfl) (fun _ _ _ h => h) (by rfl) ?hyc2 (by assumption) ?_
              case hyc2 => (intro w hSw; (try dsimp only at hSw); go_simp <;> with_reducible rfl)
              (try simp only [Act.put, List.setIfInBounds_toArray, List.set_cons_zero, List.set_cons_succ])
              refine wpAnyH_one 3 rfl (by kernel_rfl) (by rfl) (fun K hK => ?_)
              go_simp
              (go_at_call 100; refine (possible_any _ _ _ p h s _ ⟨Hh.out.ext E.out.drew, Hs.out.ext E.out.drew, Hp.out.ext E.out.drew⟩ hh0 hh1 hs0 hs1).mono ?_; rintro e w5 ⟨rfl, he5⟩; rw [hps])
              refine hK.out _ _ ?hSc4 (fun hHeld => ?_)
              case hSc4 => (first | (first | exact ⟨c0, c1, c2, dh, dm⟩ | exact ⟨he5.cell c0, he5.cell c1, he5.cell c2, he5.cell dh, he5.cell dm⟩) | ((try dsimp only); first | exact ⟨c0, c1, c2, dh, dm⟩ | exact ⟨he5.cell c0, he5.cell c1, he5.cell c2, he5.cell dh, he5.cell dm⟩))
              clear hK K
              (try simp only [Act.put, List.setIfInBounds_toArray, List.set_cons_zero, List.set_cons_succ])
              refine wpAnyH_tk 4 (v := ?vc4) rfl (by kernel_rfl) (by kernel_rfl) (by kernel_rfl) (fun _ _ _ h => h) (by rfl) ?hyc4 (by assumption) ?_
              case hyc4 => (intro w hSw; (try dsimp only at hSw); go_simp <;> with_reducible rfl)
              (try simp only [Act.put, List.setIfInBounds_toArray, List.set_cons_zero, List.set_cons_succ])
              refine wpAnyH_tk 5 (v := ?vc5) rfl (by kernel_rfl) (by kernel_rfl) (by kernel_rfl) (fun _ _ _ h => h) (by rfl) ?hyc5 (by assumption) ?_
              case hyc5 => (intro w hSw; (try dsimp only at hSw); go_simp <;> with_reducible rfl)
              (try simp only [Act.put, List.setIfInBounds_toArray, List.set_cons_zero, List.set_cons_succ])
              refine wpAnyH_tk 6 (v := ?vc6) rfl (by kernel_rfl) (by kernel_rfl) (by kernel_rfl) (fun _ _ _ h => h) (by rfl) ?hyc6 (by assumption) ?_
              case hyc6 => (intro w hSw; (try dsimp only at hSw); go_simp <;> with_reducible rfl)
              (try simp only [Act.put, List.setIfInBounds_toArray, List.set_cons_zero, List.set_cons_succ])
              refine wpAnyH_tk 7 (v := ?vc7) rfl (by kernel_rfl) (by kernel_rfl) (by kernel_rfl) (fun _ _ _ h => h) (by rfl) ?hyc7 (by assumption) ?_
              case hyc7 => (intro w hSw; (try dsimp only at hSw); go_simp <;> with_reducible rfl)
              (try simp only [Act.put, List.setIfInBounds_toArray, List.set_cons_zero, List.set_cons_succ])
              refine wpAnyH_tk 8 (v := ?vc8) rfl (by kernel_rfl) (by kernel_rfl) (by kernel_rfl) (fun _ _ _ h => h) (by rfl) ?hyc8 (by assumption) ?_
              case hyc8 => (intro w hSw; (try dsimp only at hSw); go_simp <;> with_reducible rfl)
              (try simp only [Act.put, List.setIfInBounds_toArray, List.set_cons_zero, List.set_cons_succ])
              refine wpAnyH_tk 9 (v := ?vc9) rfl (by kernel_rfl) (by kernel_rfl) (by kernel_rfl) (fun _ _ _ h => h) (by rfl) ?hyc9 (by assumption) ?_
              case hyc9 => (intro w hSw; (try dsimp only at hSw); go_simp <;> with_reducible rfl)
              (try simp only [Act.put, List.setIfInBounds_toArray, List.set_cons_zero, List.set_cons_succ])
              refine wpAnyH_tk 10 (v := ?vc10) rfl (by kernel_rfl) (by kernel_rfl) (by kernel_rfl) (fun _ _ _ h => h) (by rfl) ?hyc10 (by assumption) ?_
              case hyc10 => (intro w hSw; (try dsimp only at hSw); go_simp <;> with_reducible rfl)
              (try simp only [Act.put, List.setIfInBounds_toArray, List.set_cons_zero, List.set_cons_succ])
              refine wpAnyH_tk 11 (v := ?vc11) rfl (by kernel_rfl) (by kernel_rfl) (by kernel_rfl) (fun _ _ _ h => h) (by rfl) ?hyc11 (by assumption) ?_
              case hyc11 => (intro w hSw; (try dsimp only at hSw); go_simp <;> with_reducible rfl)
              (try simp only [Act.put, List.setIfInBounds_toArray, List.set_cons_zero, List.set_cons_succ])
              refine wpAnyH_tk 13 (v := ?vc13) rfl (by kernel_rfl) (by kernel_rfl) (by kernel_rfl) (fun _ _ _ h => h) (by rfl) ?hyc13 (by assumption) ?_
              case hyc13 => (intro w hSw; (try dsimp only at hSw); go_simp <;> with_reducible rfl)
              (try simp only [Act.put, List.setIfInBounds_toArray, List.set_cons_zero, List.set_cons_succ])
              refine wpAnyH_tk 14 (v := ?vc14) rfl (by kernel_rfl) (by kernel_rfl) (by kernel_rfl) (fun _ _ _ h => h) (by rfl) ?hyc14 (by assumption) ?_
              case hyc14 => (intro w hSw; (try dsimp only at hSw); go_simp <;> with_reducible rfl)
              (try simp only [Act.put, List.setIfInBounds_toArray, List.set_cons_zero, List.set_cons_succ])
              refine wpAnyH_tk 15 (v := ?vc15) rfl (by kernel_rfl) (by kernel_rfl) (by kernel_rfl) (fun _ _ _ h => h) (by rfl) ?hyc15 (by assumption) ?_
              case hyc15 => (intro w hSw; (try dsimp only at hSw); go_simp <;> with_reducible rfl)
              (try simp only [Act.put, List.setIfInBounds_toArray, List.set_cons_zero, List.set_cons_succ])
              refine wpAnyH_tk 16 (v := ?vc16) rfl (by kernel_rfl) (by kernel_rfl) (by kernel_rfl) (fun _ _ _ h => h) (by rfl) ?hyc16 (by assumption) ?_
              case hyc16 => (intro w hSw; (try dsimp only at hSw); go_simp <;> with_reducible rfl)
              (try simp only [Act.put, List.setIfInBounds_toArray, List.set_cons_zero, List.set_cons_succ])
              refine wpAnyH_tk 17 (v := ?vc17) rfl (by kernel_rfl) (by kernel_rfl) (by kernel_rfl) (fun _ _ _ h => h) (by rfl) ?hyc17 (by assumption) ?_
              case hyc17 => (intro w hSw; (try dsimp only at hSw); go_simp <;> with_reducible rfl)
              (try simp only [Act.put, List.setIfInBounds_toArray, List.set_cons_zero, List.set_cons_succ])
              refine wpAnyH_tk 18 (v := ?vc18) rfl (by kernel_rfl) (by kernel_rfl) (by kernel_rfl) (fun _ _ _ h => h) (by rfl) ?hyc18 (by assumption) ?_
              case hyc18 => (intro w hSw; (try dsimp only at hSw); go_simp <;> with_reducible rfl)
              (try simp only [Act.put, List.setIfInBounds_toArray, List.set_cons_zero, List.set_cons_succ])
              refine wpAnyH_tk 19 (v := ?vc19) rfl (by kernel_rfl) (by kernel_rfl) (by kernel_rfl) (fun _ _ _ h => h) (by rfl) ?hyc19 (by assumption) ?_
              case hyc19 => (intro w hSw; (try dsimp only at hSw); go_simp <;> with_reducible rfl)
              (try simp only [Act.put, List.setIfInBounds_toArray, List.set_cons_zero, List.set_cons_succ])
              refine wpAnyH_tk 20 (v := ?vc20) rfl (by kernel_rfl) (by kernel_rfl) (by kernel_rfl) (fun _ _ _ h => h) (by rfl) ?hyc20 (by assumption) ?_
              case hyc20 => (intro w hSw; (try dsimp only at hSw); go_simp <;> with_reducible rfl)
              (try simp only [Act.put, List.setIfInBounds_toArray, List.set_cons_zero, List.set_cons_succ])
              refine wpAnyH_tk 21 (v := ?vc21) rfl (by kernel_rfl) (by kernel_rfl) (by kernel_rfl) (fun _ _ _ h => h) (by rfl) ?hyc21 (by assumption) ?_
              case hyc21 => (intro w hSw; (try dsimp only at hSw); go_simp <;> with_reducible rfl)
              (try simp only [Act.put, List.setIfInBounds_toArray, List.set_cons_zero, List.set_cons_succ])
              refine wpAnyH_one 12 rfl (by kernel_rfl) (by rfl) (fun K hK => ?_)
              go_simp
              (go_at_call 80; refine (rank_any _ (rowAt p.hands h) s _ (Hrh.out.ext (E.out.drew.trans he5))).mono ?_; rintro e w' ⟨rfl, rfl⟩)
              refine hK.out _ _ ?hSc13 (fun hHeld => ?_)
              case hSc13 => (first | (first | exact ⟨c0, c1, c2, dh, dm⟩ | exact ⟨he5.cell c0, he5.cell c1, he5.cell c2, he5.cell dh, he5.cell dm⟩) | ((try dsimp only); first | exact ⟨c0, c1, c2, dh, dm⟩ | exact ⟨he5.cell c0, he5.cell c1, he5.cell c2, he5.cell dh, he5.cell dm⟩))
              clear hK K
              (try simp only [Act.put, List.setIfInBounds_toArray, List.set_cons_zero, List.set_cons_succ])
              refine wpAnyH_one 22 rfl (by kernel_rfl) (by rfl) (fun K hK => ?_)
              go_simp
              (go_at_call 80; refine (rank_any _ (rowAt p.hands h) (fn m h) _ (Hrh.out.ext (E.out.drew.trans he5))).mono ?_; rintro e w' ⟨rfl, rfl⟩)
              refine hK.out _ _ ?hSc23 (fun hHeld => ?_)
              case hSc23 => (first | (first | exact ⟨c0, c1, c2, dh, dm⟩ | exact ⟨he5.cell c0, he5.cell c1, he5.cell c2, he5.cell dh, he5.cell dm⟩) | ((try dsimp only); first | exact ⟨c0, c1, c2, dh, dm⟩ | exact ⟨he5.cell c0, he5.cell c1, he5.cell c2, he5.cell dh, he5.cell dm⟩))
              clear hK K
              (try simp only [Act.put, List.setIfInBounds_toArray, List.set_cons_zero, List.set_cons_succ])
              refine wpAnyH_tk 23 (v := ?vc23) rfl (by kernel_rfl) (by kernel_rfl) (by kernel_rfl) (fun _ _ _ h => h) (by rfl) ?hyc23 (by assumption) ?_
              case hyc23 => (intro w hSw; (try dsimp only at hSw); go_simp <;> with_reducible rfl)
              (try simp only [Act.put, List.setIfInBounds_toArray, List.set_cons_zero, List.set_cons_succ])
              refine wpAnyH_tk 24 (v := ?vc24) rfl (by kernel_rfl) (by kernel_rfl) (by kernel_rfl) (fun _ _ _ h => h) (by rfl) ?hyc24 (by assumption) ?_
              case hyc24 => (intro w hSw; (try dsimp only at hSw); go_simp <;> with_reducible rfl)
              (try simp only [Act.put, List.setIfInBounds_toArray, List.set_cons_zero, List.set_cons_succ])
              refine wpAnyH_done (by kernel_rfl) ?_ _
              have O8 := ownsRow_ext OWN.out ((Ext.refl wr).drew.trans he5)
              have E8 := (EE.out.drew.trans he5)
              have HO8 := hid O8
              have HE8 := hid E8
              clear c0 c1 c2 dh dm he5 O8 E8
              go_wp2
              go_roundg (gk - 1)
              case rel => exact ⟨s + 1, by have := Hks.out; omega, by go_num, by rw [Hno.out]; exact HO8.out, HE8.out⟩
              case measure => have := Hks.out; omega
        · have hO : OwnPr (w.heap.size + 1) wr u5 (blkTo p hok m (h + 1)) := by
            have h1 := OWN.out
            have e : s = p.shifts.length := (by omega)
            rw [e, ← blkTo_succ] at h1
            exact h1
          have HO := hid hO
          clear hO
          go_wp2
          go_roundg (p.hands.length - (h + 1))
          case rel => exact ⟨h + 1, by omega, by go_num, HO.out, EE⟩
          case measure => have := Hkh.out; omega
    · have hO : OwnPr (w.heap.size + 1) wr u5 (blkAll p hok m) := by
        have h1 := OWN.out
        have e : h = p.hands.length := (by omega)
        rw [e] at h1
        exact h1
      have HO := hid hO
      clear hO
      go_wp2
      go_ret
      exact ⟨_, rfl, ownsRow_base HO.out (Nat.le_succ _), e0.out.trans EE.out⟩

end Go.Proofs.Ytkdfbbkonbgfmaa
