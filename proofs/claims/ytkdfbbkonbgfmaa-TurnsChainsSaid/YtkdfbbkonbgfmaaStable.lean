/-
  Contracts of turns.Plan.isStable and turns.Plan.stable, and of turns.Blocks and turns.Stable.
-/
import Derived.Test.YtkdfbbkonbgfmaaBlocks
import Derived.Test.YtkdfbbkonbgfmaaMoreLaw
import Derived.Deep.AppendLies
import Derived.Deep.RegionLaw
namespace Go.Proofs.Ytkdfbbkonbgfmaa
open Go.RowKit

theorem own_len {B e sz n : Nat} {w : World} {v : Value} {xs : List Value} (h : w.ownsRow B e sz v n xs) : ∃ a c, v = .slice a n c := by
  obtain ⟨-, ⟨h, hn⟩ | ⟨g, cap, cur, h, -⟩⟩ := h
  · exact ⟨_, _, by rw [hn]; exact h⟩
  · exact ⟨_, _, h⟩
theorem blk_len_zero {p : PlanD} {hp : PlanOk p} {m : List Int} (hm : MatL p hp m) : (((blkAll p hp m).length : Int) == 0) = stB p hp m := by
  cases hs : stB p hp m
  · have h1 : ¬ blkAll p hp m = [] := fun e => by have := stB_iff.2 ((blk_none hm).1 e); rw [hs] at this; simp at this
    have h2 : 0 < (blkAll p hp m).length := List.length_pos_iff.2 h1
    simp; omega
  · have h1 := (blk_none hm).2 (stB_iff.1 hs)
    rw [h1]; rfl

set_option maxHeartbeats 1000000 in
theorem isStable_any (vh vs vp vm : Value) (p : PlanD) (hok : PlanOk p) (m : List Int) (w : World) (hp : PlanR w vh vs vp p) (hm : Ints w vm m) :
    Calls Try.prog 102 #[.agg #[vh, vs, vp], vm] w fun e w' => e = .returned (.bool (stB p hok m)) ∧ Ext w w' := by
  obtain ⟨aoh, caph, aos, caps, aop, capp, rfl, rfl, rfl⟩ := planR_shape hp
  obtain ⟨-, aom, capm, rfl, -⟩ := id hm
  have HP := hid hp
  have HM := hid hm
  clear hp hm
  go_enter Try.func102, Try.ntmps102
  go_wp2_with (fail)
  refine (matching_any _ _ _ _ p hok m _ (HP.out.ext (Ext.ofAlloc _ _)) (HM.out.ext (Ext.ofAlloc _ _))).mono ?_
  cases hb : matB p hok m
  · have Hf := hid (stB_no (p := p) (hp := hok) (m := m) fun h => by have := matB_iff.2 h.mat; rw [hb] at this; simp at this)
    rintro e w1 ⟨rfl, he⟩
    have HE := hid ((Ext.ofAlloc w _).trans he)
    clear he
    go_wp2
    go_ret
    exact ⟨ret_bool Hf.out.symm, HE.out⟩
  · have Hm := hid (matB_iff.1 hb)
    rintro e w1 ⟨rfl, he⟩
    obtain ⟨c0, c1, c2⟩ := ((Box3.alloc w 29 (.slice aoh p.hands.length caph) (.slice aos p.shifts.length caps) (.slice aop p.places.length capp)).ext he).cells
    have HE := hid ((Ext.ofAlloc w _).trans he)
    clear he
    go_wp2_with (fail)
    refine (blocks_any _ _ _ _ p hok m _ (HP.out.ext HE.out) (HM.out.ext HE.out) Hm.out).mono ?_
    rintro e w2 ⟨u, rfl, hu, he2⟩
    obtain ⟨ua, uc, rfl⟩ := own_len hu
    have hz := blk_len_zero Hm.out
    have HE2 := hid (HE.out.trans he2)
    clear hu he2
    generalize (blkAll p hok m).length = L at *
    go_wp2
    go_ret
    exact ⟨rfl, HE2.out⟩

set_option maxHeartbeats 1000000 in
theorem Blocks_bad (vh vs vp vm : Value) (p : PlanD) (m : List Int) (w : World) (hp : PlanR w vh vs vp p) (hm : Ints w vm m) (hb : planOk p = false) :
    Calls Try.prog 34 #[.agg #[vh, vs, vp], vm] w fun e w' => e = .returned (.tuple #[.slice none 0 0, .int .i64 2]) ∧ Ext w w' := by
  obtain ⟨aoh, caph, aos, caps, aop, capp, rfl, rfl, rfl⟩ := planR_shape hp
  obtain ⟨-, aom, capm, rfl, -⟩ := id hm
  have HP := hid hp
  clear hp hm
  go_enter Try.func34, Try.ntmps34
  go_wp2_with (fail)
  refine (valid_any _ _ _ p _ (HP.out.ext (Ext.ofAlloc _ _))).mono ?_
  rw [hb]
  rintro e w1 ⟨rfl, he⟩
  have HE := hid ((Ext.ofAlloc w _).trans he)
  clear he
  go_wp2
  go_ret2
  exact ⟨rfl, HE.out⟩

set_option maxHeartbeats 1000000 in
theorem Blocks_no (vh vs vp vm : Value) (p : PlanD) (hok : PlanOk p) (m : List Int) (w : World) (hp : PlanR w vh vs vp p) (hm : Ints w vm m) (hb : matB p hok m = false) :
    Calls Try.prog 34 #[.agg #[vh, vs, vp], vm] w fun e w' => e = .returned (.tuple #[.slice none 0 0, .int .i64 2]) ∧ Ext w w' := by
  obtain ⟨aoh, caph, aos, caps, aop, capp, rfl, rfl, rfl⟩ := planR_shape hp
  obtain ⟨-, aom, capm, rfl, -⟩ := id hm
  have HP := hid hp
  have HM := hid hm
  have hv : planOk p = true := planOk_iff.2 hok
  clear hp hm
  go_enter Try.func34, Try.ntmps34
  go_wp2_with (fail)
  refine (valid_any _ _ _ p _ (HP.out.ext (Ext.ofAlloc _ _))).mono ?_
  rw [hv]
  rintro e w1 ⟨rfl, he⟩
  obtain ⟨c0, c1, c2⟩ := ((Box3.alloc w 29 (.slice aoh p.hands.length caph) (.slice aos p.shifts.length caps) (.slice aop p.places.length capp)).ext he).cells
  have HE := hid ((Ext.ofAlloc w _).trans he)
  clear he
  go_wp2_with (fail)
  refine (matching_any _ _ _ _ p hok m _ (HP.out.ext HE.out) (HM.out.ext HE.out)).mono ?_
  rw [hb]
  rintro e w2 ⟨rfl, he2⟩
  have HE2 := hid (HE.out.trans he2)
  clear he2
  go_wp2
  go_ret2
  exact ⟨rfl, HE2.out⟩

set_option maxHeartbeats 1000000 in
theorem Blocks_ok (vh vs vp vm : Value) (p : PlanD) (hok : PlanOk p) (m : List Int) (w : World) (hp : PlanR w vh vs vp p) (hm : Ints w vm m) (hmat : MatL p hok m) :
    Calls Try.prog 34 #[.agg #[vh, vs, vp], vm] w fun e w' => ∃ u, e = .returned (.tuple #[u, .int .i64 0]) ∧ OwnPr w.heap.size w' u (blkAll p hok m) ∧ Ext w w' := by
  obtain ⟨aoh, caph, aos, caps, aop, capp, rfl, rfl, rfl⟩ := planR_shape hp
  obtain ⟨-, aom, capm, rfl, -⟩ := id hm
  have HP := hid hp
  have HM := hid hm
  have Hmat := hid hmat
  have hb : matB p hok m = true := matB_iff.2 hmat
  have hv : planOk p = true := planOk_iff.2 hok
  clear hp hm
  go_enter Try.func34, Try.ntmps34
  go_wp2_with (fail)
  refine (valid_any _ _ _ p _ (HP.out.ext (Ext.ofAlloc _ _))).mono ?_
  rw [hv]
  rintro e w1 ⟨rfl, he⟩
  have hbx := (Box3.alloc w 29 (.slice aoh p.hands.length caph) (.slice aos p.shifts.length caps) (.slice aop p.places.length capp)).ext he
  obtain ⟨c0, c1, c2⟩ := hbx.cells
  have HBX := hid hbx
  have HE := hid ((Ext.ofAlloc w _).trans he)
  clear he hbx
  go_wp2_with (fail)
  refine (matching_any _ _ _ _ p hok m _ (HP.out.ext HE.out) (HM.out.ext HE.out)).mono ?_
  rw [hb]
  rintro e w2 ⟨rfl, he2⟩
  clear c0 c1 c2
  obtain ⟨c0, c1, c2⟩ := (HBX.out.ext he2).cells
  have HE2 := hid (HE.out.trans he2)
  have hsz := HE2.out.size
  clear he2
  go_wp2_with (fail)
  refine (blocks_any _ _ _ _ p hok m _ (HP.out.ext HE2.out) (HM.out.ext HE2.out) Hmat.out).mono ?_
  rintro e w3 ⟨u, rfl, hu, he3⟩
  have HU := hid hu
  have HE3 := hid (HE2.out.trans he3)
  clear hu he3
  go_wp2
  go_ret2
  exact ⟨_, rfl, ownsRow_base HU.out hsz, HE3.out⟩

/-- What the search of all stable matchings keeps: the plan, what was found, the matching that is being built, and where these lie. -/
structure TryInv (p : PlanD) (vh vs vp : Value) (W : World) (bx bo bg bm bt B : Nat) (w : World) (m : List Int) (acc : List (List Int)) : Prop where
  box : Box3 w bx 29 vh vs vp
  out : ∃ v, w.heap[bo]? = some (.cells #[v] 22 (0, 0)) ∧ OwnRows B w v acc
  ib : IntBlock w bg m
  mv : w.heap[bm]? = some (.cells #[.slice (some ⟨bg, 0, none⟩) m.length m.length] 23 (0, 0))
  fv : w.heap[bt]? = some (.cells #[.func (.func 103) #[] #[.pointer (some ⟨bm, 0, none⟩), .pointer (some ⟨bx, 0, none⟩), .pointer (some ⟨bo, 0, none⟩), .pointer (some ⟨bt, 0, none⟩)]] 97 (0, 0))
  ex : Ext W w
  lg : W.heap.size ≤ bg
  lo : W.heap.size ≤ bo
  ub : (bg < B ∧ bo < B ∧ bm < B ∧ bx < B ∧ bt < B) ∧ B ≤ w.heap.size
  n1 : bg ≠ bm ∧ bg ≠ bx ∧ bg ≠ bo ∧ bg ≠ bt
  n2 : bo ≠ bm ∧ bo ≠ bx ∧ bo ≠ bt

theorem TryInv.step {p : PlanD} {vh vs vp : Value} {W : World} {bx bo bg bm bt B : Nat} {w w' : World} {m : List Int} {acc : List (List Int)} (T : TryInv p vh vs vp W bx bo bg bm bt B w m acc) (e : Ext w w') : TryInv p vh vs vp W bx bo bg bm bt B w' m acc := by
  obtain ⟨v, h1, h2⟩ := T.out
  exact ⟨T.box.ext e, ⟨v, heap_ext h1 e, h2.ext e⟩, T.ib.ext e, heap_ext T.mv e, heap_ext T.fv e, T.ex.trans e, T.lg, T.lo, ⟨T.ub.1, Nat.le_trans T.ub.2 e.size⟩, T.n1, T.n2⟩
theorem heap_other {w : World} {b g : Nat} {o : Obj} (h : w.heap[b]? = some o) (hg : g ≠ b) (i : Nat) (v : Value) : (w.setCell ⟨g, i, none⟩ v).heap[b]? = some o := by
  rw [Below.heap_setCell _ _ _ _ (fun e => hg e.symm)]; exact h
theorem setCell_size (w : World) (a : Addr) (v : Value) : (w.setCell a v).heap.size = w.heap.size := by simp [World.setCell]
theorem TryInv.set {p : PlanD} {vh vs vp : Value} {W : World} {bx bo bg bm bt B : Nat} {w : World} {m : List Int} {acc : List (List Int)} (T : TryInv p vh vs vp W bx bo bg bm bt B w m acc) (i : Nat) (x : Int) :
    TryInv p vh vs vp W bx bo bg bm bt B (w.setCell ⟨bg, i, none⟩ (.int .i64 x)) (m.set i x) acc := by
  obtain ⟨v, h1, h2⟩ := T.out
  obtain ⟨a1, a2, a3, a4⟩ := T.n1
  refine ⟨T.box.other a2 i _, ⟨v, heap_other h1 a3 i _, h2.setBelow T.ub.1.1 i _⟩, T.ib.set i x, ?_, heap_other T.fv a4 i _, T.ex.setCell T.lg i _, T.lg, T.lo, ⟨T.ub.1, by rw [setCell_size]; exact T.ub.2⟩, T.n1, T.n2⟩
  rw [List.length_set]
  exact heap_other T.mv a1 i _
theorem TryInv.push {p : PlanD} {vh vs vp : Value} {W : World} {bx bo bg bm bt B : Nat} {w w1 : World} {m : List Int} {acc acc' : List (List Int)} {v0 v' : Value} (T : TryInv p vh vs vp W bx bo bg bm bt B w m acc)
    (h0 : w.heap[bo]? = some (.cells #[v0] 22 (0, 0))) (e : Below B w w1) (hv : OwnRows B w1 v' acc') :
    TryInv p vh vs vp W bx bo bg bm bt B (w1.setCell ⟨bo, 0, none⟩ v') m acc' := by
  obtain ⟨b1, b2, b3⟩ := T.n2
  obtain ⟨u1, u2, u3, u4, u5⟩ := T.ub.1
  have hb : ∀ {g : Nat} {o : Obj}, g < B → w.heap[g]? = some o → w1.heap[g]? = some o := fun hg h => by rw [e.block _ hg]; exact h
  have eW : Ext W w1 := Below.trans T.ex (e.mono (by have := T.lo; omega))
  refine ⟨heap_other (hb u4 T.box) b2 0 _, ⟨v', one_setCell (hb u2 h0), hv.setBelow u2 0 _⟩, heap_other (hb u1 T.ib) T.n1.2.2.1.symm 0 _, heap_other (hb u3 T.mv) b1 0 _, heap_other (hb u5 T.fv) b3 0 _, eW.setCell T.lo 0 _, T.lg, T.lo, ⟨T.ub.1, by rw [setCell_size]; exact Nat.le_trans T.ub.2 e.size⟩, T.n1, T.n2⟩

theorem TryInv.more {p : PlanD} {vh vs vp : Value} {W : World} {bx bo bg bm bt B : Nat} {w w2 w3 : World} {m xs : List Int} {acc : List (List Int)} {v0 v' u : Value} {us : List Value} {o : Obj} {B' : Nat} (T : TryInv p vh vs vp W bx bo bg bm bt B w m acc)
    (h0 : w.heap[bo]? = some (.cells #[v0] 22 (0, 0))) (hrow : w.ownsRow B 23 1 v0 us.length us) (hlen : us.length = acc.length)
    (heach : ∀ i, (h1 : i < us.length) → (h2 : i < acc.length) → OwnI B w us[i] acc[i] ∧ acc[i].length ≤ 17592186044416)
    (e : Ext w w2) (hB : B ≤ B') (hu : OwnI B' w2 u xs) (hx : xs.length ≤ 17592186044416) (hg : (w2.alloc o).grownBy w3 v0.ownBlock)
    (hrow3 : w3.ownsRow B 23 1 v' (us.length + 1) (us ++ [u])) : TryInv p vh vs vp W bx bo bg bm bt B (w3.setCell ⟨bo, 0, none⟩ v') m (acc ++ [xs]) := by
  have hB' := T.ub.2
  have hb2 : Below B w (w2.alloc o) := (e.alloc _).below hB'
  have hs := e.size
  have hb3 := Below.grown hb2 hg (by simp; omega) (fun k hk => (hrow.lt k hk).1)
  refine T.push h0 hb3 (OwnRows.push (w := w2) hlen (fun i a b => ⟨ownsRow_ext (heach i a b).1 e, (heach i a b).2⟩) (ownsRow_base hu hB) hx hrow3 (fun z zs h => ownI_grown (ownsRow_ext hrow e) hg h))

theorem take_set_lt {m : List Int} {h : Nat} {x : Int} : (m.set h x).take h = m.take h := by
  rw [List.take_set, List.set_eq_of_length_le (by simp; omega)]
theorem take_succ_fn {m : List Int} {h : Nat} (hh : h < m.length) : m.take (h + 1) = m.take h ++ [fn m h] := by
  rw [List.take_succ_eq_append_getElem hh, fn_get hh]
theorem fn_set_same {m : List Int} {h : Nat} (hh : h < m.length) (x : Int) : fn (m.set h x) h = x := by rw [fn_set hh, Mkt.upd_same]


set_option maxRecDepth 20000 in
set_option maxHeartbeats 2000000 in
theorem try_end (vh vs vp : Value) (p : PlanD) (hok : PlanOk p) (W : World) (hp : PlanR W vh vs vp p) (bx bo bg bm bt B : Nat) (h : Nat) (m : List Int) (acc : List (List Int)) (w : World)
    (hh : h = p.hands.length) (hl : m.length = p.hands.length) (hacc : acc.length ≤ 15625) (T : TryInv p vh vs vp W bx bo bg bm bt B w m acc) :
    Calls Try.prog 103 #[.int .i64 h, .pointer (some ⟨bm, 0, none⟩), .pointer (some ⟨bx, 0, none⟩), .pointer (some ⟨bo, 0, none⟩), .pointer (some ⟨bt, 0, none⟩)] w fun e w' =>
      e = .returned (.tuple #[]) ∧ TryInv p vh vs vp W bx bo bg bm bt B w' m (acc ++ stFrom p hok 0 m) := by
  obtain ⟨aoh, caph, aos, caps, aop, capp, rfl, rfl, rfl⟩ := planR_shape hp
  have HP := hid hp
  have HT := hid T
  have Hl := hid hl
  have hn6 := hok.h6
  obtain ⟨c0, c1, c2⟩ := T.box.cells
  have d0 := cell_of_one T.mv
  have he : ((h : Int) == (m.length : Int)) = true := by rw [hl, hh]; simp
  have hm9 : m.length ≤ 6 := by omega
  have HM := hid (T.ib.ints (n := m.length) rfl (by omega))
  clear hp T hl hh
  go_enter Try.func103, Try.ntmps103
  go_wp2_with (fail)
  refine (isStable_any _ _ _ _ p hok m _ (HP.out.ext HT.out.ex) HM.out).mono ?_
  cases hs : stB p hok m
  · have Hs := hid (stFrom_zero_no hs)
    rintro e w1 ⟨rfl, he1⟩
    have HT1 := hid (HT.out.step he1)
    clear he1 d0 c0 c1 c2
    go_wp2
    refine bodyPost_ret (results_none rfl _ _ _) rfl ?_
    exact ⟨rfl, by rw [Hs.out, List.append_nil]; exact HT1.out⟩
  · have Hs := hid (stFrom_zero_yes hs)
    rintro e w1 ⟨rfl, he1⟩
    have HT1 := hid (HT.out.step he1)
    clear he1 d0 c0 c1 c2
    obtain ⟨v0, ho, hown⟩ := HT1.out.out
    have d0 := cell_of_one HT1.out.mv
    have d1 := cell_of_one ho
    have f1 := free_of_one ho
    have HO := hid ho
    have HOwn := hid hown
    have HM1 := hid (HT1.out.ib.ints (n := m.length) rfl (by omega))
    clear ho hown
    go_wp2
    obtain ⟨us, hrow, hlen, heach⟩ := HOwn.out
    have HRow := hid hrow
    have HEach := hid heach
    have Hlen := hid hlen
    have husl : us.length ≤ 15625 := by omega
    have hB := HT1.out.ub.2
    obtain ⟨i0, hi, hz0, hz1, hz2⟩ := info_parts info_ints
    clear hrow heach hlen
    have hbo := HT1.out.ub.1.2.1
    go_region_law (first
        | (rw [if_pos (by rfl)]
           go_simp
           go_at_call 55
           refine (Clone_any _ m _ (HM1.out.ext (Ext.drew (Ext.refl _)))).mono ?_
           rintro e w2 ⟨u, rfl, hu, he2⟩
           obtain ⟨ua, uc, rfl⟩ := own_len hu
           have d2 := he2.cell d1
           have d2' := (Ext.alloc he2 (.cells #[.slice ua m.length uc] 23)).cell d1)
        | (have hsz2 := he2.size
           rw [World.size_drew] at hsz2
           have hb2 : Below B w1 (w2.alloc (.cells #[.slice ua m.length uc] 23)) := (((Ext.refl w1).drew.trans he2).alloc _).below hB
           refine step_append_lies _ (by rfl) _ _ _ (by rfl) B 23 i0 _ 1 24 Try.underlying22 hi hz0 hz1 hz2 rfl (by omega) v0 us.length us (by rfl) (ownsRow_ext HRow.out (((Ext.refl w1).drew.trans he2).alloc _))
            ⟨w2.heap.size, 0, none⟩ 1 1 [.slice ua m.length uc] (by rfl) (by rfl) (cell_one_new _ _ _) (by intro u hu; simp at hu; subst hu; rfl) (by omega) (by unfold maxLen; omega) (by omega) (by simp; omega) (w2.heap.size + 1) (by simp) ?_
           intro gg cap w3 hown3 hgrow hat hlt
           have hb3 := Below.grown hb2 hgrow (by simp; omega) (fun k hk => (HRow.out.lt k hk).1)
           have dO : w3.cell? ⟨bo, 0, none⟩ = some v0 := by rw [hb3.cell (p := ⟨bo, 0, none⟩) hbo]; exact d1
           have dF : w3.frozen? ⟨bo, 0, none⟩ = false := by rw [hb3.frozen (p := ⟨bo, 0, none⟩) hbo]; exact f1))
    all_goals
      have HT3 := hid (HT1.out.more HO.out HRow.out Hlen.out HEach.out ((Ext.refl w1).drew.trans he2) (by rw [World.size_drew]; exact hB) hu (by omega) hgrow hown3)
      clear dO dF d2 d2' hb3 hown3 hgrow hat he2 hu hb2 d0 d1 f1
      go_wp2
      refine bodyPost_ret (results_none rfl _ _ _) rfl ?_
      exact ⟨rfl, by rw [Hs.out]; exact HT3.out⟩

end Go.Proofs.Ytkdfbbkonbgfmaa
