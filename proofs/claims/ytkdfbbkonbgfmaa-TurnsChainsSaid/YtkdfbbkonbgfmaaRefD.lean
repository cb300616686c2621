/-
  Contracts of the reference's stable and Stable.
-/
import Derived.Test.YtkdfbbkonbgfmaaRefC
namespace Go.Proofs.Ytkdfbbkonbgfmaa
open Go.RowKit

theorem OwnRows.one {B : Nat} {w : World} {u : Value} {xs : List Int} (hu : OwnI B w u xs) (hx : xs.length ≤ 17592186044416) (hB : B ≤ w.heap.size) : OwnRows B (w.alloc (.cells #[u] 23)) (.slice (some ⟨w.heap.size, 0, none⟩) 1 1) [xs] := by
  refine ⟨[u], World.ownsRow_lit w #[u] 1 hB (by decide) rfl, rfl, fun i h1 h2 => ?_⟩
  obtain rfl : i = 0 := by simp at h1; omega
  exact ⟨World.ownsRow.alloc hu _, hx⟩
theorem rows_one_cell {B : Nat} {w : World} {us : List Value} {xss : List (List Int)} (h : ∀ i, (h1 : i < us.length) → (h2 : i < xss.length) → OwnI B w us[i] xss[i] ∧ xss[i].length ≤ 17592186044416) (hl : us.length = xss.length) : ∀ u ∈ us, u.oneCell' = true := by
  intro u hu
  obtain ⟨i, hi, rfl⟩ := List.getElem_of_mem hu
  obtain ⟨a, n, c, e⟩ := own_shape (h i hi (by omega)).1
  rw [e]; rfl
theorem ownI_grown0 {B B' : Nat} {w w' : World} {v z : Value} {us : List Value} {n : Nat} {zs : List Int} (hrow : w.ownsRow B 23 1 v n us) (hg : w.grownBy w' v.ownBlock) (h : OwnI B' w z zs) : OwnI B' w' z zs := by
  refine World.ownsRow.kept h hg ?_
  obtain ⟨-, ha | ⟨g, cap, cur, rfl, hgB, hh, r⟩⟩ := h
  · left; rw [ha.1]; rfl
  · right
    obtain ⟨-, hb | ⟨g', cap', cur', rfl, hgB', hh', r'⟩⟩ := hrow
    · rw [hb.1]; simp [Value.ownBlock]
    · simp only [Value.ownBlock, ne_eq, Option.some.injEq]
      rintro rfl
      rw [hh] at hh'; simp at hh'
theorem OwnRows.join {B B2 : Nat} {w w' : World} {v v' : Value} {us us2 : List Value} {xss yss : List (List Int)} (hrow : w.ownsRow B 23 1 v us.length us) (h1 : us.length = xss.length) (h2 : us2.length = yss.length)
    (e1 : ∀ i, (h1 : i < us.length) → (h2 : i < xss.length) → OwnI B w us[i] xss[i] ∧ xss[i].length ≤ 17592186044416) (e2 : ∀ i, (h1 : i < us2.length) → (h2 : i < yss.length) → OwnI B2 w us2[i] yss[i] ∧ yss[i].length ≤ 17592186044416)
    (hB : B ≤ B2) (hg : w.grownBy w' v.ownBlock) (hrow' : w'.ownsRow B 23 1 v' (us.length + us2.length) (us ++ us2)) : OwnRows B w' v' (xss ++ yss) := by
  refine ⟨us ++ us2, by rw [List.length_append]; exact hrow', by simp [h1, h2], fun i a b => ?_⟩
  by_cases hi : i < us.length
  · rw [List.getElem_append_left hi]
    simp only [List.getElem_append_left (show i < xss.length by omega)]
    have := e1 i hi (by omega)
    exact ⟨ownI_grown0 hrow hg this.1, this.2⟩
  · have ha : i - us.length < us2.length := by rw [List.length_append] at a; omega
    have key := e2 (i - us.length) ha (by omega)
    rw [List.getElem_append_right (by omega)]
    have hx : (xss ++ yss)[i]'b = yss[i - us.length]'(by omega) := by
      rw [List.getElem_append_right (by omega)]; simp only [h1]
    rw [hx]
    exact ⟨ownI_grown0 hrow hg (ownsRow_base key.1 hB), key.2⟩

set_option maxRecDepth 20000 in
set_option maxHeartbeats 4000000 in
theorem rstable_end (vh vs vp vb : Value) (p : PlanD) (hok : PlanOk p) (b : List Int) (w : World) (hp : PlanR w vh vs vp p) (hb : Ints w vb b) (hl : b.length = p.hands.length) :
    Calls Try.prog 70 #[.agg #[vh, vs, vp], vb] w fun e w' => ∃ u, e = .returned u ∧ OwnRows w.heap.size w' u (stFrom p hok 0 b) ∧ Ext w w' := by
  obtain ⟨aoh, caph, aos, caps, aop, capp, rfl, rfl, rfl⟩ := planR_shape hp
  have HP := hid hp
  have HB := hid hb
  obtain ⟨-, ao, cap, rfl, hcap, hc⟩ := id hb
  obtain ⟨b0, o0, rfl, -⟩ := hc 0 (by rw [hl]; have := hok.h1; omega)
  have hn6 := hok.h6
  have hbl6 : b.length ≤ 6 := by omega
  have he : ((b.length : Int) == (p.hands.length : Int)) = true := by rw [hl]; simp
  have Hcells : Hid (∀ w', Ext w w' → ∀ j u, (b.map (Value.int .i64))[j]? = some u → w'.cell? ((⟨b0, o0, none⟩ : Addr).add j) = some u) := by
    intro w' e j u hj
    rw [List.getElem?_map, Option.map_eq_some_iff] at hj
    obtain ⟨x, hx, rfl⟩ := hj
    obtain ⟨hjl, rfl⟩ := List.getElem?_eq_some_iff.1 hx
    obtain ⟨b1, off, h1, h2⟩ := hc j hjl
    simp only [Option.some.injEq, Addr.mk.injEq, and_true] at h1
    obtain ⟨rfl, rfl⟩ := h1
    rw [Addr.add_lit]; exact e.cell h2
  obtain ⟨i1, hj, hz0', hz1', hz2'⟩ := info_parts info_int
  clear hp hb hl hc
  go_enter Try.func70, Try.ntmps70
  go_wp2_with (fail)
  refine (RMatching_any _ _ _ _ p hok b _ (HP.out.ext (Ext.ofAlloc _ _)) (HB.out.ext (Ext.ofAlloc _ _))).mono ?_
  cases hm : matB p hok b
  · have Hf := hid (stFrom_zero_no (p := p) (hp := hok) (b := b) (stB_no fun h => by have := matB_iff.2 h.mat; rw [hm] at this; simp at this))
    rintro e w1 ⟨rfl, he1⟩
    have HE := hid ((Ext.ofAlloc w _).trans he1)
    clear he1
    go_wp2
    go_ret
    exact ⟨_, rfl, by rw [Hf.out]; exact OwnRows.nil _ _, HE.out⟩
  · have Hm := hid (matB_iff.1 hm)
    rintro e w1 ⟨rfl, he1⟩
    obtain ⟨c0, c1, c2⟩ := ((Box3.alloc w 25 (.slice aoh p.hands.length caph) (.slice aos p.shifts.length caps) (.slice aop p.places.length capp)).ext he1).cells
    have HE := hid ((Ext.ofAlloc w _).trans he1)
    clear he1
    go_wp2_with (fail)
    refine (RBlocks_any _ _ _ _ p hok b _ (HP.out.ext HE.out) (HB.out.ext HE.out) Hm.out).mono ?_
    rintro e w2 ⟨u, rfl, hu, he2⟩
    obtain ⟨ua, uc, rfl⟩ := own_len hu
    have hz := blk_len_zero Hm.out
    have HE2 := hid (HE.out.trans he2)
    clear hu he2 c0 c1 c2
    generalize (blkAll p hok b).length = L at *
    cases hs : stB p hok b
    · have Hf := hid (stFrom_zero_no hs)
      rw [hs] at hz
      go_wp2
      go_ret
      exact ⟨_, rfl, by rw [Hf.out]; exact OwnRows.nil _ _, HE2.out⟩
    · have Hf := hid (stFrom_zero_yes hs)
      rw [hs] at hz
      have hszw := HE2.out.size
      have hown0 : (w2.alloc (.cells #[] 3)).ownsRow w2.heap.size 3 1 (.slice (some ⟨w2.heap.size, 0, none⟩) 0 0) 0 [] := World.ownsRow_lit w2 #[] 0 (Nat.le_refl _) (by decide) rfl
      have Hown0 := hid hown0
      clear hown0
      go_wp2_with (at_builtin; go_must (refine wpList_append_own _ rfl _ _ 23 rfl w2.heap.size 3 i1 (.int .i64 0) 1 8 Try.underlying23 hj hz0' hz1' hz2' rfl (by decide) _ _ _ rfl Hown0.out ⟨b0, o0, none⟩ b.length cap (b.map (Value.int .i64)) rfl ?c1 (Hcells.out _ (HE2.out.alloc _)) (int_oneCell b) ?c3 ?c4 ?c5 ?_))
      case c1 => simp
      case c3 => unfold maxLen; omega
      case c4 => omega
      case c5 => simp
      intro v' w3 hown' hg _
      have HV : Hid (OwnI w2.heap.size w3 v' b) := by
        first
          | exact hown'
          | (have h := hown'
             simp only [Nat.zero_add, List.nil_append] at h
             exact h)
      have HE3 := hid (HE2.out.trans (Below.grown (Ext.ofAlloc w2 (.cells #[] 3)) hg (by simp) (by simp [Value.ownBlock])))
      have hsz3 := HE3.out.size
      obtain ⟨va, vc, rfl⟩ := own_len HV.out
      clear hown' hg
      go_wp2
      go_ret
      exact ⟨_, rfl, by rw [Hf.out]; exact (OwnRows.one (B := w.heap.size) (ownsRow_base HV.out hszw) (by omega) hsz3), HE3.out.alloc _⟩

set_option maxRecDepth 20000 in
set_option maxHeartbeats 4000000 in
theorem rstable_any (vh vs vp : Value) (p : PlanD) (hok : PlanOk p) : ∀ (k : Nat) (b : List Int) (vb : Value) (w : World), b.length + k = p.hands.length → PlanR w vh vs vp p → Ints w vb b →
    Calls Try.prog 70 #[.agg #[vh, vs, vp], vb] w fun e w' => ∃ u, e = .returned u ∧ OwnRows w.heap.size w' u (stFrom p hok k b) ∧ Ext w w' := by
  intro k
  induction k with
  | zero => intro b vb w hl hp hb; exact rstable_end vh vs vp vb p hok b w hp hb (by omega)
  | succ k ih =>
    intro b vb w hl hp hb
    obtain ⟨aoh, caph, aos, caps, aop, capp, rfl, rfl, rfl⟩ := planR_shape hp
    have HP := hid hp
    have IH := hid ih
    obtain ⟨-, ao, cap, rfl, hcap, hc⟩ := id hb
    have hn6 := hok.h6
    have hs4 := hok.s4
    have hbl6 : b.length ≤ 5 := by omega
    have hbn : (b.length : Int) < p.hands.length := by omega
    have he : ((b.length : Int) == (p.hands.length : Int)) = false := by simp; omega
    have hpow : 5 * 5 ^ k ≤ 15625 := by
      have h1 : 5 ^ (k + 1) ≤ 5 ^ 6 := Nat.pow_le_pow_right (by decide) (by omega)
      rw [Nat.pow_succ] at h1; omega
    have HB : Hid (∀ w', Ext w w' → (ao = none → b.length = 0) ∧ ∀ b0, ao = some b0 → ∀ j u, (b.map (Value.int .i64))[j]? = some u → w'.cell? (b0.add j) = some u) := by
      intro w' e
      refine ⟨fun h0 => ?_, fun b0 h0 j u hj => ?_⟩
      · rcases Nat.eq_zero_or_pos b.length with h1 | h1
        · exact h1
        · obtain ⟨b1, off, h2, -⟩ := hc 0 h1
          rw [h0] at h2; simp at h2
      · rw [List.getElem?_map, Option.map_eq_some_iff] at hj
        obtain ⟨x, hx, rfl⟩ := hj
        obtain ⟨hjl, rfl⟩ := List.getElem?_eq_some_iff.1 hx
        obtain ⟨b1, off, h1, h2⟩ := hc j hjl
        rw [h0] at h1
        simp only [Option.some.injEq] at h1
        subst h1
        rw [Addr.add_lit]; exact e.cell h2
    obtain ⟨i0, hi, hz0, hz1, hz2⟩ := info_parts info_ints
    obtain ⟨i1, hj, hz0', hz1', hz2'⟩ := info_parts info_int
    have e0 := hid (Ext.ofAlloc w (.cells #[.slice aoh p.hands.length caph, .slice aos p.shifts.length caps, .slice aop p.places.length capp] 25))
    have X0 := hid (Box3.alloc w 25 (.slice aoh p.hands.length caph) (.slice aos p.shifts.length caps) (.slice aop p.places.length capp))
    have Hl := hid hl
    clear hp hb hc ih hl
    go_enter Try.func70, Try.ntmps70
    go_wp2
    have hszW : (w.alloc (.cells #[.slice aoh p.hands.length caph, .slice aos p.shifts.length caps, .slice aop p.places.length capp] 25)).heap.size = w.heap.size + 1 := by simp
    have HszW := hid hszW
    clear hszW
    generalize w.alloc (.cells #[.slice aoh p.hands.length caph, .slice aos p.shifts.length caps, .slice aop p.places.length capp] 25) = W at *
    go_loopg [7, 5] (p.shifts.length + 1) (fun g i v wr => ∃ j : Nat, j + g = p.shifts.length + 1 ∧ i = .int .i64 ((j : Int) - 1) ∧ Hid (OwnRows (w.heap.size + 1) wr v (stPart p hok k b j)) ∧ Hid (Ext W wr))
    case atStart => exact ⟨0, by omega, rfl, by rw [stPart_zero]; exact OwnRows.nil _ _, Ext.refl _⟩
    case round =>
      obtain ⟨j, hjj, rfl, OWN, EE⟩ := hrel
      have Hj := hid hjj
      have hjl : j ≤ p.shifts.length + 1 := by omega
      have E := hid (e0.out.trans EE.out)
      obtain ⟨c0, c1, c2⟩ := (X0.out.ext EE.out).cells
      clear hjj
      by_cases hjS : j < p.shifts.length + 1
      · have hlt : decide ((j : Int) - 1 < (p.shifts.length : Int)) = true := by simp; omega
        have hsz := EE.out.size
        rw [HszW.out] at hsz
        by_cases hj0 : j = 0
        · have hm1 : ((j : Int) - 1 == -1) = true := by rw [hj0]; rfl
          have HOK := hid (show okV p b.length ((j : Int) - 1) = true by rw [hj0]; rfl)
          clear hj0
          go_wp2
          have hnb := (HB.out _ E.out.drew).1
          have hcb := (HB.out _ E.out.drew).2
          obtain ⟨us, hrow, hus, heach⟩ := OWN.out
          have HRow := hid hrow
          have HEach := hid heach
          have hul := stPart_len (p := p) (hp := hok) (k := k) (b := b) (j := j)
          have hul2 : j * 5 ^ k ≤ 5 * 5 ^ k := Nat.mul_le_mul_right _ (by omega)
          have husl : us.length ≤ 15625 := by omega
          have Hus := hid hus
          have hbc : (b.length : Int) ≤ cap := by omega
          have hb0 : (0 : Int) ≤ (b.length : Int) := by omega
          clear hrow heach hus hul hul2
          refine wp_region_held_drew (S := (fun w' => w'.cell? ⟨w.heap.size, 0, none⟩ = some (.slice aoh p.hands.length caph) ∧ w'.cell? ⟨w.heap.size, 1, none⟩ = some (.slice aos p.shifts.length caps) ∧ w'.cell? ⟨w.heap.size, 2, none⟩ = some (.slice aop p.places.length capp))) (by kernel_rfl) ?hSb0 (fun hHeld => ?_)
          case hSb0 => (first | (exact ⟨c0, c1, c2⟩) | ((try dsimp only); exact ⟨c0, c1, c2⟩))
          refine wpAnyH_tk 0 (v := ?vb0) rfl (by kernel_rfl) (by kernel_rfl) (by kernel_rfl) (fun _ _ _ h => h) (by rfl) ?hyb0 (by assumption) ?_
          case hyb0 => (intro w hSw; (try dsimp only at hSw); go_simp <;> with_reducible rfl)
          (try simp only [Act.put, List.setIfInBounds_toArray, List.set_cons_zero, List.set_cons_succ])
          refine wpAnyH_tk 1 (v := ?vb1) rfl (by kernel_rfl) (by kernel_rfl) (by kernel_rfl) (fun _ _ _ h => h) (by rfl) ?hyb1 (by assumption) ?_
          case hyb1 => (intro w hSw; (try dsimp only at hSw); go_simp <;> with_reducible rfl)
          (try simp only [Act.put, List.setIfInBounds_toArray, List.set_cons_zero, List.set_cons_succ])
          refine wpAnyH_tk 2 (v := ?vb2) rfl (by kernel_rfl) (by kernel_rfl) (by kernel_rfl) (fun _ _ _ h => h) (by rfl) ?hyb2 (by assumption) ?_
          case hyb2 => (intro w hSw; (try dsimp only at hSw); go_simp <;> with_reducible rfl)
          (try simp only [Act.put, List.setIfInBounds_toArray, List.set_cons_zero, List.set_cons_succ])
          refine wpAnyH_tk 3 (v := ?vb3) rfl (by kernel_rfl) (by kernel_rfl) (by kernel_rfl) (fun _ _ _ h => h) (by rfl) ?hyb3 (by assumption) ?_
          case hyb3 => (intro w hSw; (try dsimp only at hSw); go_simp <;> with_reducible rfl)
          (try simp only [Act.put, List.setIfInBounds_toArray, List.set_cons_zero, List.set_cons_succ])
          refine wpAnyH_tk 4 (v := ?vb4) rfl (by kernel_rfl) (by kernel_rfl) (by kernel_rfl) (fun _ _ _ h => h) (by rfl) ?hyb4 (by assumption) ?_
          case hyb4 => (intro w hSw; (try dsimp only at hSw); go_simp <;> with_reducible rfl)
          (try simp only [Act.put, List.setIfInBounds_toArray, List.set_cons_zero, List.set_cons_succ])
          refine wpAnyH_tk 5 (v := ?vb5) rfl (by kernel_rfl) (by kernel_rfl) (by kernel_rfl) (fun _ _ _ h => h) (by rfl) ?hyb5 (by assumption) ?_
          case hyb5 => (intro w hSw; (try dsimp only at hSw); go_simp <;> with_reducible rfl)
          (try simp only [Act.put, List.setIfInBounds_toArray, List.set_cons_zero, List.set_cons_succ])
          refine wpAnyH_tk 6 (v := ?vb6) rfl (by kernel_rfl) (by kernel_rfl) (by kernel_rfl) (fun _ _ _ h => h) (by rfl) ?hyb6 (by assumption) ?_
          case hyb6 => (intro w hSw; (try dsimp only at hSw); go_simp <;> with_reducible rfl)
          (try simp only [Act.put, List.setIfInBounds_toArray, List.set_cons_zero, List.set_cons_succ])
          refine wpAnyH_one 7 rfl (by kernel_rfl) (by rfl) (fun K hK => ?_)
          go_simp
          refine hK.out _ _ ?hSb8 (fun hHeld => ?_)
          case hSb8 => (first | (exact ⟨(Ext.ofAlloc _ _).cell c0, (Ext.ofAlloc _ _).cell c1, (Ext.ofAlloc _ _).cell c2⟩) | ((try dsimp only); exact ⟨(Ext.ofAlloc _ _).cell c0, (Ext.ofAlloc _ _).cell c1, (Ext.ofAlloc _ _).cell c2⟩))
          clear hK K
          (try simp only [Act.put, List.setIfInBounds_toArray, List.set_cons_zero, List.set_cons_succ])
          refine wpAnyH_one 8 rfl (by kernel_rfl) (by rfl) (fun K hK => ?_)
          (refine wp_append_full _ _ 23 rfl 3 i1 (.int .i64 0) 1 8 Try.underlying23 hj hz0' hz1' hz2' rfl (by decide) ao b.length (b.map (Value.int .i64)) (by rfl) (by simp) (fun h0 => hnb h0) (fun b0 hb0 j0 u0 h0 => (Ext.ofAlloc _ _).cell (hcb b0 hb0 j0 u0 h0)) ⟨wr.heap.size, 0, none⟩ 1 1 [.int .i64 ((j : Int) - 1)] (by rfl) (by rfl) (cell_one_new _ _ _) (by intro u hu; simp at hu; subst hu; rfl) (by omega) (by unfold maxLen; omega) (by omega) ?_; intro v8 w8 hown8 hg8; have e8 : Ext wr.drew w8 := Below.grown (Ext.ofAlloc wr.drew _) hg8 (by simp) (fun k hk => by simp at hk); have hv8 : OwnI _ w8 v8 (b ++ [(j : Int) - 1]) := OwnI.push rfl hown8; obtain ⟨a8, n8, q8, rfl⟩ := own_shape hown8; have HV8 := hid (hv8.ints (by rw [List.length_append, List.length_singleton]; omega)))
          refine hK.out _ _ ?hSb9 (fun hHeld => ?_)
          case hSb9 => (first | (exact ⟨e8.cell c0, e8.cell c1, e8.cell c2⟩) | ((try dsimp only); exact ⟨e8.cell c0, e8.cell c1, e8.cell c2⟩))
          clear hK K
          (try simp only [Act.put, List.setIfInBounds_toArray, List.set_cons_zero, List.set_cons_succ])
          refine wpAnyH_one 9 rfl (by kernel_rfl) (by rfl) (fun K hK => ?_)
          go_simp
          (go_at_call 70; refine (IH.out (b ++ [(j : Int) - 1]) _ _ (by have := Hl.out; rw [List.length_append, List.length_singleton]; omega) (HP.out.ext (E.out.drew.trans e8)) HV8.out).mono ?_; rintro e w9 ⟨u9, rfl, hu9, he9⟩; obtain ⟨us2, r1, r2, r3⟩ := hu9; have hus2 : us2.length ≤ 15625 := (by rw [r2]; exact Nat.le_trans (stFrom_len _ _) (by omega)))
          refine hK.out _ _ ?hSb10 (fun hHeld => ?_)
          case hSb10 => (first | (exact ⟨(e8.trans he9).cell c0, (e8.trans he9).cell c1, (e8.trans he9).cell c2⟩) | ((try dsimp only); exact ⟨(e8.trans he9).cell c0, (e8.trans he9).cell c1, (e8.trans he9).cell c2⟩))
          clear hK K
          (try simp only [Act.put, List.setIfInBounds_toArray, List.set_cons_zero, List.set_cons_succ])
          refine wpAnyH_one 10 rfl (by kernel_rfl) (by rfl) (fun K hK => ?_)
          (refine wp_append_row _ _ 22 rfl (w.heap.size + 1) w8.heap.size 23 i0 (.slice none 0 0) 1 24 Try.underlying22 hi hz0 hz1 hz2 rfl (by decide) _ us.length us (by rfl) (ownsRow_ext HRow.out ((Ext.refl wr).drew.trans (e8.trans he9))) u9 us2.length us2 (by rfl) r1 (rows_one_cell r3 r2) (by unfold maxLen; omega) (by omega) (by have := e8.size; have := he9.size; simp only [World.size_drew] at *; omega) ?_; intro v10 w10 hown10 hg10; have e10 : Below (w.heap.size + 1) w9 w10 := Below.grown (Below.refl _ _) hg10 (by have := e8.size; have := he9.size; simp only [World.size_drew] at *; omega) (fun k hk => (HRow.out.lt k hk).1))
          refine hK.out _ _ ?hSb11 (fun hHeld => ?_)
          case hSb11 => (first | (exact ⟨by rw [e10.cell (p := ⟨w.heap.size, 0, none⟩) (Nat.lt_succ_self _)]; exact (e8.trans he9).cell c0, by rw [e10.cell (p := ⟨w.heap.size, 1, none⟩) (Nat.lt_succ_self _)]; exact (e8.trans he9).cell c1, by rw [e10.cell (p := ⟨w.heap.size, 2, none⟩) (Nat.lt_succ_self _)]; exact (e8.trans he9).cell c2⟩) | ((try dsimp only); exact ⟨by rw [e10.cell (p := ⟨w.heap.size, 0, none⟩) (Nat.lt_succ_self _)]; exact (e8.trans he9).cell c0, by rw [e10.cell (p := ⟨w.heap.size, 1, none⟩) (Nat.lt_succ_self _)]; exact (e8.trans he9).cell c1, by rw [e10.cell (p := ⟨w.heap.size, 2, none⟩) (Nat.lt_succ_self _)]; exact (e8.trans he9).cell c2⟩))
          clear hK K
          (try simp only [Act.put, List.setIfInBounds_toArray, List.set_cons_zero, List.set_cons_succ])
          refine wpAnyH_tk 11 (v := ?vb11) rfl (by kernel_rfl) (by kernel_rfl) (by kernel_rfl) (fun _ _ _ h => h) (by rfl) ?hyb11 (by assumption) ?_
          case hyb11 => (intro w hSw; (try dsimp only at hSw); go_simp <;> with_reducible rfl)
          (try simp only [Act.put, List.setIfInBounds_toArray, List.set_cons_zero, List.set_cons_succ])
          refine wpAnyH_done (by kernel_rfl) ?_ _
          have EE9 := EE.out.drew.trans (e8.trans he9)
          have EE10 : Ext W w10 := Below.grown EE9 hg10 EE9.size (fun k hk => by have := (HRow.out.lt k hk).1; rw [HszW.out]; exact this)
          have HEE := hid EE10
          have hsz8 := e8.size
          have hRR := OwnRows.join (ownsRow_ext HRow.out ((Ext.refl wr).drew.trans (e8.trans he9))) Hus.out r2 (fun i a b => ⟨ownsRow_ext (HEach.out i a b).1 ((Ext.refl wr).drew.trans (e8.trans he9)), (HEach.out i a b).2⟩) r3 (by simp only [World.size_drew] at hsz8; omega) hg10 hown10
          rw [← stPart_yes HOK.out] at hRR
          have HRR := hid hRR
          clear hRR EE9 EE10 e10 hg10 hown10 he9 r1 r2 r3 e8 hg8 hown8 hv8 c0 c1 c2
          go_wp2
          go_roundg (gk - 1)
          case rel => exact ⟨j + 1, by have := Hj.out; omega, by go_num, HRR.out, HEE.out⟩
          case measure => have := Hj.out; omega
        · have hm1 : ((j : Int) - 1 == -1) = false := by simp; omega
          have hj0' : 0 ≤ (j : Int) - 1 := by omega
          have hj1 : (j : Int) - 1 < p.shifts.length := by omega
          cases hps : possB p b.length ((j : Int) - 1)
          · have HOK := hid (show okV p b.length ((j : Int) - 1) = false by unfold okV; rw [hps, hm1]; rfl)
            go_wp2_with (fail)
            refine (Rpossible_any _ _ _ p b.length ((j : Int) - 1) _ (HP.out.ext E.out) (by omega) hbn hj0' hj1).mono ?_
            rw [hps]
            rintro e w5 ⟨rfl, he5⟩
            have O5 := hid (OWN.out.ext he5)
            have EE5 := hid (EE.out.trans he5)
            clear he5 c0 c1 c2
            go_wp2
            go_roundg (gk - 1)
            case rel => exact ⟨j + 1, by have := Hj.out; omega, by go_num, by rw [stPart_no HOK.out]; exact O5.out, EE5⟩
            case measure => have := Hj.out; omega
          · have HOK := hid (show okV p b.length ((j : Int) - 1) = true by unfold okV; rw [hps, hm1]; rfl)
            go_wp2_with (fail)
            refine (Rpossible_any _ _ _ p b.length ((j : Int) - 1) _ (HP.out.ext E.out) (by omega) hbn hj0' hj1).mono ?_
            rw [hps]
            rintro e w5 ⟨rfl, he5⟩
            have O5 := hid (OWN.out.ext he5)
            have EE5 := hid (EE.out.trans he5)
            have hsz := EE5.out.size
            rw [HszW.out] at hsz
            have E := hid (e0.out.trans EE5.out)
            clear he5 c0 c1 c2 OWN EE hps hj0
            obtain ⟨c0, c1, c2⟩ := (X0.out.ext EE5.out).cells
            go_wp2
            have hnb := (HB.out _ E.out.drew).1
            have hcb := (HB.out _ E.out.drew).2
            obtain ⟨us, hrow, hus, heach⟩ := O5.out
            have HRow := hid hrow
            have HEach := hid heach
            have hul := stPart_len (p := p) (hp := hok) (k := k) (b := b) (j := j)
            have hul2 : j * 5 ^ k ≤ 5 * 5 ^ k := Nat.mul_le_mul_right _ (by omega)
            have husl : us.length ≤ 15625 := by omega
            have Hus := hid hus
            have hbc : (b.length : Int) ≤ cap := by omega
            have hb0 : (0 : Int) ≤ (b.length : Int) := by omega
            clear hrow heach hus hul hul2
            refine wp_region_held_drew (S := (fun w' => w'.cell? ⟨w.heap.size, 0, none⟩ = some (.slice aoh p.hands.length caph) ∧ w'.cell? ⟨w.heap.size, 1, none⟩ = some (.slice aos p.shifts.length caps) ∧ w'.cell? ⟨w.heap.size, 2, none⟩ = some (.slice aop p.places.length capp))) (by kernel_rfl) ?hSa0 (fun hHeld => ?_)
            case hSa0 => (first | (exact ⟨c0, c1, c2⟩) | ((try dsimp only); exact ⟨c0, c1, c2⟩))
            refine wpAnyH_tk 0 (v := ?va0) rfl (by kernel_rfl) (by kernel_rfl) (by kernel_rfl) (fun _ _ _ h => h) (by rfl) ?hya0 (by assumption) ?_
            case hya0 => (intro w hSw; (try dsimp only at hSw); go_simp <;> with_reducible rfl)
            (try simp only [Act.put, List.setIfInBounds_toArray, List.set_cons_zero, List.set_cons_succ])
            refine wpAnyH_tk 1 (v := ?va1) rfl (by kernel_rfl) (by kernel_rfl) (by kernel_rfl) (fun _ _ _ h => h) (by rfl) ?hya1 (by assumption) ?_
            case hya1 => (intro w hSw; (try dsimp only at hSw); go_simp <;> with_reducible rfl)
            (try simp only [Act.put, List.setIfInBounds_toArray, List.set_cons_zero, List.set_cons_succ])
            refine wpAnyH_tk 2 (v := ?va2) rfl (by kernel_rfl) (by kernel_rfl) (by kernel_rfl) (fun _ _ _ h => h) (by rfl) ?hya2 (by assumption) ?_
            case hya2 => (intro w hSw; (try dsimp only at hSw); go_simp <;> with_reducible rfl)
            (try simp only [Act.put, List.setIfInBounds_toArray, List.set_cons_zero, List.set_cons_succ])
            refine wpAnyH_tk 3 (v := ?va3) rfl (by kernel_rfl) (by kernel_rfl) (by kernel_rfl) (fun _ _ _ h => h) (by rfl) ?hya3 (by assumption) ?_
            case hya3 => (intro w hSw; (try dsimp only at hSw); go_simp <;> with_reducible rfl)
            (try simp only [Act.put, List.setIfInBounds_toArray, List.set_cons_zero, List.set_cons_succ])
            refine wpAnyH_tk 4 (v := ?va4) rfl (by kernel_rfl) (by kernel_rfl) (by kernel_rfl) (fun _ _ _ h => h) (by rfl) ?hya4 (by assumption) ?_
            case hya4 => (intro w hSw; (try dsimp only at hSw); go_simp <;> with_reducible rfl)
            (try simp only [Act.put, List.setIfInBounds_toArray, List.set_cons_zero, List.set_cons_succ])
            refine wpAnyH_tk 5 (v := ?va5) rfl (by kernel_rfl) (by kernel_rfl) (by kernel_rfl) (fun _ _ _ h => h) (by rfl) ?hya5 (by assumption) ?_
            case hya5 => (intro w hSw; (try dsimp only at hSw); go_simp <;> with_reducible rfl)
            (try simp only [Act.put, List.setIfInBounds_toArray, List.set_cons_zero, List.set_cons_succ])
            refine wpAnyH_tk 6 (v := ?va6) rfl (by kernel_rfl) (by kernel_rfl) (by kernel_rfl) (fun _ _ _ h => h) (by rfl) ?hya6 (by assumption) ?_
            case hya6 => (intro w hSw; (try dsimp only at hSw); go_simp <;> with_reducible rfl)
            (try simp only [Act.put, List.setIfInBounds_toArray, List.set_cons_zero, List.set_cons_succ])
            refine wpAnyH_one 7 rfl (by kernel_rfl) (by rfl) (fun K hK => ?_)
            go_simp
            refine hK.out _ _ ?hSa8 (fun hHeld => ?_)
            case hSa8 => (first | (exact ⟨(Ext.ofAlloc _ _).cell c0, (Ext.ofAlloc _ _).cell c1, (Ext.ofAlloc _ _).cell c2⟩) | ((try dsimp only); exact ⟨(Ext.ofAlloc _ _).cell c0, (Ext.ofAlloc _ _).cell c1, (Ext.ofAlloc _ _).cell c2⟩))
            clear hK K
            (try simp only [Act.put, List.setIfInBounds_toArray, List.set_cons_zero, List.set_cons_succ])
            refine wpAnyH_one 8 rfl (by kernel_rfl) (by rfl) (fun K hK => ?_)
            (refine wp_append_full _ _ 23 rfl 3 i1 (.int .i64 0) 1 8 Try.underlying23 hj hz0' hz1' hz2' rfl (by decide) ao b.length (b.map (Value.int .i64)) (by rfl) (by simp) (fun h0 => hnb h0) (fun b0 hb0 j0 u0 h0 => (Ext.ofAlloc _ _).cell (hcb b0 hb0 j0 u0 h0)) ⟨w5.heap.size, 0, none⟩ 1 1 [.int .i64 ((j : Int) - 1)] (by rfl) (by rfl) (cell_one_new _ _ _) (by intro u hu; simp at hu; subst hu; rfl) (by omega) (by unfold maxLen; omega) (by omega) ?_; intro v8 w8 hown8 hg8; have e8 : Ext w5.drew w8 := Below.grown (Ext.ofAlloc w5.drew _) hg8 (by simp) (fun k hk => by simp at hk); have hv8 : OwnI _ w8 v8 (b ++ [(j : Int) - 1]) := OwnI.push rfl hown8; obtain ⟨a8, n8, q8, rfl⟩ := own_shape hown8; have HV8 := hid (hv8.ints (by rw [List.length_append, List.length_singleton]; omega)))
            refine hK.out _ _ ?hSa9 (fun hHeld => ?_)
            case hSa9 => (first | (exact ⟨e8.cell c0, e8.cell c1, e8.cell c2⟩) | ((try dsimp only); exact ⟨e8.cell c0, e8.cell c1, e8.cell c2⟩))
            clear hK K
            (try simp only [Act.put, List.setIfInBounds_toArray, List.set_cons_zero, List.set_cons_succ])
            refine wpAnyH_one 9 rfl (by kernel_rfl) (by rfl) (fun K hK => ?_)
            go_simp
            (go_at_call 70; refine (IH.out (b ++ [(j : Int) - 1]) _ _ (by have := Hl.out; rw [List.length_append, List.length_singleton]; omega) (HP.out.ext (E.out.drew.trans e8)) HV8.out).mono ?_; rintro e w9 ⟨u9, rfl, hu9, he9⟩; obtain ⟨us2, r1, r2, r3⟩ := hu9; have hus2 : us2.length ≤ 15625 := (by rw [r2]; exact Nat.le_trans (stFrom_len _ _) (by omega)))
            refine hK.out _ _ ?hSa10 (fun hHeld => ?_)
            case hSa10 => (first | (exact ⟨(e8.trans he9).cell c0, (e8.trans he9).cell c1, (e8.trans he9).cell c2⟩) | ((try dsimp only); exact ⟨(e8.trans he9).cell c0, (e8.trans he9).cell c1, (e8.trans he9).cell c2⟩))
            clear hK K
            (try simp only [Act.put, List.setIfInBounds_toArray, List.set_cons_zero, List.set_cons_succ])
            refine wpAnyH_one 10 rfl (by kernel_rfl) (by rfl) (fun K hK => ?_)
            (refine wp_append_row _ _ 22 rfl (w.heap.size + 1) w8.heap.size 23 i0 (.slice none 0 0) 1 24 Try.underlying22 hi hz0 hz1 hz2 rfl (by decide) _ us.length us (by rfl) (ownsRow_ext HRow.out ((Ext.refl w5).drew.trans (e8.trans he9))) u9 us2.length us2 (by rfl) r1 (rows_one_cell r3 r2) (by unfold maxLen; omega) (by omega) (by have := e8.size; have := he9.size; simp only [World.size_drew] at *; omega) ?_; intro v10 w10 hown10 hg10; have e10 : Below (w.heap.size + 1) w9 w10 := Below.grown (Below.refl _ _) hg10 (by have := e8.size; have := he9.size; simp only [World.size_drew] at *; omega) (fun k hk => (HRow.out.lt k hk).1))
            refine hK.out _ _ ?hSa11 (fun hHeld => ?_)
            case hSa11 => (first | (exact ⟨by rw [e10.cell (p := ⟨w.heap.size, 0, none⟩) (Nat.lt_succ_self _)]; exact (e8.trans he9).cell c0, by rw [e10.cell (p := ⟨w.heap.size, 1, none⟩) (Nat.lt_succ_self _)]; exact (e8.trans he9).cell c1, by rw [e10.cell (p := ⟨w.heap.size, 2, none⟩) (Nat.lt_succ_self _)]; exact (e8.trans he9).cell c2⟩) | ((try dsimp only); exact ⟨by rw [e10.cell (p := ⟨w.heap.size, 0, none⟩) (Nat.lt_succ_self _)]; exact (e8.trans he9).cell c0, by rw [e10.cell (p := ⟨w.heap.size, 1, none⟩) (Nat.lt_succ_self _)]; exact (e8.trans he9).cell c1, by rw [e10.cell (p := ⟨w.heap.size, 2, none⟩) (Nat.lt_succ_self _)]; exact (e8.trans he9).cell c2⟩))
            clear hK K
            (try simp only [Act.put, List.setIfInBounds_toArray, List.set_cons_zero, List.set_cons_succ])
            refine wpAnyH_tk 11 (v := ?va11) rfl (by kernel_rfl) (by kernel_rfl) (by kernel_rfl) (fun _ _ _ h => h) (by rfl) ?hya11 (by assumption) ?_
            case hya11 => (intro w hSw; (try dsimp only at hSw); go_simp <;> with_reducible rfl)
            (try simp only [Act.put, List.setIfInBounds_toArray, List.set_cons_zero, List.set_cons_succ])
            refine wpAnyH_done (by kernel_rfl) ?_ _
            have EE9 := EE5.out.drew.trans (e8.trans he9)
            have EE10 : Ext W w10 := Below.grown EE9 hg10 EE9.size (fun k hk => by have := (HRow.out.lt k hk).1; rw [HszW.out]; exact this)
            have HEE := hid EE10
            have hsz8 := e8.size
            have hRR := OwnRows.join (ownsRow_ext HRow.out ((Ext.refl w5).drew.trans (e8.trans he9))) Hus.out r2 (fun i a b => ⟨ownsRow_ext (HEach.out i a b).1 ((Ext.refl w5).drew.trans (e8.trans he9)), (HEach.out i a b).2⟩) r3 (by simp only [World.size_drew] at hsz8; omega) hg10 hown10
            rw [← stPart_yes HOK.out] at hRR
            have HRR := hid hRR
            clear hRR EE9 EE10 e10 hg10 hown10 he9 r1 r2 r3 e8 hg8 hown8 hv8 c0 c1 c2
            go_wp2
            go_roundg (gk - 1)
            case rel => exact ⟨j + 1, by have := Hj.out; omega, by go_num, HRR.out, HEE.out⟩
            case measure => have := Hj.out; omega
      · have hlt : decide ((j : Int) - 1 < (p.shifts.length : Int)) = false := by simp; omega
        obtain rfl : j = p.shifts.length + 1 := by omega
        have HO := hid OWN.out
        rw [stPart_all] at HO
        go_wp2
        go_ret
        exact ⟨_, rfl, HO.out.base (Nat.le_succ _), E.out⟩

set_option maxHeartbeats 1000000 in
theorem RStable_any (vh vs vp : Value) (p : PlanD) (hok : PlanOk p) (w : World) (hp : PlanR w vh vs vp p) :
    Calls Try.prog 36 #[.agg #[vh, vs, vp]] w fun e w' => ∃ u, e = .returned u ∧ OwnRows w.heap.size w' u (stAll p hok) ∧ Ext w w' := by
  obtain ⟨aoh, caph, aos, caps, aop, capp, rfl, rfl, rfl⟩ := planR_shape hp
  have HP := hid hp
  clear hp
  go_enter Try.func36, Try.ntmps36
  go_wp2_with (fail)
  refine (rstable_any _ _ _ p hok p.hands.length [] _ _ (by simp) (HP.out.ext (Ext.ofAlloc _ _)) (Ints.nil _ _ _)).mono ?_
  rintro e w1 ⟨u, rfl, hu, he⟩
  have HU := hid hu
  have HE := hid ((Ext.ofAlloc w _).trans he)
  clear hu he
  go_wp2
  go_ret
  exact ⟨_, rfl, HU.out.base (by simp), HE.out⟩

end Go.Proofs.Ytkdfbbkonbgfmaa
