/-
  The statement TurnsHonest: its walk.
-/
import Derived.Test.YtkdfbbkonbgfmaaAwake
namespace Go.Proofs.Ytkdfbbkonbgfmaa
open Go.RowKit

theorem planR_shape {w : World} {vh vs vp : Value} {p : PlanD} (h : PlanR w vh vs vp p) : ∃ ah ch as_ cs ap cp, vh = .slice ah p.hands.length ch ∧ vs = .slice as_ p.shifts.length cs ∧ vp = .slice ap p.places.length cp := by
  obtain ⟨⟨-, a, b, h1, -⟩, ⟨-, c, d, h2, -⟩, ⟨-, e, f, h3, -⟩⟩ := h
  exact ⟨a, b, c, d, e, f, h1, h2, h3⟩

theorem atI_le_of {l : List Int} {s t : Int} (hl : l.length ≤ 4) (h : ¬ (s ∈ l ∧ rankP l s < rankP l t)) : atI l t ≤ atI l s := by
  unfold atI
  by_cases hs : s ∈ l
  · by_cases ht : t ∈ l
    · rw [if_pos hs, if_pos ht]
      have h2 : ¬ rankP l s < rankP l t := fun h' => h ⟨hs, h'⟩
      rw [rankP_mem hs, rankP_mem ht] at h2; omega
    · exact absurd ⟨hs, by rw [rankP_out ht]; exact rankP_lt hs⟩ h
  · rw [if_neg hs]
    split
    · have := List.idxOf_lt_length_of_mem ‹_›; omega
    · omega

theorem honest_at {p : PlanD} (hp : PlanOk p) {h : Nat} (hh : h < p.hands.length) {l : List Int} (hp' : PlanOk (setH p h l)) {a b : List Int} (ha : IsFirst p hp a) (hb : IsFirst _ hp' b) :
    atI (rowAt p.hands h) (fn a h) ≤ atI (rowAt p.hands h) (fn b h) := by
  refine atI_le_of ?_ fun ⟨hm, hr⟩ => honest hp hh hp' ha hb ⟨possB_iff.2 ⟨hm, ?_⟩, hr⟩
  · have := rowOk_short (rowAt_ok hp.hs (i := h) (by omega)); have := hp.s4; omega
  · have hs0 := ((hp.row (h := h) (by omega)).1 _ hm).1
    rcases hb.st.m.ok h (by show h < (p.hands.set h l).length; simpa using hh) with e | e
    · omega
    · exact (possB_iff.1 e).2

theorem hmod (h : Int) (n : Nat) (h1 : 1 ≤ n) (h6 : n ≤ 6) : ∃ x : Nat, wrap64 ((IntKind.u64.wrap h).tmod n) = x ∧ x < n := by
  have e : IntKind.u64.wrap h = h % 18446744073709551616 := IntKind.wrap_u64 h
  have a0 : 0 ≤ IntKind.u64.wrap h := by rw [e]; exact Int.emod_nonneg _ (by decide)
  have b0 := Int.tmod_nonneg (n : Int) a0
  have b1 := Int.tmod_lt_of_pos (IntKind.u64.wrap h) (show (0 : Int) < n by omega)
  obtain ⟨x, hx⟩ := Int.eq_ofNat_of_zero_le b0
  refine ⟨x, ?_, by omega⟩
  rw [hx]
  exact IntWalk.wrap64_in _ (by omega)

set_option maxRecDepth 20000 in
set_option maxHeartbeats 4000000 in
theorem TurnsHonest_any (vh vs vp vl : Value) (p : PlanD) (hI : Int) (l : List Int) (w : World) (hp : PlanR w vh vs vp p) (hl : Ints w vl l) :
    Calls Try.prog 3 #[.agg #[vh, vs, vp], .int .i64 hI, vl] w fun e w' => e = .returned (.bool true) ∧ Ext w w' := by
  obtain ⟨aoh, caph, aos, caps, aop, capp, rfl, rfl, rfl⟩ := planR_shape hp
  have HP := hid hp
  have HL := hid hl
  clear hl
  cases hb : planOk (cutP p)
  · clear hp
    go_enter Try.func3, Try.ntmps3
    go_wp2_with (fail)
    refine (Of_any _ _ _ p _ (HP.out.ext (Ext.ofAlloc _ _))).mono ?_
    rintro e w1 ⟨uh, us, up, rfl, hu, he1⟩
    have Hu := hid hu
    have He1 := hid ((Ext.ofAlloc w _).trans he1)
    clear hu he1
    go_wp2_with (fail)
    refine (First_bad _ _ _ _ _ Hu.out.planR hb).mono ?_
    rintro e w2 ⟨rfl, he2⟩
    have He2 := hid (He1.out.trans he2)
    clear he2
    go_wp2_with (fail)
    refine (awake_any _).mono ?_
    rintro e w3 ⟨rfl, he3⟩
    have He3 := hid (He2.out.trans he3)
    have HE23 := hid he3
    clear he3
    go_wp2
    go_ret
    exact ⟨rfl, He3.out⟩
  · have hok := planOk_iff.1 hb
    have hcut := cutP_id hok
    rw [hcut] at hok
    have Hok := hid hok
    have Hcut := hid hcut
    have hn1 := hok.h1
    have hn6 := hok.h6
    obtain ⟨bh, oh, -, -, rfl, -, -⟩ := hp.1.at 0 (by omega) (by omega)
    clear hp
    obtain ⟨x, hx, hxn⟩ := hmod hI p.hands.length hn1 hn6
    clear hb hok hcut
    go_enter Try.func3, Try.ntmps3
    go_wp2_with (fail)
    refine (Of_any _ _ _ p _ (HP.out.ext (Ext.ofAlloc _ _))).mono ?_
    rintro e w1 ⟨uh, us, up, rfl, hu, he1⟩
    have hb25 := (Box3.alloc w 25 (.slice (some ⟨bh, oh, none⟩) p.hands.length caph) (.slice aos p.shifts.length caps) (.slice aop p.places.length capp)).ext he1
    have Hu := hid hu.planR
    rw [Hcut.out] at Hu
    have He1 := hid ((Ext.ofAlloc w _).trans he1)
    clear hu he1
    go_wp2_with (fail)
    refine (First_ok _ _ _ p _ Hu.out Hok.out).mono ?_
    rintro e w2 ⟨ua, rfl, ma, hua, hma, he2⟩
    have hX2 := hb25.ext he2
    have He2 := hid (He1.out.trans he2)
    have hla := hma.len
    have HMa := hid hma
    have hua1 := hua.ints (by omega)
    obtain ⟨-, aoa, capa, rfl, -⟩ := id hua1
    have HUa := hid hua1
    have HX2 := hid hX2
    obtain ⟨c0, c1, c2⟩ := hX2.cells
    have hnz : ((p.hands.length : Int) == 0) = false := by rw [beq_eq_false_iff_ne]; omega
    have hla' : ((ma.length : Int) != (p.hands.length : Int)) = false := by rw [hla]; simp
    have hn0 : ¬ (p.hands.length : Int) = 0 := by omega
    have Hla := hid hla
    clear hb25 he2 hua hua1 hma hX2 hla
    go_wp2_with (fail)
    refine (Of_any _ _ _ p _ (HP.out.ext He2.out)).mono ?_
    rintro e w3 ⟨uh', us', up', rfl, hu', he3⟩
    rw [Hcut.out] at hu'
    obtain ⟨hq1, C, hC, hkC, hq2, hq3⟩ := hu'
    obtain ⟨g, gc, rfl, hgB, hgs⟩ := hq1.head (by omega)
    obtain ⟨sa, sn, sc, rfl⟩ := hq2.shape
    obtain ⟨ta, tn, tc, rfl⟩ := own_shape hq3
    have HX3 := hid (HX2.out.ext he3)
    have He3 := hid (He2.out.trans he3)
    have HE23 := hid he3
    have HUa3 := hid (HUa.out.ext he3)
    have HQ1 := hid hq1
    have HQ2 := hid hq2
    have HQ3 := hid hq3
    have HkC := hid (hkC g rfl)
    have hsz2 := He2.out.size
    have hsz3 := he3.size
    clear hq1 hq2 hq3 hkC he3 c0 c1 c2
    go_wp2
    have hbq := Box3.alloc w3 29 (.slice (some ⟨g, 0, none⟩) p.hands.length gc) (.slice sa sn sc) (.slice ta tn tc)
    have Hbq := hid hbq
    have cq := hbq.cells.1
    have he3q := Ext.ofAlloc w3 (.cells #[.slice (some ⟨g, 0, none⟩) p.hands.length gc, .slice sa sn sc, .slice ta tn tc] 29)
    have hszq : (w3.alloc (.cells #[.slice (some ⟨g, 0, none⟩) p.hands.length gc, .slice sa sn sc, .slice ta tn tc] 29)).heap.size = w3.heap.size + 1 := by simp
    generalize w3.alloc (.cells #[.slice (some ⟨g, 0, none⟩) p.hands.length gc, .slice sa sn sc, .slice ta tn tc] 29) = W at *
    have He3q := hid he3q
    have Hszq := hid hszq
    have hxi : (x : Int) < p.hands.length := by omega
    clear hbq he3q hszq
    go_region_held3 (fun w' => w'.cell? ⟨w3.heap.size, 0, none⟩ = some (.slice (some ⟨g, 0, none⟩) p.hands.length gc))
      (first | exact cq | exact he4.cell cq | (rw [World.cell?_setCell_other (h := by simp <;> omega)]; exact he4.cell cq))
      (first | (go_at_call 20; refine (list_any _ l _ (HL.out.ext ((He3.out.trans He3q.out).drew))).mono ?_; rintro e w4 ⟨ul, rfl, hul, he4⟩; obtain ⟨la, ln, lc, rfl⟩ := own_shape hul; obtain ⟨hset1, ⟨vo, hcell⟩, hfr, -⟩ := (HQ1.out.ext ((He3q.out.drew).trans he4)).set (x := x) hxn (ownsRow_base hul (by show w2.heap.size ≤ W.heap.size; have := He3q.out.size; omega)) (by simp; omega)))
    have hwb := lt_of_block HX2.out
    have hE4 := (He3q.out.drew).trans he4
    have hE24 := hE4
    have hX5 := ((HX3.out.ext hE4).other (g' := g) (by omega) x (.slice la ln lc))
    have hbq5 := ((Hbq.out.ext ((Ext.refl W).drew.trans he4)).other (g' := g) (by omega) x (.slice la ln lc))
    have hE5 := (He3.out.trans hE4).setCell (g := g) (by omega) x (.slice la ln lc)
    have hgC := HkC.out
    have hQ2 := ((HQ2.out.ext hE4).setBelow (b := g) hgC x (.slice la ln lc))
    have hQ3 := ownsRow_setCell_below (ownsRow_ext HQ3.out hE4) (a := ⟨g, x, none⟩) hgC (.slice la ln lc)
    have hPlan : PlanR (w4.setCell ⟨g, x, none⟩ (.slice la ln lc)) (.slice (some ⟨g, 0, none⟩) p.hands.length gc) (.slice sa sn sc) (.slice ta tn tc) (setH p x (l.take 9)) :=
      ⟨hset1.rows2 (by simp; omega), hQ2.rows2 (by show p.shifts.length ≤ _; have := Hok.out.s4; omega), OwnI.ints hQ3 (by show p.places.length ≤ _; have := Hok.out.pl; have := Hok.out.s4; omega)⟩
    have hUa5 := HUa3.out.ext hE4
    have hUa5' : Ints (w4.setCell ⟨g, x, none⟩ (.slice la ln lc)) (.slice aoa ma.length capa) ma := HUa.out.ext (((Ext.refl w2).trans (show Ext w2 w4 from HE23.out.trans hE4)).setCell (g := g) hgB x (.slice la ln lc))
    obtain ⟨q0, q1, q2⟩ := hbq5.cells
    clear hul he4 hset1 hcell hfr hE4 hE24 hUa5 hQ2 hQ3 hbq5 hgC cq
    generalize w4.setCell ⟨g, x, none⟩ (.slice la ln lc) = W5 at *
    have HPlan := hid hPlan
    have HUa5 := hid hUa5'
    have HX5 := hid hX5
    have HE5 := hid hE5
    have hsz5 := hE5.size
    clear hPlan hUa5' hX5 hE5
    cases hb5 : planOk (setH p x (l.take 9))
    · go_wp2_with (fail)
      refine (First_bad _ _ _ _ _ HPlan.out hb5).mono ?_
      rintro e w6 ⟨rfl, he6⟩
      have He6 := hid (HE5.out.trans he6)
      clear he6
      go_wp2_with (fail)
      refine (awake_any _).mono ?_
      rintro e w7 ⟨rfl, he7⟩
      have He7 := hid (He6.out.trans he7)
      clear he7
      go_wp2
      go_ret
      exact ⟨rfl, He7.out⟩
    · have hok5 := planOk_iff.1 hb5
      go_wp2_with (fail)
      refine (First_ok _ _ _ _ _ HPlan.out hok5).mono ?_
      rintro e w6 ⟨ub, rfl, mb, hub, hmb, he6⟩
      have hge := honest_at Hok.out hxn hok5 HMa.out hmb
      have hlb : mb.length = p.hands.length := by have := hmb.len; rw [this]; show (p.hands.set x _).length = _; simp
      have hub1 := hub.ints (by omega)
      obtain ⟨-, aob, capb, rfl, -⟩ := id hub1
      have hla2 := Hla.out
      obtain ⟨b1, o1, rfl, -, ha1⟩ := HUa5.out.get x (by omega)
      obtain ⟨b2, o2, rfl, -, hb2⟩ := hub1.get x (by omega)
      obtain ⟨-, ar, cr, hrow, hri⟩ := HP.out.1.row x hxn
      have d0 := (HX5.out.ext he6).cells.1
      have dh := hrow _ (HE5.out.trans he6)
      have da := ha1 _ he6
      have db := hb2 _ (Ext.refl _)
      have Hri := hid (hri.ext (HE5.out.trans he6))
      have He6 := hid (HE5.out.trans he6)
      have hleq : ((mb.length : Int) == (ma.length : Int)) = true := by rw [hlb, hla2]; simp
      have hx1 : (x : Int) < mb.length := by omega
      have hx2 : (x : Int) < ma.length := by omega
      have hgeb : decide (atI (rowAt p.hands x) (fn mb x) ≥ atI (rowAt p.hands x) (fn ma x)) = true := by simpa using hge
      clear hub hmb he6 hub1 ha1 hb2 hrow hri hlb hla2 hb5 hok5
      go_wp2
      go_region_held3 (fun w' => w'.cell? ⟨w.heap.size, 0, none⟩ = some (.slice (some ⟨bh, oh, none⟩) p.hands.length caph) ∧ w'.cell? ⟨bh, oh + x, none⟩ = some (.slice ar (rowAt p.hands x).length cr) ∧ w'.cell? ⟨b1, o1 + x, none⟩ = some (.int .i64 (fn ma x)) ∧ w'.cell? ⟨b2, o2 + x, none⟩ = some (.int .i64 (fn mb x)))
        (first | exact ⟨d0, dh, da, db⟩ | exact ⟨he8.cell d0, he8.cell dh, he8.cell da, he8.cell db⟩)
        (first | (go_at_call_of 21 (fn mb x); refine (at_any _ (rowAt p.hands x) (fn mb x) _ (Hri.out.ext (Ext.drew (Ext.refl _)))).mono ?_; rintro e w' ⟨rfl, rfl⟩) | (go_at_call_of 21 (fn ma x); refine (at_any _ (rowAt p.hands x) (fn ma x) _ (Hri.out.ext (Ext.drew (Ext.refl _)))).mono ?_; rintro e w' ⟨rfl, rfl⟩) | (go_at_call 19; refine (awake_any _).mono ?_; rintro e w8 ⟨rfl, he8⟩))
      have HE8 := hid ((He6.out.drew).trans he8)
      clear he8
      go_wp2
      go_ret
      exact ⟨rfl, HE8.out⟩

end Go.Proofs.Ytkdfbbkonbgfmaa
