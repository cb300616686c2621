/-
  The statement TurnsMore: its walk.
-/
import Derived.Test.YtkdfbbkonbgfmaaHonestLaw
import Derived.Test.YtkdfbbkonbgfmaaRefA
namespace Go.Proofs.Ytkdfbbkonbgfmaa
open Go.RowKit

theorem atI_mono {l : List Int} {s t : Int} (hl : l.length ≤ 98) (h : rankP l s ≤ rankP l t) : atI l s ≤ atI l t := by
  unfold atI
  by_cases hs : s ∈ l
  · rw [if_pos hs]
    have h1 := List.idxOf_lt_length_of_mem hs
    by_cases ht : t ∈ l
    · rw [if_pos ht]
      rw [rankP_mem hs, rankP_mem ht] at h; exact h
    · rw [if_neg ht]; omega
  · have ht : t ∉ l := fun ht => by
      rw [rankP_out hs] at h; have := rankP_lt ht; omega
    rw [if_neg hs, if_neg ht]; exact Int.le_refl _
theorem atI_mono_iff {l : List Int} {s t : Int} (hl : l.length ≤ 98) : atI l s ≤ atI l t ↔ rankP l s ≤ rankP l t := by
  refine ⟨fun h => ?_, atI_mono hl⟩
  unfold atI at h
  by_cases hs : s ∈ l
  · rw [if_pos hs] at h
    by_cases ht : t ∈ l
    · rw [if_pos ht] at h
      rw [rankP_mem hs, rankP_mem ht]; exact h
    · have := rankP_lt hs
      rw [rankP_out ht]; omega
  · rw [if_neg hs] at h
    have ht : t ∉ l := fun ht => by
      rw [if_pos ht] at h; have := List.idxOf_lt_length_of_mem ht; omega
    rw [rankP_out hs, rankP_out ht]; exact Int.le_refl _

theorem PlanOk.cut {p : PlanD} (h : PlanOk p) : cutP p = p := by
  have e : ∀ (xss : List (List Int)) (n : Nat), xss.length ≤ 6 → n ≤ 6 → listsOk xss n = true → cut8 xss = xss := by
    intro xss n h6 hn hl
    unfold cut8
    rw [List.take_of_length_le (by omega)]
    apply List.ext_getElem (by simp)
    intro i h1 h2
    rw [List.getElem_map]
    unfold listsOk at hl
    rw [List.all_eq_true] at hl
    have := rowOk_short (hl _ (List.getElem_mem h2))
    exact List.take_of_length_le (by omega)
  unfold cutP
  rw [e _ _ h.h6 (by have := h.s4; omega) h.hs, e _ _ (by have := h.s4; omega) h.h6 h.ss, List.take_of_length_le (by have := h.pl; have := h.s4; omega)]
theorem planOk_cut (p : PlanD) : planOk (cutP p) = planOk p := by
  cases h : planOk p
  · cases h' : planOk (cutP p)
    · rfl
    · have := cutP_id (planOk_iff.1 h')
      rw [this, h] at h'; simp at h'
  · rw [(planOk_iff.1 h).cut, h]

/-- A hand less. -/
theorem more_at {p : PlanD} (hp : PlanOk p) {h : Nat} (hh : h < p.hands.length) (hp' : PlanOk (setH p h [])) {a b : List Int} (ha : IsFirst p hp a) (hb : IsFirst _ hp' b) :
    b.length = p.hands.length ∧ fn b h = -1 ∧ ∀ x, x < p.hands.length → x ≠ h → atI (rowAt p.hands x) (fn b x) ≤ atI (rowAt p.hands x) (fn a x) := by
  have L := less_setH hp hh hp'
  have hl : b.length = p.hands.length := by have := hb.len; rw [this]; show (p.hands.set h []).length = _; simp
  refine ⟨hl, ?_, fun x hx hne => ?_⟩
  · rcases hb.st.m.ok h (by rw [L.n]; exact hh) with e | e
    · exact e
    · exact absurd e (L.none _)
  · refine atI_mono ?_ ?_
    · have := rowOk_short (rowAt_ok hp.hs (i := x) (by omega)); have := hp.s4; omega
    · exact less_better L ha.st hb.st (fun μ hμ y hy => hb.best μ hμ y (by have := L.n; show y < (p.hands.set h []).length; simpa [mkt, setH] using hy)) x hx hne

set_option maxRecDepth 20000 in
set_option maxHeartbeats 4000000 in
theorem TurnsMore_any (vh vs vp : Value) (p : PlanD) (hI : Int) (w : World) (hp : PlanR w vh vs vp p) :
    Calls Try.prog 4 #[.agg #[vh, vs, vp], .int .i64 hI] w fun e w' => e = .returned (.bool true) ∧ Ext w w' := by
  obtain ⟨aoh, caph, aos, caps, aop, capp, rfl, rfl, rfl⟩ := planR_shape hp
  have HP := hid hp
  cases hb : planOk (cutP p)
  · clear hp
    go_enter Try.func4, Try.ntmps4
    go_wp2_with (fail)
    refine (Of_any _ _ _ p _ (HP.out.ext (Ext.ofAlloc _ _))).mono ?_
    rintro e w1 ⟨uh, us, up, rfl, hu, he1⟩
    have Hu := hid hu
    have He1 := hid ((Ext.ofAlloc w _).trans he1)
    clear hu he1
    go_wp2_with (fail)
    refine (First_bad _ _ _ _ _ Hu.out.planR hb).mono ?_
    rintro e w2 ⟨rfl, he2⟩
    have He2 := hid (He1.out.trans he2)
    clear he2
    go_wp2_with (fail)
    refine (awake_any _).mono ?_
    rintro e w3 ⟨rfl, he3⟩
    have He3 := hid (He2.out.trans he3)
    clear he3
    go_wp2
    go_ret
    exact ⟨rfl, He3.out⟩
  · have hok := planOk_iff.1 hb
    have hcut := cutP_id hok
    rw [hcut] at hok hb
    have Hok := hid hok
    have Hcut := hid hcut
    have hn1 := hok.h1
    have hn6 := hok.h6
    obtain ⟨bh, oh, -, -, rfl, -, -⟩ := hp.1.at 0 (by omega) (by omega)
    clear hp
    obtain ⟨x, hx, hxn⟩ := hmod hI p.hands.length hn1 hn6
    clear hok hcut
    go_enter Try.func4, Try.ntmps4
    go_wp2_with (fail)
    refine (Of_any _ _ _ p _ (HP.out.ext (Ext.ofAlloc _ _))).mono ?_
    rintro e w1 ⟨uh, us, up, rfl, hu, he1⟩
    have hb25 := (Box3.alloc w 25 (.slice (some ⟨bh, oh, none⟩) p.hands.length caph) (.slice aos p.shifts.length caps) (.slice aop p.places.length capp)).ext he1
    have Hu := hid hu.planR
    rw [Hcut.out] at Hu
    have He1 := hid ((Ext.ofAlloc w _).trans he1)
    clear hu he1
    go_wp2_with (fail)
    refine (First_ok _ _ _ p _ Hu.out Hok.out).mono ?_
    rintro e w2 ⟨ua, rfl, ma, hua, hma, he2⟩
    have hX2 := hb25.ext he2
    have He2 := hid (He1.out.trans he2)
    have hla := hma.len
    have HMa := hid hma
    have hua1 := hua.ints (by omega)
    obtain ⟨-, aoa, capa, rfl, -⟩ := id hua1
    have HUa := hid hua1
    have HX2 := hid hX2
    obtain ⟨c0, c1, c2⟩ := hX2.cells
    have hnz : ((p.hands.length : Int) == 0) = false := by rw [beq_eq_false_iff_ne]; omega
    have hla' : ((ma.length : Int) != (p.hands.length : Int)) = false := by rw [hla]; simp
    have hn0 : ¬ (p.hands.length : Int) = 0 := by omega
    have Hla := hid hla
    have Hb := hid hb
    clear hb25 he2 hua hua1 hma hX2 hla hb
    go_wp2_with (fail)
    refine (RValid_any _ _ _ p _ (HP.out.ext He2.out)).mono ?_
    rw [Hb.out]
    rintro e w2v ⟨rfl, he2v⟩
    have HX2v := hid (HX2.out.ext he2v)
    have He2v := hid (He2.out.trans he2v)
    have HUav := hid (HUa.out.ext he2v)
    obtain ⟨c0, c1, c2⟩ := HX2v.out.cells
    clear he2v
    go_wp2_with (fail)
    refine (Of_any _ _ _ p _ (HP.out.ext He2v.out)).mono ?_
    rintro e w3 ⟨uh', us', up', rfl, hu', he3⟩
    rw [Hcut.out] at hu'
    obtain ⟨hq1, C, hC, hkC, hq2, hq3⟩ := hu'
    obtain ⟨g, gc, rfl, hgB, hgs⟩ := hq1.head (by omega)
    obtain ⟨sa, sn, sc, rfl⟩ := hq2.shape
    obtain ⟨ta, tn, tc, rfl⟩ := own_shape hq3
    have HX3 := hid (HX2v.out.ext he3)
    have He3 := hid (He2v.out.trans he3)
    have HE23 := hid he3
    have HQ1 := hid hq1
    have HQ2 := hid hq2
    have HQ3 := hid hq3
    have HkC := hid (hkC g rfl)
    have hsz2 := He2v.out.size
    have hsz3 := he3.size
    obtain ⟨hset1, ⟨vo, hcell⟩, hfr, -⟩ := HQ1.out.set (x := x) (u := .slice none 0 0) (l := []) hxn (World.ownsRow_nil _ _ _ _) (by simp)
    have Hset1 := hid hset1
    obtain ⟨c0, c1, c2⟩ := HX3.out.cells
    clear hq1 hq2 hq3 hkC he3 hset1
    go_wp2_with (fail)
    have hgC := HkC.out
    have hQ2 := HQ2.out.setBelow (b := g) hgC x (.slice none 0 0)
    have hQ3 := ownsRow_setCell_below HQ3.out (a := ⟨g, x, none⟩) hgC (.slice none 0 0)
    have hwb := lt_of_block HX2v.out
    have hPlan : PlanR (w3.setCell ⟨g, x, none⟩ (.slice none 0 0)) (.slice (some ⟨g, 0, none⟩) p.hands.length gc) (.slice sa sn sc) (.slice ta tn tc) (setH p x []) :=
      ⟨Hset1.out.rows2 (by simp; omega), hQ2.rows2 (by show p.shifts.length ≤ _; have := Hok.out.s4; omega), OwnI.ints hQ3 (by show p.places.length ≤ _; have := Hok.out.pl; have := Hok.out.s4; omega)⟩
    have hE3 := (Ext.refl w2v).trans HE23.out
    have hUa5 : Ints (w3.setCell ⟨g, x, none⟩ (.slice none 0 0)) (.slice aoa ma.length capa) ma := HUav.out.ext (hE3.setCell (g := g) (by omega) x (.slice none 0 0))
    have hX5 := HX3.out.other (g' := g) (by omega) x (.slice none 0 0)
    have hE5 := He3.out.setCell (g := g) (by omega) x (.slice none 0 0)
    have HPlan := hid (hPlan.ext (Ext.ofAlloc _ (.cells #[.slice (some ⟨g, 0, none⟩) p.hands.length gc, .slice sa sn sc, .slice ta tn tc] 29)))
    have HUa5 := hid (hUa5.ext (Ext.ofAlloc _ (.cells #[.slice (some ⟨g, 0, none⟩) p.hands.length gc, .slice sa sn sc, .slice ta tn tc] 29)))
    have HX5 := hid (hX5.ext (Ext.ofAlloc _ (.cells #[.slice (some ⟨g, 0, none⟩) p.hands.length gc, .slice sa sn sc, .slice ta tn tc] 29)))
    have HE5 := hid (hE5.alloc (.cells #[.slice (some ⟨g, 0, none⟩) p.hands.length gc, .slice sa sn sc, .slice ta tn tc] 29))
    clear hPlan hUa5 hX5 hE5 hQ2 hQ3 hcell hfr c0 c1 c2 hE3
    generalize (w3.setCell ⟨g, x, none⟩ (.slice none 0 0)).alloc (.cells #[.slice (some ⟨g, 0, none⟩) p.hands.length gc, .slice sa sn sc, .slice ta tn tc] 29) = W5 at *
    have hok5 : PlanOk (setH p x []) := setH_ok Hok.out (by rw [rowOk_iff]; simp)
    refine (First_ok _ _ _ _ _ HPlan.out hok5).mono ?_
    rintro e w6 ⟨ub, rfl, mb, hub, hmb, he6⟩
    obtain ⟨hlb, hbx, hge⟩ := more_at Hok.out hxn hok5 HMa.out hmb
    have hub1 := hub.ints (by omega)
    obtain ⟨-, aob, capb, rfl, -⟩ := id hub1
    have hla2 := Hla.out
    have HUa6 := hid (HUa5.out.ext he6)
    have HUb6 := hid hub1
    have HX6 := hid (HX5.out.ext he6)
    have He6 := hid (HE5.out.trans he6)
    have Hge := hid hge
    have Hlb := hid hlb
    have hleq : ((mb.length : Int) != (ma.length : Int)) = false := by rw [hlb, hla2]; simp
    obtain ⟨b2, o2, hb2', -, hb2⟩ := hub1.get x (by omega)
    have db := hb2 _ (Ext.refl _)
    rw [hbx] at db
    subst hb2'
    have hx1 : (x : Int) < mb.length := by omega
    clear hub hmb he6 hub1 hb2 hlb hge hbx hla2
    go_wp2
    go_loopg [73] ma.length (fun g i wr => ∃ k : Nat, k + g = ma.length ∧ i = .int .i64 k ∧ Hid (Ext w6 wr))
    case atStart => exact ⟨0, by omega, rfl, Ext.refl _⟩
    case round =>
      obtain ⟨k, hk, rfl, Hex⟩ := hrel
      have hkl : k ≤ ma.length := by omega
      have Hk := hid hk
      clear hk
      by_cases hlt : k < ma.length
      · have hkn : k < p.hands.length := by have := Hla.out; omega
        obtain ⟨b1, o1, hb1', -, ha1⟩ := HUa6.out.get k hlt
        subst hb1'
        obtain ⟨b3, o3, hb3', -, ha3⟩ := HUb6.out.get k (by have := Hlb.out; have := Hla.out; omega)
        simp only [Option.some.injEq, Addr.mk.injEq, and_true] at hb3'
        obtain ⟨rfl, rfl⟩ := hb3'
        obtain ⟨-, ar, cr, hrow, hri⟩ := HP.out.1.row k hkn
        have hX7 := HX6.out.ext Hex.out
        have d0 := hX7.cells.1
        have dh := hrow _ (He6.out.trans Hex.out)
        have da := ha1 _ Hex.out
        have db' := ha3 _ Hex.out
        have Hri := hid (hri.ext (He6.out.trans Hex.out))
        have hk1 : (k : Int) < mb.length := by have := Hlb.out; have := Hla.out; omega
        have hk2 : (k : Int) < ma.length := by omega
        clear hX7 hrow hri ha1 ha3
        by_cases hkx : k = x
        · subst hkx
          have hne : ((k : Int) != (k : Int)) = false := by simp
          go_wp2
          go_quiet (fail)
          go_wp2
          go_roundg (gk - 1)
          case rel => exact ⟨k + 1, by have := Hk.out; omega, by go_num, Hex.out.drewN _⟩
          case measure => have := Hk.out; omega
        · have hne : ((k : Int) != (x : Int)) = true := by simp; omega
          have hle := Hge.out k hkn hkx
          go_wp2
          go_region_held3 (fun w' => w'.cell? ⟨w.heap.size, 0, none⟩ = some (.slice (some ⟨bh, oh, none⟩) p.hands.length caph) ∧ w'.cell? ⟨bh, oh + k, none⟩ = some (.slice ar (rowAt p.hands k).length cr) ∧ w'.cell? ⟨b1, o1 + k, none⟩ = some (.int .i64 (fn ma k)) ∧ w'.cell? ⟨b2, o2 + k, none⟩ = some (.int .i64 (fn mb k)))
            (first | exact ⟨d0, dh, da, db'⟩)
            (first | (go_at_call_of 21 (fn mb k); refine (at_any _ (rowAt p.hands k) (fn mb k) _ (Hri.out.ext (Ext.drew (Ext.refl _)))).mono ?_; rintro e w' ⟨rfl, rfl⟩) | (go_at_call_of 21 (fn ma k); refine (at_any _ (rowAt p.hands k) (fn ma k) _ (Hri.out.ext (Ext.drew (Ext.refl _)))).mono ?_; rintro e w' ⟨rfl, rfl⟩))
          go_wp2
          go_roundg (gk - 1)
          case rel => exact ⟨k + 1, by have := Hk.out; omega, by go_num, Hex.out.drew⟩
          case measure => have := Hk.out; omega
      · go_wp2_with (fail)
        refine (awake_any _).mono ?_
        rintro e w7 ⟨rfl, he7⟩
        have He7 := hid ((He6.out.trans Hex.out).trans he7)
        clear he7
        go_wp2
        go_ret
        exact ⟨rfl, He7.out⟩

end Go.Proofs.Ytkdfbbkonbgfmaa
