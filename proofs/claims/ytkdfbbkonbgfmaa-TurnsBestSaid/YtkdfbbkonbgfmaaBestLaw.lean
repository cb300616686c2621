/-
  The statement TurnsBest: its walk.
-/
import Derived.Test.YtkdfbbkonbgfmaaLastTop
namespace Go.Proofs.Ytkdfbbkonbgfmaa
open Go.RowKit

theorem bestTo_take {p : PlanD} {h : Int} {l : List Int} (h0 : ∀ x ∈ l, 0 ≤ x) {j : Nat} (hj : j < l.length) :
    (bestTo p h (l.take j) = -1 ∧ bestTo p h (l.take (j + 1)) = if hasI (rowAt p.shifts l[j]) h then l[j] else -1) ∨ (0 ≤ bestTo p h (l.take j) ∧ bestTo p h (l.take (j + 1)) = bestTo p h (l.take j)) := by
  rw [List.take_succ_eq_append_getElem hj]
  by_cases e : bestTo p h (l.take j) = -1
  · exact .inl ⟨e, bestTo_app_none _ _ (fun x hx => h0 x (List.mem_of_mem_take hx)) e⟩
  · refine .inr ⟨?_, bestTo_app_some _ _ e⟩
    have : ∀ (l : List Int), (∀ x ∈ l, 0 ≤ x) → bestTo p h l = -1 ∨ 0 ≤ bestTo p h l := by
      intro l
      induction l with
      | nil => intro _; exact .inl rfl
      | cons a l ih =>
        intro h0
        rw [bestTo]
        split
        · exact .inr (h0 a (List.mem_cons_self ..))
        · exact ih (fun x hx => h0 x (List.mem_cons_of_mem _ hx))
    exact (this _ (fun x hx => h0 x (List.mem_of_mem_take hx))).resolve_left e

theorem at_has {l : List Int} {x : Int} (hl : l.length ≤ 98) : (hasI l x = true → atI l x < 99) ∧ (hasI l x = false → ¬ atI l x < 99) := by
  unfold atI
  constructor
  · intro h
    have hm := hasI_iff.1 h
    rw [if_pos hm]
    have := List.idxOf_lt_length_of_mem hm
    omega
  · intro h
    have hm : x ∉ l := fun hm => by have := hasI_iff.2 hm; rw [h] at this; simp at this
    rw [if_neg hm]; omega

set_option maxRecDepth 20000 in
set_option maxHeartbeats 4000000 in
theorem TurnsBest_any (vh vs vp : Value) (p : PlanD) (w : World) (hp : PlanR w vh vs vp p) :
    Calls Try.prog 6 #[.agg #[vh, vs, vp]] w fun e w' => e = .returned (.bool true) ∧ Ext w w' := by
  obtain ⟨aoh, caph, aos, caps, aop, capp, rfl, rfl, rfl⟩ := planR_shape hp
  have HP := hid hp
  cases hb : planOk (cutP p)
  · clear hp
    go_enter Try.func6, Try.ntmps6
    go_wp2_with (fail)
    refine (Of_any _ _ _ p _ (HP.out.ext (Ext.ofAlloc _ _))).mono ?_
    rintro e w1 ⟨uh, us, up, rfl, hu, he1⟩
    have Hu := hid hu
    have He1 := hid ((Ext.ofAlloc w _).trans he1)
    clear hu he1
    go_wp2_with (fail)
    refine (First_bad _ _ _ _ _ Hu.out.planR hb).mono ?_
    rintro e w2 ⟨rfl, he2⟩
    have He2 := hid (He1.out.trans he2)
    clear he2
    go_wp2_with (fail)
    refine (awake_any _).mono ?_
    rintro e w3 ⟨rfl, he3⟩
    have He3 := hid (He2.out.trans he3)
    clear he3
    go_wp2
    go_ret
    exact ⟨rfl, He3.out⟩
  · have hok := planOk_iff.1 hb
    have hcut := cutP_id hok
    rw [hcut] at hok hb
    have Hok := hid hok
    have Hcut := hid hcut
    have hn1 := hok.h1
    have hn6 := hok.h6
    have hs1 := hok.s1
    have hs4 := hok.s4
    obtain ⟨bh, oh, -, -, rfl, -, -⟩ := hp.1.at 0 (by omega) (by omega)
    obtain ⟨bs, os, -, -, rfl, -, -⟩ := hp.2.1.at 0 (by omega) (by omega)
    obtain ⟨bp, op, rfl, -⟩ := hp.2.2.at 0 (by omega) (by have := hok.pl; omega)
    clear hp
    clear hok hcut
    go_enter Try.func6, Try.ntmps6
    go_wp2_with (fail)
    refine (Of_any _ _ _ p _ (HP.out.ext (Ext.ofAlloc _ _))).mono ?_
    rintro e w1 ⟨uh, us, up, rfl, hu, he1⟩
    have hb25 := (Box3.alloc w 25 (.slice (some ⟨bh, oh, none⟩) p.hands.length caph) (.slice (some ⟨bs, os, none⟩) p.shifts.length caps) (.slice (some ⟨bp, op, none⟩) p.places.length capp)).ext he1
    have Hu := hid hu.planR
    rw [Hcut.out] at Hu
    have He1 := hid ((Ext.ofAlloc w _).trans he1)
    clear hu he1
    go_wp2_with (fail)
    refine (First_ok _ _ _ p _ Hu.out Hok.out).mono ?_
    rintro e w2 ⟨ua, rfl, ma, hua, hma, he2⟩
    have hX2 := hb25.ext he2
    have He2 := hid (He1.out.trans he2)
    have hla := hma.len
    have HMa := hid hma
    have hua1 := hua.ints (by omega)
    obtain ⟨-, aoa, capa, rfl, -⟩ := id hua1
    have HUa := hid hua1
    have HX2 := hid hX2
    obtain ⟨c0, c1, c2⟩ := hX2.cells
    have hla' : ((ma.length : Int) != (p.hands.length : Int)) = false := by rw [hla]; simp
    have Hla := hid hla
    have Hb := hid hb
    clear hb25 he2 hua hua1 hma hX2 hla hb
    go_wp2_with (fail)
    refine (RValid_any _ _ _ p _ (HP.out.ext He2.out)).mono ?_
    rw [Hb.out]
    rintro e w2v ⟨rfl, he2v⟩
    have HX2v := hid (HX2.out.ext he2v)
    have He2v := hid (He2.out.trans he2v)
    have HUav := hid (HUa.out.ext he2v)
    obtain ⟨c0, c1, c2⟩ := HX2v.out.cells
    clear he2v
    go_wp2
    go_loopg [42] p.shifts.length (fun g i wr => ∃ k : Nat, k + g = p.shifts.length ∧ i = .int .i64 k ∧ w2v = wr ∧ Hid (∀ s : Nat, s < k → ((rowAt p.shifts s).length : Int) ≤ intAt p.places s))
    case atStart => exact ⟨0, by omega, rfl, rfl, fun s hs => by omega⟩
    case round =>
      obtain ⟨k, hk, rfl, rfl, hroom⟩ := hrel
      have hkl : k ≤ p.shifts.length := by omega
      have Hk := hid hk
      clear hk
      by_cases hlt : k < p.shifts.length
      · obtain ⟨-, ar, cr, hrow, hri⟩ := HP.out.2.1.row k hlt
        have dr := hrow _ He2v.out
        have hpl := Hok.out.pl
        obtain ⟨bp', op', hpe, hpc⟩ := HP.out.2.2.at k (by omega) (by omega)
        simp only [Option.some.injEq, Addr.mk.injEq, and_true] at hpe
        obtain ⟨rfl, rfl⟩ := hpe
        have dp := hpc _ He2v.out
        rw [Int.toNat_natCast] at dp
        have hk1 : (k : Int) < p.places.length := by omega
        clear hrow hri hpc hpl
        by_cases hbig : intAt p.places k < (rowAt p.shifts k).length
        · go_wp2_with (fail)
          refine (awake_any _).mono ?_
          rintro e w7 ⟨rfl, he7⟩
          have He7 := hid (He2v.out.trans he7)
          clear he7
          go_wp2
          go_ret
          exact ⟨rfl, He7.out⟩
        · have Hbig := hid hbig
          go_wp2
          go_roundg (gk - 1)
          case rel => exact ⟨k + 1, by have := Hk.out; omega, by go_num, rfl, fun s hs => by
            rcases Nat.lt_or_ge s k with h' | h'
            · exact hroom.out s h'
            · obtain rfl : s = k := by omega
              have := Hbig.out; omega⟩
          case measure => have := Hk.out; omega
      · have Hroom := hid (show ∀ s : Nat, s < p.shifts.length → ((rowAt p.shifts s).length : Int) ≤ intAt p.places s from fun s hs => hroom.out s (by omega))
        go_wp2_with (fail)
        refine (Of_any _ _ _ p _ (HP.out.ext He2v.out)).mono ?_
        rintro e w3 ⟨uh', us', up', rfl, hu', he3⟩
        have Hu3 := hid hu'.planR
        rw [Hcut.out] at Hu3
        have He3 := hid he3
        clear hu' he3
        go_wp2_with (fail)
        refine (Last_ok _ _ _ p _ Hu3.out Hok.out).mono ?_
        rintro e w4 ⟨ub, rfl, mb, hub, hmb, he4⟩
        have HE := hid (He3.out.trans he4)
        have He4 := hid (He2v.out.trans (He3.out.trans he4))
        have HUa4 := hid (HUav.out.ext (He3.out.trans he4))
        have HX4 := hid (HX2v.out.ext (He3.out.trans he4))
        have hlb := hmb.len
        have hub1 := hub.ints (by omega)
        have HUb4 := hid hub1
        have HMb := hid hmb
        obtain ⟨-, aob, capb, rfl, -⟩ := id hub1
        have hlb' : ((mb.length : Int) != (ma.length : Int)) = false := by rw [hlb, Hla.out]; simp
        have Hlb := hid hlb
        obtain ⟨e0, e1, e2⟩ := HX4.out.cells
        clear hub hmb he4 hub1 hlb c0 c1 c2
        go_wp2
        go_loopg [75] p.hands.length (fun g i wr => ∃ k : Nat, k + g = p.hands.length ∧ i = .int .i64 k ∧ w4 = wr)
        case atStart => exact ⟨0, by omega, rfl, rfl⟩
        case round =>
          obtain ⟨h, hh, rfl, rfl⟩ := hrel
          have hhl : h ≤ p.hands.length := by omega
          have Hh := hid hh
          clear hh
          by_cases hhlt : h < p.hands.length
          · obtain ⟨-, ar, cr, hrow, hri⟩ := HP.out.1.row h hhlt
            have dr := hrow _ He4.out
            have Hri := hid hri
            have hrl := hri.1
            have hrok := Hok.out.row (h := h) (by omega)
            have Hrok := hid hrok
            obtain ⟨ba, oa, hba, -, hca⟩ := HUa4.out.get h (by have := Hla.out; omega)
            subst hba
            obtain ⟨bb, ob, hbb, -, hcb⟩ := HUb4.out.get h (by have := Hlb.out; omega)
            subst hbb
            have da := hca _ (Ext.refl _)
            have db := hcb _ (Ext.refl _)
            have hh1 : (h : Int) < ma.length := by have := Hla.out; omega
            have hh2 : (h : Int) < mb.length := by have := Hlb.out; omega
            have hfa := best_all Hok.out Hroom.out (m := ma) ⟨HMa.out.len, HMa.out.st⟩ hhlt
            have hfb := best_all Hok.out Hroom.out (m := mb) ⟨HMb.out.len, HMb.out.st⟩ hhlt
            rw [hfa] at da
            rw [hfb] at db
            clear hrow hri hrok hca hcb hfa hfb
            go_wp2
            go_loopg [82, 10] (rowAt p.hands h).length (fun g i b wr => ∃ j : Nat, j + g = (rowAt p.hands h).length ∧ i = .int .i64 j ∧ b = .int .i64 (bestTo p h ((rowAt p.hands h).take j)) ∧ w4 = wr)
            case atStart => exact ⟨0, by omega, rfl, rfl, rfl⟩
            case round =>
              obtain ⟨j, hj, rfl, rfl, rfl⟩ := hrel
              have hjl : j ≤ (rowAt p.hands h).length := by omega
              have Hj := hid hj
              clear hj
              by_cases hjlt : j < (rowAt p.hands h).length
              · obtain ⟨br, orr, rfl, hbr, hcr⟩ := Hri.out.get j hjlt
                have dj := hcr _ He4.out
                rw [fn_get hjlt] at dj
                have hr2 := Hrok.out.1 _ (List.getElem_mem hjlt)
                have hr20 := hr2.1
                have hr21 := hr2.2
                obtain ⟨bs', os', ars, crs, hse, hcs, hsi⟩ := HP.out.2.1.at (rowAt p.hands h)[j] hr20 hr21
                simp only [Option.some.injEq, Addr.mk.injEq, and_true] at hse
                obtain ⟨rfl, rfl⟩ := hse
                have ds := hcs _ He4.out
                have Hsi := hid (hsi.ext He4.out)
                have hcl : (rowAt p.shifts (rowAt p.hands h)[j]).length ≤ 98 := by
                  have := rowOk_short (rowAt_ok Hok.out.ss hr20); omega
                have hah := at_has (x := (h : Int)) hcl
                have hbt := bestTo_take (p := p) (h := (h : Int)) (fun x hx => (Hrok.out.1 x hx).1) hjlt
                have Hbt := hid hbt
                clear hcr hr2 hcs hsi hcl hbt
                rcases Hbt.out with ⟨f1, f2⟩ | ⟨f1, f2⟩
                · have hneg : bestTo p h ((rowAt p.hands h).take j) < 0 := by omega
                  have Hf2 := hid f2
                  cases hhas : hasI (rowAt p.shifts (rowAt p.hands h)[j]) h
                  · have hat := hah.2 hhas
                    rw [hhas] at Hf2
                    have Hf1 := hid f1
                    clear f1 f2 hah hhas
                    go_wp2_with (go_at_call 21; refine (at_any _ _ _ _ Hsi.out).mono ?_; rintro e w' ⟨rfl, rfl⟩)
                    go_roundg (gk - 1)
                    case rel => exact ⟨j + 1, by have := Hj.out; omega, by go_num, by rw [Hf2.out, Hf1.out]; rfl, rfl⟩
                    case measure => have := Hj.out; omega
                  · have hat := hah.1 hhas
                    rw [hhas] at Hf2
                    clear f1 f2 hah hhas
                    go_wp2_with (go_at_call 21; refine (at_any _ _ _ _ Hsi.out).mono ?_; rintro e w' ⟨rfl, rfl⟩)
                    go_roundg (gk - 1)
                    case rel => exact ⟨j + 1, by have := Hj.out; omega, by go_num, by rw [Hf2.out]; rfl, rfl⟩
                    case measure => have := Hj.out; omega
                · have hneg : ¬ bestTo p h ((rowAt p.hands h).take j) < 0 := by omega
                  have Hf2 := hid f2
                  clear f1 f2 hah
                  go_wp2
                  go_roundg (gk - 1)
                  case rel => exact ⟨j + 1, by have := Hj.out; omega, by go_num, by rw [Hf2.out], rfl⟩
                  case measure => have := Hj.out; omega
              · have e3 : bestTo p h ((rowAt p.hands h).take j) = bestI p h := by unfold bestI; rw [List.take_of_length_le (by omega)]
                rw [e3]
                clear e3
                have hbb : (bestI p h != bestI p h) = false := by simp
                go_wp2
                go_roundg (p.hands.length - (h + 1))
                case rel => exact ⟨h + 1, by omega, by go_num, rfl⟩
                case measure => have := Hh.out; omega
          · go_wp2_with (fail)
            refine (awake_any _).mono ?_
            rintro e w7 ⟨rfl, he7⟩
            have He7 := hid (He4.out.trans he7)
            clear he7
            go_wp2
            go_ret
            exact ⟨rfl, He7.out⟩

end Go.Proofs.Ytkdfbbkonbgfmaa
