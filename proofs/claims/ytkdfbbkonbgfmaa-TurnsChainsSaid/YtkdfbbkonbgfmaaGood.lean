/-
  Contract of the statements' good.
-/
import Derived.Test.YtkdfbbkonbgfmaaCovers
import Derived.Test.YtkdfbbkonbgfmaaMoreLaw
namespace Go.Proofs.Ytkdfbbkonbgfmaa
open Go.RowKit

set_option maxRecDepth 20000 in
set_option maxHeartbeats 4000000 in
theorem good_any (vh vs vp va vb : Value) (p : PlanD) (hok : PlanOk p) (a b : List Int) (w : World) (hp : PlanR w vh vs vp p) (hva : Ints w va a) (hvb : Ints w vb b) (hla : a.length = p.hands.length) (hlb : b.length = p.hands.length) :
    Calls Try.prog 44 #[.agg #[vh, vs, vp], va, vb] w fun e w' => e = .returned (.bool (leB p a b)) ∧ Ext w w' := by
  obtain ⟨aoh, caph, aos, caps, aop, capp, rfl, rfl, rfl⟩ := planR_shape hp
  have HP := hid hp
  have HA := hid hva
  have HB := hid hvb
  have Hla := hid hla
  have Hlb := hid hlb
  have Hok := hid hok
  have h1 := hok.h1
  have hn6 := hok.h6
  have hs4 := hok.s4
  have hal : a.length ≤ 6 := by omega
  obtain ⟨-, aoa, capa, rfl, -⟩ := id hva
  obtain ⟨-, aob, capb, rfl, -⟩ := id hvb
  obtain ⟨ba, oa, rfl, -⟩ := hva.get 0 (by omega)
  obtain ⟨bb, ob, rfl, -⟩ := hvb.get 0 (by omega)
  obtain ⟨bh, oh, -, -, rfl, -, -⟩ := hp.1.at 0 (by omega) (by omega)
  have e0 := hid (Ext.ofAlloc w (.cells #[.slice (some ⟨bh, oh, none⟩) p.hands.length caph, .slice aos p.shifts.length caps, .slice aop p.places.length capp] 25))
  have X0 := hid (Box3.alloc w 25 (.slice (some ⟨bh, oh, none⟩) p.hands.length caph) (.slice aos p.shifts.length caps) (.slice aop p.places.length capp))
  clear hp hva hvb hla hlb hok
  go_enter Try.func44, Try.ntmps44
  go_wp2
  generalize w.alloc (.cells #[.slice (some ⟨bh, oh, none⟩) p.hands.length caph, .slice aos p.shifts.length caps, .slice aop p.places.length capp] 25) = W at *
  go_loopg [10] a.length (fun g i wr => ∃ k : Nat, k + g = a.length ∧ i = .int .i64 k ∧ Hid (∀ x : Nat, x < k → rankP (rowAt p.hands x) (fn a x) ≤ rankP (rowAt p.hands x) (fn b x)) ∧ Hid (Ext W wr))
  case atStart => exact ⟨0, by omega, rfl, fun x hx => by omega, Ext.refl _⟩
  case round =>
    obtain ⟨h, hk, rfl, G, E⟩ := hrel
    have hkl : h ≤ a.length := by omega
    have Hk := hid hk
    clear hk
    by_cases hlt : h < a.length
    · have hln : h < p.hands.length := by have := Hla.out; omega
      obtain ⟨-, ar, cr, hrow, hri⟩ := HP.out.1.row h hln
      have dr := hrow _ (e0.out.trans E.out)
      have Hrh := hid hri
      obtain ⟨c0, -, -⟩ := (X0.out.ext E.out).cells
      have da := (HA.out.get' h hlt).2 _ (e0.out.trans E.out)
      have db := (HB.out.get' h (by have := Hla.out; have := Hlb.out; omega)).2 _ (e0.out.trans E.out)
      have hh0 : (0 : Int) ≤ (h : Int) := by omega
      have hh1 : (h : Int) < p.hands.length := by omega
      have ha1 : (h : Int) < a.length := by omega
      have hb1 : (h : Int) < b.length := by have := Hla.out; have := Hlb.out; omega
      have hiff := atI_mono_iff (l := rowAt p.hands h) (s := fn a h) (t := fn b h) (by have := rowOk_short (rowAt_ok Hok.out.hs (i := h) (by omega)); omega)
      clear hrow hri
      go_wp2
      by_cases hle : atI (rowAt p.hands h) (fn a h) ≤ atI (rowAt p.hands h) (fn b h)
      · have G2 := hid (leM_succ G.out (hiff.1 hle))
        have hd : ¬ atI (rowAt p.hands h) (fn b h) < atI (rowAt p.hands h) (fn a h) := by omega
        clear hiff
        refine wp_region_held_drew (S := (fun w' => w'.cell? ⟨w.heap.size, 0, none⟩ = some (.slice (some ⟨bh, oh, none⟩) p.hands.length caph) ∧ w'.cell? ⟨bh, oh + h, none⟩ = some (.slice ar (rowAt p.hands h).length cr) ∧ w'.cell? ⟨ba, oa + h, none⟩ = some (.int .i64 (fn a h)) ∧ w'.cell? ⟨bb, ob + h, none⟩ = some (.int .i64 (fn b h)))) (by kernel_rfl) ?hSa0 (fun hHeld => ?_)
        case hSa0 => (first | (exact ⟨c0, dr, da, db⟩) | ((try dsimp only); exact ⟨c0, dr, da, db⟩))
        refine wpAnyH_tk 0 (v := ?va0) rfl (by kernel_rfl) (by kernel_rfl) (by kernel_rfl) (fun _ _ _ h => h) (by rfl) ?hya0 (by assumption) ?_
        case hya0 => (intro w hSw; (try dsimp only at hSw); go_simp <;> with_reducible rfl)
        (try simp only [Act.put, List.setIfInBounds_toArray, List.set_cons_zero, List.set_cons_succ])
        refine wpAnyH_tk 1 (v := ?va1) rfl (by kernel_rfl) (by kernel_rfl) (by kernel_rfl) (fun _ _ _ h => h) (by rfl) ?hya1 (by assumption) ?_
        case hya1 => (intro w hSw; (try dsimp only at hSw); go_simp <;> with_reducible rfl)
        (try simp only [Act.put, List.setIfInBounds_toArray, List.set_cons_zero, List.set_cons_succ])
        refine wpAnyH_tk 2 (v := ?va2) rfl (by kernel_rfl) (by kernel_rfl) (by kernel_rfl) (fun _ _ _ h => h) (by rfl) ?hya2 (by assumption) ?_
        case hya2 => (intro w hSw; (try dsimp only at hSw); go_simp <;> with_reducible rfl)
        (try simp only [Act.put, List.setIfInBounds_toArray, List.set_cons_zero, List.set_cons_succ])
        refine wpAnyH_tk 3 (v := ?va3) rfl (by kernel_rfl) (by kernel_rfl) (by kernel_rfl) (fun _ _ _ h => h) (by rfl) ?hya3 (by assumption) ?_
        case hya3 => (intro w hSw; (try dsimp only at hSw); go_simp <;> with_reducible rfl)
        (try simp only [Act.put, List.setIfInBounds_toArray, List.set_cons_zero, List.set_cons_succ])
        refine wpAnyH_tk 4 (v := ?va4) rfl (by kernel_rfl) (by kernel_rfl) (by kernel_rfl) (fun _ _ _ h => h) (by rfl) ?hya4 (by assumption) ?_
        case hya4 => (intro w hSw; (try dsimp only at hSw); go_simp <;> with_reducible rfl)
        (try simp only [Act.put, List.setIfInBounds_toArray, List.set_cons_zero, List.set_cons_succ])
        refine wpAnyH_tk 5 (v := ?va5) rfl (by kernel_rfl) (by kernel_rfl) (by kernel_rfl) (fun _ _ _ h => h) (by rfl) ?hya5 (by assumption) ?_
        case hya5 => (intro w hSw; (try dsimp only at hSw); go_simp <;> with_reducible rfl)
        (try simp only [Act.put, List.setIfInBounds_toArray, List.set_cons_zero, List.set_cons_succ])
        refine wpAnyH_tk 6 (v := ?va6) rfl (by kernel_rfl) (by kernel_rfl) (by kernel_rfl) (fun _ _ _ h => h) (by rfl) ?hya6 (by assumption) ?_
        case hya6 => (intro w hSw; (try dsimp only at hSw); go_simp <;> with_reducible rfl)
        (try simp only [Act.put, List.setIfInBounds_toArray, List.set_cons_zero, List.set_cons_succ])
        refine wpAnyH_tk 7 (v := ?va7) rfl (by kernel_rfl) (by kernel_rfl) (by kernel_rfl) (fun _ _ _ h => h) (by rfl) ?hya7 (by assumption) ?_
        case hya7 => (intro w hSw; (try dsimp only at hSw); go_simp <;> with_reducible rfl)
        (try simp only [Act.put, List.setIfInBounds_toArray, List.set_cons_zero, List.set_cons_succ])
        refine wpAnyH_tk 8 (v := ?va8) rfl (by kernel_rfl) (by kernel_rfl) (by kernel_rfl) (fun _ _ _ h => h) (by rfl) ?hya8 (by assumption) ?_
        case hya8 => (intro w hSw; (try dsimp only at hSw); go_simp <;> with_reducible rfl)
        (try simp only [Act.put, List.setIfInBounds_toArray, List.set_cons_zero, List.set_cons_succ])
        refine wpAnyH_tk 10 (v := ?va10) rfl (by kernel_rfl) (by kernel_rfl) (by kernel_rfl) (fun _ _ _ h => h) (by rfl) ?hya10 (by assumption) ?_
        case hya10 => (intro w hSw; (try dsimp only at hSw); go_simp <;> with_reducible rfl)
        (try simp only [Act.put, List.setIfInBounds_toArray, List.set_cons_zero, List.set_cons_succ])
        refine wpAnyH_tk 11 (v := ?va11) rfl (by kernel_rfl) (by kernel_rfl) (by kernel_rfl) (fun _ _ _ h => h) (by rfl) ?hya11 (by assumption) ?_
        case hya11 => (intro w hSw; (try dsimp only at hSw); go_simp <;> with_reducible rfl)
        (try simp only [Act.put, List.setIfInBounds_toArray, List.set_cons_zero, List.set_cons_succ])
        refine wpAnyH_tk 12 (v := ?va12) rfl (by kernel_rfl) (by kernel_rfl) (by kernel_rfl) (fun _ _ _ h => h) (by rfl) ?hya12 (by assumption) ?_
        case hya12 => (intro w hSw; (try dsimp only at hSw); go_simp <;> with_reducible rfl)
        (try simp only [Act.put, List.setIfInBounds_toArray, List.set_cons_zero, List.set_cons_succ])
        refine wpAnyH_tk 13 (v := ?va13) rfl (by kernel_rfl) (by kernel_rfl) (by kernel_rfl) (fun _ _ _ h => h) (by rfl) ?hya13 (by assumption) ?_
        case hya13 => (intro w hSw; (try dsimp only at hSw); go_simp <;> with_reducible rfl)
        (try simp only [Act.put, List.setIfInBounds_toArray, List.set_cons_zero, List.set_cons_succ])
        refine wpAnyH_tk 14 (v := ?va14) rfl (by kernel_rfl) (by kernel_rfl) (by kernel_rfl) (fun _ _ _ h => h) (by rfl) ?hya14 (by assumption) ?_
        case hya14 => (intro w hSw; (try dsimp only at hSw); go_simp <;> with_reducible rfl)
        (try simp only [Act.put, List.setIfInBounds_toArray, List.set_cons_zero, List.set_cons_succ])
        refine wpAnyH_tk 15 (v := ?va15) rfl (by kernel_rfl) (by kernel_rfl) (by kernel_rfl) (fun _ _ _ h => h) (by rfl) ?hya15 (by assumption) ?_
        case hya15 => (intro w hSw; (try dsimp only at hSw); go_simp <;> with_reducible rfl)
        (try simp only [Act.put, List.setIfInBounds_toArray, List.set_cons_zero, List.set_cons_succ])
        refine wpAnyH_tk 16 (v := ?va16) rfl (by kernel_rfl) (by kernel_rfl) (by kernel_rfl) (fun _ _ _ h => h) (by rfl) ?hya16 (by assumption) ?_
        case hya16 => (intro w hSw; (try dsimp only at hSw); go_simp <;> with_reducible rfl)
        (try simp only [Act.put, List.setIfInBounds_toArray, List.set_cons_zero, List.set_cons_succ])
        refine wpAnyH_tk 17 (v := ?va17) rfl (by kernel_rfl) (by kernel_rfl) (by kernel_rfl) (fun _ _ _ h => h) (by rfl) ?hya17 (by assumption) ?_
        case hya17 => (intro w hSw; (try dsimp only at hSw); go_simp <;> with_reducible rfl)
        (try simp only [Act.put, List.setIfInBounds_toArray, List.set_cons_zero, List.set_cons_succ])
        refine wpAnyH_tk 18 (v := ?va18) rfl (by kernel_rfl) (by kernel_rfl) (by kernel_rfl) (fun _ _ _ h => h) (by rfl) ?hya18 (by assumption) ?_
        case hya18 => (intro w hSw; (try dsimp only at hSw); go_simp <;> with_reducible rfl)
        (try simp only [Act.put, List.setIfInBounds_toArray, List.set_cons_zero, List.set_cons_succ])
        refine wpAnyH_one 9 rfl (by kernel_rfl) (by rfl) (fun K hK => ?_)
        go_simp
        (go_at_call 21; refine (at_any _ (rowAt p.hands h) (fn a h) _ (Hrh.out.ext (e0.out.trans E.out).drew)).mono ?_; rintro e w' ⟨rfl, rfl⟩)
        refine hK.out _ _ ?hSa10 (fun hHeld => ?_)
        case hSa10 => (first | (exact ⟨c0, dr, da, db⟩) | ((try dsimp only); exact ⟨c0, dr, da, db⟩))
        clear hK K
        (try simp only [Act.put, List.setIfInBounds_toArray, List.set_cons_zero, List.set_cons_succ])
        refine wpAnyH_one 19 rfl (by kernel_rfl) (by rfl) (fun K hK => ?_)
        go_simp
        (go_at_call 21; refine (at_any _ (rowAt p.hands h) (fn b h) _ (Hrh.out.ext (e0.out.trans E.out).drew)).mono ?_; rintro e w' ⟨rfl, rfl⟩)
        refine hK.out _ _ ?hSa20 (fun hHeld => ?_)
        case hSa20 => (first | (exact ⟨c0, dr, da, db⟩) | ((try dsimp only); exact ⟨c0, dr, da, db⟩))
        clear hK K
        (try simp only [Act.put, List.setIfInBounds_toArray, List.set_cons_zero, List.set_cons_succ])
        refine wpAnyH_tk 20 (v := ?va20) rfl (by kernel_rfl) (by kernel_rfl) (by kernel_rfl) (fun _ _ _ h => h) (by rfl) ?hya20 (by assumption) ?_
        case hya20 => (intro w hSw; (try dsimp only at hSw); go_simp <;> with_reducible rfl)
        (try simp only [Act.put, List.setIfInBounds_toArray, List.set_cons_zero, List.set_cons_succ])
        refine wpAnyH_done (by kernel_rfl) ?_ _
        clear da db c0 dr
        go_wp2
        go_roundg (gk - 1)
        case rel => exact ⟨h + 1, by have := Hk.out; omega, by go_num, G2.out, E.out.drew⟩
        case measure => have := Hk.out; omega
      · have Hf : Hid (leB p a b = false) := leB_no (fun hl => hle (hiff.2 (hl h hln)))
        have hd : atI (rowAt p.hands h) (fn b h) < atI (rowAt p.hands h) (fn a h) := by omega
        clear hiff
        refine wp_region_held_drew (S := (fun w' => w'.cell? ⟨w.heap.size, 0, none⟩ = some (.slice (some ⟨bh, oh, none⟩) p.hands.length caph) ∧ w'.cell? ⟨bh, oh + h, none⟩ = some (.slice ar (rowAt p.hands h).length cr) ∧ w'.cell? ⟨ba, oa + h, none⟩ = some (.int .i64 (fn a h)) ∧ w'.cell? ⟨bb, ob + h, none⟩ = some (.int .i64 (fn b h)))) (by kernel_rfl) ?hSb0 (fun hHeld => ?_)
        case hSb0 => (first | (exact ⟨c0, dr, da, db⟩) | ((try dsimp only); exact ⟨c0, dr, da, db⟩))
        refine wpAnyH_tk 0 (v := ?vb0) rfl (by kernel_rfl) (by kernel_rfl) (by kernel_rfl) (fun _ _ _ h => h) (by rfl) ?hyb0 (by assumption) ?_
        case hyb0 => (intro w hSw; (try dsimp only at hSw); go_simp <;> with_reducible rfl)
        (try simp only [Act.put, List.setIfInBounds_toArray, List.set_cons_zero, List.set_cons_succ])
        refine wpAnyH_tk 1 (v := ?vb1) rfl (by kernel_rfl) (by kernel_rfl) (by kernel_rfl) (fun _ _ _ h => h) (by rfl) ?hyb1 (by assumption) ?_
        case hyb1 => (intro w hSw; (try dsimp only at hSw); go_simp <;> with_reducible rfl)
        (try simp only [Act.put, List.setIfInBounds_toArray, List.set_cons_zero, List.set_cons_succ])
        refine wpAnyH_tk 2 (v := ?vb2) rfl (by kernel_rfl) (by kernel_rfl) (by kernel_rfl) (fun _ _ _ h => h) (by rfl) ?hyb2 (by assumption) ?_
        case hyb2 => (intro w hSw; (try dsimp only at hSw); go_simp <;> with_reducible rfl)
        (try simp only [Act.put, List.setIfInBounds_toArray, List.set_cons_zero, List.set_cons_succ])
        refine wpAnyH_tk 3 (v := ?vb3) rfl (by kernel_rfl) (by kernel_rfl) (by kernel_rfl) (fun _ _ _ h => h) (by rfl) ?hyb3 (by assumption) ?_
        case hyb3 => (intro w hSw; (try dsimp only at hSw); go_simp <;> with_reducible rfl)
        (try simp only [Act.put, List.setIfInBounds_toArray, List.set_cons_zero, List.set_cons_succ])
        refine wpAnyH_tk 4 (v := ?vb4) rfl (by kernel_rfl) (by kernel_rfl) (by kernel_rfl) (fun _ _ _ h => h) (by rfl) ?hyb4 (by assumption) ?_
        case hyb4 => (intro w hSw; (try dsimp only at hSw); go_simp <;> with_reducible rfl)
        (try simp only [Act.put, List.setIfInBounds_toArray, List.set_cons_zero, List.set_cons_succ])
        refine wpAnyH_tk 5 (v := ?vb5) rfl (by kernel_rfl) (by kernel_rfl) (by kernel_rfl) (fun _ _ _ h => h) (by rfl) ?hyb5 (by assumption) ?_
        case hyb5 => (intro w hSw; (try dsimp only at hSw); go_simp <;> with_reducible rfl)
        (try simp only [Act.put, List.setIfInBounds_toArray, List.set_cons_zero, List.set_cons_succ])
        refine wpAnyH_tk 6 (v := ?vb6) rfl (by kernel_rfl) (by kernel_rfl) (by kernel_rfl) (fun _ _ _ h => h) (by rfl) ?hyb6 (by assumption) ?_
        case hyb6 => (intro w hSw; (try dsimp only at hSw); go_simp <;> with_reducible rfl)
        (try simp only [Act.put, List.setIfInBounds_toArray, List.set_cons_zero, List.set_cons_succ])
        refine wpAnyH_tk 7 (v := ?vb7) rfl (by kernel_rfl) (by kernel_rfl) (by kernel_rfl) (fun _ _ _ h => h) (by rfl) ?hyb7 (by assumption) ?_
        case hyb7 => (intro w hSw; (try dsimp only at hSw); go_simp <;> with_reducible rfl)
        (try simp only [Act.put, List.setIfInBounds_toArray, List.set_cons_zero, List.set_cons_succ])
        refine wpAnyH_tk 8 (v := ?vb8) rfl (by kernel_rfl) (by kernel_rfl) (by kernel_rfl) (fun _ _ _ h => h) (by rfl) ?hyb8 (by assumption) ?_
        case hyb8 => (intro w hSw; (try dsimp only at hSw); go_simp <;> with_reducible rfl)
        (try simp only [Act.put, List.setIfInBounds_toArray, List.set_cons_zero, List.set_cons_succ])
        refine wpAnyH_tk 10 (v := ?vb10) rfl (by kernel_rfl) (by kernel_rfl) (by kernel_rfl) (fun _ _ _ h => h) (by rfl) ?hyb10 (by assumption) ?_
        case hyb10 => (intro w hSw; (try dsimp only at hSw); go_simp <;> with_reducible rfl)
        (try simp only [Act.put, List.setIfInBounds_toArray, List.set_cons_zero, List.set_cons_succ])
        refine wpAnyH_tk 11 (v := ?vb11) rfl (by kernel_rfl) (by kernel_rfl) (by kernel_rfl) (fun _ _ _ h => h) (by rfl) ?hyb11 (by assumption) ?_
        case hyb11 => (intro w hSw; (try dsimp only at hSw); go_simp <;> with_reducible rfl)
        (try simp only [Act.put, List.setIfInBounds_toArray, List.set_cons_zero, List.set_cons_succ])
        refine wpAnyH_tk 12 (v := ?vb12) rfl (by kernel_rfl) (by kernel_rfl) (by kernel_rfl) (fun _ _ _ h => h) (by rfl) ?hyb12 (by assumption) ?_
        case hyb12 => (intro w hSw; (try dsimp only at hSw); go_simp <;> with_reducible rfl)
        (try simp only [Act.put, List.setIfInBounds_toArray, List.set_cons_zero, List.set_cons_succ])
        refine wpAnyH_tk 13 (v := ?vb13) rfl (by kernel_rfl) (by kernel_rfl) (by kernel_rfl) (fun _ _ _ h => h) (by rfl) ?hyb13 (by assumption) ?_
        case hyb13 => (intro w hSw; (try dsimp only at hSw); go_simp <;> with_reducible rfl)
        (try simp only [Act.put, List.setIfInBounds_toArray, List.set_cons_zero, List.set_cons_succ])
        refine wpAnyH_tk 14 (v := ?vb14) rfl (by kernel_rfl) (by kernel_rfl) (by kernel_rfl) (fun _ _ _ h => h) (by rfl) ?hyb14 (by assumption) ?_
        case hyb14 => (intro w hSw; (try dsimp only at hSw); go_simp <;> with_reducible rfl)
        (try simp only [Act.put, List.setIfInBounds_toArray, List.set_cons_zero, List.set_cons_succ])
        refine wpAnyH_tk 15 (v := ?vb15) rfl (by kernel_rfl) (by kernel_rfl) (by kernel_rfl) (fun _ _ _ h => h) (by rfl) ?hyb15 (by assumption) ?_
        case hyb15 => (intro w hSw; (try dsimp only at hSw); go_simp <;> with_reducible rfl)
        (try simp only [Act.put, List.setIfInBounds_toArray, List.set_cons_zero, List.set_cons_succ])
        refine wpAnyH_tk 16 (v := ?vb16) rfl (by kernel_rfl) (by kernel_rfl) (by kernel_rfl) (fun _ _ _ h => h) (by rfl) ?hyb16 (by assumption) ?_
        case hyb16 => (intro w hSw; (try dsimp only at hSw); go_simp <;> with_reducible rfl)
        (try simp only [Act.put, List.setIfInBounds_toArray, List.set_cons_zero, List.set_cons_succ])
        refine wpAnyH_tk 17 (v := ?vb17) rfl (by kernel_rfl) (by kernel_rfl) (by kernel_rfl) (fun _ _ _ h => h) (by rfl) ?hyb17 (by assumption) ?_
        case hyb17 => (intro w hSw; (try dsimp only at hSw); go_simp <;> with_reducible rfl)
        (try simp only [Act.put, List.setIfInBounds_toArray, List.set_cons_zero, List.set_cons_succ])
        refine wpAnyH_tk 18 (v := ?vb18) rfl (by kernel_rfl) (by kernel_rfl) (by kernel_rfl) (fun _ _ _ h => h) (by rfl) ?hyb18 (by assumption) ?_
        case hyb18 => (intro w hSw; (try dsimp only at hSw); go_simp <;> with_reducible rfl)
        (try simp only [Act.put, List.setIfInBounds_toArray, List.set_cons_zero, List.set_cons_succ])
        refine wpAnyH_one 9 rfl (by kernel_rfl) (by rfl) (fun K hK => ?_)
        go_simp
        (go_at_call 21; refine (at_any _ (rowAt p.hands h) (fn a h) _ (Hrh.out.ext (e0.out.trans E.out).drew)).mono ?_; rintro e w' ⟨rfl, rfl⟩)
        refine hK.out _ _ ?hSb10 (fun hHeld => ?_)
        case hSb10 => (first | (exact ⟨c0, dr, da, db⟩) | ((try dsimp only); exact ⟨c0, dr, da, db⟩))
        clear hK K
        (try simp only [Act.put, List.setIfInBounds_toArray, List.set_cons_zero, List.set_cons_succ])
        refine wpAnyH_one 19 rfl (by kernel_rfl) (by rfl) (fun K hK => ?_)
        go_simp
        (go_at_call 21; refine (at_any _ (rowAt p.hands h) (fn b h) _ (Hrh.out.ext (e0.out.trans E.out).drew)).mono ?_; rintro e w' ⟨rfl, rfl⟩)
        refine hK.out _ _ ?hSb20 (fun hHeld => ?_)
        case hSb20 => (first | (exact ⟨c0, dr, da, db⟩) | ((try dsimp only); exact ⟨c0, dr, da, db⟩))
        clear hK K
        (try simp only [Act.put, List.setIfInBounds_toArray, List.set_cons_zero, List.set_cons_succ])
        refine wpAnyH_tk 20 (v := ?vb20) rfl (by kernel_rfl) (by kernel_rfl) (by kernel_rfl) (fun _ _ _ h => h) (by rfl) ?hyb20 (by assumption) ?_
        case hyb20 => (intro w hSw; (try dsimp only at hSw); go_simp <;> with_reducible rfl)
        (try simp only [Act.put, List.setIfInBounds_toArray, List.set_cons_zero, List.set_cons_succ])
        refine wpAnyH_done (by kernel_rfl) ?_ _
        clear da db c0 dr
        go_wp2
        go_ret
        exact ⟨ret_bool Hf.out.symm, e0.out.trans E.out.drew⟩
    · have Hf : Hid (leB p a b = true) := leB_iff.2 (fun x hx => G.out x (by have := Hla.out; omega))
      go_wp2
      go_ret
      exact ⟨ret_bool Hf.out.symm, e0.out.trans E.out⟩

end Go.Proofs.Ytkdfbbkonbgfmaa
