/-
  Contracts of the reference's Join and Meet.
-/
import Derived.Test.YtkdfbbkonbgfmaaRefC
namespace Go.Proofs.Ytkdfbbkonbgfmaa
open Go.RowKit

set_option maxRecDepth 20000 in
set_option maxHeartbeats 4000000 in
theorem RJoin_any (vh vs vp va vb : Value) (p : PlanD) (hok : PlanOk p) (a b : List Int) (w : World) (hp : PlanR w vh vs vp p) (hva : Ints w va a) (hvb : Ints w vb b) (hma : MatL p hok a) (hmb : MatL p hok b) :
    Calls Try.prog 31 #[.agg #[vh, vs, vp], va, vb] w fun e w' => ∃ u, e = .returned u ∧ OwnI w.heap.size w' u (joinL p a b) ∧ Ext w w' := by
  obtain ⟨aoh, caph, aos, caps, aop, capp, rfl, rfl, rfl⟩ := planR_shape hp
  have HP := hid hp
  have HA := hid hva
  have HB := hid hvb
  have HMa := hid hma
  have HMb := hid hmb
  have hla : Hid (a.length = p.hands.length) := hma.1
  have hlb : Hid (b.length = p.hands.length) := hmb.1
  have hn6 := hok.h6
  obtain ⟨-, aoa, capa, rfl, -⟩ := id hva
  obtain ⟨-, aob, capb, rfl, -⟩ := id hvb
  obtain ⟨ba, oa, rfl, -⟩ := hva.get 0 (by rw [hma.1]; exact hok.h1)
  obtain ⟨bb, ob, rfl, -⟩ := hvb.get 0 (by rw [hmb.1]; exact hok.h1)
  have hal : a.length ≤ 6 := by rw [hma.1]; exact hn6
  have e0 := hid (Ext.ofAlloc w (.cells #[.slice aoh p.hands.length caph, .slice aos p.shifts.length caps, .slice aop p.places.length capp] 25))
  have X0 := hid (Box3.alloc w 25 (.slice aoh p.hands.length caph) (.slice aos p.shifts.length caps) (.slice aop p.places.length capp))
  obtain ⟨i0, hi, hz0, hz1, hz2⟩ := info_parts info_int
  clear hp hva hvb hma hmb
  go_enter Try.func31, Try.ntmps31
  go_wp2
  have hszW : (w.alloc (.cells #[.slice aoh p.hands.length caph, .slice aos p.shifts.length caps, .slice aop p.places.length capp] 25)).heap.size = w.heap.size + 1 := by simp
  have HszW := hid hszW
  clear hszW
  generalize w.alloc (.cells #[.slice aoh p.hands.length caph, .slice aos p.shifts.length caps, .slice aop p.places.length capp] 25) = W at *
  go_loopg [11, 7] a.length (fun g i v wr => ∃ k : Nat, k + g = a.length ∧ i = .int .i64 k ∧ Hid (OwnI (w.heap.size + 1) wr v (joinTo p a b k)) ∧ Hid (Ext W wr))
  case atStart => exact ⟨0, by omega, rfl, World.ownsRow_nil _ _ _ _, Ext.refl _⟩
  case round =>
    obtain ⟨h, hk, rfl, OWN, E⟩ := hrel
    have hkl : h ≤ a.length := by omega
    have Hk := hid hk
    clear hk
    by_cases hlt : h < a.length
    · have hln : h < p.hands.length := by have := hla.out; omega
      have hh1 : (h : Int) < p.hands.length := by omega
      have hh0 : (0 : Int) ≤ (h : Int) := by omega
      have ha1 : (h : Int) < a.length := by omega
      have hb1 : (h : Int) < b.length := by have := hlb.out; omega
      obtain ⟨c0, c1, c2⟩ := (X0.out.ext E.out).cells
      have da := (HA.out.get' h hlt).2 _ (e0.out.trans E.out)
      have db := (HB.out.get' h (by omega)).2 _ (e0.out.trans E.out)
      have hsz := E.out.size
      rw [HszW.out] at hsz
      have hjn := (joinI_likes HMa.out HMb.out hln).1
      have hs := joinTo_succ p a b h
      rw [hjn] at hs
      have hjl : (joinTo p a b h).length ≤ 6 := by unfold joinTo; simp; omega
      clear hjn
      cases hli : likesB p h (fn b h) (fn a h)
      · rw [hli] at hs
        have Hs := hid hs
        clear hs
        go_wp2
        refine wp_region_held_drew (S := (fun w' => w'.cell? ⟨w.heap.size, 0, none⟩ = some (.slice aoh p.hands.length caph) ∧ w'.cell? ⟨w.heap.size, 1, none⟩ = some (.slice aos p.shifts.length caps) ∧ w'.cell? ⟨w.heap.size, 2, none⟩ = some (.slice aop p.places.length capp) ∧ w'.cell? ⟨ba, oa + h, none⟩ = some (.int .i64 (fn a h)) ∧ w'.cell? ⟨bb, ob + h, none⟩ = some (.int .i64 (fn b h)))) (by kernel_rfl) ?hSa0 (fun hHeld => ?_)
        case hSa0 => (first | (first | exact ⟨c0, c1, c2, da, db⟩ | exact ⟨he5.cell c0, he5.cell c1, he5.cell c2, he5.cell da, he5.cell db⟩) | ((try dsimp only); first | exact ⟨c0, c1, c2, da, db⟩ | exact ⟨he5.cell c0, he5.cell c1, he5.cell c2, he5.cell da, he5.cell db⟩))
        refine wpAnyH_tk 0 (v := ?va0) rfl (by kernel_rfl) (by kernel_rfl) (by kernel_rfl) (fun _ _ _ h => h) (by rfl) ?hya0 (by assumption) ?_
        case hya0 => (intro w hSw; (try dsimp only at hSw); go_simp <;> with_reducible rfl)
        (try simp only [Act.put, List.setIfInBounds_toArray, List.set_cons_zero, List.set_cons_succ])
        refine wpAnyH_tk 1 (v := ?va1) rfl (by kernel_rfl) (by kernel_rfl) (by kernel_rfl) (fun _ _ _ h => h) (by rfl) ?hya1 (by assumption) ?_
        case hya1 => (intro w hSw; (try dsimp only at hSw); go_simp <;> with_reducible rfl)
        (try simp only [Act.put, List.setIfInBounds_toArray, List.set_cons_zero, List.set_cons_succ])
        refine wpAnyH_tk 2 (v := ?va2) rfl (by kernel_rfl) (by kernel_rfl) (by kernel_rfl) (fun _ _ _ h => h) (by rfl) ?hya2 (by assumption) ?_
        case hya2 => (intro w hSw; (try dsimp only at hSw); go_simp <;> with_reducible rfl)
        (try simp only [Act.put, List.setIfInBounds_toArray, List.set_cons_zero, List.set_cons_succ])
        refine wpAnyH_tk 3 (v := ?va3) rfl (by kernel_rfl) (by kernel_rfl) (by kernel_rfl) (fun _ _ _ h => h) (by rfl) ?hya3 (by assumption) ?_
        case hya3 => (intro w hSw; (try dsimp only at hSw); go_simp <;> with_reducible rfl)
        (try simp only [Act.put, List.setIfInBounds_toArray, List.set_cons_zero, List.set_cons_succ])
        refine wpAnyH_tk 4 (v := ?va4) rfl (by kernel_rfl) (by kernel_rfl) (by kernel_rfl) (fun _ _ _ h => h) (by rfl) ?hya4 (by assumption) ?_
        case hya4 => (intro w hSw; (try dsimp only at hSw); go_simp <;> with_reducible rfl)
        (try simp only [Act.put, List.setIfInBounds_toArray, List.set_cons_zero, List.set_cons_succ])
        refine wpAnyH_tk 5 (v := ?va5) rfl (by kernel_rfl) (by kernel_rfl) (by kernel_rfl) (fun _ _ _ h => h) (by rfl) ?hya5 (by assumption) ?_
        case hya5 => (intro w hSw; (try dsimp only at hSw); go_simp <;> with_reducible rfl)
        (try simp only [Act.put, List.setIfInBounds_toArray, List.set_cons_zero, List.set_cons_succ])
        refine wpAnyH_tk 6 (v := ?va6) rfl (by kernel_rfl) (by kernel_rfl) (by kernel_rfl) (fun _ _ _ h => h) (by rfl) ?hya6 (by assumption) ?_
        case hya6 => (intro w hSw; (try dsimp only at hSw); go_simp <;> with_reducible rfl)
        (try simp only [Act.put, List.setIfInBounds_toArray, List.set_cons_zero, List.set_cons_succ])
        refine wpAnyH_tk 7 (v := ?va7) rfl (by kernel_rfl) (by kernel_rfl) (by kernel_rfl) (fun _ _ _ h => h) (by rfl) ?hya7 (by assumption) ?_
        case hya7 => (intro w hSw; (try dsimp only at hSw); go_simp <;> with_reducible rfl)
        (try simp only [Act.put, List.setIfInBounds_toArray, List.set_cons_zero, List.set_cons_succ])
        refine wpAnyH_tk 8 (v := ?va8) rfl (by kernel_rfl) (by kernel_rfl) (by kernel_rfl) (fun _ _ _ h => h) (by rfl) ?hya8 (by assumption) ?_
        case hya8 => (intro w hSw; (try dsimp only at hSw); go_simp <;> with_reducible rfl)
        (try simp only [Act.put, List.setIfInBounds_toArray, List.set_cons_zero, List.set_cons_succ])
        refine wpAnyH_tk 9 (v := ?va9) rfl (by kernel_rfl) (by kernel_rfl) (by kernel_rfl) (fun _ _ _ h => h) (by rfl) ?hya9 (by assumption) ?_
        case hya9 => (intro w hSw; (try dsimp only at hSw); go_simp <;> with_reducible rfl)
        (try simp only [Act.put, List.setIfInBounds_toArray, List.set_cons_zero, List.set_cons_succ])
        refine wpAnyH_one 10 rfl (by kernel_rfl) (by rfl) (fun K hK => ?_)
        go_simp
        (go_at_call 65; refine (likes_any _ _ _ p h (fn b h) (fn a h) _ (HP.out.ext (e0.out.trans E.out).drew) (by omega) hh1).mono ?_; rintro e w5 ⟨rfl, he5⟩; rw [hli])
        refine hK.out _ _ ?hSa11 (fun hHeld => ?_)
        case hSa11 => (first | (first | exact ⟨c0, c1, c2, da, db⟩ | exact ⟨he5.cell c0, he5.cell c1, he5.cell c2, he5.cell da, he5.cell db⟩) | ((try dsimp only); first | exact ⟨c0, c1, c2, da, db⟩ | exact ⟨he5.cell c0, he5.cell c1, he5.cell c2, he5.cell da, he5.cell db⟩))
        clear hK K
        (try simp only [Act.put, List.setIfInBounds_toArray, List.set_cons_zero, List.set_cons_succ])
        refine wpAnyH_done (by kernel_rfl) ?_ _
        have HE7 := hid (E.out.drew.trans he5)
        have O7 := hid (ownsRow_ext OWN.out ((Ext.refl wr).drew.trans he5))
        have dv := he5.cell (show wr.drew.cell? _ = some (.int .i64 (fn a h)) from da)
        have hsz7 := he5.size
        rw [World.size_drew] at hsz7
        clear c0 c1 c2 da db he5
        go_wp2_with (at_builtin; go_must (refine wpList_append_own _ rfl _ _ 23 rfl (w.heap.size + 1) 3 i0 (.int .i64 0) 1 8 Try.underlying23 hi hz0 hz1 hz2 rfl (by decide) _ _ _ rfl (O7.out.alloc _) ⟨w5.heap.size, 0, none⟩ 1 1 [.int .i64 (fn a h)] rfl rfl ?c1 ?c2 ?c3 ?c4 ?c5 ?_))
        case c1 => exact cell_one_new _ _ _
        case c2 => intro u hu; simp at hu; subst hu; rfl
        case c3 => unfold maxLen; omega
        case c4 => omega
        case c5 => simp; omega
        intro v' w' hown' hg _
        have hR := OwnI.push rfl hown'
        have hs2 := Hs.out
        simp only [Bool.false_eq_true, if_false] at hs2
        rw [← hs2] at hR
        have hE := Ext.push HE7.out O7.out (Nat.le_of_eq HszW.out) hg
        have HR := hid hR
        have HE := hid hE
        clear hown' hg hR hE hs2
        go_wp2
        go_roundg (gk - 1)
        case rel => exact ⟨h + 1, by have := Hk.out; omega, by go_num, HR.out, HE.out⟩
        case measure => have := Hk.out; omega
      · rw [hli] at hs
        have Hs := hid hs
        clear hs
        go_wp2
        refine wp_region_held_drew (S := (fun w' => w'.cell? ⟨w.heap.size, 0, none⟩ = some (.slice aoh p.hands.length caph) ∧ w'.cell? ⟨w.heap.size, 1, none⟩ = some (.slice aos p.shifts.length caps) ∧ w'.cell? ⟨w.heap.size, 2, none⟩ = some (.slice aop p.places.length capp) ∧ w'.cell? ⟨ba, oa + h, none⟩ = some (.int .i64 (fn a h)) ∧ w'.cell? ⟨bb, ob + h, none⟩ = some (.int .i64 (fn b h)))) (by kernel_rfl) ?hSb0 (fun hHeld => ?_)
        case hSb0 => (first | (first | exact ⟨c0, c1, c2, da, db⟩ | exact ⟨he5.cell c0, he5.cell c1, he5.cell c2, he5.cell da, he5.cell db⟩) | ((try dsimp only); first | exact ⟨c0, c1, c2, da, db⟩ | exact ⟨he5.cell c0, he5.cell c1, he5.cell c2, he5.cell da, he5.cell db⟩))
        refine wpAnyH_tk 0 (v := ?vb0) rfl (by kernel_rfl) (by kernel_rfl) (by kernel_rfl) (fun _ _ _ h => h) (by rfl) ?hyb0 (by assumption) ?_
        case hyb0 => (intro w hSw; (try dsimp only at hSw); go_simp <;> with_reducible rfl)
        (try simp only [Act.put, List.setIfInBounds_toArray, List.set_cons_zero, List.set_cons_succ])
        refine wpAnyH_tk 1 (v := ?vb1) rfl (by kernel_rfl) (by kernel_rfl) (by kernel_rfl) (fun _ _ _ h => h) (by rfl) ?hyb1 (by assumption) ?_
        case hyb1 => (intro w hSw; (try dsimp only at hSw); go_simp <;> with_reducible rfl)
        (try simp only [Act.put, List.setIfInBounds_toArray, List.set_cons_zero, List.set_cons_succ])
        refine wpAnyH_tk 2 (v := ?vb2) rfl (by kernel_rfl) (by kernel_rfl) (by kernel_rfl) (fun _ _ _ h => h) (by rfl) ?hyb2 (by assumption) ?_
        case hyb2 => (intro w hSw; (try dsimp only at hSw); go_simp <;> with_reducible rfl)
        (try simp only [Act.put, List.setIfInBounds_toArray, List.set_cons_zero, List.set_cons_succ])
        refine wpAnyH_tk 3 (v := ?vb3) rfl (by kernel_rfl) (by kernel_rfl) (by kernel_rfl) (fun _ _ _ h => h) (by rfl) ?hyb3 (by assumption) ?_
        case hyb3 => (intro w hSw; (try dsimp only at hSw); go_simp <;> with_reducible rfl)
        (try simp only [Act.put, List.setIfInBounds_toArray, List.set_cons_zero, List.set_cons_succ])
        refine wpAnyH_tk 4 (v := ?vb4) rfl (by kernel_rfl) (by kernel_rfl) (by kernel_rfl) (fun _ _ _ h => h) (by rfl) ?hyb4 (by assumption) ?_
        case hyb4 => (intro w hSw; (try dsimp only at hSw); go_simp <;> with_reducible rfl)
        (try simp only [Act.put, List.setIfInBounds_toArray, List.set_cons_zero, List.set_cons_succ])
        refine wpAnyH_tk 5 (v := ?vb5) rfl (by kernel_rfl) (by kernel_rfl) (by kernel_rfl) (fun _ _ _ h => h) (by rfl) ?hyb5 (by assumption) ?_
        case hyb5 => (intro w hSw; (try dsimp only at hSw); go_simp <;> with_reducible rfl)
        (try simp only [Act.put, List.setIfInBounds_toArray, List.set_cons_zero, List.set_cons_succ])
        refine wpAnyH_tk 6 (v := ?vb6) rfl (by kernel_rfl) (by kernel_rfl) (by kernel_rfl) (fun _ _ _ h => h) (by rfl) ?hyb6 (by assumption) ?_
        case hyb6 => (intro w hSw; (try dsimp only at hSw); go_simp <;> with_reducible rfl)
        (try simp only [Act.put, List.setIfInBounds_toArray, List.set_cons_zero, List.set_cons_succ])
        refine wpAnyH_tk 7 (v := ?vb7) rfl (by kernel_rfl) (by kernel_rfl) (by kernel_rfl) (fun _ _ _ h => h) (by rfl) ?hyb7 (by assumption) ?_
        case hyb7 => (intro w hSw; (try dsimp only at hSw); go_simp <;> with_reducible rfl)
        (try simp only [Act.put, List.setIfInBounds_toArray, List.set_cons_zero, List.set_cons_succ])
        refine wpAnyH_tk 8 (v := ?vb8) rfl (by kernel_rfl) (by kernel_rfl) (by kernel_rfl) (fun _ _ _ h => h) (by rfl) ?hyb8 (by assumption) ?_
        case hyb8 => (intro w hSw; (try dsimp only at hSw); go_simp <;> with_reducible rfl)
        (try simp only [Act.put, List.setIfInBounds_toArray, List.set_cons_zero, List.set_cons_succ])
        refine wpAnyH_tk 9 (v := ?vb9) rfl (by kernel_rfl) (by kernel_rfl) (by kernel_rfl) (fun _ _ _ h => h) (by rfl) ?hyb9 (by assumption) ?_
        case hyb9 => (intro w hSw; (try dsimp only at hSw); go_simp <;> with_reducible rfl)
        (try simp only [Act.put, List.setIfInBounds_toArray, List.set_cons_zero, List.set_cons_succ])
        refine wpAnyH_one 10 rfl (by kernel_rfl) (by rfl) (fun K hK => ?_)
        go_simp
        (go_at_call 65; refine (likes_any _ _ _ p h (fn b h) (fn a h) _ (HP.out.ext (e0.out.trans E.out).drew) (by omega) hh1).mono ?_; rintro e w5 ⟨rfl, he5⟩; rw [hli])
        refine hK.out _ _ ?hSb11 (fun hHeld => ?_)
        case hSb11 => (first | (first | exact ⟨c0, c1, c2, da, db⟩ | exact ⟨he5.cell c0, he5.cell c1, he5.cell c2, he5.cell da, he5.cell db⟩) | ((try dsimp only); first | exact ⟨c0, c1, c2, da, db⟩ | exact ⟨he5.cell c0, he5.cell c1, he5.cell c2, he5.cell da, he5.cell db⟩))
        clear hK K
        (try simp only [Act.put, List.setIfInBounds_toArray, List.set_cons_zero, List.set_cons_succ])
        refine wpAnyH_done (by kernel_rfl) ?_ _
        have HE7 := hid (E.out.drew.trans he5)
        have O7 := hid (ownsRow_ext OWN.out ((Ext.refl wr).drew.trans he5))
        have dv := he5.cell (show wr.drew.cell? _ = some (.int .i64 (fn b h)) from db)
        have hsz7 := he5.size
        rw [World.size_drew] at hsz7
        clear c0 c1 c2 da db he5
        go_wp2_with (at_builtin; go_must (refine wpList_append_own _ rfl _ _ 23 rfl (w.heap.size + 1) 3 i0 (.int .i64 0) 1 8 Try.underlying23 hi hz0 hz1 hz2 rfl (by decide) _ _ _ rfl (O7.out.alloc _) ⟨w5.heap.size, 0, none⟩ 1 1 [.int .i64 (fn b h)] rfl rfl ?c1 ?c2 ?c3 ?c4 ?c5 ?_))
        case c1 => exact cell_one_new _ _ _
        case c2 => intro u hu; simp at hu; subst hu; rfl
        case c3 => unfold maxLen; omega
        case c4 => omega
        case c5 => simp; omega
        intro v' w' hown' hg _
        have hR := OwnI.push rfl hown'
        have hs2 := Hs.out
        simp only [if_true] at hs2
        rw [← hs2] at hR
        have hE := Ext.push HE7.out O7.out (Nat.le_of_eq HszW.out) hg
        have HR := hid hR
        have HE := hid hE
        clear hown' hg hR hE hs2
        go_wp2
        go_roundg (gk - 1)
        case rel => exact ⟨h + 1, by have := Hk.out; omega, by go_num, HR.out, HE.out⟩
        case measure => have := Hk.out; omega
    · have ek : h = p.hands.length := by have := hla.out; omega
      subst ek
      go_wp2
      go_ret
      exact ⟨_, rfl, ownsRow_base OWN.out (Nat.le_succ _), e0.out.trans E.out⟩

set_option maxRecDepth 20000 in
set_option maxHeartbeats 4000000 in
theorem RMeet_any (vh vs vp va vb : Value) (p : PlanD) (hok : PlanOk p) (a b : List Int) (w : World) (hp : PlanR w vh vs vp p) (hva : Ints w va a) (hvb : Ints w vb b) (hma : MatL p hok a) (hmb : MatL p hok b) :
    Calls Try.prog 32 #[.agg #[vh, vs, vp], va, vb] w fun e w' => ∃ u, e = .returned u ∧ OwnI w.heap.size w' u (meetL p a b) ∧ Ext w w' := by
  obtain ⟨aoh, caph, aos, caps, aop, capp, rfl, rfl, rfl⟩ := planR_shape hp
  have HP := hid hp
  have HA := hid hva
  have HB := hid hvb
  have HMa := hid hma
  have HMb := hid hmb
  have hla : Hid (a.length = p.hands.length) := hma.1
  have hlb : Hid (b.length = p.hands.length) := hmb.1
  have hn6 := hok.h6
  obtain ⟨-, aoa, capa, rfl, -⟩ := id hva
  obtain ⟨-, aob, capb, rfl, -⟩ := id hvb
  obtain ⟨ba, oa, rfl, -⟩ := hva.get 0 (by rw [hma.1]; exact hok.h1)
  obtain ⟨bb, ob, rfl, -⟩ := hvb.get 0 (by rw [hmb.1]; exact hok.h1)
  have hal : a.length ≤ 6 := by rw [hma.1]; exact hn6
  have e0 := hid (Ext.ofAlloc w (.cells #[.slice aoh p.hands.length caph, .slice aos p.shifts.length caps, .slice aop p.places.length capp] 25))
  have X0 := hid (Box3.alloc w 25 (.slice aoh p.hands.length caph) (.slice aos p.shifts.length caps) (.slice aop p.places.length capp))
  obtain ⟨i0, hi, hz0, hz1, hz2⟩ := info_parts info_int
  clear hp hva hvb hma hmb
  go_enter Try.func32, Try.ntmps32
  go_wp2
  have hszW : (w.alloc (.cells #[.slice aoh p.hands.length caph, .slice aos p.shifts.length caps, .slice aop p.places.length capp] 25)).heap.size = w.heap.size + 1 := by simp
  have HszW := hid hszW
  clear hszW
  generalize w.alloc (.cells #[.slice aoh p.hands.length caph, .slice aos p.shifts.length caps, .slice aop p.places.length capp] 25) = W at *
  go_loopg [11, 7] a.length (fun g i v wr => ∃ k : Nat, k + g = a.length ∧ i = .int .i64 k ∧ Hid (OwnI (w.heap.size + 1) wr v (meetTo p a b k)) ∧ Hid (Ext W wr))
  case atStart => exact ⟨0, by omega, rfl, World.ownsRow_nil _ _ _ _, Ext.refl _⟩
  case round =>
    obtain ⟨h, hk, rfl, OWN, E⟩ := hrel
    have hkl : h ≤ a.length := by omega
    have Hk := hid hk
    clear hk
    by_cases hlt : h < a.length
    · have hln : h < p.hands.length := by have := hla.out; omega
      have hh1 : (h : Int) < p.hands.length := by omega
      have hh0 : (0 : Int) ≤ (h : Int) := by omega
      have ha1 : (h : Int) < a.length := by omega
      have hb1 : (h : Int) < b.length := by have := hlb.out; omega
      obtain ⟨c0, c1, c2⟩ := (X0.out.ext E.out).cells
      have da := (HA.out.get' h hlt).2 _ (e0.out.trans E.out)
      have db := (HB.out.get' h (by omega)).2 _ (e0.out.trans E.out)
      have hsz := E.out.size
      rw [HszW.out] at hsz
      have hjn := (joinI_likes HMa.out HMb.out hln).2
      have hs := meetTo_succ p a b h
      rw [hjn] at hs
      have hjl : (meetTo p a b h).length ≤ 6 := by unfold meetTo; simp; omega
      clear hjn
      cases hli : likesB p h (fn b h) (fn a h)
      · rw [hli] at hs
        have Hs := hid hs
        clear hs
        go_wp2
        refine wp_region_held_drew (S := (fun w' => w'.cell? ⟨w.heap.size, 0, none⟩ = some (.slice aoh p.hands.length caph) ∧ w'.cell? ⟨w.heap.size, 1, none⟩ = some (.slice aos p.shifts.length caps) ∧ w'.cell? ⟨w.heap.size, 2, none⟩ = some (.slice aop p.places.length capp) ∧ w'.cell? ⟨ba, oa + h, none⟩ = some (.int .i64 (fn a h)) ∧ w'.cell? ⟨bb, ob + h, none⟩ = some (.int .i64 (fn b h)))) (by kernel_rfl) ?hSc0 (fun hHeld => ?_)
        case hSc0 => (first | (first | exact ⟨c0, c1, c2, da, db⟩ | exact ⟨he5.cell c0, he5.cell c1, he5.cell c2, he5.cell da, he5.cell db⟩) | ((try dsimp only); first | exact ⟨c0, c1, c2, da, db⟩ | exact ⟨he5.cell c0, he5.cell c1, he5.cell c2, he5.cell da, he5.cell db⟩))
        refine wpAnyH_tk 0 (v := ?vc0) rfl (by kernel_rfl) (by kernel_rfl) (by kernel_rfl) (fun _ _ _ h => h) (by rfl) ?hyc0 (by assumption) ?_
        case hyc0 => (intro w hSw; (try dsimp only at hSw); go_simp <;> with_reducible rfl)
        (try simp only [Act.put, List.setIfInBounds_toArray, List.set_cons_zero, List.set_cons_succ])
        refine wpAnyH_tk 1 (v := ?vc1) rfl (by kernel_rfl) (by kernel_rfl) (by kernel_rfl) (fun _ _ _ h => h) (by rfl) ?hyc1 (by assumption) ?_
        case hyc1 => (intro w hSw; (try dsimp only at hSw); go_simp <;> with_reducible rfl)
        (try simp only [Act.put, List.setIfInBounds_toArray, List.set_cons_zero, List.set_cons_succ])
        refine wpAnyH_tk 2 (v := ?vc2) rfl (by kernel_rfl) (by kernel_rfl) (by kernel_rfl) (fun _ _ _ h => h) (by rfl) ?hyc2 (by assumption) ?_
        case hyc2 => (intro w hSw; (try dsimp only at hSw); go_simp <;> with_reducible rfl)
        (try simp only [Act.put, List.setIfInBounds_toArray, List.set_cons_zero, List.set_cons_succ])
        refine wpAnyH_tk 3 (v := ?vc3) rfl (by kernel_rfl) (by kernel_rfl) (by kernel_rfl) (fun _ _ _ h => h) (by rfl) ?hyc3 (by assumption) ?_
        case hyc3 => (intro w hSw; (try dsimp only at hSw); go_simp <;> with_reducible rfl)
        (try simp only [Act.put, List.setIfInBounds_toArray, List.set_cons_zero, List.set_cons_succ])
        refine wpAnyH_tk 4 (v := ?vc4) rfl (by kernel_rfl) (by kernel_rfl) (by kernel_rfl) (fun _ _ _ h => h) (by rfl) ?hyc4 (by assumption) ?_
        case hyc4 => (intro w hSw; (try dsimp only at hSw); go_simp <;> with_reducible rfl)
        (try simp only [Act.put, List.setIfInBounds_toArray, List.set_cons_zero, List.set_cons_succ])
        refine wpAnyH_tk 5 (v := ?vc5) rfl (by kernel_rfl) (by kernel_rfl) (by kernel_rfl) (fun _ _ _ h => h) (by rfl) ?hyc5 (by assumption) ?_
        case hyc5 => (intro w hSw; (try dsimp only at hSw); go_simp <;> with_reducible rfl)
        (try simp only [Act.put, List.setIfInBounds_toArray, List.set_cons_zero, List.set_cons_succ])
        refine wpAnyH_tk 6 (v := ?vc6) rfl (by kernel_rfl) (by kernel_rfl) (by kernel_rfl) (fun _ _ _ h => h) (by rfl) ?hyc6 (by assumption) ?_
        case hyc6 => (intro w hSw; (try dsimp only at hSw); go_simp <;> with_reducible rfl)
        (try simp only [Act.put, List.setIfInBounds_toArray, List.set_cons_zero, List.set_cons_succ])
        refine wpAnyH_tk 7 (v := ?vc7) rfl (by kernel_rfl) (by kernel_rfl) (by kernel_rfl) (fun _ _ _ h => h) (by rfl) ?hyc7 (by assumption) ?_
        case hyc7 => (intro w hSw; (try dsimp only at hSw); go_simp <;> with_reducible rfl)
        (try simp only [Act.put, List.setIfInBounds_toArray, List.set_cons_zero, List.set_cons_succ])
        refine wpAnyH_tk 8 (v := ?vc8) rfl (by kernel_rfl) (by kernel_rfl) (by kernel_rfl) (fun _ _ _ h => h) (by rfl) ?hyc8 (by assumption) ?_
        case hyc8 => (intro w hSw; (try dsimp only at hSw); go_simp <;> with_reducible rfl)
        (try simp only [Act.put, List.setIfInBounds_toArray, List.set_cons_zero, List.set_cons_succ])
        refine wpAnyH_tk 9 (v := ?vc9) rfl (by kernel_rfl) (by kernel_rfl) (by kernel_rfl) (fun _ _ _ h => h) (by rfl) ?hyc9 (by assumption) ?_
        case hyc9 => (intro w hSw; (try dsimp only at hSw); go_simp <;> with_reducible rfl)
        (try simp only [Act.put, List.setIfInBounds_toArray, List.set_cons_zero, List.set_cons_succ])
        refine wpAnyH_one 10 rfl (by kernel_rfl) (by rfl) (fun K hK => ?_)
        go_simp
        (go_at_call 65; refine (likes_any _ _ _ p h (fn b h) (fn a h) _ (HP.out.ext (e0.out.trans E.out).drew) (by omega) hh1).mono ?_; rintro e w5 ⟨rfl, he5⟩; rw [hli])
        refine hK.out _ _ ?hSc11 (fun hHeld => ?_)
        case hSc11 => (first | (first | exact ⟨c0, c1, c2, da, db⟩ | exact ⟨he5.cell c0, he5.cell c1, he5.cell c2, he5.cell da, he5.cell db⟩) | ((try dsimp only); first | exact ⟨c0, c1, c2, da, db⟩ | exact ⟨he5.cell c0, he5.cell c1, he5.cell c2, he5.cell da, he5.cell db⟩))
        clear hK K
        (try simp only [Act.put, List.setIfInBounds_toArray, List.set_cons_zero, List.set_cons_succ])
        refine wpAnyH_done (by kernel_rfl) ?_ _
        have HE7 := hid (E.out.drew.trans he5)
        have O7 := hid (ownsRow_ext OWN.out ((Ext.refl wr).drew.trans he5))
        have dv := he5.cell (show wr.drew.cell? _ = some (.int .i64 (fn b h)) from db)
        have hsz7 := he5.size
        rw [World.size_drew] at hsz7
        clear c0 c1 c2 da db he5
        go_wp2_with (at_builtin; go_must (refine wpList_append_own _ rfl _ _ 23 rfl (w.heap.size + 1) 3 i0 (.int .i64 0) 1 8 Try.underlying23 hi hz0 hz1 hz2 rfl (by decide) _ _ _ rfl (O7.out.alloc _) ⟨w5.heap.size, 0, none⟩ 1 1 [.int .i64 (fn b h)] rfl rfl ?c1 ?c2 ?c3 ?c4 ?c5 ?_))
        case c1 => exact cell_one_new _ _ _
        case c2 => intro u hu; simp at hu; subst hu; rfl
        case c3 => unfold maxLen; omega
        case c4 => omega
        case c5 => simp; omega
        intro v' w' hown' hg _
        have hR := OwnI.push rfl hown'
        have hs2 := Hs.out
        simp only [Bool.false_eq_true, if_false] at hs2
        rw [← hs2] at hR
        have hE := Ext.push HE7.out O7.out (Nat.le_of_eq HszW.out) hg
        have HR := hid hR
        have HE := hid hE
        clear hown' hg hR hE hs2
        go_wp2
        go_roundg (gk - 1)
        case rel => exact ⟨h + 1, by have := Hk.out; omega, by go_num, HR.out, HE.out⟩
        case measure => have := Hk.out; omega
      · rw [hli] at hs
        have Hs := hid hs
        clear hs
        go_wp2
        refine wp_region_held_drew (S := (fun w' => w'.cell? ⟨w.heap.size, 0, none⟩ = some (.slice aoh p.hands.length caph) ∧ w'.cell? ⟨w.heap.size, 1, none⟩ = some (.slice aos p.shifts.length caps) ∧ w'.cell? ⟨w.heap.size, 2, none⟩ = some (.slice aop p.places.length capp) ∧ w'.cell? ⟨ba, oa + h, none⟩ = some (.int .i64 (fn a h)) ∧ w'.cell? ⟨bb, ob + h, none⟩ = some (.int .i64 (fn b h)))) (by kernel_rfl) ?hSd0 (fun hHeld => ?_)
        case hSd0 => (first | (first | exact ⟨c0, c1, c2, da, db⟩ | exact ⟨he5.cell c0, he5.cell c1, he5.cell c2, he5.cell da, he5.cell db⟩) | ((try dsimp only); first | exact ⟨c0, c1, c2, da, db⟩ | exact ⟨he5.cell c0, he5.cell c1, he5.cell c2, he5.cell da, he5.cell db⟩))
        refine wpAnyH_tk 0 (v := ?vd0) rfl (by kernel_rfl) (by kernel_rfl) (by kernel_rfl) (fun _ _ _ h => h) (by rfl) ?hyd0 (by assumption) ?_
        case hyd0 => (intro w hSw; (try dsimp only at hSw); go_simp <;> with_reducible rfl)
        (try simp only [Act.put, List.setIfInBounds_toArray, List.set_cons_zero, List.set_cons_succ])
        refine wpAnyH_tk 1 (v := ?vd1) rfl (by kernel_rfl) (by kernel_rfl) (by kernel_rfl) (fun _ _ _ h => h) (by rfl) ?hyd1 (by assumption) ?_
        case hyd1 => (intro w hSw; (try dsimp only at hSw); go_simp <;> with_reducible rfl)
        (try simp only [Act.put, List.setIfInBounds_toArray, List.set_cons_zero, List.set_cons_succ])
        refine wpAnyH_tk 2 (v := ?vd2) rfl (by kernel_rfl) (by kernel_rfl) (by kernel_rfl) (fun _ _ _ h => h) (by rfl) ?hyd2 (by assumption) ?_
        case hyd2 => (intro w hSw; (try dsimp only at hSw); go_simp <;> with_reducible rfl)
        (try simp only [Act.put, List.setIfInBounds_toArray, List.set_cons_zero, List.set_cons_succ])
        refine wpAnyH_tk 3 (v := ?vd3) rfl (by kernel_rfl) (by kernel_rfl) (by kernel_rfl) (fun _ _ _ h => h) (by rfl) ?hyd3 (by assumption) ?_
        case hyd3 => (intro w hSw; (try dsimp only at hSw); go_simp <;> with_reducible rfl)
        (try simp only [Act.put, List.setIfInBounds_toArray, List.set_cons_zero, List.set_cons_succ])
        refine wpAnyH_tk 4 (v := ?vd4) rfl (by kernel_rfl) (by kernel_rfl) (by kernel_rfl) (fun _ _ _ h => h) (by rfl) ?hyd4 (by assumption) ?_
        case hyd4 => (intro w hSw; (try dsimp only at hSw); go_simp <;> with_reducible rfl)
        (try simp only [Act.put, List.setIfInBounds_toArray, List.set_cons_zero, List.set_cons_succ])
        refine wpAnyH_tk 5 (v := ?vd5) rfl (by kernel_rfl) (by kernel_rfl) (by kernel_rfl) (fun _ _ _ h => h) (by rfl) ?hyd5 (by assumption) ?_
        case hyd5 => (intro w hSw; (try dsimp only at hSw); go_simp <;> with_reducible rfl)
        (try simp only [Act.put, List.setIfInBounds_toArray, List.set_cons_zero, List.set_cons_succ])
        refine wpAnyH_tk 6 (v := ?vd6) rfl (by kernel_rfl) (by kernel_rfl) (by kernel_rfl) (fun _ _ _ h => h) (by rfl) ?hyd6 (by assumption) ?_
        case hyd6 => (intro w hSw; (try dsimp only at hSw); go_simp <;> with_reducible rfl)
        (try simp only [Act.put, List.setIfInBounds_toArray, List.set_cons_zero, List.set_cons_succ])
        refine wpAnyH_tk 7 (v := ?vd7) rfl (by kernel_rfl) (by kernel_rfl) (by kernel_rfl) (fun _ _ _ h => h) (by rfl) ?hyd7 (by assumption) ?_
        case hyd7 => (intro w hSw; (try dsimp only at hSw); go_simp <;> with_reducible rfl)
        (try simp only [Act.put, List.setIfInBounds_toArray, List.set_cons_zero, List.set_cons_succ])
        refine wpAnyH_tk 8 (v := ?vd8) rfl (by kernel_rfl) (by kernel_rfl) (by kernel_rfl) (fun _ _ _ h => h) (by rfl) ?hyd8 (by assumption) ?_
        case hyd8 => (intro w hSw; (try dsimp only at hSw); go_simp <;> with_reducible rfl)
        (try simp only [Act.put, List.setIfInBounds_toArray, List.set_cons_zero, List.set_cons_succ])
        refine wpAnyH_tk 9 (v := ?vd9) rfl (by kernel_rfl) (by kernel_rfl) (by kernel_rfl) (fun _ _ _ h => h) (by rfl) ?hyd9 (by assumption) ?_
        case hyd9 => (intro w hSw; (try dsimp only at hSw); go_simp <;> with_reducible rfl)
        (try simp only [Act.put, List.setIfInBounds_toArray, List.set_cons_zero, List.set_cons_succ])
        refine wpAnyH_one 10 rfl (by kernel_rfl) (by rfl) (fun K hK => ?_)
        go_simp
        (go_at_call 65; refine (likes_any _ _ _ p h (fn b h) (fn a h) _ (HP.out.ext (e0.out.trans E.out).drew) (by omega) hh1).mono ?_; rintro e w5 ⟨rfl, he5⟩; rw [hli])
        refine hK.out _ _ ?hSd11 (fun hHeld => ?_)
        case hSd11 => (first | (first | exact ⟨c0, c1, c2, da, db⟩ | exact ⟨he5.cell c0, he5.cell c1, he5.cell c2, he5.cell da, he5.cell db⟩) | ((try dsimp only); first | exact ⟨c0, c1, c2, da, db⟩ | exact ⟨he5.cell c0, he5.cell c1, he5.cell c2, he5.cell da, he5.cell db⟩))
        clear hK K
        (try simp only [Act.put, List.setIfInBounds_toArray, List.set_cons_zero, List.set_cons_succ])
        refine wpAnyH_done (by kernel_rfl) ?_ _
        have HE7 := hid (E.out.drew.trans he5)
        have O7 := hid (ownsRow_ext OWN.out ((Ext.refl wr).drew.trans he5))
        have dv := he5.cell (show wr.drew.cell? _ = some (.int .i64 (fn a h)) from da)
        have hsz7 := he5.size
        rw [World.size_drew] at hsz7
        clear c0 c1 c2 da db he5
        go_wp2_with (at_builtin; go_must (refine wpList_append_own _ rfl _ _ 23 rfl (w.heap.size + 1) 3 i0 (.int .i64 0) 1 8 Try.underlying23 hi hz0 hz1 hz2 rfl (by decide) _ _ _ rfl (O7.out.alloc _) ⟨w5.heap.size, 0, none⟩ 1 1 [.int .i64 (fn a h)] rfl rfl ?c1 ?c2 ?c3 ?c4 ?c5 ?_))
        case c1 => exact cell_one_new _ _ _
        case c2 => intro u hu; simp at hu; subst hu; rfl
        case c3 => unfold maxLen; omega
        case c4 => omega
        case c5 => simp; omega
        intro v' w' hown' hg _
        have hR := OwnI.push rfl hown'
        have hs2 := Hs.out
        simp only [if_true] at hs2
        rw [← hs2] at hR
        have hE := Ext.push HE7.out O7.out (Nat.le_of_eq HszW.out) hg
        have HR := hid hR
        have HE := hid hE
        clear hown' hg hR hE hs2
        go_wp2
        go_roundg (gk - 1)
        case rel => exact ⟨h + 1, by have := Hk.out; omega, by go_num, HR.out, HE.out⟩
        case measure => have := Hk.out; omega
    · have ek : h = p.hands.length := by have := hla.out; omega
      subst ek
      go_wp2
      go_ret
      exact ⟨_, rfl, ownsRow_base OWN.out (Nat.le_succ _), e0.out.trans E.out⟩

end Go.Proofs.Ytkdfbbkonbgfmaa
