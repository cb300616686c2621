/-
  Contracts of the reference's Good, best, First, Last.
-/
import Derived.Test.YtkdfbbkonbgfmaaRefD
namespace Go.Proofs.Ytkdfbbkonbgfmaa
open Go.RowKit

theorem goodTo_succ {p : PlanD} {a b : List Int} {k : Nat} (h : goodTo p a b k) (e : likesB p k (fn b k) (fn a k) = false) : goodTo p a b (k + 1) := by
  intro x hx
  rcases Nat.lt_or_ge x k with h' | h'
  · exact h x h'
  · obtain rfl : x = k := by omega
    exact e

set_option maxRecDepth 20000 in
set_option maxHeartbeats 4000000 in
theorem RGood_any (vh vs vp va vb : Value) (p : PlanD) (hok : PlanOk p) (a b : List Int) (w : World) (hp : PlanR w vh vs vp p) (hva : Ints w va a) (hvb : Ints w vb b) (hma : MatL p hok a) (hmb : MatL p hok b) :
    Calls Try.prog 60 #[.agg #[vh, vs, vp], va, vb] w fun e w' => e = .returned (.bool (leB p a b)) ∧ Ext w w' := by
  obtain ⟨aoh, caph, aos, caps, aop, capp, rfl, rfl, rfl⟩ := planR_shape hp
  have HP := hid hp
  have HA := hid hva
  have HB := hid hvb
  have HMa := hid hma
  have HMb := hid hmb
  have hla : Hid (a.length = p.hands.length) := hma.1
  have hlb : Hid (b.length = p.hands.length) := hmb.1
  have hn6 := hok.h6
  obtain ⟨-, aoa, capa, rfl, -⟩ := id hva
  obtain ⟨-, aob, capb, rfl, -⟩ := id hvb
  obtain ⟨ba, oa, rfl, -⟩ := hva.get 0 (by rw [hma.1]; exact hok.h1)
  obtain ⟨bb, ob, rfl, -⟩ := hvb.get 0 (by rw [hmb.1]; exact hok.h1)
  have hal : a.length ≤ 6 := by rw [hma.1]; exact hn6
  have e0 := hid (Ext.ofAlloc w (.cells #[.slice aoh p.hands.length caph, .slice aos p.shifts.length caps, .slice aop p.places.length capp] 25))
  have X0 := hid (Box3.alloc w 25 (.slice aoh p.hands.length caph) (.slice aos p.shifts.length caps) (.slice aop p.places.length capp))
  clear hp hva hvb hma hmb
  go_enter Try.func60, Try.ntmps60
  go_wp2
  generalize w.alloc (.cells #[.slice aoh p.hands.length caph, .slice aos p.shifts.length caps, .slice aop p.places.length capp] 25) = W at *
  go_loopg [10] a.length (fun g i wr => ∃ k : Nat, k + g = a.length ∧ i = .int .i64 k ∧ Hid (goodTo p a b k) ∧ Hid (Ext W wr))
  case atStart => exact ⟨0, by omega, rfl, fun x hx => by omega, Ext.refl _⟩
  case round =>
    obtain ⟨h, hk, rfl, G, E⟩ := hrel
    have hkl : h ≤ a.length := by omega
    have Hk := hid hk
    clear hk
    by_cases hlt : h < a.length
    · have hln : h < p.hands.length := by have := hla.out; omega
      have hh1 : (h : Int) < p.hands.length := by omega
      have ha1 : (h : Int) < a.length := by omega
      have hb1 : (h : Int) < b.length := by have := hlb.out; omega
      obtain ⟨c0, c1, c2⟩ := (X0.out.ext E.out).cells
      have da := (HA.out.get' h hlt).2 _ (e0.out.trans E.out)
      have db := (HB.out.get' h (by omega)).2 _ (e0.out.trans E.out)
      cases hli : likesB p h (fn b h) (fn a h)
      · have G2 := hid (goodTo_succ G.out hli)
        go_wp2
        refine wp_region_held_drew (S := (fun w' => w'.cell? ⟨w.heap.size, 0, none⟩ = some (.slice aoh p.hands.length caph) ∧ w'.cell? ⟨w.heap.size, 1, none⟩ = some (.slice aos p.shifts.length caps) ∧ w'.cell? ⟨w.heap.size, 2, none⟩ = some (.slice aop p.places.length capp) ∧ w'.cell? ⟨ba, oa + h, none⟩ = some (.int .i64 (fn a h)) ∧ w'.cell? ⟨bb, ob + h, none⟩ = some (.int .i64 (fn b h)))) (by kernel_rfl) ?hSa0 (fun hHeld => ?_)
        case hSa0 => (first | (first | exact ⟨c0, c1, c2, da, db⟩ | exact ⟨he5.cell c0, he5.cell c1, he5.cell c2, he5.cell da, he5.cell db⟩) | ((try dsimp only); first | exact ⟨c0, c1, c2, da, db⟩ | exact ⟨he5.cell c0, he5.cell c1, he5.cell c2, he5.cell da, he5.cell db⟩))
        refine wpAnyH_tk 0 (v := ?va0) rfl (by kernel_rfl) (by kernel_rfl) (by kernel_rfl) (fun _ _ _ h => h) (by rfl) ?hya0 (by assumption) ?_
        case hya0 => (intro w hSw; (try dsimp only at hSw); go_simp <;> with_reducible rfl)
        (try simp only [Act.put, List.setIfInBounds_toArray, List.set_cons_zero, List.set_cons_succ])
        refine wpAnyH_tk 1 (v := ?va1) rfl (by kernel_rfl) (by kernel_rfl) (by kernel_rfl) (fun _ _ _ h => h) (by rfl) ?hya1 (by assumption) ?_
        case hya1 => (intro w hSw; (try dsimp only at hSw); go_simp <;> with_reducible rfl)
        (try simp only [Act.put, List.setIfInBounds_toArray, List.set_cons_zero, List.set_cons_succ])
        refine wpAnyH_tk 2 (v := ?va2) rfl (by kernel_rfl) (by kernel_rfl) (by kernel_rfl) (fun _ _ _ h => h) (by rfl) ?hya2 (by assumption) ?_
        case hya2 => (intro w hSw; (try dsimp only at hSw); go_simp <;> with_reducible rfl)
        (try simp only [Act.put, List.setIfInBounds_toArray, List.set_cons_zero, List.set_cons_succ])
        refine wpAnyH_tk 3 (v := ?va3) rfl (by kernel_rfl) (by kernel_rfl) (by kernel_rfl) (fun _ _ _ h => h) (by rfl) ?hya3 (by assumption) ?_
        case hya3 => (intro w hSw; (try dsimp only at hSw); go_simp <;> with_reducible rfl)
        (try simp only [Act.put, List.setIfInBounds_toArray, List.set_cons_zero, List.set_cons_succ])
        refine wpAnyH_tk 4 (v := ?va4) rfl (by kernel_rfl) (by kernel_rfl) (by kernel_rfl) (fun _ _ _ h => h) (by rfl) ?hya4 (by assumption) ?_
        case hya4 => (intro w hSw; (try dsimp only at hSw); go_simp <;> with_reducible rfl)
        (try simp only [Act.put, List.setIfInBounds_toArray, List.set_cons_zero, List.set_cons_succ])
        refine wpAnyH_tk 5 (v := ?va5) rfl (by kernel_rfl) (by kernel_rfl) (by kernel_rfl) (fun _ _ _ h => h) (by rfl) ?hya5 (by assumption) ?_
        case hya5 => (intro w hSw; (try dsimp only at hSw); go_simp <;> with_reducible rfl)
        (try simp only [Act.put, List.setIfInBounds_toArray, List.set_cons_zero, List.set_cons_succ])
        refine wpAnyH_tk 6 (v := ?va6) rfl (by kernel_rfl) (by kernel_rfl) (by kernel_rfl) (fun _ _ _ h => h) (by rfl) ?hya6 (by assumption) ?_
        case hya6 => (intro w hSw; (try dsimp only at hSw); go_simp <;> with_reducible rfl)
        (try simp only [Act.put, List.setIfInBounds_toArray, List.set_cons_zero, List.set_cons_succ])
        refine wpAnyH_tk 7 (v := ?va7) rfl (by kernel_rfl) (by kernel_rfl) (by kernel_rfl) (fun _ _ _ h => h) (by rfl) ?hya7 (by assumption) ?_
        case hya7 => (intro w hSw; (try dsimp only at hSw); go_simp <;> with_reducible rfl)
        (try simp only [Act.put, List.setIfInBounds_toArray, List.set_cons_zero, List.set_cons_succ])
        refine wpAnyH_tk 8 (v := ?va8) rfl (by kernel_rfl) (by kernel_rfl) (by kernel_rfl) (fun _ _ _ h => h) (by rfl) ?hya8 (by assumption) ?_
        case hya8 => (intro w hSw; (try dsimp only at hSw); go_simp <;> with_reducible rfl)
        (try simp only [Act.put, List.setIfInBounds_toArray, List.set_cons_zero, List.set_cons_succ])
        refine wpAnyH_tk 9 (v := ?va9) rfl (by kernel_rfl) (by kernel_rfl) (by kernel_rfl) (fun _ _ _ h => h) (by rfl) ?hya9 (by assumption) ?_
        case hya9 => (intro w hSw; (try dsimp only at hSw); go_simp <;> with_reducible rfl)
        (try simp only [Act.put, List.setIfInBounds_toArray, List.set_cons_zero, List.set_cons_succ])
        refine wpAnyH_one 10 rfl (by kernel_rfl) (by rfl) (fun K hK => ?_)
        go_simp
        (go_at_call 65; refine (likes_any _ _ _ p h (fn b h) (fn a h) _ (HP.out.ext (e0.out.trans E.out).drew) (by omega) hh1).mono ?_; rintro e w5 ⟨rfl, he5⟩; rw [hli])
        refine hK.out _ _ ?hSa11 (fun hHeld => ?_)
        case hSa11 => (first | (first | exact ⟨c0, c1, c2, da, db⟩ | exact ⟨he5.cell c0, he5.cell c1, he5.cell c2, he5.cell da, he5.cell db⟩) | ((try dsimp only); first | exact ⟨c0, c1, c2, da, db⟩ | exact ⟨he5.cell c0, he5.cell c1, he5.cell c2, he5.cell da, he5.cell db⟩))
        clear hK K
        (try simp only [Act.put, List.setIfInBounds_toArray, List.set_cons_zero, List.set_cons_succ])
        refine wpAnyH_done (by kernel_rfl) ?_ _
        have HE := hid (E.out.drew.trans he5)
        clear c0 c1 c2 da db he5
        go_wp2
        go_roundg (gk - 1)
        case rel => exact ⟨h + 1, by have := Hk.out; omega, by go_num, G2.out, HE⟩
        case measure => have := Hk.out; omega
      · have Hf : Hid (leB p a b = false) := leB_no (fun hle => by
          have := (good_iff HMa.out HMb.out).2 hle h hln
          rw [hli] at this; simp at this)
        go_wp2
        refine wp_region_held_drew (S := (fun w' => w'.cell? ⟨w.heap.size, 0, none⟩ = some (.slice aoh p.hands.length caph) ∧ w'.cell? ⟨w.heap.size, 1, none⟩ = some (.slice aos p.shifts.length caps) ∧ w'.cell? ⟨w.heap.size, 2, none⟩ = some (.slice aop p.places.length capp) ∧ w'.cell? ⟨ba, oa + h, none⟩ = some (.int .i64 (fn a h)) ∧ w'.cell? ⟨bb, ob + h, none⟩ = some (.int .i64 (fn b h)))) (by kernel_rfl) ?hSb0 (fun hHeld => ?_)
        case hSb0 => (first | (first | exact ⟨c0, c1, c2, da, db⟩ | exact ⟨he5.cell c0, he5.cell c1, he5.cell c2, he5.cell da, he5.cell db⟩) | ((try dsimp only); first | exact ⟨c0, c1, c2, da, db⟩ | exact ⟨he5.cell c0, he5.cell c1, he5.cell c2, he5.cell da, he5.cell db⟩))
        refine wpAnyH_tk 0 (v := ?vb0) rfl (by kernel_rfl) (by kernel_rfl) (by kernel_rfl) (fun _ _ _ h => h) (by rfl) ?hyb0 (by assumption) ?_
        case hyb0 => (intro w hSw; (try dsimp only at hSw); go_simp <;> with_reducible rfl)
        (try simp only [Act.put, List.setIfInBounds_toArray, List.set_cons_zero, List.set_cons_succ])
        refine wpAnyH_tk 1 (v := ?vb1) rfl (by kernel_rfl) (by kernel_rfl) (by kernel_rfl) (fun _ _ _ h => h) (by rfl) ?hyb1 (by assumption) ?_
        case hyb1 => (intro w hSw; (try dsimp only at hSw); go_simp <;> with_reducible rfl)
        (try simp only [Act.put, List.setIfInBounds_toArray, List.set_cons_zero, List.set_cons_succ])
        refine wpAnyH_tk 2 (v := ?vb2) rfl (by kernel_rfl) (by kernel_rfl) (by kernel_rfl) (fun _ _ _ h => h) (by rfl) ?hyb2 (by assumption) ?_
        case hyb2 => (intro w hSw; (try dsimp only at hSw); go_simp <;> with_reducible rfl)
        (try simp only [Act.put, List.setIfInBounds_toArray, List.set_cons_zero, List.set_cons_succ])
        refine wpAnyH_tk 3 (v := ?vb3) rfl (by kernel_rfl) (by kernel_rfl) (by kernel_rfl) (fun _ _ _ h => h) (by rfl) ?hyb3 (by assumption) ?_
        case hyb3 => (intro w hSw; (try dsimp only at hSw); go_simp <;> with_reducible rfl)
        (try simp only [Act.put, List.setIfInBounds_toArray, List.set_cons_zero, List.set_cons_succ])
        refine wpAnyH_tk 4 (v := ?vb4) rfl (by kernel_rfl) (by kernel_rfl) (by kernel_rfl) (fun _ _ _ h => h) (by rfl) ?hyb4 (by assumption) ?_
        case hyb4 => (intro w hSw; (try dsimp only at hSw); go_simp <;> with_reducible rfl)
        (try simp only [Act.put, List.setIfInBounds_toArray, List.set_cons_zero, List.set_cons_succ])
        refine wpAnyH_tk 5 (v := ?vb5) rfl (by kernel_rfl) (by kernel_rfl) (by kernel_rfl) (fun _ _ _ h => h) (by rfl) ?hyb5 (by assumption) ?_
        case hyb5 => (intro w hSw; (try dsimp only at hSw); go_simp <;> with_reducible rfl)
        (try simp only [Act.put, List.setIfInBounds_toArray, List.set_cons_zero, List.set_cons_succ])
        refine wpAnyH_tk 6 (v := ?vb6) rfl (by kernel_rfl) (by kernel_rfl) (by kernel_rfl) (fun _ _ _ h => h) (by rfl) ?hyb6 (by assumption) ?_
        case hyb6 => (intro w hSw; (try dsimp only at hSw); go_simp <;> with_reducible rfl)
        (try simp only [Act.put, List.setIfInBounds_toArray, List.set_cons_zero, List.set_cons_succ])
        refine wpAnyH_tk 7 (v := ?vb7) rfl (by kernel_rfl) (by kernel_rfl) (by kernel_rfl) (fun _ _ _ h => h) (by rfl) ?hyb7 (by assumption) ?_
        case hyb7 => (intro w hSw; (try dsimp only at hSw); go_simp <;> with_reducible rfl)
        (try simp only [Act.put, List.setIfInBounds_toArray, List.set_cons_zero, List.set_cons_succ])
        refine wpAnyH_tk 8 (v := ?vb8) rfl (by kernel_rfl) (by kernel_rfl) (by kernel_rfl) (fun _ _ _ h => h) (by rfl) ?hyb8 (by assumption) ?_
        case hyb8 => (intro w hSw; (try dsimp only at hSw); go_simp <;> with_reducible rfl)
        (try simp only [Act.put, List.setIfInBounds_toArray, List.set_cons_zero, List.set_cons_succ])
        refine wpAnyH_tk 9 (v := ?vb9) rfl (by kernel_rfl) (by kernel_rfl) (by kernel_rfl) (fun _ _ _ h => h) (by rfl) ?hyb9 (by assumption) ?_
        case hyb9 => (intro w hSw; (try dsimp only at hSw); go_simp <;> with_reducible rfl)
        (try simp only [Act.put, List.setIfInBounds_toArray, List.set_cons_zero, List.set_cons_succ])
        refine wpAnyH_one 10 rfl (by kernel_rfl) (by rfl) (fun K hK => ?_)
        go_simp
        (go_at_call 65; refine (likes_any _ _ _ p h (fn b h) (fn a h) _ (HP.out.ext (e0.out.trans E.out).drew) (by omega) hh1).mono ?_; rintro e w5 ⟨rfl, he5⟩; rw [hli])
        refine hK.out _ _ ?hSb11 (fun hHeld => ?_)
        case hSb11 => (first | (first | exact ⟨c0, c1, c2, da, db⟩ | exact ⟨he5.cell c0, he5.cell c1, he5.cell c2, he5.cell da, he5.cell db⟩) | ((try dsimp only); first | exact ⟨c0, c1, c2, da, db⟩ | exact ⟨he5.cell c0, he5.cell c1, he5.cell c2, he5.cell da, he5.cell db⟩))
        clear hK K
        (try simp only [Act.put, List.setIfInBounds_toArray, List.set_cons_zero, List.set_cons_succ])
        refine wpAnyH_done (by kernel_rfl) ?_ _
        have HE := hid (E.out.drew.trans he5)
        clear c0 c1 c2 da db he5
        go_wp2
        go_ret
        exact ⟨ret_bool Hf.out.symm, e0.out.trans HE.out⟩
    · have Hf : Hid (leB p a b = true) := leB_iff.2 ((good_iff HMa.out HMb.out).1 (by have e : h = p.hands.length := (by have := hla.out; omega); rw [← e]; exact G.out))
      go_wp2
      go_ret
      exact ⟨ret_bool Hf.out.symm, e0.out.trans E.out⟩

/-- A slice of matchings, each of which is one. -/
def AllSt (p : PlanD) (hp : PlanOk p) (L : List (List Int)) : Prop := ∀ m ∈ L, StL p hp m

set_option maxHeartbeats 1000000 in
theorem Rbest_any (vh vs vp va vl : Value) (p : PlanD) (hok : PlanOk p) (a : List Int) (L : List (List Int)) (w : World) (hp : PlanR w vh vs vp p) (hva : Ints w va a) (hvl : Rows2 w vl L) (hma : MatL p hok a) (hL : AllSt p hok L) :
    Calls Try.prog 59 #[.agg #[vh, vs, vp], va, vl] w fun e w' => e = .returned (.bool (L.all (leB p a))) ∧ Ext w w' := by
  obtain ⟨aoh, caph, aos, caps, aop, capp, rfl, rfl, rfl⟩ := planR_shape hp
  have HP := hid hp
  have HA := hid hva
  have HV := hid hvl
  have HMa := hid hma
  have HL := hid hL
  obtain ⟨-, aoa, capa, rfl, -⟩ := id hva
  obtain ⟨hll, aol, capl, rfl, -, hlc⟩ := id hvl
  have HLc := hid hlc
  have e0 := hid (Ext.ofAlloc w (.cells #[.slice aoh p.hands.length caph, .slice aos p.shifts.length caps, .slice aop p.places.length capp] 25))
  have X0 := hid (Box3.alloc w 25 (.slice aoh p.hands.length caph) (.slice aos p.shifts.length caps) (.slice aop p.places.length capp))
  clear hp hva hvl hma hL hlc
  go_enter Try.func59, Try.ntmps59
  go_wp2
  generalize w.alloc (.cells #[.slice aoh p.hands.length caph, .slice aos p.shifts.length caps, .slice aop p.places.length capp] 25) = W at *
  go_loopg [11] L.length (fun g i wr => ∃ k : Nat, k + g = L.length ∧ i = .int .i64 k ∧ Hid ((L.take k).all (leB p a) = true) ∧ Hid (Ext W wr))
  case atStart => exact ⟨0, by omega, rfl, rfl, Ext.refl _⟩
  case round =>
    obtain ⟨k, hk, rfl, G, E⟩ := hrel
    have hkl : k ≤ L.length := by omega
    have Hk := hid hk
    clear hk
    by_cases hlt : k < L.length
    · obtain ⟨bl, ol, u, rfl, hcell, hu⟩ := HLc.out k hlt
      have dc := (e0.out.trans E.out).cell hcell
      have Hu := hid hu
      obtain ⟨-, ua, uc, rfl, -⟩ := id hu
      obtain ⟨c0, c1, c2⟩ := (X0.out.ext E.out).cells
      have Hmk := hid (HL.out _ (List.getElem_mem hlt))
      clear hcell hu
      go_wp2_with (fail)
      refine (RGood_any _ _ _ _ _ p hok a L[k] _ (HP.out.ext (e0.out.trans E.out)) (HA.out.ext (e0.out.trans E.out)) (Hu.out.ext (e0.out.trans E.out)) HMa.out Hmk.out.mat).mono ?_
      cases hle : leB p a L[k]
      · have Hf : Hid (L.all (leB p a) = false) := by
          cases h : L.all (leB p a)
          · exact rfl
          · have := List.all_eq_true.1 h _ (List.getElem_mem hlt); rw [hle] at this; simp at this
        rintro e w1 ⟨rfl, he⟩
        have HE := hid (E.out.trans he)
        clear he dc c0 c1 c2
        go_wp2
        go_ret
        exact ⟨ret_bool Hf.out.symm, e0.out.trans HE.out⟩
      · have Hs : Hid ((L.take (k + 1)).all (leB p a) = true) := by
          show _ = _
          rw [List.take_succ_eq_append_getElem hlt, List.all_append, G.out]; simp [hle]
        rintro e w1 ⟨rfl, he⟩
        have HE := hid (E.out.trans he)
        clear he dc c0 c1 c2
        go_wp2
        go_roundg (gk - 1)
        case rel => exact ⟨k + 1, by have := Hk.out; omega, by go_num, Hs, HE⟩
        case measure => have := Hk.out; omega
    · have Hf : Hid (L.all (leB p a) = true) := by have := G.out; rwa [List.take_of_length_le (by omega)] at this
      go_wp2
      go_ret
      exact ⟨ret_bool Hf.out.symm, e0.out.trans E.out⟩

theorem stAll_st {p : PlanD} {hp : PlanOk p} : AllSt p hp (stAll p hp) := fun _ hm => mem_stAll.1 hm
theorem best_first {p : PlanD} {hp : PlanOk p} {a f : List Int} (hf : IsFirst p hp f) (ha : a ∈ stAll p hp) : (stAll p hp).all (leB p a) = decide (a = f) := by
  by_cases e : a = f
  · subst e
    rw [decide_eq_true rfl, List.all_eq_true]
    exact fun b hb => leB_iff.2 (best_of_first hf b hb)
  · rw [decide_eq_false e]
    cases h : (stAll p hp).all (leB p a)
    · rfl
    · rw [List.all_eq_true] at h
      exact absurd ((first_of_best ha (fun b hb => leB_iff.1 (h b hb))).unique hf) e
theorem worst_last {p : PlanD} {hp : PlanOk p} {a f : List Int} (hf : IsLast p hp f) (ha : a ∈ stAll p hp) : (stAll p hp).all (fun b => leB p b a) = decide (a = f) := by
  by_cases e : a = f
  · subst e
    rw [decide_eq_true rfl, List.all_eq_true]
    exact fun b hb => leB_iff.2 (worst_of_last hf b hb)
  · rw [decide_eq_false e]
    cases h : (stAll p hp).all (fun b => leB p b a)
    · rfl
    · rw [List.all_eq_true] at h
      have h1 := mem_stAll.1 ha
      have h2 := leB_iff.1 (h f (stAll_last hf))
      have h3 : IsLast p hp a := ⟨h1.1, h1.2, fun μ hμ x hx => Int.le_trans (hf.worst μ hμ x hx) (h2 x hx)⟩
      exact absurd (h3.unique hf) e

set_option maxHeartbeats 1000000 in
theorem RFirst_any (vh vs vp : Value) (p : PlanD) (hok : PlanOk p) (f : List Int) (hf : IsFirst p hok f) (w : World) (hp : PlanR w vh vs vp p) :
    Calls Try.prog 25 #[.agg #[vh, vs, vp]] w fun e w' => ∃ u, e = .returned u ∧ Ints w' u f ∧ Ext w w' := by
  obtain ⟨aoh, caph, aos, caps, aop, capp, rfl, rfl, rfl⟩ := planR_shape hp
  have HP := hid hp
  have HF := hid hf
  have X0 := hid (Box3.alloc w 25 (.slice aoh p.hands.length caph) (.slice aos p.shifts.length caps) (.slice aop p.places.length capp))
  clear hp hf
  go_enter Try.func25, Try.ntmps25
  go_wp2_with (fail)
  refine (RStable_any _ _ _ p hok _ (HP.out.ext (Ext.ofAlloc _ _))).mono ?_
  rintro e W ⟨ul, rfl, hul, he⟩
  obtain ⟨L, hL⟩ : ∃ L, L = stAll p hok := ⟨_, rfl⟩
  rw [← hL] at hul
  have hL2 : L.length ≤ 15625 := by rw [hL]; exact stAll_le
  have hr := hul.rows2 (by omega)
  obtain ⟨hll, aol, capl, rfl, -, hlc⟩ := id hr
  have HR := hid hr
  have HLc := hid hlc
  have HL := hid hL
  have e0 := hid ((Ext.ofAlloc w _).trans he)
  have X1 := hid (X0.out.ext he)
  clear hul he hr hlc hL
  go_wp2
  go_loopg [10] L.length (fun g i wr => ∃ k : Nat, k + g = L.length ∧ i = .int .i64 k ∧ Hid (f ∉ L.take k) ∧ Hid (Ext W wr))
  case atStart => exact ⟨0, by omega, rfl, fun h => by simp at h, Ext.refl _⟩
  case round =>
    obtain ⟨k, hk, rfl, G, E⟩ := hrel
    have hkl : k ≤ L.length := by omega
    have Hk := hid hk
    clear hk
    by_cases hlt : k < L.length
    · obtain ⟨bl, ol, u, rfl, hcell, hu⟩ := HLc.out k hlt
      have dc := E.out.cell hcell
      have Hu := hid hu
      obtain ⟨-, ua, uc, rfl, -⟩ := id hu
      obtain ⟨c0, c1, c2⟩ := (X1.out.ext E.out).cells
      have hmem : L[k] ∈ stAll p hok := by rw [← HL.out]; exact List.getElem_mem hlt
      have Hmem := hid hmem
      have hb := best_first HF.out hmem
      rw [← HL.out] at hb
      clear hcell hu hmem
      go_wp2_with (fail)
      refine (Rbest_any _ _ _ _ _ p hok L[k] L _ (HP.out.ext (e0.out.trans E.out)) (Hu.out.ext E.out) (HR.out.ext E.out) (mem_stAll.1 Hmem.out).mat (by rw [HL.out]; exact stAll_st)).mono ?_
      rw [hb]
      by_cases e : L[k] = f
      · rw [decide_eq_true e]
        have He := hid e
        rintro e w1 ⟨rfl, he⟩
        have HE := hid (E.out.trans he)
        clear he dc c0 c1 c2 hb e
        go_wp2
        go_ret
        exact ⟨_, rfl, by rw [← He.out]; exact Hu.out.ext HE.out, e0.out.trans HE.out⟩
      · rw [decide_eq_false e]
        have Hs : Hid (f ∉ L.take (k + 1)) := by
          show _ ∉ _
          rw [List.take_succ_eq_append_getElem hlt, List.mem_append, List.mem_singleton]
          rintro (h | h)
          · exact G.out h
          · exact e h.symm
        rintro e w1 ⟨rfl, he⟩
        have HE := hid (E.out.trans he)
        clear he dc c0 c1 c2 hb
        go_wp2
        go_roundg (gk - 1)
        case rel => exact ⟨k + 1, by have := Hk.out; omega, by go_num, Hs, HE⟩
        case measure => have := Hk.out; omega
    · have := G.out
      rw [List.take_of_length_le (by omega), HL.out] at this
      exact absurd (stAll_first HF.out) this

set_option maxHeartbeats 2000000 in
theorem RLast_any (vh vs vp : Value) (p : PlanD) (hok : PlanOk p) (f : List Int) (hf : IsLast p hok f) (w : World) (hp : PlanR w vh vs vp p) :
    Calls Try.prog 26 #[.agg #[vh, vs, vp]] w fun e w' => ∃ u, e = .returned u ∧ Ints w' u f ∧ Ext w w' := by
  obtain ⟨aoh, caph, aos, caps, aop, capp, rfl, rfl, rfl⟩ := planR_shape hp
  have HP := hid hp
  have HF := hid hf
  have X0 := hid (Box3.alloc w 25 (.slice aoh p.hands.length caph) (.slice aos p.shifts.length caps) (.slice aop p.places.length capp))
  clear hp hf
  go_enter Try.func26, Try.ntmps26
  go_wp2_with (fail)
  refine (RStable_any _ _ _ p hok _ (HP.out.ext (Ext.ofAlloc _ _))).mono ?_
  rintro e W ⟨ul, rfl, hul, he⟩
  obtain ⟨L, hL⟩ : ∃ L, L = stAll p hok := ⟨_, rfl⟩
  rw [← hL] at hul
  have hL2 : L.length ≤ 15625 := by rw [hL]; exact stAll_le
  have hr := hul.rows2 (by omega)
  obtain ⟨hll, aol, capl, rfl, -, hlc⟩ := id hr
  have HR := hid hr
  have HLc := hid hlc
  have HL := hid hL
  have e0 := hid ((Ext.ofAlloc w _).trans he)
  have X1 := hid (X0.out.ext he)
  clear hul he hr hlc hL
  go_wp2
  go_loopg [13] L.length (fun g i wr => ∃ k : Nat, k + g = L.length ∧ i = .int .i64 k ∧ Hid (f ∉ L.take k) ∧ Hid (Ext W wr))
  case atStart => exact ⟨0, by omega, rfl, fun h => by simp at h, Ext.refl _⟩
  case round =>
    obtain ⟨k, hk, rfl, G, E⟩ := hrel
    have hkl : k ≤ L.length := by omega
    have Hk := hid hk
    clear hk
    by_cases hlt : k < L.length
    · obtain ⟨bl, ol, u, rfl, hcell, hu⟩ := HLc.out k hlt
      have dc := E.out.cell hcell
      have Hu := hid hu
      obtain ⟨-, ua, uc, rfl, -⟩ := id hu
      have hmem : L[k] ∈ stAll p hok := by rw [← HL.out]; exact List.getElem_mem hlt
      have Hmem := hid hmem
      have hb := worst_last HF.out hmem
      rw [← HL.out] at hb
      have Hb := hid hb
      clear hcell hu hmem hb
      go_wp2
      clear dc
      go_loopg [19, 6] L.length (fun g i t wj => ∃ j : Nat, j + g = L.length ∧ i = .int .i64 j ∧ t = .bool ((L.take j).all (fun b => leB p b L[k])) ∧ Hid (Ext W wj))
      case atStart => exact ⟨0, by omega, rfl, rfl, E⟩
      case round =>
        obtain ⟨j, hj, rfl, rfl, E1⟩ := hrel
        have hjl : j ≤ L.length := by omega
        have Hj := hid hj
        clear hj
        by_cases hjlt : j < L.length
        · obtain ⟨bl', ol', u2, hse, hcell, hu2⟩ := HLc.out j hjlt
          simp only [Option.some.injEq, Addr.mk.injEq, and_true] at hse
          obtain ⟨rfl, rfl⟩ := hse
          have dc := E1.out.cell hcell
          have Hu2 := hid hu2
          obtain ⟨-, ua2, uc2, rfl, -⟩ := id hu2
          obtain ⟨c0, c1, c2⟩ := (X1.out.ext E1.out).cells
          have hmem2 : L[j] ∈ stAll p hok := by rw [← HL.out]; exact List.getElem_mem hjlt
          have Hmem2 := hid hmem2
          have Hs : Hid ((L.take (j + 1)).all (fun b => leB p b L[k]) = ((L.take j).all (fun b => leB p b L[k]) && leB p L[j] L[k])) := by
            show _ = _
            rw [List.take_succ_eq_append_getElem hjlt, List.all_append]; simp
          clear hcell hu2 hmem2
          cases ht : (L.take j).all (fun b => leB p b L[k])
          · rw [ht] at Hs
            go_wp2
            go_roundg (gk - 1)
            case rel => exact ⟨j + 1, by have := Hj.out; omega, by go_num, by rw [Hs.out]; rfl, E1⟩
            case measure => have := Hj.out; omega
          · rw [ht] at Hs
            go_wp2_with (fail)
            refine (RGood_any _ _ _ _ _ p hok L[j] L[k] _ (HP.out.ext (e0.out.trans E1.out)) (Hu2.out.ext E1.out) (Hu.out.ext E1.out) (mem_stAll.1 Hmem2.out).mat (mem_stAll.1 Hmem.out).mat).mono ?_
            rintro e w1 ⟨rfl, he⟩
            have HE := hid (E1.out.trans he)
            clear he dc c0 c1 c2
            go_wp2
            go_roundg (gk - 1)
            case rel => exact ⟨j + 1, by have := Hj.out; omega, by go_num, by rw [Hs.out]; simp, HE⟩
            case measure => have := Hj.out; omega
        · have ht : (L.take j).all (fun b => leB p b L[k]) = decide (L[k] = f) := by
            rw [List.take_of_length_le (by omega)]; exact Hb.out
          rw [ht]
          clear ht
          by_cases e : L[k] = f
          · rw [decide_eq_true e]
            have He := hid e
            clear e
            go_wp2
            go_ret
            exact ⟨_, rfl, by rw [← He.out]; exact Hu.out.ext E1.out, e0.out.trans E1.out⟩
          · rw [decide_eq_false e]
            have Hs : Hid (f ∉ L.take (k + 1)) := by
              show _ ∉ _
              rw [List.take_succ_eq_append_getElem hlt, List.mem_append, List.mem_singleton]
              rintro (h | h)
              · exact G.out h
              · exact e h.symm
            go_wp2
            go_roundg (L.length - (k + 1))
            case rel => exact ⟨k + 1, by omega, by go_num, Hs, E1⟩
            case measure => have := Hk.out; omega
    · have := G.out
      rw [List.take_of_length_le (by omega), HL.out] at this
      exact absurd (stAll_last HF.out) this

end Go.Proofs.Ytkdfbbkonbgfmaa
