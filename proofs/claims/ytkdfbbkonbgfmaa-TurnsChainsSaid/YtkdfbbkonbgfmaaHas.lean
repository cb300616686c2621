/-
  Contracts of slices.IndexFunc and slices.ContainsFunc on rows, and of the closures of the statements that ask whether a matching is among some.
-/
import Derived.Test.YtkdfbbkonbgfmaaStableTop
namespace Go.Proofs.Ytkdfbbkonbgfmaa
open Go.RowKit

theorem eqI_iff {a b : List Int} : eqI a b = true ↔ a = b := by unfold eqI; exact decide_eq_true_iff
/-- Is x among the rows? -/
def hasL (L : List (List Int)) (x : List Int) : Bool := decide (x ∈ L)
theorem hasL_iff {L : List (List Int)} {x : List Int} : hasL L x = true ↔ x ∈ L := by unfold hasL; exact decide_eq_true_iff

set_option maxHeartbeats 1000000 in
theorem IndexFunc_any (cap v : Value) (L : List (List Int)) (B : List Int → Bool) (w : World) (hv : Rows2 w v L)
    (hf : ∀ (u : Value) (xs : List Int) (w1 : World), Ext w w1 → Ints w1 u xs → Calls Try.prog 43 #[u, cap] w1 fun e w' => e = .returned (.bool (B xs)) ∧ Ext w1 w') :
    Calls Try.prog 75 #[v, .func (.func 43) #[] #[cap]] w fun e w' => ∃ r : Int, e = .returned (.int .i64 r) ∧ decide (0 ≤ r) = L.any B ∧ Ext w w' := by
  obtain ⟨hl, ao, cp, rfl, hcap, hc⟩ := id hv
  have HF := hid hf
  have HC := hid hc
  clear hf hc
  go_enter Try.func75, Try.ntmps75
  go_wp2
  go_loopg [8] L.length (fun g i wr => ∃ k : Nat, k + g = L.length ∧ i = .int .i64 k ∧ Hid ((L.take k).any B = false) ∧ Hid (Ext w wr))
  case atStart => exact ⟨0, by omega, rfl, rfl, Ext.refl _⟩
  case round =>
    obtain ⟨k, hk, rfl, Hno, E⟩ := hrel
    have hkl : k ≤ L.length := by omega
    have Hk := hid hk
    clear hk
    by_cases hlt : k < L.length
    · obtain ⟨b, off, u, rfl, hcell, hu⟩ := HC.out k hlt
      have dc := E.out.cell hcell
      have Hu := hid (hu.ext E.out)
      have Hs : Hid ((L.take (k + 1)).any B = B L[k]) := by
        show _ = _
        rw [List.take_succ_eq_append_getElem hlt, List.any_append, Hno.out]; simp
      obtain ⟨-, ua, uc, rfl, -⟩ := id hu
      clear hcell hu
      go_wp2_with (fail)
      refine (HF.out _ L[k] _ E.out Hu.out).mono ?_
      cases hb : B L[k]
      · rintro e w1 ⟨rfl, he⟩
        have HE := hid (E.out.trans he)
        rw [hb] at Hs
        clear he dc
        go_wp2
        go_roundg (gk - 1)
        case rel => exact ⟨k + 1, by have := Hk.out; omega, by go_num, Hs, HE⟩
        case measure => have := Hk.out; omega
      · rintro e w1 ⟨rfl, he⟩
        have HE := hid (E.out.trans he)
        have Hy : Hid (L.any B = true) := List.any_eq_true.2 ⟨L[k], List.getElem_mem hlt, hb⟩
        clear he dc hb
        go_wp2
        go_ret
        exact ⟨_, rfl, by rw [Hy.out, decide_eq_true_iff]; omega, HE.out⟩
    · have Hy : Hid (L.any B = false) := by have := Hno.out; rwa [List.take_of_length_le (by omega)] at this
      go_wp2
      go_ret
      exact ⟨_, rfl, by rw [Hy.out]; rfl, E.out⟩

set_option maxHeartbeats 1000000 in
theorem ContainsFunc_any (cap v : Value) (L : List (List Int)) (B : List Int → Bool) (w : World) (hv : Rows2 w v L)
    (hf : ∀ (u : Value) (xs : List Int) (w1 : World), Ext w w1 → Ints w1 u xs → Calls Try.prog 43 #[u, cap] w1 fun e w' => e = .returned (.bool (B xs)) ∧ Ext w1 w') :
    Calls Try.prog 42 #[v, .func (.func 43) #[] #[cap]] w fun e w' => e = .returned (.bool (L.any B)) ∧ Ext w w' := by
  obtain ⟨-, ao, cp, rfl, -⟩ := id hv
  have HF := hid hf
  have HV := hid hv
  clear hf hv
  go_enter Try.func42, Try.ntmps42
  go_wp2_with (fail)
  refine (IndexFunc_any cap _ L B _ HV.out HF.out).mono ?_
  rintro e w1 ⟨r, rfl, hr, he⟩
  have HE := hid he
  have Hr := hid hr
  clear he hr
  go_wp2
  go_ret
  exact ⟨ret_bool Hr.out, HE.out⟩

set_option maxHeartbeats 1000000 in
theorem IndexFuncL_any (cap v : Value) (L : List (List Int)) (B : List Int → Bool) (w : World) (hv : Rows2 w v L)
    (hf : ∀ (u : Value) (xs : List Int) (w1 : World), Ext w w1 → Ints w1 u xs → Calls Try.prog 50 #[u, cap] w1 fun e w' => e = .returned (.bool (B xs)) ∧ Ext w1 w') :
    Calls Try.prog 75 #[v, .func (.func 50) #[] #[cap]] w fun e w' => ∃ r : Int, e = .returned (.int .i64 r) ∧ decide (0 ≤ r) = L.any B ∧ Ext w w' := by
  obtain ⟨hl, ao, cp, rfl, hcap, hc⟩ := id hv
  have HF := hid hf
  have HC := hid hc
  clear hf hc
  go_enter Try.func75, Try.ntmps75
  go_wp2
  go_loopg [8] L.length (fun g i wr => ∃ k : Nat, k + g = L.length ∧ i = .int .i64 k ∧ Hid ((L.take k).any B = false) ∧ Hid (Ext w wr))
  case atStart => exact ⟨0, by omega, rfl, rfl, Ext.refl _⟩
  case round =>
    obtain ⟨k, hk, rfl, Hno, E⟩ := hrel
    have hkl : k ≤ L.length := by omega
    have Hk := hid hk
    clear hk
    by_cases hlt : k < L.length
    · obtain ⟨b, off, u, rfl, hcell, hu⟩ := HC.out k hlt
      have dc := E.out.cell hcell
      have Hu := hid (hu.ext E.out)
      have Hs : Hid ((L.take (k + 1)).any B = B L[k]) := by
        show _ = _
        rw [List.take_succ_eq_append_getElem hlt, List.any_append, Hno.out]; simp
      obtain ⟨-, ua, uc, rfl, -⟩ := id hu
      clear hcell hu
      go_wp2_with (fail)
      refine (HF.out _ L[k] _ E.out Hu.out).mono ?_
      cases hb : B L[k]
      · rintro e w1 ⟨rfl, he⟩
        have HE := hid (E.out.trans he)
        rw [hb] at Hs
        clear he dc
        go_wp2
        go_roundg (gk - 1)
        case rel => exact ⟨k + 1, by have := Hk.out; omega, by go_num, Hs, HE⟩
        case measure => have := Hk.out; omega
      · rintro e w1 ⟨rfl, he⟩
        have HE := hid (E.out.trans he)
        have Hy : Hid (L.any B = true) := List.any_eq_true.2 ⟨L[k], List.getElem_mem hlt, hb⟩
        clear he dc hb
        go_wp2
        go_ret
        exact ⟨_, rfl, by rw [Hy.out, decide_eq_true_iff]; omega, HE.out⟩
    · have Hy : Hid (L.any B = false) := by have := Hno.out; rwa [List.take_of_length_le (by omega)] at this
      go_wp2
      go_ret
      exact ⟨_, rfl, by rw [Hy.out]; rfl, E.out⟩

set_option maxHeartbeats 1000000 in
theorem ContainsFuncL_any (cap v : Value) (L : List (List Int)) (B : List Int → Bool) (w : World) (hv : Rows2 w v L)
    (hf : ∀ (u : Value) (xs : List Int) (w1 : World), Ext w w1 → Ints w1 u xs → Calls Try.prog 50 #[u, cap] w1 fun e w' => e = .returned (.bool (B xs)) ∧ Ext w1 w') :
    Calls Try.prog 42 #[v, .func (.func 50) #[] #[cap]] w fun e w' => e = .returned (.bool (L.any B)) ∧ Ext w w' := by
  obtain ⟨-, ao, cp, rfl, -⟩ := id hv
  have HF := hid hf
  have HV := hid hv
  clear hf hv
  go_enter Try.func42, Try.ntmps42
  go_wp2_with (fail)
  refine (IndexFuncL_any cap _ L B _ HV.out HF.out).mono ?_
  rintro e w1 ⟨r, rfl, hr, he⟩
  have HE := hid he
  have Hr := hid hr
  clear he hr
  go_wp2
  go_ret
  exact ⟨ret_bool Hr.out, HE.out⟩

set_option maxHeartbeats 1000000 in
theorem sameAs_any (bx : Nat) (vx v : Value) (x y : List Int) (w : World) (hc : w.cell? ⟨bx, 0, none⟩ = some vx) (hx : Ints w vx x) (hy : Ints w v y) :
    Calls Try.prog 43 #[v, .pointer (some ⟨bx, 0, none⟩)] w fun e w' => e = .returned (.bool (eqI x y)) ∧ Ext w w' := by
  have HX := hid hx
  have HY := hid hy
  obtain ⟨-, ax, cx, rfl, -⟩ := id hx
  obtain ⟨-, ay, cy, rfl, -⟩ := id hy
  clear hx hy
  go_enter Try.func43, Try.ntmps43
  go_wp2_with (fail)
  refine (Equal_any _ _ x y _ HX.out HY.out).mono ?_
  rintro e w1 ⟨rfl, n, rfl⟩
  go_wp2
  go_ret
  exact ⟨rfl, (Ext.refl _).drewN _⟩

theorem any_eqI (L : List (List Int)) (x : List Int) : L.any (fun y => eqI x y) = hasL L x := by
  cases h : hasL L x
  · rw [List.any_eq_false]
    intro y hy e
    rw [eqI_iff] at e
    subst e
    rw [hasL_iff.2 hy] at h; simp at h
  · rw [List.any_eq_true]
    exact ⟨x, hasL_iff.1 h, eqI_iff.2 rfl⟩

set_option maxHeartbeats 1000000 in
theorem has_any (bl : Nat) (vl v : Value) (L : List (List Int)) (x : List Int) (w : World) (hc : w.cell? ⟨bl, 0, none⟩ = some vl) (hl : Rows2 w vl L) (hx : Ints w v x) :
    Calls Try.prog 41 #[v, .pointer (some ⟨bl, 0, none⟩)] w fun e w' => e = .returned (.bool (hasL L x)) ∧ Ext w w' := by
  have HX := hid hx
  have HL := hid hl
  obtain ⟨-, ax, cx, rfl, -⟩ := id hx
  obtain ⟨-, al, cl, rfl, -⟩ := id hl
  have hmf : ∀ (fn : Fn) (first cap : Array Value) (w : World), (Instr.makeFunc fn first cap).run Try.prog w = .ok (.func fn first cap) w := fun _ _ _ _ => rfl
  clear hx hl
  have h0 : w.cell? ⟨bl, 0, none⟩ = some (.slice al L.length cl) := hc
  have h1 := (Ext.ofAlloc w (.cells #[.slice ax x.length cx] 23)).cell h0
  have H2 := hid (cell_of_one (heap_alloc_new w (.cells #[.slice ax x.length cx] 23)))
  clear hc
  go_enter Try.func41, Try.ntmps41
  go_wp2_with (fail)
  refine (ContainsFunc_any _ _ L (fun y => eqI x y) _ (HL.out.ext (Ext.ofAlloc _ _)) ?_).mono ?_
  · intro u xs w1 he hu
    exact sameAs_any _ _ _ x xs w1 (he.cell H2.out) (HX.out.ext ((Ext.ofAlloc _ _).trans he)) hu
  · rintro e w1 ⟨rfl, he⟩
    rw [any_eqI]
    have HE := hid ((Ext.ofAlloc w _).trans he)
    clear he
    go_wp2
    go_ret
    exact ⟨rfl, HE.out⟩

end Go.Proofs.Ytkdfbbkonbgfmaa
