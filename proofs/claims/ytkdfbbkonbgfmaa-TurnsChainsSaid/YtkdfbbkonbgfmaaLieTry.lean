/-
  Contract of the closure try of Lie: it finds the first list, of those that begin as given, by which the shift gains.
-/
import Derived.Test.YtkdfbbkonbgfmaaLieGain
import Derived.Test.YtkdfbbkonbgfmaaLawA
import Derived.Test.YtkdfbbkonbgfmaaHas
namespace Go.Proofs.Ytkdfbbkonbgfmaa
open Go.RowKit

/-- Two operations may come up. -/
theorem anyH_two {P : Program} {md : Region.Mode} {ops : Array Oper} {Q : Exit → Act → World → Prop} {S : World → Prop} {w : World} (i j : Nat) {o o2 : Oper} {fuel : Nat} {listed : Array Bool} {a : Act} (hi : ops.toList[i]? = some o) (hj : ops.toList[j]? = some o2)
    (hr : Region.ready md ops listed = [i, j]) (hw : Region.wanted o (yielded ops a.tmps) = true) (hw2 : Region.wanted o2 (yielded ops a.tmps) = true)
    (h : ∀ K' : Act → World → Prop, Shut (∀ a w, S w → (S w → wpAnyH P md ops Q S fuel (listed.setIfInBounds i true) a w) → K' a w) → Oper.wp P o a w K' Q)
    (h2 : ∀ K' : Act → World → Prop, Shut (∀ a w, S w → (S w → wpAnyH P md ops Q S fuel (listed.setIfInBounds j true) a w) → K' a w) → Oper.wp P o2 a w K' Q) : wpAnyH P md ops Q S (fuel + 1) listed a w :=
  wpAnyH_ready hr (by simp) (AllReadyH.cons (by rw [← Array.getElem?_toList]; exact hi) (fun K' hK => by rw [if_pos hw]; exact h K' hK) (AllReadyH.cons (by rw [← Array.getElem?_toList]; exact hj) (fun K' hK => by rw [if_pos hw2]; exact h2 K' hK) AllReadyH.nil))

set_option maxHeartbeats 1000000 in
theorem IndexFuncI_any (c1 c2 : Value) (ao : Option Addr) (cp : Nat) (xs : List Int) (J : Nat → World → Prop) (Jf : World → Prop) (w : World) (hl : xs.length ≤ 100) (h0 : J 0 w)
    (hv : ∀ k w', J k w' → Ints w' (.slice ao xs.length cp) xs)
    (hf : ∀ k, (hk : k < xs.length) → ∀ w1, J k w1 → Calls Try.prog 89 #[.int .i64 xs[k], c1, c2] w1 fun e w' => (e = .returned (.bool true) ∧ Jf w') ∨ (e = .returned (.bool false) ∧ J (k + 1) w')) :
    Calls Try.prog 118 #[.slice ao xs.length cp, .func (.func 89) #[] #[c1, c2]] w fun e w' => (∃ r : Int, e = .returned (.int .i64 r) ∧ 0 ≤ r ∧ Jf w') ∨ (∃ r : Int, e = .returned (.int .i64 r) ∧ r < 0 ∧ J xs.length w') := by
  have HF := hid hf
  have HV := hid hv
  clear hf hv
  go_enter Try.func118, Try.ntmps118
  go_wp2
  go_loopg [8] xs.length (fun g i wr => ∃ k : Nat, k + g = xs.length ∧ i = .int .i64 k ∧ Hid (J k wr))
  case atStart => exact ⟨0, by omega, rfl, h0⟩
  case round =>
    obtain ⟨k, hk, rfl, HJ⟩ := hrel
    have hkl : k ≤ xs.length := by omega
    have Hk := hid hk
    clear hk
    by_cases hlt : k < xs.length
    · obtain ⟨b, off, hao, -, hc⟩ := (HV.out k _ HJ.out).get k hlt
      have dc := hc _ (Ext.refl _)
      rw [fn_get hlt] at dc
      have HC := hid (HF.out k hlt _ HJ.out)
      generalize xs[k] = x at *
      subst hao
      clear hc
      go_wp2_with (fail)
      refine HC.out.mono ?_
      rintro e w1 (⟨rfl, hj⟩ | ⟨rfl, hj⟩)
      · have HJ1 := hid hj
        clear hj dc
        go_wp2
        go_ret
        exact .inl ⟨_, rfl, by omega, HJ1.out⟩
      · have HJ1 := hid hj
        clear hj dc
        go_wp2
        go_roundg (gk - 1)
        case rel => exact ⟨k + 1, by have := Hk.out; omega, by go_num, HJ1⟩
        case measure => have := Hk.out; omega
    · have ek : k = xs.length := by omega
      have hj := HJ.out
      rw [ek] at hj
      have HJ1 := hid hj
      have hki : ¬ ((k : Int) < xs.length) := by omega
      clear ek hj hlt
      go_wp2
      go_ret
      exact .inr ⟨_, rfl, by omega, HJ1.out⟩

set_option maxHeartbeats 1000000 in
theorem ContainsFuncI_any (c1 c2 : Value) (ao : Option Addr) (cp : Nat) (xs : List Int) (J : Nat → World → Prop) (Jf : World → Prop) (w : World) (hl : xs.length ≤ 100) (h0 : J 0 w)
    (hv : ∀ k w', J k w' → Ints w' (.slice ao xs.length cp) xs)
    (hf : ∀ k, (hk : k < xs.length) → ∀ w1, J k w1 → Calls Try.prog 89 #[.int .i64 xs[k], c1, c2] w1 fun e w' => (e = .returned (.bool true) ∧ Jf w') ∨ (e = .returned (.bool false) ∧ J (k + 1) w')) :
    Calls Try.prog 88 #[.slice ao xs.length cp, .func (.func 89) #[] #[c1, c2]] w fun e w' => (e = .returned (.bool true) ∧ Jf w') ∨ (e = .returned (.bool false) ∧ J xs.length w') := by
  have HF := hid hf
  have HV := hid hv
  have H0 := hid h0
  clear hf hv h0
  go_enter Try.func88, Try.ntmps88
  go_wp2_with (fail)
  refine (IndexFuncI_any c1 c2 ao cp xs J Jf _ hl H0.out HV.out HF.out).mono ?_
  rintro e w1 (⟨r, rfl, hr, hj⟩ | ⟨r, rfl, hr, hj⟩)
  · have HJ := hid hj
    clear hj
    have hr2 : decide (0 ≤ r) = true := decide_eq_true hr
    go_wp2
    go_ret
    exact .inl ⟨by simp_all, HJ.out⟩
  · have HJ := hid hj
    clear hj
    have hr3 : ¬ (0 ≤ r) := by omega
    have hr2 : decide (0 ≤ r) = false := decide_eq_false hr3
    go_wp2
    go_ret
    exact .inr ⟨by simp_all, HJ.out⟩

/-- The box of what is found. -/
def FB (C : LieC) (w : World) (z : Value) : Prop := w.heap[C.bF]? = some (.cells #[z] 23 (0, 0))
theorem FB.set {C : LieC} {w : World} {z : Value} (h : FB C w z) (v : Value) : FB C (w.setCell ⟨C.bF, 0, none⟩ v) v := by
  have h' : w.heap[C.bF]? = some (.cells #[z] 23 (0, 0)) := h
  show (w.setCell _ _).heap[C.bF]? = _
  simp only [World.setCell, Array.getElem?_modify, if_true, h', Option.map_some]
  simp
theorem LieRows.setF {C : LieC} {w : World} (h : LieRows C w) (hne : C.bF ≠ C.bS) (v : Value) : LieRows C (w.setCell ⟨C.bF, 0, none⟩ v) := by
  intro j hj
  obtain ⟨u, h1, h2, h3⟩ := h j hj
  exact ⟨u, by rw [World.cell?_setCell_far _ _ _ _ (by exact hne)]; exact h1, (World.frozen?_setCell _ _ _ _).trans h2, fun hn => (h3 hn).later ((ExtX.refl _ _ _).setB _ _)⟩
/-- A list was found that is the first one of those that begin so. -/
def LieYes (C : LieC) (l : List Int) (w : World) : Prop := ∃ (a : Option Addr) (c : Nat) (f : List Int), FB C w (.slice a f.length c) ∧ Ints w (.slice a f.length c) f ∧ LeastE (GainsBy C.p C.s C.m0) (rowAt C.p.shifts C.s) l f
def LieNo (C : LieC) (l : List Int) : Prop := NoneE (GainsBy C.p C.s C.m0) (rowAt C.p.shifts C.s) l
/-- What is kept by a search. -/
structure LieKept (C : LieC) (w w' : World) : Prop where
  k : KeptX C w w'
  r : LieRows C w'
  f : ∃ a n c, FB C w' (.slice a n c)
def TryAns (C : LieC) (l : List Int) (w : World) (e : Ending) (w' : World) : Prop := ∃ b : Bool, e = .returned (.bool b) ∧ LieKept C w w' ∧ (b = true → LieYes C l w') ∧ (b = false → LieNo C l)
def TryOn (C : LieC) (l : List Int) : Prop := ∀ (v : Value) (W : World), LieOn C W → LieRows C W → (∃ a n c, FB C W (.slice a n c)) → Stays C.bS C.bF W v l → SubL (rowAt C.p.shifts C.s) l →
    Calls Try.prog 87 #[v, .pointer (some ⟨C.bg, 0, none⟩), .pointer (some ⟨C.bF, 0, none⟩), .pointer (some ⟨C.bn, 0, none⟩), .pointer (some ⟨C.bt, 0, none⟩)] W (TryAns C l W)

set_option maxRecDepth 20000 in
set_option maxHeartbeats 1600000 in
theorem tryStep_any (C : LieC) (hok : PlanOk C.p) (hs : C.s < C.p.shifts.length) (l : List Int) (x : Int) (hx : x ∈ rowAt C.p.shifts C.s) (hsub : SubL (rowAt C.p.shifts C.s) l) (ih : x ∉ l → TryOn C (l ++ [x])) (bx : Nat) (al : Option Addr) (cl : Nat) (W : World) (hL : LieOn C W) (hR : LieRows C W) (hF : ∃ a n c, FB C W (.slice a n c)) (hl : Stays C.bS C.bF W (.slice al l.length cl) l) (hb : W.heap[bx]? = some (.cells #[.slice al l.length cl] 23 (0, 0))) (hb1 : bx ≠ C.bS) (hb2 : bx ≠ C.bF) :
    Calls Try.prog 89 #[.int .i64 x, .pointer (some ⟨bx, 0, none⟩), .pointer (some ⟨C.bt, 0, none⟩)] W fun e w' => ∃ b : Bool, e = .returned (.bool b) ∧ LieKept C W w' ∧ (b = true → x ∉ l ∧ LieYes C (l ++ [x]) w') ∧ (b = false → x ∉ l → LieNo C (l ++ [x])) := by
  have h6 : (rowAt C.p.shifts C.s).length ≤ 6 := by have := rowOk_short (rowAt_ok hok.ss (i := C.s) (by omega)); have := hok.h6; omega
  have hll := hsub.len
  have hl6 : l.length ≤ 6 := by omega
  have HLI := hid hl.now
  have HL := hid hL
  have HR := hid hR
  have HF := hid hF
  have cx := cell_of_row W bx 0 _ _ _ hb
  have ct := (hL.at (ExtX.refl _ _ _)).t
  have HBXC : Hid (∀ w', KeptX C W w' → w'.cell? ⟨bx, 0, none⟩ = some (.slice al l.length cl)) := fun w' hk => cell_of_row w' bx 0 _ _ _ (hk.heap hb1 hb2 hb)
  obtain ⟨u0, cS0, -, -⟩ := hR C.s hs
  have hbS := World.block_lt_of_cell? _ _ cS0
  obtain ⟨af, nf, cf, hF'⟩ := hF
  have hbF : C.bF < W.heap.size := lt_of_block hF'
  have hbS2 : C.bS < W.heap.size := hbS
  obtain ⟨i0, hi, hz0, hz1, hz2⟩ := info_parts info_int
  have HSUB := hid hsub
  have HIH := hid ih
  clear hsub ih hF' cS0 hbS hl hL hR
  by_cases hin : hasI l x = true
  · have HIN := hid hin
    have hmem : x ∈ l := hasI_iff.1 hin
    have HM := hid hmem
    clear hin hmem
    go_enter Try.func89, Try.ntmps89
    go_wp2
    refine wp_region_held_drew (S := (fun w' => w'.cell? ⟨bx, 0, none⟩ = some (.slice al l.length cl) ∧ w'.cell? ⟨C.bt, 0, none⟩ = some (.func (.func 87) #[] #[.pointer (some ⟨C.bg, 0, none⟩), .pointer (some ⟨C.bF, 0, none⟩), .pointer (some ⟨C.bn, 0, none⟩), .pointer (some ⟨C.bt, 0, none⟩)]))) (by kernel_rfl) ?hSa0 (fun hHeld => ?_)
    case hSa0 => (first | (exact ⟨cx, ct⟩) | ((try dsimp only); exact ⟨cx, ct⟩))
    refine wpAnyH_tk 0 (v := ?va0) rfl (by kernel_rfl) (by kernel_rfl) (by kernel_rfl) (fun _ _ _ h => h) (by rfl) ?hya0 (by assumption) ?_
    case hya0 => (intro w hSw; (try dsimp only at hSw); go_simp <;> with_reducible rfl)
    (try simp only [Act.put, List.setIfInBounds_toArray, List.set_cons_zero, List.set_cons_succ])
    refine wpAnyH_tk 1 (v := ?va1) rfl (by kernel_rfl) (by kernel_rfl) (by kernel_rfl) (fun _ _ _ h => h) (by rfl) ?hya1 (by assumption) ?_
    case hya1 => (intro w hSw; (try dsimp only at hSw); go_simp <;> with_reducible rfl)
    (try simp only [Act.put, List.setIfInBounds_toArray, List.set_cons_zero, List.set_cons_succ])
    refine wpAnyH_one 2 rfl (by kernel_rfl) (by rfl) (fun K hK => ?_)
    go_simp
    (go_at_call 90; refine (Contains_any _ l x _ (HLI.out.ext (Ext.refl _).drew)).mono ?_; rintro e w4 ⟨rfl, rfl⟩; rw [HIN.out])
    refine hK.out _ _ ?hSa3 (fun hHeld => ?_)
    case hSa3 => (first | (exact ⟨cx, ct⟩) | ((try dsimp only); exact ⟨cx, ct⟩))
    clear hK K
    (try simp only [Act.put, List.setIfInBounds_toArray, List.set_cons_zero, List.set_cons_succ])
    refine wpAnyH_tk 3 (v := ?va3) rfl (by kernel_rfl) (by kernel_rfl) (by kernel_rfl) (fun _ _ _ h => h) (by rfl) ?hya3 (by assumption) ?_
    case hya3 => (intro w hSw; (try dsimp only at hSw); go_simp <;> with_reducible rfl)
    (try simp only [Act.put, List.setIfInBounds_toArray, List.set_cons_zero, List.set_cons_succ])
    refine wpAnyH_tk 4 (v := ?va4) rfl (by kernel_rfl) (by kernel_rfl) (by kernel_rfl) (fun _ _ _ h => h) (by rfl) ?hya4 (by assumption) ?_
    case hya4 => (intro w hSw; (try dsimp only at hSw); go_simp <;> with_reducible rfl)
    (try simp only [Act.put, List.setIfInBounds_toArray, List.set_cons_zero, List.set_cons_succ])
    refine wpAnyH_skips 4 true 9 2 (by kernel_rfl) rfl (fun _ _ _ _ _ h => h) [5, 6, 7, 8, 9, 10, 11] [10, 11, 12, 13, 14, 15, 16] _ _ _ rfl (by kernel_rfl) (by rfl) (by assumption) ?_
    (try simp only [putsAll, List.foldl, Act.put, List.setIfInBounds_toArray, List.set_cons_zero, List.set_cons_succ])
    refine wpAnyH_tk 12 (v := ?va12) rfl (by kernel_rfl) (by kernel_rfl) (by kernel_rfl) (fun _ _ _ h => h) (by rfl) ?hya12 (by assumption) ?_
    case hya12 => (intro w hSw; (try dsimp only at hSw); go_simp <;> with_reducible rfl)
    (try simp only [Act.put, List.setIfInBounds_toArray, List.set_cons_zero, List.set_cons_succ])
    refine wpAnyH_tk 13 (v := ?va13) rfl (by kernel_rfl) (by kernel_rfl) (by kernel_rfl) (fun _ _ _ h => h) (by rfl) ?hya13 (by assumption) ?_
    case hya13 => (intro w hSw; (try dsimp only at hSw); go_simp <;> with_reducible rfl)
    (try simp only [Act.put, List.setIfInBounds_toArray, List.set_cons_zero, List.set_cons_succ])
    refine wpAnyH_done (by kernel_rfl) ?_ _
    clear cx ct hHeld
    go_wp2
    go_ret
    exact ⟨false, rfl, ⟨((Ext.refl W).drew).x _ _, HR.out.ext (Ext.refl W).drew, by obtain ⟨a, n, c, h⟩ := HF.out; exact ⟨a, n, c, heap_ext h (Ext.refl W).drew⟩⟩, fun h => by simp at h, fun _ h => absurd HM.out h⟩
  · have hin2 : hasI l x = false := by simpa using hin
    have HIN := hid hin2
    have hmem : x ∉ l := fun h => hin (hasI_iff.2 h)
    have HM := hid hmem
    have HTRY := hid (HIH.out hmem)
    have HSUB2 := hid (HSUB.out.push hx hmem)
    clear hin hin2 hmem HIH
    go_enter Try.func89, Try.ntmps89
    go_wp2
    refine wp_region_held_drew (S := (fun w' => w'.cell? ⟨bx, 0, none⟩ = some (.slice al l.length cl) ∧ w'.cell? ⟨C.bt, 0, none⟩ = some (.func (.func 87) #[] #[.pointer (some ⟨C.bg, 0, none⟩), .pointer (some ⟨C.bF, 0, none⟩), .pointer (some ⟨C.bn, 0, none⟩), .pointer (some ⟨C.bt, 0, none⟩)]))) (by kernel_rfl) ?hSb0 (fun hHeld => ?_)
    case hSb0 => exact ⟨cx, ct⟩
    obtain ⟨V, hV⟩ : ∃ V, V = W.drew := ⟨_, rfl⟩
    have HEV : Hid (Ext W V) := by (rw [hV]; exact (Ext.refl _).drew)
    rw [← hV] at hHeld ⊢
    clear hV
    have HCB : Hid ((V.alloc (.cells #[.int .i64 x] 3)).cell? ⟨V.heap.size, 0, none⟩ = some (.int .i64 x)) := cell_of_one (heap_alloc_new V (.cells #[.int .i64 x] 3))
    have HEB := hid (HEV.out.alloc (.cells #[.int .i64 x] 3))
    refine wpAnyH_tk 0 (v := ?vb0x1) rfl (by kernel_rfl) (by kernel_rfl) (by kernel_rfl) (fun _ _ _ h => h) (by rfl) ?hyb0x1 (by assumption) ?_
    case hyb0x1 => (intro w hSw; (try dsimp only at hSw); go_simp <;> with_reducible rfl)
    (try simp only [Act.put, List.setIfInBounds_toArray, List.set_cons_zero, List.set_cons_succ])
    refine wpAnyH_tk 1 (v := ?vb1x2) rfl (by kernel_rfl) (by kernel_rfl) (by kernel_rfl) (fun _ _ _ h => h) (by rfl) ?hyb1x2 (by assumption) ?_
    case hyb1x2 => (intro w hSw; (try dsimp only at hSw); go_simp <;> with_reducible rfl)
    (try simp only [Act.put, List.setIfInBounds_toArray, List.set_cons_zero, List.set_cons_succ])
    refine wpAnyH_one 2 rfl (by kernel_rfl) (by rfl) (fun K hK => ?_)
    go_simp
    go_at_call 90
    refine (Contains_any _ l x _ (HLI.out.ext HEV.out)).mono ?_
    rintro e w4 ⟨rfl, rfl⟩
    rw [HIN.out]
    refine hK.out _ _ ?hSb2x3 (fun hHeld => ?_)
    case hSb2x3 => (first | (exact ⟨HEV.out.cell cx, HEV.out.cell ct⟩) | ((try dsimp only); exact ⟨HEV.out.cell cx, HEV.out.cell ct⟩))
    clear hK K
    (try simp only [Act.put, List.setIfInBounds_toArray, List.set_cons_zero, List.set_cons_succ])
    refine wpAnyH_tk 3 (v := ?vb3x4) rfl (by kernel_rfl) (by kernel_rfl) (by kernel_rfl) (fun _ _ _ h => h) (by rfl) ?hyb3x4 (by assumption) ?_
    case hyb3x4 => (intro w hSw; (try dsimp only at hSw); go_simp <;> with_reducible rfl)
    (try simp only [Act.put, List.setIfInBounds_toArray, List.set_cons_zero, List.set_cons_succ])
    refine wpAnyH_tk 4 (v := ?vb4x5) rfl (by kernel_rfl) (by kernel_rfl) (by kernel_rfl) (fun _ _ _ h => h) (by rfl) ?hyb4x5 (by assumption) ?_
    case hyb4x5 => (intro w hSw; (try dsimp only at hSw); go_simp <;> with_reducible rfl)
    (try simp only [Act.put, List.setIfInBounds_toArray, List.set_cons_zero, List.set_cons_succ])
    refine wpAnyH_tk 5 (v := ?vb5x6) rfl (by kernel_rfl) (by kernel_rfl) (by kernel_rfl) (fun _ _ _ h => h) (by rfl) ?hyb5x6 (by assumption) ?_
    case hyb5x6 => (intro w hSw; (try dsimp only at hSw); go_simp <;> with_reducible rfl)
    (try simp only [Act.put, List.setIfInBounds_toArray, List.set_cons_zero, List.set_cons_succ])
    refine wpAnyH_tk 6 (v := ?vb6x7) rfl (by kernel_rfl) (by kernel_rfl) (by kernel_rfl) (fun _ _ _ h => h) (by rfl) ?hyb6x7 (by assumption) ?_
    case hyb6x7 => (intro w hSw; (try dsimp only at hSw); go_simp <;> with_reducible rfl)
    (try simp only [Act.put, List.setIfInBounds_toArray, List.set_cons_zero, List.set_cons_succ])
    refine wpAnyH_tk 8 (v := ?vb8x8) rfl (by kernel_rfl) (by kernel_rfl) (by kernel_rfl) (fun _ _ _ h => h) (by rfl) ?hyb8x8 (by assumption) ?_
    case hyb8x8 => (intro w hSw; (try dsimp only at hSw); go_simp <;> with_reducible rfl)
    (try simp only [Act.put, List.setIfInBounds_toArray, List.set_cons_zero, List.set_cons_succ])
    refine anyH_two 7 9 rfl rfl (by kernel_rfl) (by rfl) (by rfl) (fun K hK => ?_) (fun K hK => ?_)
    · skip
      go_simp
      refine (Clone_any _ l _ (HLI.out.ext HEV.out)).mono ?_
      rintro e w5 ⟨u5, rfl, hO5, he5⟩
      have HE5 := hid (HEV.out.trans he5)
      have HO5 : Hid (OwnI W.heap.size w5 u5 l) := ownsRow_base hO5 HEV.out.size
      obtain ⟨a5, c5, rfl⟩ := own_len HO5.out
      clear hO5 he5
      refine hK.out _ _ ?hSb7x9 (fun hHeld => ?_)
      case hSb7x9 => (first | (exact ⟨HE5.out.cell cx, HE5.out.cell ct⟩) | ((try dsimp only); exact ⟨HE5.out.cell cx, HE5.out.cell ct⟩))
      clear hK K
      (try simp only [Act.put, List.setIfInBounds_toArray, List.set_cons_zero, List.set_cons_succ])
      refine wpAnyH_one 9 rfl (by kernel_rfl) (by rfl) (fun K hK => ?_)
      go_simp
      refine hK.out _ _ ?hSb9x10 (fun hHeld => ?_)
      case hSb9x10 => (first | (exact ⟨(HE5.out.alloc _).cell cx, (HE5.out.alloc _).cell ct⟩) | ((try dsimp only); exact ⟨(HE5.out.alloc _).cell cx, (HE5.out.alloc _).cell ct⟩))
      clear hK K
      (try simp only [Act.put, List.setIfInBounds_toArray, List.set_cons_zero, List.set_cons_succ])
      refine wpAnyH_one 10 rfl (by kernel_rfl) (by rfl) (fun K hK => ?_)
      refine wp_append_own _ _ _ 23 rfl W.heap.size 3 i0 (.int .i64 0) 1 8 Try.underlying23 hi hz0 hz1 hz2 rfl (by decide) _ _ _ rfl (HO5.out.alloc _) ⟨w5.heap.size, 0, none⟩ 1 1 [.int .i64 x] rfl rfl (cell_one_new _ _ _) ?c2 ?c3 ?c4 ?c5 ?_
      case c2 => intro u hu; simp at hu; subst hu; rfl
      case c3 => unfold maxLen; omega
      case c4 => omega
      case c5 => have := (HE5.out.alloc (.cells #[.int .i64 x] 3)).size; simpa using this
      intro v' w7 hown' hg _
      have hR7 := OwnI.push (xs := l) rfl hown'
      have HE7 : Hid (Ext W w7) := Below.grown (HE5.out.alloc (.cells #[.int .i64 x] 3)) hg (by have := (HE5.out.alloc (.cells #[.int .i64 x] 3)).size; simpa using this) (fun k hk => (HO5.out.lt k hk).1)
      obtain ⟨a7, c7, hv7⟩ := own_len hR7
      rw [show (l ++ [x]).length = l.length + 1 by simp] at hv7
      subst hv7
      have HS7 := hid (Stays.own hR7 (by simp; omega) hbS2 hbF)
      clear hown' hg hR7
      refine hK.out _ _ ?hSb10x11 (fun hHeld => ?_)
      case hSb10x11 => (first | (exact ⟨HE7.out.cell cx, HE7.out.cell ct⟩) | ((try dsimp only); exact ⟨HE7.out.cell cx, HE7.out.cell ct⟩))
      clear hK K
      (try simp only [Act.put, List.setIfInBounds_toArray, List.set_cons_zero, List.set_cons_succ])
      refine wpAnyH_one 11 rfl (by kernel_rfl) (by rfl) (fun K hK => ?_)
      go_simp
      refine (HTRY.out _ w7 (HL.out.later (HE7.out.x _ _)) (HR.out.ext HE7.out) (by obtain ⟨a, n, c, h⟩ := HF.out; exact ⟨a, n, c, heap_ext h HE7.out⟩) HS7.out HSUB2.out).mono ?_
      rintro e w8 ⟨b8, rfl, hk8, hy8, hn8⟩
      have HK8 : Hid (LieKept C W w8) := ⟨(HE7.out.x _ _).trans hk8.k, hk8.r, hk8.f⟩
      have HY8 := hid hy8
      have HN8 := hid hn8
      have HX8 := hid hk8.k
      clear hk8 hy8 hn8
      refine hK.out _ _ ?hSb11x12 (fun hHeld => ?_)
      case hSb11x12 => (first | (exact ⟨HBXC.out _ HK8.out.k, (HL.out.at HK8.out.k).t⟩) | ((try dsimp only); exact ⟨HBXC.out _ HK8.out.k, (HL.out.at HK8.out.k).t⟩))
      clear hK K
      (try simp only [Act.put, List.setIfInBounds_toArray, List.set_cons_zero, List.set_cons_succ])
      refine wpAnyH_tk 12 (v := ?vb12x13) rfl (by kernel_rfl) (by kernel_rfl) (by kernel_rfl) (fun _ _ _ h => h) (by rfl) ?hyb12x13 (by assumption) ?_
      case hyb12x13 => (intro w hSw; (try dsimp only at hSw); go_simp <;> with_reducible rfl)
      (try simp only [Act.put, List.setIfInBounds_toArray, List.set_cons_zero, List.set_cons_succ])
      refine wpAnyH_tk 13 (v := ?vb13x14) rfl (by kernel_rfl) (by kernel_rfl) (by kernel_rfl) (fun _ _ _ h => h) (by rfl) ?hyb13x14 (by assumption) ?_
      case hyb13x14 => (intro w hSw; (try dsimp only at hSw); go_simp <;> with_reducible rfl)
      (try simp only [Act.put, List.setIfInBounds_toArray, List.set_cons_zero, List.set_cons_succ])
      refine wpAnyH_done (by kernel_rfl) ?_ _
      clear hHeld
      go_wp2
      go_ret
      exact ⟨b8, rfl, HK8.out, fun h => ⟨HM.out, HY8.out h⟩, fun h _ => HN8.out h⟩
    · skip
      go_simp
      refine hK.out _ _ ?hSb9x15 (fun hHeld => ?_)
      case hSb9x15 => (first | (exact ⟨HEB.out.cell cx, HEB.out.cell ct⟩) | ((try dsimp only); exact ⟨HEB.out.cell cx, HEB.out.cell ct⟩))
      clear hK K
      (try simp only [Act.put, List.setIfInBounds_toArray, List.set_cons_zero, List.set_cons_succ])
      refine wpAnyH_one 7 rfl (by kernel_rfl) (by rfl) (fun K hK => ?_)
      go_simp
      refine (Clone_any _ l _ (HLI.out.ext HEB.out)).mono ?_
      rintro e w5 ⟨u5, rfl, hO5, he5⟩
      have HE5 := hid (HEB.out.trans he5)
      have HO5 : Hid (OwnI W.heap.size w5 u5 l) := ownsRow_base hO5 HEB.out.size
      obtain ⟨a5, c5, rfl⟩ := own_len HO5.out
      have HCB5 := hid (he5.cell HCB.out)
      clear hO5 he5
      refine hK.out _ _ ?hSb7x16 (fun hHeld => ?_)
      case hSb7x16 => (first | (exact ⟨HE5.out.cell cx, HE5.out.cell ct⟩) | ((try dsimp only); exact ⟨HE5.out.cell cx, HE5.out.cell ct⟩))
      clear hK K
      (try simp only [Act.put, List.setIfInBounds_toArray, List.set_cons_zero, List.set_cons_succ])
      refine wpAnyH_one 10 rfl (by kernel_rfl) (by rfl) (fun K hK => ?_)
      refine wp_append_own _ _ _ 23 rfl W.heap.size 3 i0 (.int .i64 0) 1 8 Try.underlying23 hi hz0 hz1 hz2 rfl (by decide) _ _ _ rfl HO5.out ⟨V.heap.size, 0, none⟩ 1 1 [.int .i64 x] rfl rfl (fun j u h => by (cases j with | zero => (simp at h; subst h; exact HCB5.out) | succ j => simp at h)) ?c2 ?c3 ?c4 ?c5 ?_
      case c2 => intro u hu; simp at hu; subst hu; rfl
      case c3 => unfold maxLen; omega
      case c4 => omega
      case c5 => have := HE5.out.size; simpa using this
      intro v' w7 hown' hg _
      have hR7 := OwnI.push (xs := l) rfl hown'
      have HE7 : Hid (Ext W w7) := Below.grown HE5.out hg (by have := HE5.out.size; simpa using this) (fun k hk => (HO5.out.lt k hk).1)
      obtain ⟨a7, c7, hv7⟩ := own_len hR7
      rw [show (l ++ [x]).length = l.length + 1 by simp] at hv7
      subst hv7
      have HS7 := hid (Stays.own hR7 (by simp; omega) hbS2 hbF)
      clear hown' hg hR7
      refine hK.out _ _ ?hSb10x17 (fun hHeld => ?_)
      case hSb10x17 => (first | (exact ⟨HE7.out.cell cx, HE7.out.cell ct⟩) | ((try dsimp only); exact ⟨HE7.out.cell cx, HE7.out.cell ct⟩))
      clear hK K
      (try simp only [Act.put, List.setIfInBounds_toArray, List.set_cons_zero, List.set_cons_succ])
      refine wpAnyH_one 11 rfl (by kernel_rfl) (by rfl) (fun K hK => ?_)
      go_simp
      refine (HTRY.out _ w7 (HL.out.later (HE7.out.x _ _)) (HR.out.ext HE7.out) (by obtain ⟨a, n, c, h⟩ := HF.out; exact ⟨a, n, c, heap_ext h HE7.out⟩) HS7.out HSUB2.out).mono ?_
      rintro e w8 ⟨b8, rfl, hk8, hy8, hn8⟩
      have HK8 : Hid (LieKept C W w8) := ⟨(HE7.out.x _ _).trans hk8.k, hk8.r, hk8.f⟩
      have HY8 := hid hy8
      have HN8 := hid hn8
      have HX8 := hid hk8.k
      clear hk8 hy8 hn8
      refine hK.out _ _ ?hSb11x18 (fun hHeld => ?_)
      case hSb11x18 => (first | (exact ⟨HBXC.out _ HK8.out.k, (HL.out.at HK8.out.k).t⟩) | ((try dsimp only); exact ⟨HBXC.out _ HK8.out.k, (HL.out.at HK8.out.k).t⟩))
      clear hK K
      (try simp only [Act.put, List.setIfInBounds_toArray, List.set_cons_zero, List.set_cons_succ])
      refine wpAnyH_tk 12 (v := ?vb12x19) rfl (by kernel_rfl) (by kernel_rfl) (by kernel_rfl) (fun _ _ _ h => h) (by rfl) ?hyb12x19 (by assumption) ?_
      case hyb12x19 => (intro w hSw; (try dsimp only at hSw); go_simp <;> with_reducible rfl)
      (try simp only [Act.put, List.setIfInBounds_toArray, List.set_cons_zero, List.set_cons_succ])
      refine wpAnyH_tk 13 (v := ?vb13x20) rfl (by kernel_rfl) (by kernel_rfl) (by kernel_rfl) (fun _ _ _ h => h) (by rfl) ?hyb13x20 (by assumption) ?_
      case hyb13x20 => (intro w hSw; (try dsimp only at hSw); go_simp <;> with_reducible rfl)
      (try simp only [Act.put, List.setIfInBounds_toArray, List.set_cons_zero, List.set_cons_succ])
      refine wpAnyH_done (by kernel_rfl) ?_ _
      clear hHeld
      go_wp2
      go_ret
      exact ⟨b8, rfl, HK8.out, fun h => ⟨HM.out, HY8.out h⟩, fun h _ => HN8.out h⟩

set_option maxRecDepth 20000 in
set_option maxHeartbeats 1600000 in
theorem lieTry_any (C : LieC) (hok : PlanOk C.p) (hs : C.s < C.p.shifts.length) (hF0 : IsFirst C.p hok C.m0) (hr : C.names.Pairwise (· < ·)) (hn : ∀ x, x ∈ C.names ↔ x ∈ rowAt C.p.shifts C.s) :
    ∀ (d : Nat) (l : List Int), (rowAt C.p.shifts C.s).length < l.length + d → TryOn C l := by
  intro d
  induction d with
  | zero =>
    intro l hlt v W _ _ _ _ hsub
    have := hsub.len
    omega
  | succ d ih =>
    intro l hlt v W hL hR hF hl hsub
    have h6 : (rowAt C.p.shifts C.s).length ≤ 6 := by have := rowOk_short (rowAt_ok hok.ss (i := C.s) (by omega)); have := hok.h6; omega
    have hnl : C.names.length ≤ 100 := by
      have hnd : C.names.Nodup := List.Pairwise.imp (fun h => by omega) hr
      have := (show SubL (rowAt C.p.shifts C.s) C.names from ⟨hnd, fun x hx => (hn x).1 hx⟩).len
      omega
    have HIH := hid ih
    obtain ⟨-, al, cl, rfl, -⟩ := id hl.now
    obtain ⟨u0, cS0, -, -⟩ := hR C.s hs
    have hbS : C.bS < W.heap.size := World.block_lt_of_cell? _ _ cS0
    obtain ⟨af, nf, cf, hF'⟩ := id hF
    have hbF : C.bF < W.heap.size := lt_of_block hF'
    have EA := hid (Ext.ofAlloc W (.cells #[.slice al l.length cl] 23))
    have HX : Hid ((W.alloc (.cells #[.slice al l.length cl] 23)).heap[W.heap.size]? = _) := heap_alloc_new W _
    have HL1 := hid (hL.later (EA.out.x _ _))
    have HR1 := hid (hR.ext EA.out)
    have HF1 := hid (heap_ext hF' EA.out)
    have HS1 := hid (hl.later (EA.out.x C.bS C.bF))
    have HSUB := hid hsub
    have HG := hid (gains_any C hok hs hF0 _ HL1.out HR1.out l _ HS1.out hsub)
    have A := hL.at (EA.out.x _ _)
    have cg := A.g
    have HLT := hid hlt
    have HNE := hid A.ne
    clear hL hR hF hF' hl hsub ih A cS0 hlt
    generalize hW1 : W.alloc (.cells #[.slice al l.length cl] 23) = W1 at *
    have hs1 : W.heap.size + 1 = W1.heap.size := by rw [← hW1]; simp
    have cbx := cell_of_row W1 W.heap.size 0 _ _ _ HX.out
    have HFREE : Hid (∀ w' : World, LieKept C W1 w' → ∃ z, w'.cell? ⟨C.bF, 0, none⟩ = some z ∧ w'.frozen? ⟨C.bF, 0, none⟩ = false) := by
      intro w' hk
      obtain ⟨a, n, c, h⟩ := hk.f
      have h' : w'.heap[C.bF]? = some (.cells #[.slice a n c] 23 (0, 0)) := h
      exact ⟨_, cell_of_row w' C.bF 0 _ _ _ h', by simp [World.frozen?, h']⟩
    have HW1 := hid hW1
    have HS1E := hid hs1
    go_enter Try.func87, Try.ntmps87
    go_wp2_with (fail)
    refine HG.out.mono ?_
    rintro e w2 ⟨b, rfl, hb, hk2, hr2, hf2⟩
    have HK2 : Hid (LieKept C W1 w2) := ⟨hk2, hr2, af, nf, cf, hf2 _ HF1.out⟩
    have HX2 := hid (hk2.heap (by omega) (by omega) HX.out)
    have cx2 := cell_of_row w2 W.heap.size 0 _ _ _ HX2.out
    have HS2 := hid (HS1.out.later hk2)
    have HL2 := hid (HL1.out.later hk2)
    have hs2 := hk2.size
    clear cg cbx hf2
    cases b with
    | true =>
      have HGB := hid (hb.1 rfl)
      clear hb hk2 hr2
      go_wp2_with (fail)
      refine (Clone_any _ l _ HS2.out.now).mono ?_
      rintro e w3 ⟨u3, rfl, hO3, he3⟩
      have HO3 := hid hO3
      obtain ⟨a3, c3, rfl⟩ := own_len hO3
      have HK3 : Hid (LieKept C W1 w3) := ⟨HK2.out.k.trans (he3.x _ _), HK2.out.r.ext he3, by obtain ⟨a, n, c, h⟩ := HK2.out.f; exact ⟨a, n, c, heap_ext h he3⟩⟩
      obtain ⟨z3, cz3, fz3⟩ := HFREE.out w3 HK3.out
      have hs3 := he3.size
      have HI3 : Hid (OwnI w2.heap.size (w3.setCell ⟨C.bF, 0, none⟩ (.slice a3 l.length c3)) (.slice a3 l.length c3) l) := ownsRow_setCell_below HO3.out (a := ⟨C.bF, 0, none⟩) (by show C.bF < _; omega) _
      have HK4 : Hid (LieKept C W1 (w3.setCell ⟨C.bF, 0, none⟩ (.slice a3 l.length c3))) := ⟨HK3.out.k.setB _ _, HK3.out.r.setF HNE.out _, by obtain ⟨a, n, c, h⟩ := HK3.out.f; exact ⟨_, _, _, FB.set h _⟩⟩
      have HF4 : Hid (FB C (w3.setCell ⟨C.bF, 0, none⟩ (.slice a3 l.length c3)) (.slice a3 l.length c3)) := by obtain ⟨a, n, c, h⟩ := HK3.out.f; exact FB.set h _
      clear hO3 he3
      go_wp2
      go_ret
      refine ⟨true, rfl, ⟨(EA.out.x _ _).trans HK4.out.k, HK4.out.r, HK4.out.f⟩, fun _ => ⟨_, _, l, HF4.out, HI3.out.ints (by have := HSUB.out.len; omega), LeastE.self HSUB.out HGB.out⟩, fun h => by simp at h⟩
    | false =>
      have HGB : Hid (¬ GainsBy C.p C.s C.m0 l) := fun h => by have := hb.2 h; simp at this
      have A2 := HL2.out.at (ExtX.refl _ _ _)
      have cn := A2.n
      have hmf : ∀ (fn : Fn) (first cap : Array Value) (w : World), (Instr.makeFunc fn first cap).run Try.prog w = .ok (.func fn first cap) w := fun _ _ _ _ => rfl
      have HC := hid (ContainsFuncI_any (.pointer (some ⟨W.heap.size, 0, none⟩)) (.pointer (some ⟨C.bt, 0, none⟩)) C.an C.cn C.names
        (fun k w' => LieKept C w2 w' ∧ TriedE (GainsBy C.p C.s C.m0) (rowAt C.p.shifts C.s) l C.names k) (fun w' => LieKept C w2 w' ∧ LieYes C l w') w2 hnl
        ⟨⟨ExtX.refl _ _ _, HK2.out.r, HK2.out.f⟩, fun j hj => by omega⟩ (fun k w' h => (HL2.out.at h.1.k).names) (fun k hk w1 h => by
          have hxm : C.names[k] ∈ C.names := List.getElem_mem hk
          have hfn : fn C.names k = C.names[k] := fn_get hk
          refine (tryStep_any C hok hs l C.names[k] ((hn _).1 hxm) HSUB.out (fun hx => HIH.out (l ++ [C.names[k]]) (by rw [List.length_append]; have := HLT.out; simp; omega)) W.heap.size al cl w1 (HL2.out.later h.1.k) h.1.r h.1.f (HS2.out.later h.1.k) (h.1.k.heap (by omega) (by omega) HX2.out) (by omega) (by omega)).mono ?_
          rintro e w' ⟨b, rfl, hk', hy, hno⟩
          have hkk : LieKept C w2 w' := ⟨h.1.k.trans hk'.k, hk'.r, hk'.f⟩
          cases b with
          | true =>
            obtain ⟨hxl, a, c, f, h1, h2, h3⟩ := hy rfl
            refine .inl ⟨rfl, hkk, a, c, f, h1, h2, ?_⟩
            rw [← hfn] at h3
            exact TriedE.found hk hr HGB.out hn h.2 h3
          | false =>
            refine .inr ⟨rfl, hkk, h.2.step ?_⟩
            rw [hfn]
            exact hno rfl))
      clear hb hk2 hr2 A2
      go_wp2_with (fail)
      refine HC.out.mono ?_
      rintro e w3 (⟨rfl, hk3, hy3⟩ | ⟨rfl, hk3, ht3⟩)
      · have HK3 : Hid (LieKept C W w3) := ⟨((EA.out.x _ _).trans HK2.out.k).trans hk3.k, hk3.r, hk3.f⟩
        have HY3 := hid hy3
        clear hk3 hy3 cn
        go_wp2
        go_ret
        exact ⟨true, rfl, HK3.out, fun _ => HY3.out, fun h => by simp at h⟩
      · have HK3 : Hid (LieKept C W w3) := ⟨((EA.out.x _ _).trans HK2.out.k).trans hk3.k, hk3.r, hk3.f⟩
        have HN3 : Hid (LieNo C l) := ht3.all HGB.out hn
        clear hk3 ht3 cn
        go_wp2
        go_ret
        exact ⟨false, rfl, HK3.out, fun h => by simp at h, fun _ => HN3.out⟩

end Go.Proofs.Ytkdfbbkonbgfmaa
