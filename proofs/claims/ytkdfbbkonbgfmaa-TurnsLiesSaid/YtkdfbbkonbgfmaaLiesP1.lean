/-
  Texts of this claim, part 1: Taken, Gains, With, Chosen.
-/
import Derived.Test.YtkdfbbkonbgfmaaLieX
import Derived.Test.YtkdfbbkonbgfmaaRefA
import Derived.Test.YtkdfbbkonbgfmaaLieTop
import Derived.Test.YtkdfbbkonbgfmaaAppend
import Derived.Test.YtkdfbbkonbgfmaaListPlain
import Derived.Test.YtkdfbbkonbgfmaaLawA
import Derived.Test.YtkdfbbkonbgfmaaSeq
/-
  Contract of the reference's taken: the ranks of the hands that a shift has, rising; a free place has the rank 9.
-/
namespace Go.Proofs.Ytkdfbbkonbgfmaa
open Go.RowKit

def rkTo (own m : List Int) (s : Int) (k : Nat) : List Int := ((List.range k).filter (fun r => fn m (fn own r).toNat == s)).map (fun (r : Nat) => (r : Int))
theorem rkTo_succ (own m : List Int) (s : Int) (k : Nat) : rkTo own m s (k + 1) = rkTo own m s k ++ (if fn m (fn own k).toNat = s then [(k : Int)] else []) := by
  unfold rkTo
  rw [List.range_succ, List.filter_append, List.map_append]
  congr 1
  by_cases e : fn m (fn own k).toNat = s <;> simp [e]
theorem rkTo_all (own m : List Int) (s : Int) : rkTo own m s own.length = rksL own m s := rfl
theorem rkTo_len (own m : List Int) (s : Int) (k : Nat) : (rkTo own m s k).length ≤ k := by
  unfold rkTo
  rw [List.length_map]
  have := List.length_filter_le (fun r => fn m (fn own r).toNat == s) (List.range k)
  rw [List.length_range] at this
  exact this
/-- Free places have the rank 9. -/
def pad9 (a : List Int) (q : Nat) : List Int := a ++ List.replicate (q - a.length) 9

set_option maxRecDepth 20000 in
set_option maxHeartbeats 4000000 in
theorem taken_any (vh vs vp vm : Value) (p : PlanD) (hok : PlanOk p) (s : Nat) (m : List Int) (w : World) (hp : PlanR w vh vs vp p) (hm : Ints w vm m) (hs : s < p.shifts.length) (hl : m.length = p.hands.length) :
    Calls Try.prog 121 #[.agg #[vh, vs, vp], .int .i64 s, vm] w fun e w' => ∃ z, e = .returned z ∧ OwnI w.heap.size w' z (pad9 (rksL (rowAt p.shifts s) m s) (intAt p.places s).toNat) ∧ Ext w w' := by
  obtain ⟨aoh, caph, aos, caps, aop, capp, rfl, rfl, rfl⟩ := planR_shape hp
  have HP := hid hp
  have HM := hid hm
  have hs4 := hok.s4
  have hn6 := hok.h6
  have hpl := hok.pl
  have hq := planPlaces hok (s := s) (by omega) (by omega)
  have hcol := hok.col (s := s) (by omega)
  have HCOL := hid hcol.1
  have hrl : (rowAt p.shifts s).length ≤ 6 := by have := rowOk_short (rowAt_ok hok.ss (i := s) (by omega)); omega
  obtain ⟨b1, o1, a1, c1, rfl, hrow, hri⟩ := hp.2.1.at s (by omega) (by omega)
  obtain ⟨bp, op, rfl, hpc⟩ := hp.2.2.at s (by omega) (by rw [hpl]; omega)
  rw [Int.toNat_natCast] at hrow hpc
  have HROW := hid hrow
  have HRI := hid hri
  have HPC := hid hpc
  obtain ⟨-, am, cm, rfl, -⟩ := id hm
  obtain ⟨i0, hi, hz0, hz1, hz2⟩ := info_parts info_int
  have e0 := hid (Ext.ofAlloc w (.cells #[.slice aoh p.hands.length caph, .slice (some ⟨b1, o1, none⟩) p.shifts.length caps, .slice (some ⟨bp, op, none⟩) p.places.length capp] 25))
  have X0 := hid (Box3.alloc w 25 (.slice aoh p.hands.length caph) (.slice (some ⟨b1, o1, none⟩) p.shifts.length caps) (.slice (some ⟨bp, op, none⟩) p.places.length capp))
  have HL := hid hl
  have HPL := hid hpl
  have hsi : (s : Int) < p.shifts.length := by omega
  obtain ⟨c0, d0, f0⟩ := X0.out.cells
  have dr := HROW.out _ e0.out
  obtain ⟨own, hown⟩ : ∃ own, own = rowAt p.shifts s := ⟨_, rfl⟩
  rw [← hown] at hrl HCOL HRI dr ⊢
  obtain ⟨q, hqq⟩ : ∃ q, q = intAt p.places s := ⟨_, rfl⟩
  rw [← hqq] at hq HPC ⊢
  clear hp hm hrow hri hpc hcol hl hpl hown hqq
  go_enter Try.func121, Try.ntmps121
  go_wp2
  have hWs := e0.out.size
  generalize w.alloc (.cells #[.slice aoh p.hands.length caph, .slice (some ⟨b1, o1, none⟩) p.shifts.length caps, .slice (some ⟨bp, op, none⟩) p.places.length capp] 25) = W at *
  clear c0 d0 f0 dr
  go_loopg [16, 7] own.length (fun g i v wr => ∃ (k : Nat) (z : Value), k + g = own.length ∧ i = .int .i64 k ∧ v = z ∧ Hid (OwnI W.heap.size wr z (rkTo own m s k)) ∧ Hid (Ext W wr))
  case atStart => exact ⟨0, _, by omega, rfl, rfl, World.ownsRow_nil _ _ _ _, Ext.refl _⟩
  case round =>
    obtain ⟨k, vA, hk, rfl, hvz, HO, E⟩ := hrel
    have hvz2 := hvz.symm
    subst hvz2
    have hkn : k ≤ own.length := by omega
    have Hk := hid hk
    clear hk
    by_cases hlt : k < own.length
    · have hki : (k : Int) < own.length := by omega
      obtain ⟨p1, o2, rfl, -, hc⟩ := HRI.out.get k hlt
      have dk := hc _ (e0.out.trans E.out)
      have htk := rkTo_succ own m s k
      have hrg := HCOL.out (fn own k) (by rw [fn_get hlt]; exact List.getElem_mem hlt)
      have HRL := hid (rkTo_len own m s k)
      obtain ⟨x, hx⟩ : ∃ x, x = fn own k := ⟨_, rfl⟩
      rw [← hx] at dk htk hrg
      have hx0 := hrg.1
      have hx1 := hrg.2
      obtain ⟨pm, om, rfl, -, hcm⟩ := HM.out.get x.toNat (by have := HL.out; omega)
      have dm := hcm _ (e0.out.trans E.out)
      have hxm : x < m.length := by have := HL.out; omega
      have HX := hid hx
      clear hc hx hcm hrg
      by_cases e : fn m x.toNat = s
      · rw [if_pos e] at htk
        have HTK := hid htk
        have he : (fn m x.toNat == (s : Int)) = true := by simpa using e
        have hsz := E.out.size
        obtain ⟨av, cv, rfl⟩ := own_len HO.out
        clear e htk
        go_wp2_with (at_builtin; go_must (refine wpList_append_own_at _ rfl _ _ 23 rfl W.heap.size 3 i0 (.int .i64 0) 1 8 Try.underlying23 hi hz0 hz1 hz2 rfl (by decide) _ _ _ rfl (HO.out.alloc _) ⟨wr.heap.size, 0, none⟩ 1 1 [.int .i64 k] rfl rfl (cell_one_new _ _ _) (by intro x hx; simp at hx; subst hx; rfl) ?c3 ?c4 ?c5 ?_))
        case c3 => have := HRL.out; unfold maxLen; omega
        case c4 => have := HRL.out; omega
        case c5 => simp; omega
        intro v' wA hown' hg _ _
        have hR := OwnI.push (xs := rkTo own m s k) rfl hown'
        rw [← HTK.out] at hR
        have HR := hid hR
        have HE5 := hid (Ext.push E.out HO.out (Nat.le_refl _) hg)
        clear hown' hg hR hsz dm dk
        go_wp2
        go_roundg (gk - 1)
        case rel => exact ⟨k + 1, _, by have := Hk.out; omega, by go_num, rfl, HR, HE5⟩
        case measure => have := Hk.out; omega
      · rw [if_neg e, List.append_nil] at htk
        have HTK := hid htk
        have he : (fn m x.toNat == (s : Int)) = false := by simpa using e
        clear e htk
        go_wp2
        go_roundg (gk - 1)
        case rel => exact ⟨k + 1, _, by have := Hk.out; omega, by go_num, rfl, by rw [HTK.out]; exact HO, E⟩
        case measure => have := Hk.out; omega
    · have ek : k = own.length := by omega
      have hki : ¬ ((k : Int) < own.length) := by omega
      have ho := HO.out
      rw [ek, rkTo_all] at ho
      obtain ⟨R, hR⟩ : ∃ R, R = rksL own m s := ⟨_, rfl⟩
      have hRl : R.length ≤ 6 := by have := rkTo_len own m s own.length; rw [rkTo_all, ← hR] at this; omega
      rw [← hR] at ho
      have HRR := hid hR
      have HO0 : Hid (OwnI W.heap.size wr vA (R ++ List.replicate 0 9)) := by show OwnI _ _ _ _; rw [List.replicate_zero, List.append_nil]; exact ho
      clear ek ho hR HO hlt
      go_wp2
      go_loopg [7] (q.toNat - R.length) (fun g v wr => ∃ (j : Nat) (z : Value), j + g = q.toNat - R.length ∧ v = z ∧ Hid (OwnI W.heap.size wr z (R ++ List.replicate j 9)) ∧ Hid (Ext W wr))
      case atStart => exact ⟨0, _, by omega, rfl, HO0, E⟩
      case round =>
        clear HO0 E
        obtain ⟨j, vB, hj, hvz, HO, E⟩ := hrel
        have hvz2 := hvz.symm
        subst hvz2
        have Hj := hid hj
        clear hj
        obtain ⟨Q, hQ⟩ : ∃ Q, Q = R ++ List.replicate j 9 := ⟨_, rfl⟩
        have hQl : Q.length = R.length + j := by rw [hQ, List.length_append, List.length_replicate]
        rw [← hQ] at HO
        have HQ := hid hQ
        obtain ⟨av, cv, rfl⟩ := own_len HO.out
        have hsz := E.out.size
        obtain ⟨c0, d0, f0⟩ := (X0.out.ext E.out).cells
        have dp := HPC.out _ (e0.out.trans E.out)
        have hsp : (s : Int) < p.places.length := by have := HPL.out; omega
        clear hQ
        by_cases hlt : (Q.length : Int) < q
        · have hQq : Q.length ≤ 200 := by omega
          have hQ2 : Q ++ [9] = R ++ List.replicate (j + 1) 9 := by
            rw [HQ.out, List.append_assoc]
            congr 1
            rw [List.replicate_succ']
          have HQ2 := hid hQ2
          have HQL := hid hQl
          clear hQ2 hQl
          go_wp2_with (at_builtin; go_must (refine wpList_append_own_at _ rfl _ _ 23 rfl W.heap.size 3 i0 (.int .i64 0) 1 8 Try.underlying23 hi hz0 hz1 hz2 rfl (by decide) _ _ _ rfl (HO.out.alloc _) ⟨wr.heap.size, 0, none⟩ 1 1 [.int .i64 9] rfl rfl (cell_one_new _ _ _) (by intro x hx; simp at hx; subst hx; rfl) ?c3 ?c4 ?c5 ?_))
          case c3 => unfold maxLen; omega
          case c4 => omega
          case c5 => simp; omega
          intro v' wA hown' hg _ _
          have hR := OwnI.push (xs := Q) rfl hown'
          rw [HQ2.out] at hR
          have HR := hid hR
          have HE5 := hid (Ext.push E.out HO.out (Nat.le_refl _) hg)
          clear hown' hg hR hsz c0 d0 f0 dp
          go_wp2
          go_roundg (gk - 1)
          case rel => exact ⟨j + 1, _, by have := Hj.out; have := HQL.out; omega, rfl, HR, HE5⟩
          case measure => have := Hj.out; have := HQL.out; omega
        · have ej : j = q.toNat - R.length := by have := Hj.out; omega
          have hfin : Q = pad9 R q.toNat := by
            unfold pad9
            rw [HQ.out, ej]
          have ho := HO.out
          have HFIN : Hid (OwnI W.heap.size wr (.slice av Q.length cv) (pad9 R q.toNat)) := by show OwnI _ _ _ _; rw [← hfin]; exact ho
          clear ej hfin hQl ho
          go_wp2
          go_ret
          exact ⟨_, rfl, by rw [← HRR.out]; exact ownsRow_base HFIN.out hWs, e0.out.trans E.out⟩

end Go.Proofs.Ytkdfbbkonbgfmaa

/-
  Contract of the reference's Gains.
-/
namespace Go.Proofs.Ytkdfbbkonbgfmaa
open Go.RowKit

/-- It answers whether P holds. -/
def BoolAns (P : Prop) (e : Ending) : Prop := ∃ b : Bool, e = .returned (.bool b) ∧ (b = true ↔ P)
theorem pad9_len {a : List Int} {q : Nat} (h : a.length ≤ q) : (pad9 a q).length = q := by
  unfold pad9
  rw [List.length_append, List.length_replicate]; omega
theorem pad9_fn {a : List Int} {q : Nat} (h : a.length ≤ q) {i : Nat} (hi : i < q) : fn (pad9 a q) i = atP 9 a i := by
  unfold pad9
  exact atP_app _ _ _ _ (by omega)
theorem gain9 {a b : List Int} {q : Nat} (ha : a.length ≤ q) (hb : b.length ≤ q) : GainL 9 a b q ↔ (∀ i, i < q → fn (pad9 a q) i ≤ fn (pad9 b q) i) ∧ ∃ i, i < q ∧ fn (pad9 a q) i < fn (pad9 b q) i := by
  unfold GainL
  constructor
  · rintro ⟨h1, i, h2, h3⟩
    exact ⟨fun j hj => by rw [pad9_fn ha hj, pad9_fn hb hj]; exact h1 j hj, i, h2, by rw [pad9_fn ha h2, pad9_fn hb h2]; exact h3⟩
  · rintro ⟨h1, i, h2, h3⟩
    exact ⟨fun j hj => by rw [← pad9_fn ha hj, ← pad9_fn hb hj]; exact h1 j hj, i, h2, by rw [← pad9_fn ha h2, ← pad9_fn hb h2]; exact h3⟩
/-- Some is better so far. -/
def someLt (X Y : List Int) (k : Nat) (b : Bool) : Prop := b = true ↔ ∃ i, i < k ∧ fn X i < fn Y i
theorem someLt.start (X Y : List Int) : someLt X Y 0 false := ⟨fun h => by simp at h, fun ⟨i, h, _⟩ => by omega⟩
theorem someLt.step {X Y : List Int} {k : Nat} {b : Bool} (h : someLt X Y k b) : someLt X Y (k + 1) (b || decide (fn X k < fn Y k)) := by
  unfold someLt at *
  rw [Bool.or_eq_true, h, decide_eq_true_iff]
  constructor
  · rintro (⟨i, h1, h2⟩ | h1)
    · exact ⟨i, by omega, h2⟩
    · exact ⟨k, by omega, h1⟩
  · rintro ⟨i, h1, h2⟩
    by_cases e : i = k
    · subst e; exact .inr h2
    · exact .inl ⟨i, by omega, h2⟩

theorem gains_mid {P : Program} {c : Code} {a : Act} {w : World} {Q : Exit → Act → World → Prop} {A : Option Addr → Nat → Option Addr → Nat → Act} {F : Option Addr → Nat → Option Addr → Nat → World → Prop}
    (h1 : c.wp P (Exit.then (fun a' w' => ∃ a4 c4 a5 c5, a' = A a4 c4 a5 c5 ∧ F a4 c4 a5 c5 w') (fun _ _ _ => False)) a w) (h2 : ∀ a4 c4 a5 c5 w', F a4 c4 a5 c5 w' → Q .normal (A a4 c4 a5 c5) w') : c.wp P Q a w :=
  wp_mono h1 (fun e a' w' h => by
    cases e with
    | normal => obtain ⟨a4, c4, a5, c5, rfl, hf⟩ := h; exact h2 _ _ _ _ _ hf
    | _ => exact h.elim)
structure TwoTaken (W : World) (X Y : List Int) (q : Nat) (a4 : Option Addr) (c4 : Nat) (a5 : Option Addr) (c5 : Nat) (w' : World) : Prop where
  e : Ext W w'
  x : Ints w' (.slice a4 q c4) X
  y : Ints w' (.slice a5 q c5) Y

set_option maxRecDepth 20000 in
set_option maxHeartbeats 4000000 in
theorem Gains_any (vh vs vp va vb : Value) (p : PlanD) (hok : PlanOk p) (s : Nat) (a b0 : List Int) (w : World) (hp : PlanR w vh vs vp p) (hva : Ints w va a) (hvb : Ints w vb b0) (hs : s < p.shifts.length) (hla : a.length = p.hands.length) (hlb : b0.length = p.hands.length)
    (hra : (rksL (rowAt p.shifts s) a s).length ≤ (intAt p.places s).toNat) (hrb : (rksL (rowAt p.shifts s) b0 s).length ≤ (intAt p.places s).toNat) :
    Calls Try.prog 92 #[.agg #[vh, vs, vp], .int .i64 s, va, vb] w fun e w' => BoolAns (GainL 9 (rksL (rowAt p.shifts s) a s) (rksL (rowAt p.shifts s) b0 s) (intAt p.places s).toNat) e ∧ Ext w w' := by
  obtain ⟨aoh, caph, aos, caps, aop, capp, rfl, rfl, rfl⟩ := planR_shape hp
  have HP := hid hp
  have HA := hid hva
  have HB := hid hvb
  have HLA := hid hla
  have HLB := hid hlb
  have e0 := hid (Ext.ofAlloc w (.cells #[.slice aoh p.hands.length caph, .slice aos p.shifts.length caps, .slice aop p.places.length capp] 25))
  have X0 := hid (Box3.alloc w 25 (.slice aoh p.hands.length caph) (.slice aos p.shifts.length caps) (.slice aop p.places.length capp))
  have hq := planPlaces hok (s := s) (by omega) (by omega)
  have HG := hid (gain9 hra hrb)
  obtain ⟨q, hqq⟩ : ∃ q, q = (intAt p.places s).toNat := ⟨_, rfl⟩
  obtain ⟨X, hX⟩ : ∃ X, X = pad9 (rksL (rowAt p.shifts s) a s) q := ⟨_, rfl⟩
  obtain ⟨Y, hY⟩ : ∃ Y, Y = pad9 (rksL (rowAt p.shifts s) b0 s) q := ⟨_, rfl⟩
  have hXl : X.length = q := by rw [hX]; exact pad9_len (by rw [hqq]; exact hra)
  have hYl : Y.length = q := by rw [hY]; exact pad9_len (by rw [hqq]; exact hrb)
  rw [← hqq, ← hX, ← hY] at HG
  have hq3 : q ≤ 3 := by omega
  have HQ := hid hqq
  have HX := hid hX
  have HY := hid hY
  have HXL := hid hXl
  have HYL := hid hYl
  have HTA : Hid (∀ w', Ext w w' → Calls Try.prog 121 #[.agg #[.slice aoh p.hands.length caph, .slice aos p.shifts.length caps, .slice aop p.places.length capp], .int .i64 s, va] w' fun e w2 => ∃ a4 c4, e = .returned (.slice a4 q c4) ∧ Ints w2 (.slice a4 q c4) X ∧ Ext w' w2) := by
    intro w' e
    refine (taken_any _ _ _ _ p hok s a _ (HP.out.ext e) (HA.out.ext e) hs HLA.out).mono ?_
    rintro e2 w2 ⟨z, rfl, ho, he⟩
    rw [← HQ.out, ← HX.out] at ho
    have h2 := OwnI.ints ho (by rw [HXL.out]; omega)
    obtain ⟨a4, c4, rfl⟩ := own_len ho
    rw [HXL.out] at h2 ⊢
    exact ⟨a4, c4, rfl, h2, he⟩
  have HTB : Hid (∀ w', Ext w w' → Calls Try.prog 121 #[.agg #[.slice aoh p.hands.length caph, .slice aos p.shifts.length caps, .slice aop p.places.length capp], .int .i64 s, vb] w' fun e w2 => ∃ a4 c4, e = .returned (.slice a4 q c4) ∧ Ints w2 (.slice a4 q c4) Y ∧ Ext w' w2) := by
    intro w' e
    refine (taken_any _ _ _ _ p hok s b0 _ (HP.out.ext e) (HB.out.ext e) hs HLB.out).mono ?_
    rintro e2 w2 ⟨z, rfl, ho, he⟩
    rw [← HQ.out, ← HY.out] at ho
    have h2 := OwnI.ints ho (by rw [HYL.out]; omega)
    obtain ⟨a4, c4, rfl⟩ := own_len ho
    rw [HYL.out] at h2 ⊢
    exact ⟨a4, c4, rfl, h2, he⟩
  clear hp hva hvb hla hlb hX hY hXl hYl hra hrb hq hqq
  go_enter Try.func92, Try.ntmps92
  go_wp2
  generalize w.alloc (.cells #[.slice aoh p.hands.length caph, .slice aos p.shifts.length caps, .slice aop p.places.length capp] 25) = W at *
  have HKEEP : Hid (∀ w', Ext W w' → (w'.cell? ⟨w.heap.size, 0, none⟩ = some (.slice aoh p.hands.length caph) ∧ w'.cell? ⟨w.heap.size, 1, none⟩ = some (.slice aos p.shifts.length caps) ∧ w'.cell? ⟨w.heap.size, 2, none⟩ = some (.slice aop p.places.length capp))) := by
    intro w' e
    obtain ⟨d0, d1, d2⟩ := (X0.out.ext e).cells
    exact ⟨d0, d1, d2⟩
  have E := hid ((Ext.refl W).drew)
  apply gains_mid (F := TwoTaken W X Y q)
  case h1 =>
    refine wp_region_held_drew (S := (fun w' => (w'.cell? ⟨w.heap.size, 0, none⟩ = some (.slice aoh p.hands.length caph) ∧ w'.cell? ⟨w.heap.size, 1, none⟩ = some (.slice aos p.shifts.length caps) ∧ w'.cell? ⟨w.heap.size, 2, none⟩ = some (.slice aop p.places.length capp)))) (by kernel_rfl) ?hSa0 (fun hHeld => ?_)
    case hSa0 => (first | exact HKEEP.out _ E.out | ((try dsimp only); exact HKEEP.out _ E.out))
    refine wpAnyH_tk 0 (v := ?va0x1) rfl (by kernel_rfl) (by kernel_rfl) (by kernel_rfl) (fun _ _ _ h => h) (by rfl) ?hya0x1 (by assumption) ?_
    case hya0x1 => (intro w hSw; (try dsimp only at hSw); go_simp <;> with_reducible rfl)
    (try simp only [Act.put, List.setIfInBounds_toArray, List.set_cons_zero, List.set_cons_succ])
    refine wpAnyH_tk 1 (v := ?va1x2) rfl (by kernel_rfl) (by kernel_rfl) (by kernel_rfl) (fun _ _ _ h => h) (by rfl) ?hya1x2 (by assumption) ?_
    case hya1x2 => (intro w hSw; (try dsimp only at hSw); go_simp <;> with_reducible rfl)
    (try simp only [Act.put, List.setIfInBounds_toArray, List.set_cons_zero, List.set_cons_succ])
    refine wpAnyH_tk 2 (v := ?va2x3) rfl (by kernel_rfl) (by kernel_rfl) (by kernel_rfl) (fun _ _ _ h => h) (by rfl) ?hya2x3 (by assumption) ?_
    case hya2x3 => (intro w hSw; (try dsimp only at hSw); go_simp <;> with_reducible rfl)
    (try simp only [Act.put, List.setIfInBounds_toArray, List.set_cons_zero, List.set_cons_succ])
    refine wpAnyH_tk 4 (v := ?va4x4) rfl (by kernel_rfl) (by kernel_rfl) (by kernel_rfl) (fun _ _ _ h => h) (by rfl) ?hya4x4 (by assumption) ?_
    case hya4x4 => (intro w hSw; (try dsimp only at hSw); go_simp <;> with_reducible rfl)
    (try simp only [Act.put, List.setIfInBounds_toArray, List.set_cons_zero, List.set_cons_succ])
    refine wpAnyH_tk 5 (v := ?va5x5) rfl (by kernel_rfl) (by kernel_rfl) (by kernel_rfl) (fun _ _ _ h => h) (by rfl) ?hya5x5 (by assumption) ?_
    case hya5x5 => (intro w hSw; (try dsimp only at hSw); go_simp <;> with_reducible rfl)
    (try simp only [Act.put, List.setIfInBounds_toArray, List.set_cons_zero, List.set_cons_succ])
    refine wpAnyH_tk 6 (v := ?va6x6) rfl (by kernel_rfl) (by kernel_rfl) (by kernel_rfl) (fun _ _ _ h => h) (by rfl) ?hya6x6 (by assumption) ?_
    case hya6x6 => (intro w hSw; (try dsimp only at hSw); go_simp <;> with_reducible rfl)
    (try simp only [Act.put, List.setIfInBounds_toArray, List.set_cons_zero, List.set_cons_succ])
    refine wpAnyH_one 3 rfl (by kernel_rfl) (by rfl) (fun K hK => ?_)
    go_simp
    refine (HTA.out _ (e0.out.trans E.out)).mono ?_
    rintro e W1 ⟨a4, c4, rfl, I4, he⟩
    replace I4 := hid I4
    replace E := hid (E.out.trans he)
    clear he
    refine hK.out _ _ ?hSa3x7 (fun hHeld => ?_)
    case hSa3x7 => (first | exact HKEEP.out _ E.out | ((try dsimp only); exact HKEEP.out _ E.out))
    clear hK K
    (try simp only [Act.put, List.setIfInBounds_toArray, List.set_cons_zero, List.set_cons_succ])
    refine wpAnyH_one 7 rfl (by kernel_rfl) (by rfl) (fun K hK => ?_)
    go_simp
    refine (HTB.out _ (e0.out.trans E.out)).mono ?_
    rintro e W2 ⟨a5, c5, rfl, I5, he⟩
    replace I5 := hid I5
    replace E := hid (E.out.trans he)
    replace I4 := hid (Ints.ext I4.out he)
    clear he
    refine hK.out _ _ ?hSa7x8 (fun hHeld => ?_)
    case hSa7x8 => (first | exact HKEEP.out _ E.out | ((try dsimp only); exact HKEEP.out _ E.out))
    clear hK K
    (try simp only [Act.put, List.setIfInBounds_toArray, List.set_cons_zero, List.set_cons_succ])
    refine wpAnyH_tk 8 (v := ?va8x9) rfl (by kernel_rfl) (by kernel_rfl) (by kernel_rfl) (fun _ _ _ h => h) (by rfl) ?hya8x9 (by assumption) ?_
    case hya8x9 => (intro w hSw; (try dsimp only at hSw); go_simp <;> with_reducible rfl)
    (try simp only [Act.put, List.setIfInBounds_toArray, List.set_cons_zero, List.set_cons_succ])
    refine wpAnyH_tk 9 (v := ?va9x10) rfl (by kernel_rfl) (by kernel_rfl) (by kernel_rfl) (fun _ _ _ h => h) (by rfl) ?hya9x10 (by assumption) ?_
    case hya9x10 => (intro w hSw; (try dsimp only at hSw); go_simp <;> with_reducible rfl)
    (try simp only [Act.put, List.setIfInBounds_toArray, List.set_cons_zero, List.set_cons_succ])
    refine wpAnyH_done (by kernel_rfl) ?_ _
    exact ⟨a4, c4, a5, c5, rfl, ⟨E.out, I4.out, I5.out⟩⟩
  case h2 =>
    intro a4 c4 a5 c5 w2 T
    have HXI := hid T.x
    have HYI := hid T.y
    have HE := hid T.e
    clear T E HKEEP
    go_wp2
    go_loopg [23, 11] q (fun g i v wr => ∃ (k : Nat) (b : Bool), k + g = q ∧ i = .int .i64 k ∧ v = .bool b ∧ Hid (∀ i, i < k → fn X i ≤ fn Y i) ∧ Hid (someLt X Y k b) ∧ Hid (Ext w2 wr))
    case atStart => exact ⟨0, false, by omega, rfl, rfl, fun i hi => by omega, someLt.start _ _, Ext.refl _⟩
    case round =>
      obtain ⟨k, b, hk, rfl, rfl, LE, SL, E⟩ := hrel
      have hkq : k ≤ q := by omega
      have Hk := hid hk
      clear hk
      by_cases hlt : k < q
      · have hki : (k : Int) < q := by omega
        obtain ⟨p1, o1, rfl, -, hc1⟩ := HXI.out.get k (by have := HXL.out; omega)
        obtain ⟨p2, o2, rfl, -, hc2⟩ := HYI.out.get k (by have := HYL.out; omega)
        have dx := hc1 _ E.out
        have dy := hc2 _ E.out
        have hst := SL.out.step
        clear hc1 hc2
        obtain ⟨x, hx⟩ : ∃ x, x = fn X k := ⟨_, rfl⟩
        obtain ⟨y, hy⟩ : ∃ y, y = fn Y k := ⟨_, rfl⟩
        rw [← hx] at dx hst
        rw [← hy] at dy hst
        have Hx := hid hx
        have Hy := hid hy
        clear hx hy
        by_cases hgt : y < x
        · have HF : Hid (¬ GainL 9 (rksL (rowAt p.shifts s) a s) (rksL (rowAt p.shifts s) b0 s) q) := fun h => by
            have h2 := (HG.out.1 h).1 k hlt
            rw [← Hx.out, ← Hy.out] at h2
            omega
          clear hst
          go_wp2
          go_quiet (fail)
          go_wp2
          go_ret
          exact ⟨⟨false, rfl, by rw [← HQ.out]; simpa using HF.out⟩, e0.out.trans (HE.out.trans (E.out.drewN _))⟩
        · have LE2 : Hid (∀ i, i < k + 1 → fn X i ≤ fn Y i) := fun i hi => by
            by_cases e : i = k
            · subst e; rw [← Hx.out, ← Hy.out]; omega
            · exact LE.out i (by omega)
          cases b with
          | true =>
            have HS : Hid (someLt X Y (k + 1) true) := hst
            clear hst
            go_wp2
            go_quiet (fail)
            go_wp2
            go_quiet (fail)
            go_wp2
            go_roundg (gk - 1)
            case rel => exact ⟨k + 1, true, by have := Hk.out; omega, by go_num, rfl, LE2, HS, E.out.drewN _⟩
            case measure => have := Hk.out; omega
          | false =>
            have HS : Hid (someLt X Y (k + 1) (decide (x < y))) := by show someLt _ _ _ _; simpa using hst
            clear hst
            go_wp2
            go_quiet (fail)
            go_wp2
            go_quiet (fail)
            go_wp2
            go_roundg (gk - 1)
            case rel => exact ⟨k + 1, _, by have := Hk.out; omega, by go_num, rfl, LE2, HS, E.out.drewN _⟩
            case measure => have := Hk.out; omega
      · have ek : k = q := by omega
        have h1 := LE.out
        have h2 := SL.out
        rw [ek] at h1 h2
        have HF : Hid (b = true ↔ GainL 9 (rksL (rowAt p.shifts s) a s) (rksL (rowAt p.shifts s) b0 s) q) := by
          show _ ↔ _
          rw [HG.out]
          constructor
          · intro h; exact ⟨h1, h2.1 h⟩
          · intro h; exact h2.2 h.2
        have hki : ¬ ((k : Int) < q) := by omega
        clear ek h1 h2 hlt
        go_wp2
        go_ret
        exact ⟨⟨b, rfl, by rw [← HQ.out]; exact HF.out⟩, e0.out.trans (HE.out.trans E.out)⟩

end Go.Proofs.Ytkdfbbkonbgfmaa

/-
  Contract of the reference's With: a plan in which a shift gives another list.
-/
namespace Go.Proofs.Ytkdfbbkonbgfmaa
open Go.RowKit

theorem with_mid {P : Program} {c : Code} {a : Act} {w : World} {Q : Exit → Act → World → Prop} {A : Nat → Nat → Nat → Nat → Act} {F : Nat → Nat → Nat → Nat → World → Prop}
    (h1 : c.wp P (Exit.then (fun a' w' => ∃ b4 b7 g c, a' = A b4 b7 g c ∧ F b4 b7 g c w') (fun _ _ _ => False)) a w) (h2 : ∀ b4 b7 g c w', F b4 b7 g c w' → Q .normal (A b4 b7 g c) w') : c.wp P Q a w :=
  wp_mono h1 (fun e a' w' h => by
    cases e with
    | normal => obtain ⟨b4, b7, g, c, rfl, hf⟩ := h; exact h2 _ _ _ _ _ hf
    | _ => exact h.elim)
/-- The copy of the shifts' rows. -/
def NewRows (w0 : World) (g : Nat) (xss : List (List Int)) (w : World) : Prop := ∀ j, j < xss.length → ∃ u, w.cell? ⟨g, j, none⟩ = some u ∧ w.frozen? ⟨g, j, none⟩ = false ∧ Ints w0 u (rowAt xss j)
theorem NewRows.ext {w0 w w' : World} {g : Nat} {xss : List (List Int)} (h : NewRows w0 g xss w) (e : Ext w w') : NewRows w0 g xss w' := by
  intro j hj
  obtain ⟨u, h1, h2, h3⟩ := h j hj
  exact ⟨u, e.cell h1, frozen_ext e h1 h2, h3⟩
theorem NewRows.other {w0 w : World} {g : Nat} {xss : List (List Int)} (h : NewRows w0 g xss w) {b : Nat} (hb : b ≠ g) (i : Nat) (v : Value) : NewRows w0 g xss (w.setCell ⟨b, i, none⟩ v) := by
  intro j hj
  obtain ⟨u, h1, h2, h3⟩ := h j hj
  exact ⟨u, by rw [World.cell?_setCell_far _ _ _ _ (by exact hb)]; exact h1, (World.frozen?_setCell _ _ _ _).trans h2, h3⟩
structure WithMid (w0 W : World) (p : PlanD) (vh vp : Value) (b4 b7 g c : Nat) (w' : World) : Prop where
  e : Ext W w'
  b : W.heap.size ≤ b7
  hg : W.heap.size ≤ g
  ne : b7 ≠ g
  cp : p.shifts.length ≤ c
  box : Box3 w' b7 25 vh (.slice (some ⟨g, 0, none⟩) p.shifts.length c) vp
  rows : NewRows w0 g p.shifts w'
theorem rows_list {w0 : World} {b off cap : Nat} {xss : List (List Int)} (h : Rows2 w0 (.slice (some ⟨b, off, none⟩) xss.length cap) xss) :
    ∃ us : List Value, us.length = xss.length ∧ (∀ w', Ext w0 w' → ∀ j u, us[j]? = some u → w'.cell? ((⟨b, off, none⟩ : Addr).add j) = some u) ∧ (∀ u ∈ us, u.oneCell' = true) ∧ ∀ j (hj : j < us.length), Ints w0 us[j] (rowAt xss j) := by
  obtain ⟨hl, ao', cap', he, hcap, hc⟩ := h
  simp only [Value.slice.injEq, true_and] at he
  obtain ⟨rfl, rfl⟩ := he
  obtain ⟨us, hus⟩ : ∃ us : List Value, us = (List.range xss.length).map (fun i => (w0.cell? ⟨b, off + i, none⟩).getD (.slice none 0 0)) := ⟨_, rfl⟩
  have hul : us.length = xss.length := by rw [hus]; simp
  have hcell : ∀ i (h : i < xss.length), w0.cell? ⟨b, off + i, none⟩ = some (us[i]'(by omega)) ∧ Ints w0 (us[i]'(by omega)) xss[i] := by
    intro i h
    obtain ⟨b', off', u, e, h2, h3⟩ := hc i h
    simp only [Option.some.injEq, Addr.mk.injEq, and_true] at e
    obtain ⟨rfl, rfl⟩ := e
    have : us[i]'(by omega) = u := by
      simp only [hus, List.getElem_map, List.getElem_range]
      rw [h2]; rfl
    rw [this]
    exact ⟨h2, h3⟩
  refine ⟨us, hul, fun w' e j u hj => ?_, fun u hu => ?_, fun j hj => ?_⟩
  · obtain ⟨hjl, rfl⟩ := List.getElem?_eq_some_iff.1 hj
    rw [Addr.add_lit]; exact e.cell (hcell j (by omega)).1
  · obtain ⟨i, hi2, rfl⟩ := List.getElem_of_mem hu
    obtain ⟨-, a, c, e, -⟩ := (hcell i (by omega)).2
    rw [e]; rfl
  · rw [rowAt_nat' (by omega)]; exact (hcell j (by omega)).2
theorem NewRows.of {w0 w : World} {B g cap n : Nat} {us : List Value} {xss : List (List Int)} (h : w.ownsRow B 23 1 (.slice (some ⟨g, 0, none⟩) n cap) n us) (hn : us.length = xss.length) (hnn : n = xss.length) (hu : ∀ j (hj : j < us.length), Ints w0 us[j] (rowAt xss j)) : NewRows w0 g xss w := by
  intro j hj
  have := World.ownsRow.cellAt h j (by omega)
  rw [List.getElem?_eq_getElem (by omega)] at this
  exact ⟨_, this, World.ownsRow.frozenAt h j, hu j (by omega)⟩

theorem Box3.set3 {w : World} {b : Nat} {t : TypeId} {u0 u1 u2 : Value} (h : Box3 w b t u0 u1 u2) (v0 v1 v2 : Value) : Box3 (((w.setCell ⟨b, 0, none⟩ v0).setCell ⟨b, 1, none⟩ v1).setCell ⟨b, 2, none⟩ v2) b t v0 v1 v2 := by
  have h' : w.heap[b]? = some (.cells #[u0, u1, u2] t (0, 0)) := h
  show (World.setCell _ _ _).heap[b]? = _
  simp only [World.setCell, Array.getElem?_modify, if_true, h', Option.map_some]
  simp

set_option maxRecDepth 20000 in
set_option maxHeartbeats 4000000 in
theorem With_any (vh vs vp vl : Value) (p : PlanD) (s : Nat) (l : List Int) (w : World) (hp : PlanR w vh vs vp p) (hl : Ints w vl l) (hs : s < p.shifts.length) (hs4 : p.shifts.length ≤ 4) :
    Calls Try.prog 94 #[.agg #[vh, vs, vp], .int .i64 s, vl] w fun e w' => ∃ u, e = .returned (.agg #[vh, u, vp]) ∧ PlanR w' vh u vp (setS p s l) ∧ Ext w w' := by
  obtain ⟨aoh, caph, aos, caps, aop, capp, rfl, rfl, rfl⟩ := planR_shape hp
  have HP := hid hp
  have HL := hid hl
  obtain ⟨-, al, cl, rfl, -⟩ := id hl
  obtain ⟨bs, os, -, -, rfl, -, -⟩ := hp.2.1.at 0 (by omega) (by omega)
  obtain ⟨us, hul, hcells, hone, hus⟩ := rows_list hp.2.1
  have HUL := hid hul
  have HCELLS := hid hcells
  have HONE := hid hone
  have HUS := hid hus
  obtain ⟨i0, hi, hz0, hz1, hz2⟩ := info_parts info_ints
  have hsi : (s : Int) < p.shifts.length := by omega
  have e0 := hid ((Ext.ofAlloc w (.cells #[.slice aoh p.hands.length caph, .slice (some ⟨bs, os, none⟩) p.shifts.length caps, .slice aop p.places.length capp] 25)).alloc (.cells #[.slice none 0 0, .slice none 0 0, .slice none 0 0] 25))
  have X0 := hid ((Box3.alloc w 25 (.slice aoh p.hands.length caph) (.slice (some ⟨bs, os, none⟩) p.shifts.length caps) (.slice aop p.places.length capp)).ext (Ext.ofAlloc _ (.cells #[.slice none 0 0, .slice none 0 0, .slice none 0 0] 25)))
  have R0 := Box3.alloc (w.alloc (.cells #[.slice aoh p.hands.length caph, .slice (some ⟨bs, os, none⟩) p.shifts.length caps, .slice aop p.places.length capp] 25)) 25 (.slice none 0 0) (.slice none 0 0) (.slice none 0 0)
  rw [World.size_alloc] at R0
  have HR0 := hid R0
  have hszW : ((w.alloc (.cells #[.slice aoh p.hands.length caph, .slice (some ⟨bs, os, none⟩) p.shifts.length caps, .slice aop p.places.length capp] 25)).alloc (.cells #[.slice none 0 0, .slice none 0 0, .slice none 0 0] 25)).heap.size = w.heap.size + 2 := by simp
  have HSZW := hid hszW
  clear hp hl hul hcells hone hus R0 hszW
  go_enter Try.func94, Try.ntmps94
  go_wp2
  generalize (w.alloc (.cells #[.slice aoh p.hands.length caph, .slice (some ⟨bs, os, none⟩) p.shifts.length caps, .slice aop p.places.length capp] 25)).alloc (.cells #[.slice none 0 0, .slice none 0 0, .slice none 0 0] 25) = W at *
  have HKEEP : Hid (∀ w', Ext W w' → (w'.cell? ⟨w.heap.size, 0, none⟩ = some (.slice aoh p.hands.length caph) ∧ w'.cell? ⟨w.heap.size, 1, none⟩ = some (.slice (some ⟨bs, os, none⟩) p.shifts.length caps) ∧ w'.cell? ⟨w.heap.size, 2, none⟩ = some (.slice aop p.places.length capp))) := by
    intro w' e
    obtain ⟨d0, d1, d2⟩ := (X0.out.ext e).cells
    exact ⟨d0, d1, d2⟩
  have E := hid ((Ext.refl W).drew)
  apply with_mid (F := WithMid w W p (.slice aoh p.hands.length caph) (.slice aop p.places.length capp))
  case h1 =>
    refine wp_region_held_drew (S := (fun w' => (w'.cell? ⟨w.heap.size, 0, none⟩ = some (.slice aoh p.hands.length caph) ∧ w'.cell? ⟨w.heap.size, 1, none⟩ = some (.slice (some ⟨bs, os, none⟩) p.shifts.length caps) ∧ w'.cell? ⟨w.heap.size, 2, none⟩ = some (.slice aop p.places.length capp)))) (by kernel_rfl) ?hSa0 (fun hHeld => ?_)
    case hSa0 => (first | exact HKEEP.out _ E.out | ((try dsimp only); exact HKEEP.out _ E.out))
    refine wpAnyH_tk 0 (v := ?va0x1) rfl (by kernel_rfl) (by kernel_rfl) (by kernel_rfl) (fun _ _ _ h => h) (by rfl) ?hya0x1 (by assumption) ?_
    case hya0x1 => (intro w hSw; (try dsimp only at hSw); go_simp <;> with_reducible rfl)
    (try simp only [Act.put, List.setIfInBounds_toArray, List.set_cons_zero, List.set_cons_succ])
    refine wpAnyH_tk 1 (v := ?va1x2) rfl (by kernel_rfl) (by kernel_rfl) (by kernel_rfl) (fun _ _ _ h => h) (by rfl) ?hya1x2 (by assumption) ?_
    case hya1x2 => (intro w hSw; (try dsimp only at hSw); go_simp <;> with_reducible rfl)
    (try simp only [Act.put, List.setIfInBounds_toArray, List.set_cons_zero, List.set_cons_succ])
    refine wpAnyH_tk 2 (v := ?va2x3) rfl (by kernel_rfl) (by kernel_rfl) (by kernel_rfl) (fun _ _ _ h => h) (by rfl) ?hya2x3 (by assumption) ?_
    case hya2x3 => (intro w hSw; (try dsimp only at hSw); go_simp <;> with_reducible rfl)
    (try simp only [Act.put, List.setIfInBounds_toArray, List.set_cons_zero, List.set_cons_succ])
    refine wpAnyH_tk 3 (v := ?va3x4) rfl (by kernel_rfl) (by kernel_rfl) (by kernel_rfl) (fun _ _ _ h => h) (by rfl) ?hya3x4 (by assumption) ?_
    case hya3x4 => (intro w hSw; (try dsimp only at hSw); go_simp <;> with_reducible rfl)
    (try simp only [Act.put, List.setIfInBounds_toArray, List.set_cons_zero, List.set_cons_succ])
    refine wpAnyH_tk 5 (v := ?va5x5) rfl (by kernel_rfl) (by kernel_rfl) (by kernel_rfl) (fun _ _ _ h => h) (by rfl) ?hya5x5 (by assumption) ?_
    case hya5x5 => (intro w hSw; (try dsimp only at hSw); go_simp <;> with_reducible rfl)
    (try simp only [Act.put, List.setIfInBounds_toArray, List.set_cons_zero, List.set_cons_succ])
    refine wpAnyH_tk 6 (v := ?va6x6) rfl (by kernel_rfl) (by kernel_rfl) (by kernel_rfl) (fun _ _ _ h => h) (by rfl) ?hya6x6 (by assumption) ?_
    case hya6x6 => (intro w hSw; (try dsimp only at hSw); go_simp <;> with_reducible rfl)
    (try simp only [Act.put, List.setIfInBounds_toArray, List.set_cons_zero, List.set_cons_succ])
    refine anyH_two 4 9 rfl rfl (by kernel_rfl) (by rfl) (by rfl) (fun K hK => ?_) (fun K hK => ?_)
    · skip
      go_simp
      have he : Ext W (W.alloc (.cells #[] 23)).drew := (Ext.ofAlloc _ _).drew
      replace E := hid (Ext.refl W)
      have hx : World.ownsRow ((W.alloc (.cells #[] 23)).drew) W.heap.size 23 1 (.slice (some ⟨W.heap.size, 0, none⟩) 0 0) 0 [] := ownsRow_ext (World.ownsRow_lit W #[] 0 (Nat.le_refl _) (by decide) rfl) (Ext.refl _).drew
      obtain ⟨b4, hb4⟩ : ∃ b, b = W.heap.size := ⟨_, rfl⟩
      have Sb4 : Hid (W.heap.size ≤ b4) := (by rw [hb4]; exact E.out.size)
      have Tb4 : Hid (b4 < ((W.alloc (.cells #[] 23)).drew).heap.size) := (by rw [hb4]; show _ < _; simp)
      rw [← hb4] at hx ⊢
      generalize (W.alloc (.cells #[] 23)).drew = W1 at he hx Tb4 ⊢
      have O4 := hid hx
      replace E := hid (E.out.trans he)
      clear hx he hb4
      refine hK.out _ _ ?hSa4x7 (fun hHeld => ?_)
      case hSa4x7 => (first | exact HKEEP.out _ E.out | ((try dsimp only); exact HKEEP.out _ E.out))
      clear hK K
      (try simp only [Act.put, List.setIfInBounds_toArray, List.set_cons_zero, List.set_cons_succ])
      refine anyH_two 7 9 rfl rfl (by kernel_rfl) (by rfl) (by rfl) (fun K hK => ?_) (fun K hK => ?_)
      · skip
        refine wp_append_own _ _ _ 22 rfl b4 23 i0 (.slice none 0 0) 1 24 Try.underlying22 hi hz0 hz1 hz2 rfl (by decide) (.slice (some ⟨b4, 0, none⟩) 0 0) 0 [] (by rfl) O4.out ⟨bs, os, none⟩ p.shifts.length caps us (by rfl) (by have := HUL.out; omega) (HCELLS.out _ (e0.out.trans E.out)) HONE.out (by unfold maxLen; omega) (by omega) (by have := Tb4.out; omega) ?_
        intro v7 W2 hown hg _
        rw [List.nil_append, Nat.zero_add] at hown
        obtain ⟨g, c, hv7, hgB, hgs, hcp⟩ : ∃ g c, v7 = .slice (some ⟨g, 0, none⟩) p.shifts.length c ∧ b4 ≤ g ∧ g < W2.heap.size ∧ p.shifts.length ≤ c := by
          obtain ⟨-, ⟨-, h⟩ | ⟨g, cp, cur, h, hB, hh, hcp, -⟩⟩ := id hown
          · omega
          · exact ⟨g, cp, h, hB, lt_of_block hh, hcp⟩
        subst hv7
        have RW : Hid (NewRows w g p.shifts W2) := NewRows.of hown HUL.out rfl HUS.out
        have SG : Hid (W.heap.size ≤ g) := (by have := Sb4.out; show _ ≤ _; omega)
        have TG : Hid (g < W2.heap.size) := hgs
        have HCP := hid hcp
        have he : Ext W W2 := Below.grown E.out hg E.out.size (fun k hk => by simp [Value.ownBlock] at hk; have := Sb4.out; omega)
        replace E := hid he
        clear hown hg hgB hgs hcp he
        refine hK.out _ _ ?hSa7x8 (fun hHeld => ?_)
        case hSa7x8 => (first | exact HKEEP.out _ E.out | ((try dsimp only); exact HKEEP.out _ E.out))
        clear hK K
        (try simp only [Act.put, List.setIfInBounds_toArray, List.set_cons_zero, List.set_cons_succ])
        refine wpAnyH_tk 8 (v := ?va8x9) rfl (by kernel_rfl) (by kernel_rfl) (by kernel_rfl) (fun _ _ _ h => h) (by rfl) ?hya8x9 (by assumption) ?_
        case hya8x9 => (intro w hSw; (try dsimp only at hSw); go_simp <;> with_reducible rfl)
        (try simp only [Act.put, List.setIfInBounds_toArray, List.set_cons_zero, List.set_cons_succ])
        refine wpAnyH_one 9 rfl (by kernel_rfl) (by rfl) (fun K hK => ?_)
        go_simp
        have he : Ext W2 (W2.alloc (.cells #[.slice none 0 0, .slice none 0 0, .slice none 0 0] 25)) := Ext.ofAlloc _ _
        have hx : Box3 (W2.alloc (.cells #[.slice none 0 0, .slice none 0 0, .slice none 0 0] 25)) W2.heap.size 25 (.slice none 0 0) (.slice none 0 0) (.slice none 0 0) := heap_alloc_new W2 (.cells #[.slice none 0 0, .slice none 0 0, .slice none 0 0] 25)
        obtain ⟨b7, hb7⟩ : ∃ b, b = W2.heap.size := ⟨_, rfl⟩
        have Sb7 : Hid (W.heap.size ≤ b7) := (by rw [hb7]; exact E.out.size)
        have Tb7 : Hid (b7 < (W2.alloc (.cells #[.slice none 0 0, .slice none 0 0, .slice none 0 0] 25)).heap.size) := (by rw [hb7]; show _ < _; simp)
        have NE : Hid (g < b7) := (by rw [hb7]; exact TG.out)
        rw [← hb7] at hx ⊢
        generalize W2.alloc (.cells #[.slice none 0 0, .slice none 0 0, .slice none 0 0] 25) = W3 at he hx Tb7 ⊢
        have B7 := hid hx
        replace E := hid (E.out.trans he)
        replace RW := hid (RW.out.ext he)
        clear hx he hb7
        refine hK.out _ _ ?hSa9x10 (fun hHeld => ?_)
        case hSa9x10 => (first | exact HKEEP.out _ E.out | ((try dsimp only); exact HKEEP.out _ E.out))
        clear hK K
        (try simp only [Act.put, List.setIfInBounds_toArray, List.set_cons_zero, List.set_cons_succ])
        obtain ⟨z0, z1, z2⟩ := B7.out.cells
        have y0 := B7.out.free 0
        have y1 := B7.out.free 1
        have y2 := B7.out.free 2
        refine wpAnyH_one 10 rfl (by kernel_rfl) (by rfl) (fun K hK => ?_)
        go_simp
        have hne : b7 ≠ g := by first | exact NE2.out | (have := NE.out; omega)
        replace RW := hid (((RW.out.other hne 0 (.slice aoh p.hands.length caph)).other hne 1 (.slice (some ⟨g, 0, none⟩) p.shifts.length c)).other hne 2 (.slice aop p.places.length capp))
        replace B7 := hid (B7.out.set3 (.slice aoh p.hands.length caph) (.slice (some ⟨g, 0, none⟩) p.shifts.length c) (.slice aop p.places.length capp))
        replace E := hid (((E.out.setCell Sb7.out 0 (.slice aoh p.hands.length caph)).setCell Sb7.out 1 (.slice (some ⟨g, 0, none⟩) p.shifts.length c)).setCell Sb7.out 2 (.slice aop p.places.length capp))
        clear z0 z1 z2 y0 y1 y2
        refine hK.out _ _ ?hSa10x11 (fun hHeld => ?_)
        case hSa10x11 => (first | exact HKEEP.out _ E.out | ((try dsimp only); exact HKEEP.out _ E.out))
        clear hK K
        (try simp only [Act.put, List.setIfInBounds_toArray, List.set_cons_zero, List.set_cons_succ])
        refine wpAnyH_done (by kernel_rfl) ?_ _
        exact ⟨b4, b7, g, c, rfl, ⟨E.out, Sb7.out, SG.out, hne, HCP.out, B7.out, RW.out⟩⟩
      · skip
        go_simp
        have he : Ext W1 (W1.alloc (.cells #[.slice none 0 0, .slice none 0 0, .slice none 0 0] 25)) := Ext.ofAlloc _ _
        have hx : Box3 (W1.alloc (.cells #[.slice none 0 0, .slice none 0 0, .slice none 0 0] 25)) W1.heap.size 25 (.slice none 0 0) (.slice none 0 0) (.slice none 0 0) := heap_alloc_new W1 (.cells #[.slice none 0 0, .slice none 0 0, .slice none 0 0] 25)
        obtain ⟨b7, hb7⟩ : ∃ b, b = W1.heap.size := ⟨_, rfl⟩
        have Sb7 : Hid (W.heap.size ≤ b7) := (by rw [hb7]; exact E.out.size)
        have Tb7 : Hid (b7 < (W1.alloc (.cells #[.slice none 0 0, .slice none 0 0, .slice none 0 0] 25)).heap.size) := (by rw [hb7]; show _ < _; simp)
        have NE : Hid (b4 < b7) := (by rw [hb7]; exact Tb4.out)
        rw [← hb7] at hx ⊢
        generalize W1.alloc (.cells #[.slice none 0 0, .slice none 0 0, .slice none 0 0] 25) = W2 at he hx Tb7 ⊢
        have B7 := hid hx
        replace E := hid (E.out.trans he)
        replace O4 := hid (ownsRow_ext O4.out he)
        replace Tb4 : Hid (b4 < W2.heap.size) := (by have := Tb4.out; have := he.size; show _ < _; omega)
        clear hx he hb7
        refine hK.out _ _ ?hSa9x12 (fun hHeld => ?_)
        case hSa9x12 => (first | exact HKEEP.out _ E.out | ((try dsimp only); exact HKEEP.out _ E.out))
        clear hK K
        (try simp only [Act.put, List.setIfInBounds_toArray, List.set_cons_zero, List.set_cons_succ])
        refine wpAnyH_one 7 rfl (by kernel_rfl) (by rfl) (fun K hK => ?_)
        refine wp_append_own _ _ _ 22 rfl b4 23 i0 (.slice none 0 0) 1 24 Try.underlying22 hi hz0 hz1 hz2 rfl (by decide) (.slice (some ⟨b4, 0, none⟩) 0 0) 0 [] (by rfl) O4.out ⟨bs, os, none⟩ p.shifts.length caps us (by rfl) (by have := HUL.out; omega) (HCELLS.out _ (e0.out.trans E.out)) HONE.out (by unfold maxLen; omega) (by omega) (by have := Tb4.out; omega) ?_
        intro v7 W3 hown hg _
        rw [List.nil_append, Nat.zero_add] at hown
        obtain ⟨g, c, hv7, hgB, hgs, hcp⟩ : ∃ g c, v7 = .slice (some ⟨g, 0, none⟩) p.shifts.length c ∧ b4 ≤ g ∧ g < W3.heap.size ∧ p.shifts.length ≤ c := by
          obtain ⟨-, ⟨-, h⟩ | ⟨g, cp, cur, h, hB, hh, hcp, -⟩⟩ := id hown
          · omega
          · exact ⟨g, cp, h, hB, lt_of_block hh, hcp⟩
        subst hv7
        have RW : Hid (NewRows w g p.shifts W3) := NewRows.of hown HUL.out rfl HUS.out
        have SG : Hid (W.heap.size ≤ g) := (by have := Sb4.out; show _ ≤ _; omega)
        have TG : Hid (g < W3.heap.size) := hgs
        have HCP := hid hcp
        have he : Ext W W3 := Below.grown E.out hg E.out.size (fun k hk => by simp [Value.ownBlock] at hk; have := Sb4.out; omega)
        have hb7n : W3.heap[b7]? = W2.heap[b7]? := hg.block b7 Tb7.out (by simp [Value.ownBlock]; have := NE.out; omega)
        have hb7g : b7 ≠ g := by
          intro e
          have h1 : W3.heap[b7]? = some (.cells #[.slice none 0 0, .slice none 0 0, .slice none 0 0] 25 (0, 0)) := by rw [hb7n]; exact B7.out
          obtain ⟨-, ⟨-, h⟩ | ⟨g2, cp, cur, h, hB, hh, -⟩⟩ := id hown
          · omega
          · simp only [Value.slice.injEq, Option.some.injEq, Addr.mk.injEq, and_true, true_and] at h
            rw [e, h.1, hh] at h1
            simp at h1
        replace B7 : Hid (Box3 W3 b7 25 (.slice none 0 0) (.slice none 0 0) (.slice none 0 0)) := (by show W3.heap[b7]? = _; rw [hb7n]; exact B7.out)
        replace Tb7 : Hid (b7 < W3.heap.size) := (by have := Tb7.out; have := hg.size; show _ < _; omega)
        have NE2 := hid hb7g
        clear hb7n hb7g
        replace E := hid he
        clear hown hg hgB hgs hcp he
        refine hK.out _ _ ?hSa7x13 (fun hHeld => ?_)
        case hSa7x13 => (first | exact HKEEP.out _ E.out | ((try dsimp only); exact HKEEP.out _ E.out))
        clear hK K
        (try simp only [Act.put, List.setIfInBounds_toArray, List.set_cons_zero, List.set_cons_succ])
        refine wpAnyH_tk 8 (v := ?va8x14) rfl (by kernel_rfl) (by kernel_rfl) (by kernel_rfl) (fun _ _ _ h => h) (by rfl) ?hya8x14 (by assumption) ?_
        case hya8x14 => (intro w hSw; (try dsimp only at hSw); go_simp <;> with_reducible rfl)
        (try simp only [Act.put, List.setIfInBounds_toArray, List.set_cons_zero, List.set_cons_succ])
        obtain ⟨z0, z1, z2⟩ := B7.out.cells
        have y0 := B7.out.free 0
        have y1 := B7.out.free 1
        have y2 := B7.out.free 2
        refine wpAnyH_one 10 rfl (by kernel_rfl) (by rfl) (fun K hK => ?_)
        go_simp
        have hne : b7 ≠ g := by first | exact NE2.out | (have := NE.out; omega)
        replace RW := hid (((RW.out.other hne 0 (.slice aoh p.hands.length caph)).other hne 1 (.slice (some ⟨g, 0, none⟩) p.shifts.length c)).other hne 2 (.slice aop p.places.length capp))
        replace B7 := hid (B7.out.set3 (.slice aoh p.hands.length caph) (.slice (some ⟨g, 0, none⟩) p.shifts.length c) (.slice aop p.places.length capp))
        replace E := hid (((E.out.setCell Sb7.out 0 (.slice aoh p.hands.length caph)).setCell Sb7.out 1 (.slice (some ⟨g, 0, none⟩) p.shifts.length c)).setCell Sb7.out 2 (.slice aop p.places.length capp))
        clear z0 z1 z2 y0 y1 y2
        refine hK.out _ _ ?hSa10x15 (fun hHeld => ?_)
        case hSa10x15 => (first | exact HKEEP.out _ E.out | ((try dsimp only); exact HKEEP.out _ E.out))
        clear hK K
        (try simp only [Act.put, List.setIfInBounds_toArray, List.set_cons_zero, List.set_cons_succ])
        refine wpAnyH_done (by kernel_rfl) ?_ _
        exact ⟨b4, b7, g, c, rfl, ⟨E.out, Sb7.out, SG.out, hne, HCP.out, B7.out, RW.out⟩⟩
    · skip
      go_simp
      have he : Ext W (W.alloc (.cells #[.slice none 0 0, .slice none 0 0, .slice none 0 0] 25)).drew := (Ext.ofAlloc _ _).drew
      replace E := hid (Ext.refl W)
      have hx : Box3 ((W.alloc (.cells #[.slice none 0 0, .slice none 0 0, .slice none 0 0] 25)).drew) W.heap.size 25 (.slice none 0 0) (.slice none 0 0) (.slice none 0 0) := heap_alloc_new W (.cells #[.slice none 0 0, .slice none 0 0, .slice none 0 0] 25)
      obtain ⟨b7, hb7⟩ : ∃ b, b = W.heap.size := ⟨_, rfl⟩
      have Sb7 : Hid (W.heap.size ≤ b7) := (by rw [hb7]; exact E.out.size)
      have Tb7 : Hid (b7 < ((W.alloc (.cells #[.slice none 0 0, .slice none 0 0, .slice none 0 0] 25)).drew).heap.size) := (by rw [hb7]; show _ < _; simp)
      rw [← hb7] at hx ⊢
      generalize (W.alloc (.cells #[.slice none 0 0, .slice none 0 0, .slice none 0 0] 25)).drew = W1 at he hx Tb7 ⊢
      have B7 := hid hx
      replace E := hid (E.out.trans he)
      clear hx he hb7
      refine hK.out _ _ ?hSa9x16 (fun hHeld => ?_)
      case hSa9x16 => (first | exact HKEEP.out _ E.out | ((try dsimp only); exact HKEEP.out _ E.out))
      clear hK K
      (try simp only [Act.put, List.setIfInBounds_toArray, List.set_cons_zero, List.set_cons_succ])
      refine wpAnyH_one 4 rfl (by kernel_rfl) (by rfl) (fun K hK => ?_)
      go_simp
      have he : Ext W1 (W1.alloc (.cells #[] 23)) := Ext.ofAlloc _ _
      have hx : World.ownsRow (W1.alloc (.cells #[] 23)) W1.heap.size 23 1 (.slice (some ⟨W1.heap.size, 0, none⟩) 0 0) 0 [] := World.ownsRow_lit W1 #[] 0 (Nat.le_refl _) (by decide) rfl
      obtain ⟨b4, hb4⟩ : ∃ b, b = W1.heap.size := ⟨_, rfl⟩
      have Sb4 : Hid (W.heap.size ≤ b4) := (by rw [hb4]; exact E.out.size)
      have Tb4 : Hid (b4 < (W1.alloc (.cells #[] 23)).heap.size) := (by rw [hb4]; show _ < _; simp)
      have NE : Hid (b7 < b4) := (by rw [hb4]; exact Tb7.out)
      rw [← hb4] at hx ⊢
      generalize W1.alloc (.cells #[] 23) = W2 at he hx Tb4 ⊢
      have O4 := hid hx
      replace E := hid (E.out.trans he)
      replace B7 := hid (B7.out.ext he)
      replace Tb7 : Hid (b7 < W2.heap.size) := (by have := Tb7.out; have := he.size; show _ < _; omega)
      clear hx he hb4
      refine hK.out _ _ ?hSa4x17 (fun hHeld => ?_)
      case hSa4x17 => (first | exact HKEEP.out _ E.out | ((try dsimp only); exact HKEEP.out _ E.out))
      clear hK K
      (try simp only [Act.put, List.setIfInBounds_toArray, List.set_cons_zero, List.set_cons_succ])
      refine wpAnyH_one 7 rfl (by kernel_rfl) (by rfl) (fun K hK => ?_)
      refine wp_append_own _ _ _ 22 rfl b4 23 i0 (.slice none 0 0) 1 24 Try.underlying22 hi hz0 hz1 hz2 rfl (by decide) (.slice (some ⟨b4, 0, none⟩) 0 0) 0 [] (by rfl) O4.out ⟨bs, os, none⟩ p.shifts.length caps us (by rfl) (by have := HUL.out; omega) (HCELLS.out _ (e0.out.trans E.out)) HONE.out (by unfold maxLen; omega) (by omega) (by have := Tb4.out; omega) ?_
      intro v7 W3 hown hg _
      rw [List.nil_append, Nat.zero_add] at hown
      obtain ⟨g, c, hv7, hgB, hgs, hcp⟩ : ∃ g c, v7 = .slice (some ⟨g, 0, none⟩) p.shifts.length c ∧ b4 ≤ g ∧ g < W3.heap.size ∧ p.shifts.length ≤ c := by
        obtain ⟨-, ⟨-, h⟩ | ⟨g, cp, cur, h, hB, hh, hcp, -⟩⟩ := id hown
        · omega
        · exact ⟨g, cp, h, hB, lt_of_block hh, hcp⟩
      subst hv7
      have RW : Hid (NewRows w g p.shifts W3) := NewRows.of hown HUL.out rfl HUS.out
      have SG : Hid (W.heap.size ≤ g) := (by have := Sb4.out; show _ ≤ _; omega)
      have TG : Hid (g < W3.heap.size) := hgs
      have HCP := hid hcp
      have he : Ext W W3 := Below.grown E.out hg E.out.size (fun k hk => by simp [Value.ownBlock] at hk; have := Sb4.out; omega)
      have hb7n : W3.heap[b7]? = W2.heap[b7]? := hg.block b7 Tb7.out (by simp [Value.ownBlock]; have := NE.out; omega)
      have hb7g : b7 ≠ g := by
        intro e
        have h1 : W3.heap[b7]? = some (.cells #[.slice none 0 0, .slice none 0 0, .slice none 0 0] 25 (0, 0)) := by rw [hb7n]; exact B7.out
        obtain ⟨-, ⟨-, h⟩ | ⟨g2, cp, cur, h, hB, hh, -⟩⟩ := id hown
        · omega
        · simp only [Value.slice.injEq, Option.some.injEq, Addr.mk.injEq, and_true, true_and] at h
          rw [e, h.1, hh] at h1
          simp at h1
      replace B7 : Hid (Box3 W3 b7 25 (.slice none 0 0) (.slice none 0 0) (.slice none 0 0)) := (by show W3.heap[b7]? = _; rw [hb7n]; exact B7.out)
      replace Tb7 : Hid (b7 < W3.heap.size) := (by have := Tb7.out; have := hg.size; show _ < _; omega)
      have NE2 := hid hb7g
      clear hb7n hb7g
      replace E := hid he
      clear hown hg hgB hgs hcp he
      refine hK.out _ _ ?hSa7x18 (fun hHeld => ?_)
      case hSa7x18 => (first | exact HKEEP.out _ E.out | ((try dsimp only); exact HKEEP.out _ E.out))
      clear hK K
      (try simp only [Act.put, List.setIfInBounds_toArray, List.set_cons_zero, List.set_cons_succ])
      refine wpAnyH_tk 8 (v := ?va8x19) rfl (by kernel_rfl) (by kernel_rfl) (by kernel_rfl) (fun _ _ _ h => h) (by rfl) ?hya8x19 (by assumption) ?_
      case hya8x19 => (intro w hSw; (try dsimp only at hSw); go_simp <;> with_reducible rfl)
      (try simp only [Act.put, List.setIfInBounds_toArray, List.set_cons_zero, List.set_cons_succ])
      obtain ⟨z0, z1, z2⟩ := B7.out.cells
      have y0 := B7.out.free 0
      have y1 := B7.out.free 1
      have y2 := B7.out.free 2
      refine wpAnyH_one 10 rfl (by kernel_rfl) (by rfl) (fun K hK => ?_)
      go_simp
      have hne : b7 ≠ g := by first | exact NE2.out | (have := NE.out; omega)
      replace RW := hid (((RW.out.other hne 0 (.slice aoh p.hands.length caph)).other hne 1 (.slice (some ⟨g, 0, none⟩) p.shifts.length c)).other hne 2 (.slice aop p.places.length capp))
      replace B7 := hid (B7.out.set3 (.slice aoh p.hands.length caph) (.slice (some ⟨g, 0, none⟩) p.shifts.length c) (.slice aop p.places.length capp))
      replace E := hid (((E.out.setCell Sb7.out 0 (.slice aoh p.hands.length caph)).setCell Sb7.out 1 (.slice (some ⟨g, 0, none⟩) p.shifts.length c)).setCell Sb7.out 2 (.slice aop p.places.length capp))
      clear z0 z1 z2 y0 y1 y2
      refine hK.out _ _ ?hSa10x20 (fun hHeld => ?_)
      case hSa10x20 => (first | exact HKEEP.out _ E.out | ((try dsimp only); exact HKEEP.out _ E.out))
      clear hK K
      (try simp only [Act.put, List.setIfInBounds_toArray, List.set_cons_zero, List.set_cons_succ])
      refine wpAnyH_done (by kernel_rfl) ?_ _
      exact ⟨b4, b7, g, c, rfl, ⟨E.out, Sb7.out, SG.out, hne, HCP.out, B7.out, RW.out⟩⟩
  case h2 =>
    intro b4 b7 g c w2 T
    have HT := hid T
    have hne := T.ne
    have hgb := T.hg
    have hbb := T.b
    have hcc := T.cp
    obtain ⟨d0, d1, d2⟩ := T.box.cells
    obtain ⟨r0, r1, r2⟩ := (HR0.out.ext T.e).cells
    have f0 := (HR0.out.ext T.e).free 0
    have f1 := (HR0.out.ext T.e).free 1
    have f2 := (HR0.out.ext T.e).free 2
    have hz := HSZW.out
    obtain ⟨z, hzc, hzf, -⟩ := T.rows s (by omega)
    have hn1 : ¬ g = b7 := fun e => hne e.symm
    have hn2 : ¬ g = w.heap.size + 1 := by omega
    have hn3 : ¬ b7 = w.heap.size + 1 := by omega
    clear T E HKEEP
    go_wp2
    refine bodyPost_ret (v := .agg #[.slice aoh p.hands.length caph, .slice (some ⟨g, 0, none⟩) p.shifts.length c, .slice aop p.places.length capp]) (by simp [results, Try.results94, go_sem, r0, r1, r2]) rfl ?_
    have EF : Ext w ((((w2.setCell ⟨g, s, none⟩ (.slice al l.length cl)).setCell ⟨w.heap.size + 1, 0, none⟩ (.slice aoh p.hands.length caph)).setCell ⟨w.heap.size + 1, 1, none⟩ (.slice (some ⟨g, 0, none⟩) p.shifts.length c)).setCell ⟨w.heap.size + 1, 2, none⟩ (.slice aop p.places.length capp)) :=
      ((((e0.out.trans HT.out.e).setCell (by omega) _ _).setCell (by omega) _ _).setCell (by omega) _ _).setCell (by omega) _ _
    refine ⟨_, rfl, ⟨HP.out.1.ext EF, ?_, HP.out.2.2.ext EF⟩, EF⟩
    have hlen : (setS p s l).shifts.length = p.shifts.length := by unfold setS; simp
    refine ⟨by omega, _, _, by rw [hlen], by omega, fun i hi => ?_⟩
    rw [hlen] at hi
    have e1 := rowAt_nat (xss := (setS p s l).shifts) (i := i) (by omega)
    have e2 : rowAt (setS p s l).shifts (i : Nat) = if i = s then l else rowAt p.shifts i := rowAt_set hs l i
    rw [← e1, e2]
    by_cases e : i = s
    · subst e
      rw [if_pos rfl]
      refine ⟨g, 0, _, rfl, ?_, HL.out.ext EF⟩
      rw [Nat.zero_add, World.cell?_setCell_far _ _ _ _ (by show w.heap.size + 1 ≠ g; omega), World.cell?_setCell_far _ _ _ _ (by show w.heap.size + 1 ≠ g; omega), World.cell?_setCell_far _ _ _ _ (by show w.heap.size + 1 ≠ g; omega)]
      exact World.cell?_setCell_same _ _ _ hzc
    · rw [if_neg e]
      obtain ⟨u, h1, -, h3⟩ := HT.out.rows i hi
      refine ⟨g, 0, u, rfl, ?_, h3.ext EF⟩
      rw [Nat.zero_add, World.cell?_setCell_far _ _ _ _ (by show w.heap.size + 1 ≠ g; omega), World.cell?_setCell_far _ _ _ _ (by show w.heap.size + 1 ≠ g; omega), World.cell?_setCell_far _ _ _ _ (by show w.heap.size + 1 ≠ g; omega), World.cell?_setCell_other (h := by intro h; simp at h; try omega)]
      exact h1

end Go.Proofs.Ytkdfbbkonbgfmaa

/-
  Contract of the reference's chosen.
-/
namespace Go.Proofs.Ytkdfbbkonbgfmaa
open Go.RowKit

theorem moreP_len (own l : List Int) : (moreP own l).length ≤ own.length := by
  unfold moreP
  rw [List.length_map]
  exact List.length_filter_le _ _
theorem flat_len {L : List (List Int)} {own : List Int} : ((L.map (moreP own)).flatten).length ≤ L.length * own.length := by
  induction L with
  | nil => simp
  | cons a L ih =>
    have := moreP_len own a
    rw [List.map_cons, List.flatten_cons, List.length_append, List.length_cons, Nat.succ_mul]
    omega
theorem chosenP_len {own : List Int} (h : own.length ≤ 6) : ∀ k, (chosenP own k).length ≤ 6 ^ k := by
  intro k
  induction k with
  | zero => simp [chosenP]
  | succ k ih =>
    unfold chosenP
    refine Nat.le_trans flat_len ?_
    rw [Nat.pow_succ]
    exact Nat.mul_le_mul ih h
/-- The lists made so far: of the first i lists with all numbers, of the next with the first j. -/
def chTo (own : List Int) (L : List (List Int)) (i : Nat) : List (List Int) := ((L.take i).map (moreP own)).flatten
def moTo (own l : List Int) (j : Nat) : List (List Int) := moreP (own.take j) l
theorem chTo_succ {own : List Int} {L : List (List Int)} {i : Nat} (h : i < L.length) : chTo own L (i + 1) = chTo own L i ++ moreP own L[i] := by
  unfold chTo
  rw [List.take_succ_eq_append_getElem h, List.map_append, List.flatten_append]; simp
theorem moTo_succ {own l : List Int} {j : Nat} (h : j < own.length) : moTo own l (j + 1) = moTo own l j ++ (if own[j] ∈ l then [] else [l ++ [own[j]]]) := by
  unfold moTo moreP
  rw [List.take_succ_eq_append_getElem h, List.filter_append, List.map_append]
  congr 1
  by_cases e : own[j] ∈ l <;> simp [e]
theorem chTo_len {own : List Int} {L : List (List Int)} {j : Nat} : (chTo own L j).length ≤ j * own.length := by
  unfold chTo
  refine Nat.le_trans flat_len ?_
  exact Nat.mul_le_mul (by rw [List.length_take]; omega) (Nat.le_refl _)
theorem chmo_len {own l : List Int} {L : List (List Int)} {j n : Nat} (h6 : own.length ≤ 6) (hj : j ≤ L.length) : (chTo own L j ++ moTo own l n).length ≤ L.length * 6 + 6 := by
  rw [List.length_append]
  have h1 := chTo_len (own := own) (L := L) (j := j)
  have h2 := moreP_len (own.take n) l
  have h3 : (own.take n).length ≤ own.length := by rw [List.length_take]; omega
  have h4 : j * own.length ≤ L.length * 6 := Nat.mul_le_mul hj h6
  unfold moTo
  omega
theorem moTo_all (own l : List Int) : moTo own l own.length = moreP own l := by unfold moTo; rw [List.take_length]

set_option maxRecDepth 20000 in
set_option maxHeartbeats 2000000 in
theorem chosen_any (own : List Int) (h6 : own.length ≤ 6) : ∀ (k : Nat) (v : Value) (w : World), k ≤ 6 → Ints w v own →
    Calls Try.prog 119 #[v, .int .i64 k] w fun e w' => ∃ u, e = .returned u ∧ OwnRows w.heap.size w' u (chosenP own k) ∧ Ext w w' := by
  intro k
  induction k with
  | zero =>
    intro v w _ hv
    go_enter Try.func119, Try.ntmps119
    go_wp2
    go_ret
    exact ⟨_, rfl, ⟨[.slice none 0 0], World.ownsRow_lit w #[.slice none 0 0] 1 (Nat.le_refl _) (by decide) rfl, rfl, fun i h1 h2 => by
      have : i = 0 := by simp at h1; omega
      subst this
      exact ⟨World.ownsRow_nil _ _ _ _, by simp [chosenP]⟩⟩, Ext.ofAlloc w _⟩
  | succ k ih =>
    intro v w hk6 hv
    have HV := hid hv
    obtain ⟨-, ao, cap, rfl, -⟩ := id hv
    have HIH := hid ih
    clear ih hv
    have hk1 : (((k + 1 : Nat) : Int) == 0) = false := by simp; omega
    have hk2 : IntKind.i64.wrap (((k + 1 : Nat) : Int) - 1) = (k : Int) := by rw [IntKind.wrap_i64]; omega
    have hk3 : wrap64 (((k + 1 : Nat) : Int) - 1) = (k : Int) := by rw [IntWalk.wrap64_in _ (by omega)]; omega
    go_enter Try.func119, Try.ntmps119
    go_wp2_with (fail)
    refine (HIH.out _ w (by omega) HV.out).mono ?_
    rintro e w1 ⟨u1, rfl, hu1, he1⟩
    have hLl := chosenP_len h6 k
    have hp6 : 6 ^ k ≤ 6 ^ 6 := Nat.pow_le_pow_right (by decide) (by omega)
    have hp7 : (6 : Nat) ^ 6 = 46656 := by decide
    have HS : Hid (chosenP own (k + 1) = ((chosenP own k).map (moreP own)).flatten) := rfl
    obtain ⟨L, hL⟩ : ∃ L, L = chosenP own k := ⟨_, rfl⟩
    rw [← hL] at hu1 hLl HS
    have hlL : L.length ≤ 46656 := by omega
    have hlm : ∀ l ∈ L, l.length ≤ 6 := fun l hl => by rw [hL] at hl; have := (chosenP_mem.1 hl).2; omega
    have HLM := hid hlm
    have hr := hu1.rows2 (by omega)
    have HR := hid hr
    have HOR := hid hu1
    obtain ⟨-, a1, c1, rfl, -⟩ := id hr
    have HE1 := hid he1
    obtain ⟨i0, hi, hz0, hz1, hz2⟩ := info_parts info_int
    obtain ⟨j0, hj, hy0, hy1, hy2⟩ := info_parts info_ints
    clear hL hu1 hr he1 hLl hp6 hp7 hlm hk1 hk2 hk3
    go_wp2
    go_loopg [18, 5] L.length (fun g i v wr => ∃ (j : Nat) (z : Value), j + g = L.length ∧ i = .int .i64 j ∧ v = z ∧ Hid (OwnRows w1.heap.size wr z (chTo own L j)) ∧ Hid (Ext w1 wr))
    case atStart => exact ⟨0, _, by omega, rfl, rfl, OwnRows.nil _ _, Ext.refl _⟩
    case round =>
      obtain ⟨j, v5, hjg, rfl, hvz, OR, E⟩ := hrel
      have hvz2 := hvz.symm
      subst hvz2
      have hjL : j ≤ L.length := by omega
      have Hj := hid hjg
      clear hjg
      by_cases hlt : j < L.length
      · have hji : (j : Int) < L.length := by omega
        obtain ⟨g0, cap0, au, cu, he0, hcell, hu0, hul⟩ := HOR.out.cellAt hlt
        simp only [Value.slice.injEq, true_and] at he0
        obtain ⟨rfl, rfl⟩ := he0
        have dc := hcell _ E.out
        have HU := hid (hu0.ints hul)
        have hnn : au = none → cu = 0 := by
          intro e
          rcases own_cases hu0 with ⟨h, -⟩ | ⟨b, o, c, h, -⟩
          · simp at h; exact h.2.2
          · rw [e] at h; simp at h
        have HNN := hid hnn
        have HCS := hid (chTo_succ (own := own) hlt)
        have hl6 := HLM.out L[j] (List.getElem_mem hlt)
        obtain ⟨l, hll⟩ : ∃ l, l = L[j] := ⟨_, rfl⟩
        rw [← hll] at HU HCS hl6 dc
        clear hcell hu0 hul hll hnn
        go_wp2
        have OR0 : Hid (OwnRows w1.heap.size wr v5 (chTo own L j ++ moTo own l 0)) := by
          have : moTo own l 0 = [] := by simp [moTo, moreP]
          show OwnRows _ _ _ _
          rw [this, List.append_nil]; exact OR.out
        clear dc
        go_loopg [24, 5] own.length (fun g i v wr2 => ∃ (n : Nat) (z : Value), n + g = own.length ∧ i = .int .i64 n ∧ v = z ∧ Hid (OwnRows w1.heap.size wr2 z (chTo own L j ++ moTo own l n)) ∧ Hid (Ext w1 wr2))
        case atStart => exact ⟨0, _, by omega, rfl, rfl, OR0, E⟩
        case round =>
          obtain ⟨n, v6, hn, rfl, hvz, ORn, E2⟩ := hrel
          have hvz2 := hvz.symm
          subst hvz2
          have hno : n ≤ own.length := by omega
          have Hn := hid hn
          clear hn
          by_cases hlt2 : n < own.length
          · have hni : (n : Int) < own.length := by omega
            obtain ⟨pb, po, rfl, -, hc⟩ := HV.out.get n hlt2
            have dx := hc _ (HE1.out.trans E2.out)
            rw [fn_get hlt2] at dx
            have HMS := hid (moTo_succ (l := l) hlt2)
            obtain ⟨x, hx⟩ : ∃ x, x = own[n] := ⟨_, rfl⟩
            rw [← hx] at dx HMS
            clear hc hx
            go_wp2_with (fail)
            refine (Rank_any _ l x _ (HU.out.ext E2.out)).mono ?_
            rintro e w3 ⟨rfl, rfl⟩
            have hrk := rankI_has l x
            by_cases hxl : x ∈ l
            · have hr0 : ¬ (rankI l x < 0) := by
                rw [hasI_iff.2 hxl] at hrk
                have := of_decide_eq_true hrk
                omega
              have hms := HMS.out
              rw [if_pos hxl, List.append_nil] at hms
              have HM2 := hid hms
              clear hrk hms hxl dx
              go_wp2
              go_roundg (gk - 1)
              case rel => exact ⟨n + 1, _, by have := Hn.out; omega, by go_num, rfl, by rw [HM2.out]; exact ORn, E2⟩
              case measure => have := Hn.out; omega
            · have hr0 : rankI l x < 0 := by rw [rankI_miss hxl]; omega
              have hms := HMS.out
              rw [if_neg hxl] at hms
              have HM2 : Hid (chTo own L j ++ moTo own l (n + 1) = chTo own L j ++ (moTo own l n ++ [l ++ [x]])) := by
                show _ = _
                rw [hms]
              have EE := hid (HE1.out.trans E2.out)
              have hsz := E2.out.size
              have Hown0 : Hid (OwnI wr.heap.size (wr.alloc (.cells #[] 3)) (.slice (some ⟨wr.heap.size, 0, none⟩) 0 0) []) := World.ownsRow_lit wr #[] 0 (Nat.le_refl _) (by decide) rfl
              have HMR : Hid (∀ w', Ext wr w' → ∀ k, k < l.length → ∃ ad, au = some ad ∧ w'.cell? (ad.add k) = some (.int .i64 (fn l k))) := fun w' e k hk => by
                obtain ⟨pb, po, h1, -, h2⟩ := HU.out.get k hk
                exact ⟨_, h1, by rw [Addr.add_lit]; exact h2 _ (E2.out.trans e)⟩
              have hcl := chmo_len (own := own) (L := L) (l := l) (n := n) h6 hjL
              have hcl2 : (chTo own L j ++ moTo own l n).length ≤ 1000000 := by omega
              have HCL := hid hcl2
              obtain ⟨aA, nA, cA, rfl⟩ := OwnRows.shape ORn.out
              clear hrk hms hxl dx hcl hcl2
              go_wp2_with (at_builtin; go_must (refine wpl_append_ints rfl _ _ rfl wr.heap.size (.slice (some ⟨wr.heap.size, 0, none⟩) 0 0) [] rfl Hown0.out au l.length cu l rfl rfl HNN.out (HMR.out _ (Ext.ofAlloc _ _)) (by first | omega | (simp; done) | (simp; omega)) (by first | omega | (simp; done) | (simp; omega)) ?_))
              intro v7 w7 hv7 hg7
              try rw [List.nil_append] at hv7
              have E7 : Hid (Ext wr w7) := Below.grown (Ext.ofAlloc wr _) hg7 (by simp) (by simp [Value.ownBlock])
              obtain ⟨a7, c7, rfl⟩ := own_len hv7
              have O7 : Hid (OwnI wr.heap.size (w7.alloc (.cells #[.int .i64 x] 3)) (.slice a7 l.length c7) l) := World.ownsRow.alloc hv7 _
              have hs7 := E7.out.size
              have X7 : Hid (OwnI w7.heap.size (w7.alloc (.cells #[.int .i64 x] 3)) (.slice (some ⟨w7.heap.size, 0, none⟩) 1 1) [x]) := World.ownsRow_lit w7 #[.int .i64 x] 1 (Nat.le_refl _) (by decide) rfl
              clear hv7 hg7
              go_wp2_with (at_builtin; go_must (refine wpl_append_ints rfl _ _ rfl wr.heap.size (.slice a7 l.length c7) l rfl O7.out (some ⟨w7.heap.size, 0, none⟩) 1 1 [x] rfl rfl (by simp) (cells_one X7.out) (by first | omega | (simp; done) | (simp; omega)) (by first | omega | (simp; done) | (simp; omega)) ?_))
              intro v8 w8 hv8 hg8
              have E8 : Hid (Ext wr w8) := Below.grown (E7.out.alloc _) hg8 (by simp; omega) (fun k hk => (O7.out.lt k hk).1)
              have hl8 : (l ++ [x]).length ≤ 17592186044416 := by simp; omega
              obtain ⟨a8, c8, h8⟩ := own_len hv8
              obtain ⟨n8, hn8⟩ : ∃ n, n = (l ++ [x]).length := ⟨_, rfl⟩
              rw [← hn8] at h8
              subst h8
              have O8 : Hid (OwnI w1.heap.size w8 (.slice a8 n8 c8) (l ++ [x])) := ownsRow_base hv8 hsz
              have OR8 := hid (ORn.out.ext E8.out)
              have hs8 := E8.out.size
              have HL8 := hid hl8
              clear hv8 hg8 hn8 hl8
              go_wp2_with (at_builtin; go_must (refine wpl_append_one rfl _ _ rfl w1.heap.size _ (.slice a8 n8 c8) (chTo own L j ++ moTo own l n) (l ++ [x]) rfl OR8.out O8.out rfl rfl HL8.out HCL.out (by omega) ?_))
              intro v9 w9 hO9 hE9
              rw [← HM2.out] at hO9
              have HO9 := hid hO9
              have E9b := hid (hE9 w1 (E2.out.trans E8.out) (Nat.le_refl _))
              clear hO9 hE9
              go_wp2
              go_roundg (gk - 1)
              case rel => exact ⟨n + 1, _, by have := Hn.out; omega, by go_num, rfl, HO9, E9b⟩
              case measure => have := Hn.out; omega
          · have en : n = own.length := by omega
            have h := ORn.out
            rw [en, moTo_all, ← HCS.out] at h
            have HF := hid h
            have HEE := hid E2.out
            have hni : ¬ ((n : Int) < own.length) := by omega
            clear en h hlt2
            go_wp2
            go_roundg (L.length - (j + 1))
            case rel => exact ⟨j + 1, _, by have := Hj.out; omega, by go_num, rfl, HF, HEE⟩
            case measure => have := Hj.out; omega
      · have ej : j = L.length := by omega
        have h := OR.out
        rw [ej] at h
        have hfin : chTo own L L.length = chosenP own (k + 1) := by rw [HS.out]; unfold chTo; rw [List.take_length]
        rw [hfin] at h
        have HF := hid h
        have hji : ¬ ((j : Int) < L.length) := by omega
        clear ej h hfin hlt
        go_wp2
        go_ret
        exact ⟨_, rfl, HF.out.base HE1.out.size, HE1.out.trans E.out⟩

end Go.Proofs.Ytkdfbbkonbgfmaa
