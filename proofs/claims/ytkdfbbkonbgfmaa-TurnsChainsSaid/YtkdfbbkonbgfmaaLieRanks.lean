/-
  Contract of turns.ranks.
-/
import Derived.Test.YtkdfbbkonbgfmaaLiePlain
import Derived.Test.YtkdfbbkonbgfmaaSort
import Derived.Test.YtkdfbbkonbgfmaaFirst
import Derived.Maps.AppendAt
namespace Go.Proofs.Ytkdfbbkonbgfmaa
open Go.RowKit

theorem own_len {B e sz n : Nat} {w : World} {v : Value} {xs : List Value} (h : w.ownsRow B e sz v n xs) : ∃ a c, v = .slice a n c := by
  obtain ⟨-, ⟨h, hn⟩ | ⟨g, cap, cur, h, -⟩⟩ := h
  · exact ⟨_, _, by rw [hn]; exact h⟩
  · exact ⟨_, _, h⟩
def ranksI (own hands : List Int) (q : Nat) : List Int := srt (hands.map (rankP own) ++ List.replicate (q - hands.length) ((own.length : Int) + 1))
def rankTo (own hands : List Int) (k : Nat) : List Int := (hands.take k).map (rankP own)
theorem rankTo_succ {own hands : List Int} {k : Nat} (h : k < hands.length) : rankTo own hands (k + 1) = rankTo own hands k ++ [rankP own (fn hands k)] := by
  unfold rankTo
  rw [List.take_succ_eq_append_getElem h, List.map_append, fn_get h]; rfl
theorem rankTo_len {own hands : List Int} {k : Nat} (h : k ≤ hands.length) : (rankTo own hands k).length = k := by
  unfold rankTo
  rw [List.length_map, List.length_take]; omega
theorem ext_grown {w wr w' : World} {row : Option Nat} (h : Ext w wr) (hg : wr.grownBy w' row) (hr : ∀ k, row = some k → w.heap.size ≤ k) : Ext w w' := by
  refine ⟨by rw [hg.os, h.os], by rw [hg.tape, h.tape], by rw [hg.output, h.output], Nat.le_trans h.size hg.size, fun k hk => ?_⟩
  have := h.size
  rw [hg.block k (by omega) (fun e => by have := hr k e.symm; omega), h.block k hk]

set_option maxRecDepth 20000 in
set_option maxHeartbeats 4000000 in
theorem ranks_any (v u : Value) (own hands : List Int) (q : Nat) (w : World) (hv : Ints w v own) (hu : Ints w u hands) (hl : own.length ≤ 100) (hh : hands.length ≤ 100) (hq : q ≤ 100) :
    Calls Try.prog 81 #[v, u, .int .i64 q] w fun e w' => ∃ z, e = .returned z ∧ OwnI w.heap.size w' z (ranksI own hands q) ∧ Ext w w' := by
  have HV := hid hv
  have HU := hid hu
  obtain ⟨-, ao, cap, rfl, -⟩ := hv
  obtain ⟨-, bo, cbp, rfl, -⟩ := hu
  obtain ⟨i0, hi, hz0, hz1, hz2⟩ := info_parts info_int
  go_enter Try.func81, Try.ntmps81
  go_wp2
  go_loopg [12, 7] hands.length (fun g i v wr => ∃ (k : Nat) (z : Value), k + g = hands.length ∧ i = .int .i64 k ∧ v = z ∧ Hid (OwnI w.heap.size wr z (rankTo own hands k)) ∧ Hid (Ext w wr))
  case atStart => exact ⟨0, _, by omega, rfl, rfl, World.ownsRow_nil _ _ _ _, Ext.refl _⟩
  case round =>
    obtain ⟨k, vA, hk, rfl, hvz, HO, E⟩ := hrel
    have hvz2 := hvz.symm
    subst hvz2
    have hkn : k ≤ hands.length := by omega
    have Hk := hid hk
    clear hk
    by_cases hlt : k < hands.length
    · have hki : (k : Int) < hands.length := by omega
      obtain ⟨p, o, rfl, -, hc⟩ := HU.out.get k hlt
      have dk := hc _ E.out
      have htk := rankTo_succ (own := own) hlt
      have HRL := hid (rankTo_len (own := own) hkn)
      obtain ⟨x, hx⟩ : ∃ x, x = fn hands k := ⟨_, rfl⟩
      rw [← hx] at dk htk
      have HTK := hid htk
      clear hc hx htk
      go_wp2_with (fail)
      refine (rank_any _ own x _ (HV.out.ext E.out)).mono ?_
      rintro e w2 ⟨rfl, rfl⟩
      obtain ⟨y, hy⟩ : ∃ y, y = rankP own x := ⟨_, rfl⟩
      rw [← hy] at HTK ⊢
      obtain ⟨av, cv, rfl⟩ := own_len HO.out
      have hsz := E.out.size
      clear dk hy
      go_wp2_with (at_builtin; go_must (refine wpList_append_own_at _ rfl _ _ 23 rfl w.heap.size 3 i0 (.int .i64 0) 1 8 Try.underlying23 hi hz0 hz1 hz2 rfl (by decide) _ _ _ rfl (HO.out.alloc _) ⟨wr.heap.size, 0, none⟩ 1 1 [.int .i64 y] rfl rfl (cell_one_new _ _ _) (by intro x hx; simp at hx; subst hx; rfl) ?c3 ?c4 ?c5 ?_))
      case c3 => have := HRL.out; unfold maxLen; omega
      case c4 => have := HRL.out; omega
      case c5 => simp; omega
      intro v' wA hown' hg _ _
      have hR := OwnI.push (xs := rankTo own hands k) rfl hown'
      rw [← HTK.out] at hR
      have HR := hid hR
      have HE5 := hid (Ext.push E.out HO.out (Nat.le_refl _) hg)
      clear hown' hg hR hsz
      go_wp2
      go_roundg (gk - 1)
      case rel => exact ⟨k + 1, _, by have := Hk.out; omega, by go_num, rfl, HR, HE5⟩
      case measure => have := Hk.out; omega
    · have ek : k = hands.length := by omega
      have hki : ¬ ((k : Int) < hands.length) := by omega
      have ho := HO.out
      rw [ek] at ho
      have hall : rankTo own hands hands.length = hands.map (rankP own) := by unfold rankTo; rw [List.take_of_length_le (Nat.le_refl _)]
      rw [hall] at ho
      obtain ⟨R, hR⟩ : ∃ R, R = hands.map (rankP own) := ⟨_, rfl⟩
      have hRl : R.length = hands.length := by rw [hR, List.length_map]
      rw [← hR] at ho
      have HRR := hid hR
      have HO0 : Hid (OwnI w.heap.size wr vA (R ++ List.replicate 0 ((own.length : Int) + 1))) := by show OwnI _ _ _ _; rw [List.replicate_zero, List.append_nil]; exact ho
      clear ek ho hall hR HO hlt
      go_wp2
      go_loopg [7] (q - hands.length) (fun g v wr => ∃ (j : Nat) (z : Value), j + g = q - hands.length ∧ v = z ∧ Hid (OwnI w.heap.size wr z (R ++ List.replicate j ((own.length : Int) + 1))) ∧ Hid (Ext w wr))
      case atStart => exact ⟨0, _, by omega, rfl, HO0, E⟩
      case round =>
        clear HO0 E
        obtain ⟨j, vB, hj, hvz, HO, E⟩ := hrel
        have hvz2 := hvz.symm
        subst hvz2
        have Hj := hid hj
        clear hj
        obtain ⟨Q, hQ⟩ : ∃ Q, Q = R ++ List.replicate j ((own.length : Int) + 1) := ⟨_, rfl⟩
        have hQl : Q.length = hands.length + j := by rw [hQ, List.length_append, List.length_replicate, hRl]
        rw [← hQ] at HO
        have HQ := hid hQ
        obtain ⟨av, cv, rfl⟩ := own_len HO.out
        have hsz := E.out.size
        clear hQ
        by_cases hlt : Q.length < q
        · have hki : (Q.length : Int) < q := by omega
          have hQq : Q.length ≤ 200 := by omega
          have hw1 : IntKind.i64.wrap ((own.length : Int) + 1) = (own.length : Int) + 1 := by rw [IntKind.wrap_i64]; omega
          have hw2 : wrap64 ((own.length : Int) + 1) = (own.length : Int) + 1 := IntWalk.wrap64_in _ (by omega)
          have hQ2 : Q ++ [(own.length : Int) + 1] = R ++ List.replicate (j + 1) ((own.length : Int) + 1) := by
            rw [HQ.out, List.append_assoc]
            congr 1
            rw [List.replicate_succ']
          have HQ2 := hid hQ2
          have HQL := hid hQl
          clear hQ2 hQl
          go_wp2_with (at_builtin; go_must (refine wpList_append_own_at _ rfl _ _ 23 rfl w.heap.size 3 i0 (.int .i64 0) 1 8 Try.underlying23 hi hz0 hz1 hz2 rfl (by decide) _ _ _ rfl (HO.out.alloc _) ⟨wr.heap.size, 0, none⟩ 1 1 [.int .i64 ((own.length : Int) + 1)] rfl rfl (cell_one_new _ _ _) (by intro x hx; simp at hx; subst hx; rfl) ?c3 ?c4 ?c5 ?_))
          case c3 => unfold maxLen; omega
          case c4 => omega
          case c5 => simp; omega
          intro v' wA hown' hg _ _
          have hR := OwnI.push (xs := Q) rfl hown'
          rw [HQ2.out] at hR
          have HR := hid hR
          have HE5 := hid (Ext.push E.out HO.out (Nat.le_refl _) hg)
          clear hown' hg hR hsz
          go_wp2
          go_roundg (gk - 1)
          case rel => exact ⟨j + 1, _, by have := Hj.out; have := HQL.out; omega, rfl, HR, HE5⟩
          case measure => have := Hj.out; have := HQL.out; omega
        · have hki : ¬ ((Q.length : Int) < q) := by omega
          have ej : j = q - hands.length := by have := Hj.out; omega
          have hfin : srt Q = ranksI own hands q := by
            unfold ranksI
            rw [HQ.out, HRR.out, ej]
          have HFIN := hid hfin
          have hQ1 : Q.length ≤ 17592186044416 := by have := Hj.out; omega
          clear ej hfin hQl
          go_wp2_with (fail)
          refine (Sort_own w.heap.size _ Q _ HO.out hQ1).mono ?_
          rintro e w3 ⟨rfl, ho3, hg3⟩
          rw [HFIN.out] at ho3
          have HO3 := hid ho3
          have HE3 := hid (ext_grown E.out hg3 (fun k hk => (HO.out.lt k hk).1))
          clear ho3 hg3
          go_wp2
          go_ret
          exact ⟨_, rfl, HO3.out, HE3.out⟩

end Go.Proofs.Ytkdfbbkonbgfmaa
