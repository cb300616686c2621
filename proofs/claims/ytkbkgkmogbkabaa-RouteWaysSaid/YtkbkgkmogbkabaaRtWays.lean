/-
  Contract of the reference's ways.
-/
import Derived.Test.YtkbkgkmogbkabaaRtCost
import Derived.Test.YtkbkgkmogbkabaaRtGrow
namespace Go.Proofs.Ytkbkgkmogbkabaa
open Go.RowKit

theorem Ints.full {w : World} {ao : Option Addr} {n c : Nat} {xs : List Int} (h : Ints w (.slice ao n c) xs) : Ints w (.slice ao n n) xs := by
  obtain ⟨hl, ao', cap, he, hcap, hc⟩ := h
  simp only [Value.slice.injEq] at he
  obtain ⟨rfl, rfl, rfl⟩ := he
  exact ⟨hl, _, _, rfl, Nat.le_refl _, hc⟩
/-- append of one number behind a slice without room. -/
theorem wpList_append_full {ops : Array Oper} {rest : List Oper} {o : Oper} {a : Act} {w : World} {Q : Exit → Act → World → Prop} (hgd : o.guard = none) (s x : Operand)
    (ho : o.op = .call { callee := .builtin .append, args := #[s, x], argTypes := #[34, 34] })
    (b off n : Nat) (xs : List Int) (hn : n = xs.length) (hs : a.eval s = .slice (some ⟨b, off, none⟩) n n) (hI : Ints w (.slice (some ⟨b, off, none⟩) n n) xs)
    (ad : Addr) (y : Int) (hx : a.eval x = .slice (some ad) 1 1) (hc : w.cell? ad = some (.int .i64 y)) (hl : xs.length ≤ 1000)
    (h : ∀ v' w', OwnI w.heap.size w' v' (xs ++ [y]) → Ext w w' → wpList Try.prog ops Q rest (a.put o.dst v') w') : wpList Try.prog ops Q (o :: rest) a w := by
  obtain ⟨i0, hi, hz0, hz1, hz2⟩ := info_parts info_int
  subst hn
  have hnews : ∀ j u, [Value.int .i64 y][j]? = some u → w.cell? (ad.add j) = some u := by
    intro j u hj
    match j, hj with
    | 0, hj => simp at hj; subst hj; simpa [Addr.add] using hc
  have holds : ∀ j u, (xs.map (Value.int .i64))[j]? = some u → w.cell? ((⟨b, off, none⟩ : Addr).add j) = some u := by
    intro j u hj
    rw [List.getElem?_map, Option.map_eq_some_iff] at hj
    obtain ⟨z, hz, rfl⟩ := hj
    obtain ⟨hjl, rfl⟩ := List.getElem?_eq_some_iff.1 hz
    obtain ⟨b', off', e, -, hcell⟩ := hI.get j hjl
    simp only [Option.some.injEq, Addr.mk.injEq, and_true] at e
    obtain ⟨rfl, rfl⟩ := e
    rw [Addr.add_lit, hcell _ (Ext.refl _), fn_get hjl]
  refine wpList_plain hgd fun K hK => ?_
  obtain ⟨v', w', hr, ho', hg⟩ := run_append_arg_grows (P := Try.prog) w 34 o.type 3 i0 (.int .i64 0) 1 8 Try.underlying34 hi hz0 hz1 hz2 rfl (by decide) ⟨b, off, none⟩ xs.length xs.length (xs.map (Value.int .i64)) (by simp) holds ad 1 1 [.int .i64 y] rfl hnews (by omega) (by unfold maxLen; omega) (by omega)
  unfold Oper.wp execOp
  simp only [ho, resolve, invoke, builtin, Sem.run_bind, Sem.run_pure, Result.andThen_ok, List.map_toArray, List.map_cons, List.map_nil, hs, hx, hr]
  exact hK _ _ (h v' w' (OwnI.push rfl ho') ((Below.refl _ _).grown hg (Nat.le_refl _) (fun k hk => by simp at hk)))

/-- What a call of the search answers. -/
def WaysPost (res : Option (List Int)) (w : World) : Ending → World → Prop := fun e w' => ∃ u, e = .returned u ∧ Ext w w' ∧ ((res = none ∧ u = .slice none 0 0) ∨ ∃ r b o c, res = some r ∧ u = .slice (some ⟨b, o, none⟩) r.length c ∧ Ints w' u r)

set_option maxRecDepth 20000 in
set_option maxHeartbeats 16000000 in
theorem ways_any (vr : Value) (N : Nat) (rs : List RoadD) (b : Nat) (tot : Int) (hok : ∀ r ∈ rs, roadOk N r = true) (hN8 : N ≤ 8) :
    ∀ (f : Nat) (way : List Int) (vb : Value) (w : World), Roads w vr rs → Ints w vb way → 0 < way.length → way.length + f ≤ 100 →
    Calls Try.prog 38 #[.agg #[.int .i64 N, vr], vb, .int .i64 b, .int .i64 ((way.length + f : Nat) : Int), .int .i64 tot] w (WaysPost (waysR rs N b tot f way) w) := by
  intro f
  have HAll := hid hok
  clear hok
  induction f with
  | zero =>
    intro way vb w hv hw hn hn2
    obtain ⟨ao, cap, rfl⟩ := hv.shape
    have HV := hid hv
    have HWI := hid hw
    obtain ⟨-, aw, cw, rfl, -⟩ := id hw
    obtain ⟨bw, ow, rfl, -, hcl⟩ := hw.get (way.length - 1) (by omega)
    have X0 := hid (Box2.alloc w 24 (.int .i64 N) (.slice ao rs.length cap))
    have dl := hcl _ (Ext.ofAlloc w (.cells #[.int .i64 N, .slice ao rs.length cap] 24))
    have hlen : ((way.length : Int) - 1).toNat = way.length - 1 := by omega
    rw [Nat.add_zero]
    have hnl : way ≠ [] := List.length_pos_iff.1 hn
    clear hv hw hcl
    by_cases e1 : fn way (way.length - 1) = b
    · have Hfn := hid e1
      rw [e1] at dl
      clear e1
      go_enter Try.func38, Try.ntmps38
      go_wp2_with (fail)
      refine (Cost_any _ _ N rs way _ (Roads.ext HV.out (Ext.ofAlloc _ _)) HAll.out (HWI.out.ext (Ext.ofAlloc _ _))).mono ?_
      rintro e w1 ⟨rfl, he⟩
      obtain ⟨c, hc⟩ : ∃ c, c = costR rs N way := ⟨_, rfl⟩
      rw [← hc]
      have HC := hid hc
      have HE := hid ((Ext.ofAlloc w _).trans he)
      clear dl he hc
      by_cases e2 : c = tot
      · have e2b : (c == tot) = true := beq_iff_eq.2 e2
        have HR : Hid (waysR rs N b tot 0 way = some way) := by
          show _ = _
          unfold waysR
          rw [if_pos ⟨Hfn.out, by rw [← HC.out]; exact e2⟩]
        clear e2
        go_wp2
        go_ret
        exact ⟨_, rfl, HE.out, .inr ⟨way, bw, ow, cw, HR.out, rfl, HWI.out.ext HE.out⟩⟩
      · have e2b : (c == tot) = false := beq_eq_false_iff_ne.2 e2
        have HR : Hid (waysR rs N b tot 0 way = none) := by
          show _ = _
          unfold waysR
          rw [if_neg (fun h => e2 (by rw [HC.out]; exact h.2))]
        clear e2
        go_wp2
        go_ret
        exact ⟨_, rfl, HE.out, .inl ⟨HR.out, rfl⟩⟩
    · have e1b : (fn way (way.length - 1) == (b : Int)) = false := beq_eq_false_iff_ne.2 e1
      have HR : Hid (waysR rs N b tot 0 way = none) := by
        show _ = _
        unfold waysR
        rw [if_neg (fun h => e1 h.1)]
      clear e1
      go_enter Try.func38, Try.ntmps38
      go_wp2
      go_ret
      exact ⟨_, rfl, Ext.ofAlloc _ _, .inl ⟨HR.out, rfl⟩⟩
  | succ f ih =>
    intro way vb w hv hw hn hn2
    obtain ⟨ao, cap, rfl⟩ := hv.shape
    have HV := hid hv
    have HWI := hid hw
    obtain ⟨-, aw, cw, rfl, hcw, -⟩ := id hw
    obtain ⟨bw, ow, rfl, -, -⟩ := hw.get 0 hn
    have X0 := hid (Box2.alloc w 24 (.int .i64 N) (.slice ao rs.length cap))
    obtain ⟨LL, hLL⟩ : ∃ LL : Int, ((way.length + (f + 1) : Nat) : Int) = LL := ⟨_, rfl⟩
    rw [hLL]
    have hne : ¬ (way.length : Int) = LL := by omega
    have hneb : ((way.length : Int) == LL) = false := beq_eq_false_iff_ne.2 hne
    have IHx : ∀ (vb' : Value) (w' : World) (x : Nat), Roads w' (.slice ao rs.length cap) rs → Ints w' vb' (way ++ [(x : Int)]) →
        Calls Try.prog 38 #[.agg #[.int .i64 N, .slice ao rs.length cap], vb', .int .i64 b, .int .i64 LL, .int .i64 tot] w' (WaysPost (waysR rs N b tot f (way ++ [(x : Int)])) w') := by
      intro vb' w' x h1 h2
      have hl2 : (way ++ [(x : Int)]).length = way.length + 1 := by simp
      have := ih (way ++ [(x : Int)]) vb' w' h1 h2 (by omega) (by omega)
      rw [show (((way ++ [(x : Int)]).length + f : Nat) : Int) = LL by rw [hl2, ← hLL]; congr 1; omega] at this
      exact this
    have IH := hid IHx
    have Hn2 := hid hn2
    have HE0 := hid (Ext.ofAlloc w (.cells #[.int .i64 N, .slice ao rs.length cap] 24))
    clear hv hw ih IHx hLL
    go_enter Try.func38, Try.ntmps38
    go_wp2
    generalize w.alloc (.cells #[.int .i64 N, .slice ao rs.length cap] 24) = W at *
    clear hn2
    go_loopg [36] N (fun g i wr => ∃ x : Nat, x + g = N ∧ i = .int .i64 x ∧ Hid ((List.range x).findSome? (waysF rs N b tot f way) = none) ∧ Hid (Ext W wr))
    case atStart => exact ⟨0, by omega, rfl, rfl, Ext.refl _⟩
    case round =>
      obtain ⟨x, hx, rfl, NO, E⟩ := hrel
      have hxl : x ≤ N := by omega
      have Hx := hid hx
      clear hx
      by_cases hlt : x < N
      · have hl1000 : way.length ≤ 1000 := by have := Hn2.out; omega
        have HI1 := hid ((HWI.out.ext (HE0.out.trans (E.out.alloc (.cells #[.int .i64 x] 3)))).full)
        go_wp2_with (at_builtin; go_must (refine wpList_append_full rfl _ _ rfl bw ow way.length way rfl rfl HI1.out ⟨wr.heap.size, 0, none⟩ (x : Int) rfl (World.cell?_alloc_new _ _ _ 0) hl1000 ?_))
        intro v' w2 hO hE2
        have hsz2 : (way ++ [(x : Int)]).length = way.length + 1 := by simp
        have hi2 := OwnI.ints hO (by omega)
        obtain ⟨-, an, cn, rfl, -⟩ := id hi2
        rw [hsz2] at hi2 ⊢
        have HI2 := hid hi2
        have E2 := hid ((E.out.alloc (.cells #[.int .i64 x] 3)).trans hE2)
        obtain ⟨c0, c1⟩ := (X0.out.ext E2.out).cells
        clear hO hE2 hi2 HI1
        go_wp2_with (fail)
        refine (Cost_any _ _ N rs (way ++ [(x : Int)]) _ (Roads.ext HV.out (HE0.out.trans E2.out)) HAll.out HI2.out).mono ?_
        rintro e w3 ⟨rfl, he⟩
        obtain ⟨c, hc⟩ : ∃ c, c = costR rs N (way ++ [(x : Int)]) := ⟨_, rfl⟩
        rw [← hc]
        have HC := hid hc
        have E3 := hid (E2.out.trans he)
        have HI3 := hid (HI2.out.ext he)
        have d0 := he.cell c0
        have d1 := he.cell c1
        clear hc he c0 c1
        by_cases p1 : 0 ≤ c
        · by_cases p2 : c ≤ tot
          · have HF : Hid (waysF rs N b tot f way x = waysR rs N b tot f (way ++ [(x : Int)])) := by
              show _ = _
              unfold waysF
              rw [if_pos ⟨by rw [← HC.out]; exact p1, by rw [← HC.out]; exact p2⟩]
            go_wp2_with (fail)
            refine (IH.out _ _ x (Roads.ext HV.out (HE0.out.trans E3.out)) HI3.out).mono ?_
            rintro e w4 ⟨u, rfl, he, hu⟩
            have E4 := hid (E3.out.trans he)
            clear he d0 d1
            rcases hu with ⟨hu, rfl⟩ | ⟨r, b', o', c', hr, rfl, hi⟩
            · have HNO := hid (find_none NO.out (HF.out.trans hu))
              clear hu
              go_wp2
              go_roundg (gk - 1)
              case rel => exact ⟨x + 1, by have := Hx.out; omega, by go_num, HNO.out, E4.out⟩
              case measure => have := Hx.out; omega
            · have hs := find_first hlt NO.out (HF.out.trans hr)
              rw [← waysR_succ] at hs
              have HS := hid hs
              have HI4 := hid hi
              clear hs hr hi
              go_wp2
              go_ret
              exact ⟨_, rfl, HE0.out.trans E4.out, .inr ⟨r, b', o', c', HS.out, rfl, HI4.out⟩⟩
          · have HF : Hid (waysF rs N b tot f way x = none) := by
              show _ = _
              unfold waysF
              rw [if_neg (fun h => p2 (by rw [HC.out]; exact h.2))]
            have HNO := hid (find_none NO.out HF.out)
            go_wp2
            go_roundg (gk - 1)
            case rel => exact ⟨x + 1, by have := Hx.out; omega, by go_num, HNO.out, E3.out⟩
            case measure => have := Hx.out; omega
        · have HF : Hid (waysF rs N b tot f way x = none) := by
            show _ = _
            unfold waysF
            rw [if_neg (fun h => p1 (by rw [HC.out]; exact h.1))]
          have HNO := hid (find_none NO.out HF.out)
          go_wp2
          go_roundg (gk - 1)
          case rel => exact ⟨x + 1, by have := Hx.out; omega, by go_num, HNO.out, E3.out⟩
          case measure => have := Hx.out; omega
      · have ex : x = N := by omega
        have hno := NO.out
        rw [ex, ← waysR_succ] at hno
        have HNo := hid hno
        clear ex hno
        go_wp2
        go_ret
        exact ⟨_, rfl, HE0.out.trans E.out, .inl ⟨HNo.out, rfl⟩⟩

end Go.Proofs.Ytkbkgkmogbkabaa
