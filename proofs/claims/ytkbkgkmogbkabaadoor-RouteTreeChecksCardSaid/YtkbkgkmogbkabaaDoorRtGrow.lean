/-
  append behind a way: in its own block, or in a new one; what a search leaves as it was.
-/
import Derived.Test.YtkbkgkmogbkabaaDoorRtStop
import Derived.Test.YtkbkgkmogbkabaaDoorRtWayPlain
import Derived.Laws.AppendOwnNone
import Derived.ArgAppend
namespace Go.Proofs.YtkbkgkmogbkabaaDoor
open Go.RowKit

theorem row_prefix {B g n cap : Nat} {w : World} {xs : List Int} {y : Int} (hn : n = xs.length) (h : OwnI B w (.slice (some ⟨g, 0, none⟩) (n + 1) cap) (xs ++ [y])) : OwnI B w (.slice (some ⟨g, 0, none⟩) n cap) xs := by
  subst hn
  obtain ⟨hl, ⟨h, -⟩ | ⟨g', cap', cur, h, hb, hg, hnc, hm, hs, ht⟩⟩ := h
  · simp at h
  · simp only [Value.slice.injEq, Option.some.injEq, Addr.mk.injEq, and_true] at h
    obtain ⟨rfl, -, rfl⟩ := h
    refine ⟨by simp, .inr ⟨g, cap, cur, rfl, hb, hg, by rw [List.length_append] at hnc; omega, hm, hs, ?_⟩⟩
    rw [List.length_append, List.length_singleton, Nat.mul_one, List.map_append] at ht
    have e : cur.toList.take xs.length = (cur.toList.take (xs.length + 1)).take xs.length := by rw [List.take_take, Nat.min_eq_left (by omega)]
    rw [Nat.mul_one, e, ht]
    exact List.take_left' (by simp)

theorem wp_append_way {w : World} {o : Oper} {a : Act} {K : Act → World → Prop} {Q : Exit → Act → World → Prop} (s x : Operand)
    (ho : o.op = .call { callee := .builtin .append, args := #[s, x], argTypes := #[25, 25] })
    (B g n cap : Nat) (xs : List Int) (hn : n = xs.length) (hs : a.eval s = .slice (some ⟨g, 0, none⟩) n cap) (hown : OwnI B w (.slice (some ⟨g, 0, none⟩) n cap) xs)
    (ad : Addr) (y : Int) (hx : a.eval x = .slice (some ad) 1 1) (hc : w.cell? ad = some (.int .i64 y)) (hl : xs.length ≤ 1000)
    (h1 : ∀ w', OwnI B w' (.slice (some ⟨g, 0, none⟩) (n + 1) cap) (xs ++ [y]) → w.grownBy w' (some g) → K (a.put o.dst (.slice (some ⟨g, 0, none⟩) (n + 1) cap)) w')
    (h2 : ∀ v' w', OwnI w.heap.size w' v' (xs ++ [y]) → Ext w w' → K (a.put o.dst v') w') : o.wp Tryd.prog a w K Q := by
  obtain ⟨i0, hi, hz0, hz1, hz2⟩ := info_parts info_int
  subst hn
  have hnews : ∀ j u, [Value.int .i64 y][j]? = some u → w.cell? (ad.add j) = some u := by
    intro j u hj
    match j, hj with
    | 0, hj => simp at hj; subst hj; simpa [Addr.add] using hc
  have hone : ∀ u ∈ [Value.int .i64 y], u.oneCell' = true := by intro u hu; simp at hu; subst hu; rfl
  by_cases hroom : xs.length + 1 ≤ cap
  · obtain ⟨w', hr, ho', hg⟩ := run_append_fits (P := Tryd.prog) w B 25 o.type 3 i0 1 Tryd.underlying25 hi hz1 g xs.length cap (xs.map (Value.int .i64)) hown ad 1 1 [.int .i64 y] rfl hnews hone hroom
    unfold Oper.wp execOp
    simp only [ho, resolve, invoke, builtin, Sem.run_bind, Sem.run_pure, Result.andThen_ok, List.map_toArray, List.map_cons, List.map_nil, hs, hx, hr]
    exact h1 w' (OwnI.push rfl ho') hg
  · have holds := World.ownsRow.cells hown (g := g) rfl
    obtain ⟨v', w', hr, ho', hg⟩ := run_append_arg_grows (P := Tryd.prog) w 25 o.type 3 i0 (.int .i64 0) 1 8 Tryd.underlying25 hi hz0 hz1 hz2 rfl (by decide) ⟨g, 0, none⟩ xs.length cap (xs.map (Value.int .i64)) (by simp) holds ad 1 1 [.int .i64 y] rfl hnews (by omega) (by unfold maxLen; omega) (by omega)
    unfold Oper.wp execOp
    simp only [ho, resolve, invoke, builtin, Sem.run_bind, Sem.run_pure, Result.andThen_ok, List.map_toArray, List.map_cons, List.map_nil, hs, hx, hr]
    exact h2 v' w' (OwnI.push rfl ho') ((Below.refl _ _).grown hg (Nat.le_refl _) (fun k hk => by simp at hk))

/-- All blocks that were there are as they were, other than one, and a row's own. -/
structure Fr (bf : Nat) (row : Option Nat) (w w' : World) : Prop where
  os : w'.os = w.os
  tape : w'.tape = w.tape
  output : w'.output = w.output
  size : w.heap.size ≤ w'.heap.size
  block : ∀ k, k < w.heap.size → k ≠ bf → some k ≠ row → w'.heap[k]? = w.heap[k]?
theorem Fr.ofExt {bf : Nat} {row : Option Nat} {w w' : World} (h : Ext w w') : Fr bf row w w' := ⟨h.os, h.tape, h.output, h.size, fun k hk _ _ => h.block k hk⟩
theorem Fr.ofGrown {bf : Nat} {row : Option Nat} {w w' : World} (h : w.grownBy w' row) : Fr bf row w w' := ⟨h.os, h.tape, h.output, h.size, fun k hk _ hr => h.block k hk hr⟩
theorem Fr.trans {bf : Nat} {row row' : Option Nat} {a b c : World} (h : Fr bf row a b) (k : Fr bf row' b c) (hr : row' = row ∨ ∃ q, row' = some q ∧ a.heap.size ≤ q) : Fr bf row a c := by
  refine ⟨by rw [k.os, h.os], by rw [k.tape, h.tape], by rw [k.output, h.output], Nat.le_trans h.size k.size, fun x hx hb hrow => ?_⟩
  have h1 := h.size
  rw [k.block x (by omega) hb (fun e => by
    rcases hr with r | ⟨q, r, hq⟩
    · rw [r] at e; exact hrow e
    · rw [r] at e; simp at e; omega), h.block x hx hb hrow]
theorem Fr.below {bf B : Nat} {row : Option Nat} {w w' : World} (h : Fr bf row w w') (hB : B ≤ bf) (hsz : B ≤ w.heap.size) (hr : ∀ k, row = some k → B ≤ k) : Below B w w' :=
  ⟨h.os, h.tape, h.output, h.size, fun k hk => h.block k (by omega) (by omega) (fun e => by have := hr k e.symm; omega)⟩

end Go.Proofs.YtkbkgkmogbkabaaDoor
