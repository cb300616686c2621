/-
  A stop behind a way, in its own block or a new one: one answer for both.
-/
import Derived.Test.YtkbkgkmogbkabaaDoorRtWayWalk
namespace Go.Proofs.YtkbkgkmogbkabaaDoor
open Go.RowKit

theorem OwnI.heap {B : Nat} {w w' : World} {v : Value} {xs : List Int} (h : OwnI B w v xs) (hb : ∀ k, v.ownBlock = some k → w'.heap[k]? = w.heap[k]?) : OwnI B w' v xs := by
  obtain ⟨hl, h | ⟨g, cap, cur, rfl, hB, hg, r⟩⟩ := h
  · exact ⟨hl, .inl h⟩
  · exact ⟨hl, .inr ⟨g, cap, cur, rfl, hB, by rw [hb g rfl]; exact hg, r⟩⟩
theorem OwnI.lt {B : Nat} {w : World} {v : Value} {xs : List Int} (h : OwnI B w v xs) : ∀ k, v.ownBlock = some k → B ≤ k ∧ k < w.heap.size := by
  obtain ⟨-, h | ⟨g, cap, cur, rfl, hB, hg, -⟩⟩ := h
  · intro k hk; rw [h.1] at hk; simp [Value.ownBlock] at hk
  · intro k hk
    simp only [Value.ownBlock, Option.some.injEq] at hk
    subst hk
    exact ⟨hB, lt_of_block hg⟩

theorem wp_append_way2 {w : World} {o : Oper} {a : Act} {K : Act → World → Prop} {Q : Exit → Act → World → Prop} (s x : Operand)
    (ho : o.op = .call { callee := .builtin .append, args := #[s, x], argTypes := #[25, 25] })
    (bf g n cap : Nat) (xs : List Int) (hn : n = xs.length) (hs : a.eval s = .slice (some ⟨g, 0, none⟩) n cap) (hbf : bf + 2 ≤ w.heap.size) (hown : OwnI (bf + 2) w (.slice (some ⟨g, 0, none⟩) n cap) xs)
    (ad : Addr) (y : Int) (hx : a.eval x = .slice (some ad) 1 1) (hc : w.cell? ad = some (.int .i64 y)) (hl : xs.length ≤ 1000)
    (h : ∀ v' w', OwnI (bf + 2) w' v' (xs ++ [y]) → Fr bf (some g) w w' → w'.heap[bf]? = w.heap[bf]? →
      (∀ w'', Fr bf v'.ownBlock w' w'' → OwnI (bf + 2) w'' v' (xs ++ [y]) → Fr bf (some g) w w'' ∧ OwnI (bf + 2) w'' (.slice (some ⟨g, 0, none⟩) n cap) xs) → K (a.put o.dst v') w') : o.wp Tryd.prog a w K Q := by
  have hg := hown.lt g rfl
  refine wp_append_way s x ho (bf + 2) g n cap xs hn hs hown ad y hx hc hl (fun w' h1 h2 => ?_) (fun v' w' h1 h2 => ?_)
  · have hf : Fr bf (some g) w w' := Fr.ofGrown h2
    exact h _ _ h1 hf (h2.block bf (by omega) (by simp; omega)) (fun w'' f o => ⟨hf.trans f (.inl rfl), row_prefix hn o⟩)
  · have hv := h1.lt
    refine h _ _ (ownsRow_base h1 hbf) (Fr.ofExt h2) (h2.block bf (by omega)) (fun w'' f o => ?_)
    have hf : Fr bf (some g) w w'' := by
      cases e : v'.ownBlock with
      | none =>
        rw [e] at f
        have hs := h2.size
        exact ⟨by rw [f.os, h2.os], by rw [f.tape, h2.tape], by rw [f.output, h2.output], Nat.le_trans hs f.size, fun k hk hb _ => by rw [f.block k (by omega) hb (by simp), h2.block k hk]⟩
      | some q =>
        rw [e] at f
        exact (Fr.ofExt h2).trans f (.inr ⟨q, rfl, (hv q e).1⟩)
    refine ⟨hf, OwnI.heap hown (fun k hk => ?_)⟩
    simp only [Value.ownBlock, Option.some.injEq] at hk
    subst hk
    have hs := h2.size
    rw [f.block g (by omega) (by omega) (fun e => by have := (hv g e.symm).1; omega), h2.block g hg.2]

end Go.Proofs.YtkbkgkmogbkabaaDoor
