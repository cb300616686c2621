/-
  append in a region that keeps its order: ints behind a row of the call's own, one row, or rows, behind rows of the call's own.
-/
import Derived.Test.YtkdfbbkonbgfmaaRefMid
import Derived.Test.YtkdfbbkonbgfmaaLawA
import Derived.Test.YtkdfbbkonbgfmaaAppend
import Derived.Test.YtkdfbbkonbgfmaaLieRanks
namespace Go.Proofs.Ytkdfbbkonbgfmaa
open Go.RowKit

theorem wpl_append_ints {w : World} {ops : Array Oper} {rest : List Oper} {o : Oper} {a : Act} {Q : Exit → Act → World → Prop} (hgd : o.guard = none) (s x : Operand)
    (ho : o.op = .call { callee := .builtin .append, args := #[s, x], argTypes := #[23, 23] })
    (B : Nat) (v : Value) (xs : List Int) (hs : a.eval s = v) (hown : OwnI B w v xs)
    (ao : Option Addr) (m c : Nat) (ys : List Int) (hx : a.eval x = .slice ao m c) (hm : ys.length = m) (hn : ao = none → c = 0)
    (hc : ∀ k, k < ys.length → ∃ ad, ao = some ad ∧ w.cell? (ad.add k) = some (.int .i64 (fn ys k)))
    (hl : xs.length + ys.length ≤ 1000000) (hB : B ≤ w.heap.size)
    (h : ∀ v' w', OwnI B w' v' (xs ++ ys) → w.grownBy w' v.ownBlock → wpList Try.prog ops Q rest (a.put o.dst v') w') : wpList Try.prog ops Q (o :: rest) a w := by
  refine wpList_plain hgd fun K hK => ?_
  exact wp_append_ints s x ho B v xs hs hown ao m c ys hx hm hn hc hl hB (fun v' w' h1 h2 => hK _ _ (h v' w' h1 h2))

/-- append of one row. -/
theorem wpl_append_one {w w0 : World} {ops : Array Oper} {rest : List Oper} {o : Oper} {a : Act} {Q : Exit → Act → World → Prop} (hgd : o.guard = none) (s x : Operand)
    (ho : o.op = .call { callee := .builtin .append, args := #[s, x], argTypes := #[22, 22] })
    (B : Nat) (v u : Value) (xss : List (List Int)) (xs : List Int) (hs : a.eval s = v) (hown : OwnRows B w0 v xss) (hu : OwnI B w0 u xs) (hw : w = w0.alloc (.cells #[u] 23))
    (hx : a.eval x = .slice (some ⟨w0.heap.size, 0, none⟩) 1 1) (hxl : xs.length ≤ 17592186044416)
    (hl : xss.length ≤ 1000000) (hB : B ≤ w0.heap.size)
    (h : ∀ v' w', OwnRows B w' v' (xss ++ [xs]) → (∀ W, Ext W w0 → W.heap.size ≤ B → Ext W w') → wpList Try.prog ops Q rest (a.put o.dst v') w') : wpList Try.prog ops Q (o :: rest) a w := by
  obtain ⟨i0, hi, hz0, hz1, hz2⟩ := info_parts info_ints
  obtain ⟨us, h1, h2, h3⟩ := hown
  subst hw
  have hone : u.oneCell' = true := by
    obtain ⟨a, n, c, rfl⟩ := own_shape hu
    rfl
  refine wpList_plain hgd fun K hK => ?_
  refine wp_append_own _ s x 22 ho B 23 i0 (.slice none 0 0) 1 24 Try.underlying22 hi hz0 hz1 hz2 rfl (by decide) v us.length us hs (h1.alloc _) ⟨w0.heap.size, 0, none⟩ 1 1 [u] hx rfl (cell_one_new _ _ _) (fun z hz => by simp at hz; subst hz; exact hone) (by unfold maxLen; omega) (by omega) (by simp; omega) (fun v' w' hown' hg _ => ?_)
  exact hK _ _ (h v' w' (OwnRows.push h2 h3 hu hxl hown' (fun z zs hz => ownI_grown h1 hg hz)) (fun W hE hB' => Ext.push hE h1 hB' hg))

/-- append of rows. -/
theorem wpl_append_rows {w : World} {ops : Array Oper} {rest : List Oper} {o : Oper} {a : Act} {Q : Exit → Act → World → Prop} (hgd : o.guard = none) (s x : Operand)
    (ho : o.op = .call { callee := .builtin .append, args := #[s, x], argTypes := #[22, 22] })
    (B B2 : Nat) (v u : Value) (xss yss : List (List Int)) (hs : a.eval s = v) (hown : OwnRows B w v xss) (hx : a.eval x = u) (hu : OwnRows B2 w u yss) (hBB : B ≤ B2)
    (hl : xss.length + yss.length ≤ 1000000) (hB : B ≤ w.heap.size)
    (h : ∀ v' w', OwnRows B w' v' (xss ++ yss) → (∀ W, Ext W w → W.heap.size ≤ B → Ext W w') → wpList Try.prog ops Q rest (a.put o.dst v') w') : wpList Try.prog ops Q (o :: rest) a w := by
  obtain ⟨i0, hi, hz0, hz1, hz2⟩ := info_parts info_ints
  obtain ⟨us, h1, h2, h3⟩ := hown
  obtain ⟨us2, g1, g2, g3⟩ := hu
  refine wpList_plain hgd fun K hK => ?_
  refine wp_append_row s x 22 ho B B2 23 i0 (.slice none 0 0) 1 24 Try.underlying22 hi hz0 hz1 hz2 rfl (by decide) v us.length us hs h1 u us2.length us2 hx g1 ?_ (by unfold maxLen; omega) (by omega) hB (fun v' w' hown' hg => ?_)
  · intro z hz
    obtain ⟨i, hi, rfl⟩ := List.getElem_of_mem hz
    obtain ⟨a, n, c, e⟩ := own_shape (g3 i hi (by omega)).1
    rw [e]; rfl
  · exact hK _ _ (h v' w' (OwnRows.join h1 h2 g2 h3 g3 hBB hg hown') (fun W hE hW => ext_grown hE hg (fun k hk => Nat.le_trans hW (h1.lt k hk).1)))

theorem OwnRows.cellAt {B : Nat} {w : World} {v : Value} {xss : List (List Int)} (h : OwnRows B w v xss) {i : Nat} (hi : i < xss.length) :
    ∃ g cap a c, v = .slice (some ⟨g, 0, none⟩) xss.length cap ∧ (∀ w', Ext w w' → w'.cell? ⟨g, i, none⟩ = some (.slice a xss[i].length c)) ∧ OwnI B w (.slice a xss[i].length c) xss[i] ∧ xss[i].length ≤ 17592186044416 := by
  obtain ⟨us, h1, h2, h3⟩ := h
  obtain ⟨hl, ⟨-, h⟩ | ⟨g, cap, cur, hv, hg, hh, hn, hm, hs, ht⟩⟩ := id h1
  · omega
  · subst hv
    have hc := World.ownsRow.cellAt h1 i (by omega)
    rw [List.getElem?_eq_getElem (by omega)] at hc
    have h4 := h3 i (by omega) hi
    obtain ⟨a, c, e⟩ := own_len h4.1
    rw [e] at hc h4
    exact ⟨g, cap, a, c, by rw [h2], fun w' e => e.cell hc, h4.1, h4.2⟩

end Go.Proofs.Ytkdfbbkonbgfmaa
