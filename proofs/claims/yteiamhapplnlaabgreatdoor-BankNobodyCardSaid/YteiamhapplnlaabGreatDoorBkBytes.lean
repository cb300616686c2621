/-
  Slices of bytes: what they read as; append of bytes behind a row of the call's own.
-/
import Derived.Test.YteiamhapplnlaabGreatDoorBkMem
import Derived.Test.YteiamhapplnlaabGreatDoorSkips
import Derived.Maps.AppendAt
namespace Go.Proofs.YteiamhapplnlaabGreatDoor
open Go.RowKit

theorem info_u8 : (Tryz.prog.info? 5).map (fun i => (i.zero, i.size, i.bytes)) = some (some (.int .u8 0), 1, 1) := by kernel_rfl
theorem u8_oneCell (zs : List Int) : ∀ u ∈ zs.map (Value.int .u8), u.oneCell' = true := ints_oneCell .u8 zs
/-- The slice v reads as these bytes. -/
def BytesI (w : World) (v : Value) (xs : List Int) : Prop :=
  ∃ ao cap, v = .slice ao xs.length cap ∧ xs.length ≤ cap ∧ (ao = none → cap = 0) ∧ ∀ i, (h : i < xs.length) → ∃ b off, ao = some ⟨b, off, none⟩ ∧ w.cell? ⟨b, off + i, none⟩ = some (.int .u8 xs[i])
theorem BytesI.moved {F : Nat → Prop} {w w' : World} {v : Value} {xs : List Int} (h : BytesI w v xs) (m : Moved F w w') (hf : ∀ k, v.ownBlock = some k → ¬ F k) : BytesI w' v xs := by
  obtain ⟨ao, cap, rfl, h0, h1, h2⟩ := h
  refine ⟨ao, cap, rfl, h0, h1, fun i hi => ?_⟩
  obtain ⟨b, off, e, hc⟩ := h2 i hi
  subst e
  exact ⟨b, off, rfl, m.cell (hf b rfl) hc⟩
theorem BytesI.ext {w w' : World} {v : Value} {xs : List Int} (h : BytesI w v xs) (e : Ext w w') : BytesI w' v xs := h.moved (e.moved (fun _ => False)) (fun _ _ h => h)
theorem OwnB.bytes {B : Nat} {w : World} {v : Value} {xs : List Int} (h : OwnB B w v xs) : BytesI w v xs := by
  have h0 := h
  obtain ⟨-, ⟨rfl, hn⟩ | ⟨g, cap, cur, rfl, hg, hh, hn, hm, hs, ht⟩⟩ := h
  · exact ⟨none, 0, by rw [hn], by omega, fun _ => rfl, fun i hi => by omega⟩
  · refine ⟨_, cap, rfl, hn, fun e => by simp at e, fun i hi => ⟨g, 0, rfl, ?_⟩⟩
    have := World.ownsRow.cellAt h0 i (by omega)
    rw [Nat.zero_add, this]; simp [hi]

theorem wp_append_bytes {w : World} {o : Oper} {a : Act} {K : Act → World → Prop} {Q : Exit → Act → World → Prop} (s x : Operand)
    (ho : o.op = .call { callee := .builtin .append, args := #[s, x], argTypes := #[26, 26] })
    (B : Nat) (v : Value) (xs : List Int) (hs : a.eval s = v) (hown : OwnB B w v xs)
    (y : Value) (ys : List Int) (hx : a.eval x = y) (hy : BytesI w y ys)
    (hl : xs.length + ys.length ≤ 100000000) (hB : B ≤ w.heap.size)
    (h : ∀ v' w', OwnB B w' v' (xs ++ ys) → w.grownBy w' v.ownBlock → (v'.ownBlock = v.ownBlock ∨ v'.ownBlock = some w.heap.size) → K (a.put o.dst v') w') : o.wp Tryz.prog a w K Q := by
  obtain ⟨i0, hi, hz0, hz1, hz2⟩ := info_parts info_u8
  obtain ⟨ao, c, rfl, hcap, hn, hc⟩ := hy
  cases ao with
  | none =>
    obtain rfl := hn rfl
    have hy : ys = [] := List.eq_nil_of_length_eq_zero (by omega)
    subst hy
    have hrun := run_append_owned_none (P := Tryz.prog) (w := w) B 26 o.type 5 i0 1 Tryz.underlying26 hi v xs.length (xs.map (Value.int .u8)) hown
    have hx' : a.eval x = .slice none 0 0 := hx
    unfold Oper.wp execOp
    simp only [ho, resolve, invoke, builtin, Sem.run_bind, Sem.run_pure, Result.andThen_ok, List.map_toArray, List.map_cons, List.map_nil, hs, hx', hrun]
    exact h v w (by rw [List.append_nil]; exact hown) ⟨rfl, rfl, rfl, Nat.le_refl _, fun _ _ _ => rfl⟩ (.inl rfl)
  | some ad =>
    have hnews : ∀ j u, (ys.map (Value.int .u8))[j]? = some u → w.cell? (ad.add j) = some u := by
      intro j u hj
      rw [List.getElem?_map, Option.map_eq_some_iff] at hj
      obtain ⟨z, hz, rfl⟩ := hj
      obtain ⟨hjl, rfl⟩ := List.getElem?_eq_some_iff.1 hz
      obtain ⟨b, off, e, hcell⟩ := hc j hjl
      simp only [Option.some.injEq] at e
      subst e
      rw [Addr.add_lit]; exact hcell
    obtain ⟨v', w', hr, h2, h3, h4, h5⟩ := run_append_own_at (P := Tryz.prog) w B 26 o.type 5 i0 (.int .u8 0) 1 1 Tryz.underlying26 hi hz0 hz1 hz2 rfl (by decide) v xs.length (xs.map (Value.int .u8)) hown ad ys.length c (ys.map (Value.int .u8)) (by rw [List.length_map]; omega) hnews (u8_oneCell ys) (by unfold maxLen; omega) (by omega) hB
    unfold Oper.wp execOp
    simp only [ho, resolve, invoke, builtin, Sem.run_bind, Sem.run_pure, Result.andThen_ok, List.map_toArray, List.map_cons, List.map_nil, hs, hx, hr]
    refine h v' w' ?_ h3 h5
    show World.ownsRow _ _ _ _ _ (xs ++ ys).length ((xs ++ ys).map (Value.int .u8))
    rw [List.length_append, List.map_append]; exact h2
theorem wpl_append_bytes {w : World} {ops : Array Oper} {rest : List Oper} {o : Oper} {a : Act} {Q : Exit → Act → World → Prop} (hgd : o.guard = none) (s x : Operand)
    (ho : o.op = .call { callee := .builtin .append, args := #[s, x], argTypes := #[26, 26] })
    (B : Nat) (v : Value) (xs : List Int) (hs : a.eval s = v) (hown : OwnB B w v xs)
    (y : Value) (ys : List Int) (hx : a.eval x = y) (hy : BytesI w y ys)
    (hl : xs.length + ys.length ≤ 100000000) (hB : B ≤ w.heap.size)
    (h : ∀ v' w', OwnB B w' v' (xs ++ ys) → w.grownBy w' v.ownBlock → (v'.ownBlock = v.ownBlock ∨ v'.ownBlock = some w.heap.size) → wpList Tryz.prog ops Q rest (a.put o.dst v') w') : wpList Tryz.prog ops Q (o :: rest) a w := by
  refine wpList_plain hgd fun K hK => ?_
  exact wp_append_bytes s x ho B v xs hs hown y ys hx hy hl hB (fun v' w' h1 h2 h3 => hK _ _ (h v' w' h1 h2 h3))
theorem grown_moved {w w' : World} {r : Option Nat} (h : w.grownBy w' r) : Moved (fun k => r = some k) w w' :=
  ⟨h.os, h.tape, h.output, h.size, fun k hk hf => h.block k hk (fun e => hf e.symm)⟩
theorem Moved.weaken {F G : Nat → Prop} {w w' : World} (h : Moved F w w') (hg : ∀ k, F k → G k) : Moved G w w' := ⟨h.os, h.tape, h.output, h.size, fun k hk hf => h.block k hk (fun x => hf (hg k x))⟩
theorem own_shapeB {B e sz n : Nat} {w : World} {v : Value} {xs : List Value} (h : w.ownsRow B e sz v n xs) : ∃ a n c, v = .slice a n c := by
  obtain ⟨-, ⟨h, -⟩ | ⟨g, cap, cur, h, -⟩⟩ := h <;> exact ⟨_, _, _, h⟩
theorem DiskP.boxApart {B : Nat} {w : World} {b : Nat} {v : Value} {d : DD} (h : DiskP B w b v d) : ¬ (v.ownBlock = some b) := by
  intro e
  obtain ⟨-, ⟨g, -⟩ | ⟨g, cap, cur, g2, -, hg, -⟩⟩ := h.own
  · rw [g] at e; simp [Value.ownBlock] at e
  · rw [g2] at e
    simp only [Value.ownBlock, Option.some.injEq] at e
    subst e
    have hb' : w.heap[g]? = some (.cells #[v, .int .i64 d.size, .int .i64 d.safe, .bool d.dark, .int .i64 d.left] 28 (0, 0)) := h.box
    rw [hb'] at hg
    simp only [Option.some.injEq, Obj.cells.injEq] at hg
    exact absurd hg.2.1 (by decide)
theorem DiskR.boxApart {B : Nat} {w : World} {b : Nat} {v : Value} {d : DD} (h : DiskR B w b v d) : ¬ (v.ownBlock = some b) := by
  intro e
  obtain ⟨-, ⟨g, -⟩ | ⟨g, cap, cur, g2, -, hg, -⟩⟩ := h.own
  · rw [g] at e; simp [Value.ownBlock] at e
  · rw [g2] at e
    simp only [Value.ownBlock, Option.some.injEq] at e
    subst e
    have hb' : w.heap[g]? = some (.cells #[.int .i64 d.size, v, .int .i64 d.safe, .bool d.dark, .int .i64 d.left] 165 (0, 0)) := h.box
    rw [hb'] at hg
    simp only [Option.some.injEq, Obj.cells.injEq] at hg
    exact absurd hg.2.1 (by decide)
/-- Where the new row lies. -/
theorem own_fresh {B : Nat} {w : World} {v : Value} {xs : List Int} (h : OwnB B w v xs) : ∀ k, v.ownBlock = some k → B ≤ k ∧ k < w.heap.size := fun k hk => h.lt k hk

end Go.Proofs.YteiamhapplnlaabGreatDoor
