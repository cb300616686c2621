/-
  append of one element behind a row of the call's own, whatever its type.
-/
import Derived.Test.YteiamhapplnlaaaGreatDoorBsMem
import Derived.Maps.AppendAt
namespace Go.Proofs.YteiamhapplnlaaaGreatDoor
open Go.RowKit

/-- What is to be known of a slice's type S and its elements' type e. -/
structure ET (S e size bytes : Nat) (z : Value) : Prop where
  under : Tryz.prog.underlying S = some (.slice e)
  info : (Tryz.prog.info? e).map (fun i => (i.zero, i.size, i.bytes)) = some (some z, size, bytes)
  zs : z.cells.size = size
  pos : 0 < size
  few : bytes ≤ 1000
theorem et_int : ET 93 3 1 8 (.int .i64 0) := ⟨Tryz.underlying93, by kernel_rfl, by kernel_rfl, by decide, by decide⟩
theorem et_str : ET 44 9 1 16 (.string ⟨#[]⟩) := ⟨Tryz.underlying44, by kernel_rfl, by kernel_rfl, by decide, by decide⟩
theorem et_rows : ET 83 93 1 24 (.slice none 0 0) := ⟨Tryz.underlying83, by kernel_rfl, by kernel_rfl, by decide, by decide⟩
theorem et_lot : ET 107 123 5 56 (.agg #[.string ⟨#[]⟩, .string ⟨#[]⟩, .int .i64 0, .int .i64 0, .bool false]) := ⟨Tryz.underlying107, by kernel_rfl, by kernel_rfl, by decide, by decide⟩
theorem et_vol : ET 108 126 2 40 (.agg #[.string ⟨#[]⟩, .slice none 0 0]) := ⟨Tryz.underlying108, by kernel_rfl, by kernel_rfl, by decide, by decide⟩

theorem grown_below {B : Nat} {w w' : World} {row : Option Nat} (h : w.grownBy w' row) (hB : B ≤ w.heap.size) (hr : ∀ k, row = some k → B ≤ k) : Below B w w' :=
  ⟨h.os, h.tape, h.output, h.size, fun j hj => h.block j (by omega) (fun e => by have := hr j e.symm; omega)⟩
theorem nil_len {w : World} {B e size n : Nat} {xs : List Value} (h : w.ownsRow B e size (.slice none 0 0) n xs) : n = 0 := by
  rcases h.2 with ⟨-, h⟩ | ⟨g, cap, cur, h, -⟩
  · exact h
  · cases h
/-- The new row's cells are there. -/
theorem news_at (w : World) (e : TypeId) (news : List Value) : ∀ j u, news[j]? = some u → (w.alloc (.cells news.toArray e)).cell? ((⟨w.heap.size, 0, none⟩ : Addr).add j) = some u := by
  intro j u hj
  rw [Addr.add_lit, cell_of_row _ _ _ _ _ _ (heap_alloc_new w _)]
  simpa using hj

theorem grown_moved {w w' : World} {row : Option Nat} (h : w.grownBy w' row) : Moved (fun k => row = some k) w w' :=
  ⟨h.os, h.tape, h.output, h.size, fun j hj hne => h.block j hj (fun e => hne e.symm)⟩
theorem Moved.below {F : Nat → Prop} {w w' : World} (h : Moved F w w') {B : Nat} (hB : B ≤ w.heap.size) (hF : ∀ k, F k → B ≤ k) : Below B w w' :=
  ⟨h.os, h.tape, h.output, h.size, fun j hj => h.block j (by omega) (fun e => by have := hF j e; omega)⟩

theorem wp_push {w : World} {o : Oper} {a : Act} {K : Act → World → Prop} {Q : Exit → Act → World → Prop} (s x : Operand) (S e size bytes : Nat) (z : Value) (T : ET S e size bytes z)
    (ho : o.op = .call { callee := .builtin .append, args := #[s, x], argTypes := #[S, S] })
    (B n : Nat) (v : Value) (xs news : List Value) (w0 : World) (hs : a.eval s = v) (hown : w0.ownsRow B e size v n xs) (hw : w = w0.alloc (.cells news.toArray e)) (hx : a.eval x = .slice (some ⟨w0.heap.size, 0, none⟩) 1 1)
    (hl : news.length = size) (h1 : ∀ u ∈ news, u.oneCell' = true) (hn : n ≤ 1000000) (hB : B ≤ w0.heap.size)
    (h : ∀ v' w', OwnN B e size w' v' (n + 1) (xs ++ news) → Moved (fun k => v.ownBlock = some k) w0 w' → (v'.ownBlock = v.ownBlock ∨ v'.ownBlock = some (w0.heap.size + 1)) → w0.heap.size < w'.heap.size → K (a.put o.dst v') w') : o.wp Tryz.prog a w K Q := by
  subst hw
  obtain ⟨i0, hi, hz0, hz1, hz2⟩ := info_parts T.info
  have hbb := T.few
  obtain ⟨v', w', hr, h2, h3, -, h5⟩ := run_append_own_at (P := Tryz.prog) (w0.alloc (.cells news.toArray e)) B S o.type e i0 z size bytes T.under hi hz0 hz1 hz2 T.zs T.pos v n xs (hown.alloc _) ⟨w0.heap.size, 0, none⟩ 1 1 news (by rw [hl, Nat.one_mul]) (news_at w0 e news) h1 (by unfold maxLen; omega) (Nat.le_trans (Nat.mul_le_mul_left (n + 1) hbb) (by omega)) (by simp; omega)
  unfold Oper.wp execOp
  simp only [ho, resolve, invoke, builtin, Sem.run_bind, Sem.run_pure, Result.andThen_ok, List.map_toArray, List.map_cons, List.map_nil, hs, hx, hr]
  have hgs := h3.size
  rw [World.size_alloc] at hgs h5
  exact h v' w' ⟨h2, fun h0 => by omega⟩ ((Ext.ofAlloc w0 (.cells news.toArray e)).thenMoved (grown_moved h3)) h5 (by omega)

theorem wpl_push {w : World} {ops : Array Oper} {rest : List Oper} {o : Oper} {a : Act} {Q : Exit → Act → World → Prop} (hgd : o.guard = none) (s x : Operand) (S e size bytes : Nat) (z : Value) (T : ET S e size bytes z)
    (ho : o.op = .call { callee := .builtin .append, args := #[s, x], argTypes := #[S, S] })
    (B n : Nat) (v : Value) (xs news : List Value) (w0 : World) (hs : a.eval s = v) (hown : w0.ownsRow B e size v n xs) (hw : w = w0.alloc (.cells news.toArray e)) (hx : a.eval x = .slice (some ⟨w0.heap.size, 0, none⟩) 1 1)
    (hl : news.length = size) (h1 : ∀ u ∈ news, u.oneCell' = true) (hn : n ≤ 1000000) (hB : B ≤ w0.heap.size)
    (h : ∀ v' w', OwnN B e size w' v' (n + 1) (xs ++ news) → Moved (fun k => v.ownBlock = some k) w0 w' → (v'.ownBlock = v.ownBlock ∨ v'.ownBlock = some (w0.heap.size + 1)) → w0.heap.size < w'.heap.size → wpList Tryz.prog ops Q rest (a.put o.dst v') w') : wpList Tryz.prog ops Q (o :: rest) a w :=
  wpList_plain hgd fun _ hK => wp_push s x S e size bytes z T ho B n v xs news w0 hs hown hw hx hl h1 hn hB (fun v' w' h2 h3 h4 h5 => hK _ _ (h v' w' h2 h3 h4 h5))

end Go.Proofs.YteiamhapplnlaaaGreatDoor
