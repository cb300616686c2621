/-
  append of one element behind a row of the call's own, whatever its type.
-/
import Derived.Test.YteiamhapplnlaabGreatDoorBsMem
import Derived.Maps.AppendAt
namespace Go.Proofs.YteiamhapplnlaabGreatDoor
open Go.RowKit

/-- What is to be known of a slice's type S and its elements' type e. -/
structure ET (S e size bytes : Nat) (z : Value) : Prop where
  under : Tryz.prog.underlying S = some (.slice e)
  info : (Tryz.prog.info? e).map (fun i => (i.zero, i.size, i.bytes)) = some (some z, size, bytes)
  zs : z.cells.size = size
  pos : 0 < size
  few : bytes ≤ 1000
theorem et_int : ET 79 3 1 8 (.int .i64 0) := ⟨Tryz.underlying79, by kernel_rfl, by kernel_rfl, by decide, by decide⟩
theorem et_str : ET 45 9 1 16 (.string ⟨#[]⟩) := ⟨Tryz.underlying45, by kernel_rfl, by kernel_rfl, by decide, by decide⟩
theorem et_rows : ET 56 79 1 24 (.slice none 0 0) := ⟨Tryz.underlying56, by kernel_rfl, by kernel_rfl, by decide, by decide⟩
theorem et_lot : ET 81 115 5 56 (.agg #[.string ⟨#[]⟩, .string ⟨#[]⟩, .int .i64 0, .int .i64 0, .bool false]) := ⟨Tryz.underlying81, by kernel_rfl, by kernel_rfl, by decide, by decide⟩
theorem et_vol : ET 82 118 2 40 (.agg #[.string ⟨#[]⟩, .slice none 0 0]) := ⟨Tryz.underlying82, by kernel_rfl, by kernel_rfl, by decide, by decide⟩

theorem grown_below {B : Nat} {w w' : World} {row : Option Nat} (h : w.grownBy w' row) (hB : B ≤ w.heap.size) (hr : ∀ k, row = some k → B ≤ k) : Below B w w' :=
  ⟨h.os, h.tape, h.output, h.size, fun j hj => h.block j (by omega) (fun e => by have := hr j e.symm; omega)⟩
theorem nil_len {w : World} {B e size n : Nat} {xs : List Value} (h : w.ownsRow B e size (.slice none 0 0) n xs) : n = 0 := by
  rcases h.2 with ⟨-, h⟩ | ⟨g, cap, cur, h, -⟩
  · exact h
  · cases h
/-- The new row's cells are there. -/
theorem news_at (w : World) (e : TypeId) (news : List Value) : ∀ j u, news[j]? = some u → (w.alloc (.cells news.toArray e)).cell? ((⟨w.heap.size, 0, none⟩ : Addr).add j) = some u := by
  intro j u hj
  rw [Addr.add_lit, cell_of_row _ _ _ _ _ _ (heap_alloc_new w _)]
  simpa using hj

theorem grown_moved {w w' : World} {row : Option Nat} (h : w.grownBy w' row) : Moved (fun k => row = some k) w w' :=
  ⟨h.os, h.tape, h.output, h.size, fun j hj hne => h.block j hj (fun e => hne e.symm)⟩
theorem Moved.below {F : Nat → Prop} {w w' : World} (h : Moved F w w') {B : Nat} (hB : B ≤ w.heap.size) (hF : ∀ k, F k → B ≤ k) : Below B w w' :=
  ⟨h.os, h.tape, h.output, h.size, fun j hj => h.block j (by omega) (fun e => by have := hF j e; omega)⟩

theorem wp_push {w : World} {o : Oper} {a : Act} {K : Act → World → Prop} {Q : Exit → Act → World → Prop} (s x : Operand) (S e size bytes : Nat) (z : Value) (T : ET S e size bytes z)
    (ho : o.op = .call { callee := .builtin .append, args := #[s, x], argTypes := #[S, S] })
    (B n : Nat) (v : Value) (xs news : List Value) (w0 : World) (hs : a.eval s = v) (hown : w0.ownsRow B e size v n xs) (hw : w = w0.alloc (.cells news.toArray e)) (hx : a.eval x = .slice (some ⟨w0.heap.size, 0, none⟩) 1 1)
    (hl : news.length = size) (h1 : ∀ u ∈ news, u.oneCell' = true) (hn : n ≤ 1000000) (hB : B ≤ w0.heap.size)
    (h : ∀ v' w', OwnN B e size w' v' (n + 1) (xs ++ news) → Moved (fun k => v.ownBlock = some k) w0 w' → (v'.ownBlock = v.ownBlock ∨ v'.ownBlock = some (w0.heap.size + 1)) → w0.heap.size < w'.heap.size → K (a.put o.dst v') w') : o.wp Tryz.prog a w K Q := by
  subst hw
  obtain ⟨i0, hi, hz0, hz1, hz2⟩ := info_parts T.info
  have hbb := T.few
  obtain ⟨v', w', hr, h2, h3, -, h5⟩ := run_append_own_at (P := Tryz.prog) (w0.alloc (.cells news.toArray e)) B S o.type e i0 z size bytes T.under hi hz0 hz1 hz2 T.zs T.pos v n xs (hown.alloc _) ⟨w0.heap.size, 0, none⟩ 1 1 news (by rw [hl, Nat.one_mul]) (news_at w0 e news) h1 (by unfold maxLen; omega) (Nat.le_trans (Nat.mul_le_mul_left (n + 1) hbb) (by omega)) (by simp; omega)
  unfold Oper.wp execOp
  simp only [ho, resolve, invoke, builtin, Sem.run_bind, Sem.run_pure, Result.andThen_ok, List.map_toArray, List.map_cons, List.map_nil, hs, hx, hr]
  have hgs := h3.size
  rw [World.size_alloc] at hgs h5
  exact h v' w' ⟨h2, fun h0 => by omega⟩ ((Ext.ofAlloc w0 (.cells news.toArray e)).thenMoved (grown_moved h3)) h5 (by omega)

theorem wpl_push {w : World} {ops : Array Oper} {rest : List Oper} {o : Oper} {a : Act} {Q : Exit → Act → World → Prop} (hgd : o.guard = none) (s x : Operand) (S e size bytes : Nat) (z : Value) (T : ET S e size bytes z)
    (ho : o.op = .call { callee := .builtin .append, args := #[s, x], argTypes := #[S, S] })
    (B n : Nat) (v : Value) (xs news : List Value) (w0 : World) (hs : a.eval s = v) (hown : w0.ownsRow B e size v n xs) (hw : w = w0.alloc (.cells news.toArray e)) (hx : a.eval x = .slice (some ⟨w0.heap.size, 0, none⟩) 1 1)
    (hl : news.length = size) (h1 : ∀ u ∈ news, u.oneCell' = true) (hn : n ≤ 1000000) (hB : B ≤ w0.heap.size)
    (h : ∀ v' w', OwnN B e size w' v' (n + 1) (xs ++ news) → Moved (fun k => v.ownBlock = some k) w0 w' → (v'.ownBlock = v.ownBlock ∨ v'.ownBlock = some (w0.heap.size + 1)) → w0.heap.size < w'.heap.size → wpList Tryz.prog ops Q rest (a.put o.dst v') w') : wpList Tryz.prog ops Q (o :: rest) a w :=
  wpList_plain hgd fun _ hK => wp_push s x S e size bytes z T ho B n v xs news w0 hs hown hw hx hl h1 hn hB (fun v' w' h2 h3 h4 h5 => hK _ _ (h v' w' h2 h3 h4 h5))

theorem OwnN.block {B e size n : Nat} {w : World} {v : Value} {xs : List Value} (h : OwnN B e size w v n xs) {k : Nat} (hk : v.ownBlock = some k) : ∃ cur, w.heap[k]? = some (.cells cur e (0, 0)) := by
  obtain ⟨-, ⟨rfl, -⟩ | ⟨g, cap, cur, rfl, -, hh, -⟩⟩ := h.1
  · cases hk
  · cases hk; exact ⟨cur, hh⟩
theorem OwnN.apart {B B2 e e2 size size2 n n2 : Nat} {w : World} {v v2 : Value} {xs ys : List Value} (h : OwnN B e size w v n xs) (g : OwnN B2 e2 size2 w v2 n2 ys) (hne : e ≠ e2) {k : Nat} (hk : v.ownBlock = some k) : ¬ v2.ownBlock = some k := by
  intro h2
  obtain ⟨c1, e1⟩ := h.block hk
  obtain ⟨c2, e2'⟩ := g.block h2
  rw [e1] at e2'
  simp only [Option.some.injEq, Obj.cells.injEq] at e2'
  exact hne e2'.2.1
theorem OwnN.notBox {B e size n : Nat} {w : World} {v : Value} {xs : List Value} (h : OwnN B e size w v n xs) {b : Nat} {c : Array Value} {t : TypeId} {fr : Nat × Nat} (hb : w.heap[b]? = some (.cells c t fr)) (hne : e ≠ t) : ¬ v.ownBlock = some b := by
  intro h2
  obtain ⟨c1, e1⟩ := h.block h2
  rw [e1] at hb
  simp only [Option.some.injEq, Obj.cells.injEq] at hb
  exact hne hb.2.1
theorem OwnN.empty (B e size : Nat) (w : World) : OwnN B e size w (.slice none 0 0) 0 [] := ⟨World.ownsRow_nil _ _ _ _, fun _ => rfl⟩
theorem OwnN.base {B B2 e size n : Nat} {w : World} {v : Value} {xs : List Value} (h : OwnN B e size w v n xs) (hb : B2 ≤ B) : OwnN B2 e size w v n xs := ⟨ownsRow_base h.1 hb, h.2⟩
theorem OwnN.strs {B : Nat} {w : World} {v : Value} {n : Nat} {xs : List Bs} (h : OwnN B 9 1 w v n (xs.map strV)) (hl : n ≤ 1000000) : n = xs.length ∧ StrsR w v xs := by
  have hn : n = xs.length := by have := h.1.1; simp at this; omega
  subst hn
  refine ⟨rfl, by omega, ?_⟩
  obtain ⟨-, ⟨rfl, h0⟩ | ⟨g, cap, cur, rfl, -, hh, h1, -⟩⟩ := id h.1
  · exact ⟨none, 0, by rw [h0], by omega, fun i hi => by omega⟩
  · refine ⟨_, cap, rfl, h1, fun i hi => ⟨g, 0, rfl, ?_⟩⟩
    have := World.ownsRow.cellAt h.1 i (by omega)
    rw [Nat.zero_add, this]
    simp [hi]
theorem OwnN.ints {B : Nat} {w : World} {v : Value} {n : Nat} {xs : List Int} (h : OwnN B 3 1 w v n (xs.map (Value.int .i64))) (hl : n ≤ 1000000) : n = xs.length ∧ Ints w v xs := by
  have hn : n = xs.length := by have := h.1.1; simp at this; omega
  subst hn
  exact ⟨rfl, OwnI.ints (base := B) h.1 (by omega)⟩

theorem OwnN.shape {B e size n : Nat} {w : World} {v : Value} {xs : List Value} (h : OwnN B e size w v n xs) : ∃ a c, v = .slice a n c := by
  obtain ⟨-, ⟨rfl, rfl⟩ | ⟨g, cap, cur, rfl, -⟩⟩ := h.1
  · exact ⟨_, _, rfl⟩
  · exact ⟨_, _, rfl⟩

theorem ext_moved {F : Nat → Prop} {w w1 w2 : World} (h : Ext w w1) (m : Moved F w1 w2) (hF : ∀ k, F k → w.heap.size ≤ k) : Ext w w2 :=
  ⟨m.os.trans h.os, m.tape.trans h.tape, m.output.trans h.output, Nat.le_trans h.size m.size, fun j hj => (m.block j (Nat.lt_of_lt_of_le hj h.size) (fun e => by have := hF j e; omega)).trans (h.block j hj)⟩

end Go.Proofs.YteiamhapplnlaabGreatDoor
