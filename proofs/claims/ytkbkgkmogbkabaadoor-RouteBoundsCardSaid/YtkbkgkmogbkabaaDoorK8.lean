/-
  Texts of this claim, part 8: RtGrow, RtWay, RtWayWalk, RtWayPush, RtWayStep, RtWayLen, RtWayTop.
-/
import Derived.Laws.AppendOwnNone
import Derived.ArgAppend
import Derived.Laws.EntriesVeiled
import Derived.Deep.LoopGhost
import Derived.Test.YtkbkgkmogbkabaaDoorK7
/-
  append behind a way: in its own block, or in a new one; what a search leaves as it was.
-/
namespace Go.Proofs.YtkbkgkmogbkabaaDoor
open Go.RowKit

theorem row_prefix {B g n cap : Nat} {w : World} {xs : List Int} {y : Int} (hn : n = xs.length) (h : OwnI B w (.slice (some ⟨g, 0, none⟩) (n + 1) cap) (xs ++ [y])) : OwnI B w (.slice (some ⟨g, 0, none⟩) n cap) xs := by
  subst hn
  obtain ⟨hl, ⟨h, -⟩ | ⟨g', cap', cur, h, hb, hg, hnc, hm, hs, ht⟩⟩ := h
  · simp at h
  · simp only [Value.slice.injEq, Option.some.injEq, Addr.mk.injEq, and_true] at h
    obtain ⟨rfl, -, rfl⟩ := h
    refine ⟨by simp, .inr ⟨g, cap, cur, rfl, hb, hg, by rw [List.length_append] at hnc; omega, hm, hs, ?_⟩⟩
    rw [List.length_append, List.length_singleton, Nat.mul_one, List.map_append] at ht
    have e : cur.toList.take xs.length = (cur.toList.take (xs.length + 1)).take xs.length := by rw [List.take_take, Nat.min_eq_left (by omega)]
    rw [Nat.mul_one, e, ht]
    exact List.take_left' (by simp)

theorem wp_append_way {w : World} {o : Oper} {a : Act} {K : Act → World → Prop} {Q : Exit → Act → World → Prop} (s x : Operand)
    (ho : o.op = .call { callee := .builtin .append, args := #[s, x], argTypes := #[25, 25] })
    (B g n cap : Nat) (xs : List Int) (hn : n = xs.length) (hs : a.eval s = .slice (some ⟨g, 0, none⟩) n cap) (hown : OwnI B w (.slice (some ⟨g, 0, none⟩) n cap) xs)
    (ad : Addr) (y : Int) (hx : a.eval x = .slice (some ad) 1 1) (hc : w.cell? ad = some (.int .i64 y)) (hl : xs.length ≤ 1000)
    (h1 : ∀ w', OwnI B w' (.slice (some ⟨g, 0, none⟩) (n + 1) cap) (xs ++ [y]) → w.grownBy w' (some g) → K (a.put o.dst (.slice (some ⟨g, 0, none⟩) (n + 1) cap)) w')
    (h2 : ∀ v' w', OwnI w.heap.size w' v' (xs ++ [y]) → Ext w w' → K (a.put o.dst v') w') : o.wp Tryd.prog a w K Q := by
  obtain ⟨i0, hi, hz0, hz1, hz2⟩ := info_parts info_int
  subst hn
  have hnews : ∀ j u, [Value.int .i64 y][j]? = some u → w.cell? (ad.add j) = some u := by
    intro j u hj
    match j, hj with
    | 0, hj => simp at hj; subst hj; simpa [Addr.add] using hc
  have hone : ∀ u ∈ [Value.int .i64 y], u.oneCell' = true := by intro u hu; simp at hu; subst hu; rfl
  by_cases hroom : xs.length + 1 ≤ cap
  · obtain ⟨w', hr, ho', hg⟩ := run_append_fits (P := Tryd.prog) w B 25 o.type 3 i0 1 Tryd.underlying25 hi hz1 g xs.length cap (xs.map (Value.int .i64)) hown ad 1 1 [.int .i64 y] rfl hnews hone hroom
    unfold Oper.wp execOp
    simp only [ho, resolve, invoke, builtin, Sem.run_bind, Sem.run_pure, Result.andThen_ok, List.map_toArray, List.map_cons, List.map_nil, hs, hx, hr]
    exact h1 w' (OwnI.push rfl ho') hg
  · have holds := World.ownsRow.cells hown (g := g) rfl
    obtain ⟨v', w', hr, ho', hg⟩ := run_append_arg_grows (P := Tryd.prog) w 25 o.type 3 i0 (.int .i64 0) 1 8 Tryd.underlying25 hi hz0 hz1 hz2 rfl (by decide) ⟨g, 0, none⟩ xs.length cap (xs.map (Value.int .i64)) (by simp) holds ad 1 1 [.int .i64 y] rfl hnews (by omega) (by unfold maxLen; omega) (by omega)
    unfold Oper.wp execOp
    simp only [ho, resolve, invoke, builtin, Sem.run_bind, Sem.run_pure, Result.andThen_ok, List.map_toArray, List.map_cons, List.map_nil, hs, hx, hr]
    exact h2 v' w' (OwnI.push rfl ho') ((Below.refl _ _).grown hg (Nat.le_refl _) (fun k hk => by simp at hk))

/-- All blocks that were there are as they were, other than one, and a row's own. -/
structure Fr (bf : Nat) (row : Option Nat) (w w' : World) : Prop where
  os : w'.os = w.os
  tape : w'.tape = w.tape
  output : w'.output = w.output
  size : w.heap.size ≤ w'.heap.size
  block : ∀ k, k < w.heap.size → k ≠ bf → some k ≠ row → w'.heap[k]? = w.heap[k]?
theorem Fr.ofExt {bf : Nat} {row : Option Nat} {w w' : World} (h : Ext w w') : Fr bf row w w' := ⟨h.os, h.tape, h.output, h.size, fun k hk _ _ => h.block k hk⟩
theorem Fr.ofGrown {bf : Nat} {row : Option Nat} {w w' : World} (h : w.grownBy w' row) : Fr bf row w w' := ⟨h.os, h.tape, h.output, h.size, fun k hk _ hr => h.block k hk hr⟩
theorem Fr.trans {bf : Nat} {row row' : Option Nat} {a b c : World} (h : Fr bf row a b) (k : Fr bf row' b c) (hr : row' = row ∨ ∃ q, row' = some q ∧ a.heap.size ≤ q) : Fr bf row a c := by
  refine ⟨by rw [k.os, h.os], by rw [k.tape, h.tape], by rw [k.output, h.output], Nat.le_trans h.size k.size, fun x hx hb hrow => ?_⟩
  have h1 := h.size
  rw [k.block x (by omega) hb (fun e => by
    rcases hr with r | ⟨q, r, hq⟩
    · rw [r] at e; exact hrow e
    · rw [r] at e; simp at e; omega), h.block x hx hb hrow]
theorem Fr.below {bf B : Nat} {row : Option Nat} {w w' : World} (h : Fr bf row w w') (hB : B ≤ bf) (hsz : B ≤ w.heap.size) (hr : ∀ k, row = some k → B ≤ k) : Below B w w' :=
  ⟨h.os, h.tape, h.output, h.size, fun k hk => h.block k (by omega) (by omega) (fun e => by have := hr k e.symm; omega)⟩

end Go.Proofs.YtkbkgkmogbkabaaDoor

/-
  The search of route.Way: its walk.
-/
namespace Go.Proofs.YtkbkgkmogbkabaaDoor
open Go.RowKit

/-- What the search reads, in the world ahead of its two boxes: the boxes that its function value holds, and the two tables. -/
structure Seen (w0 : World) (N : Nat) (b a : Nat) (pb pm pc pd pa : Nat) (vc vd : Value) (c d : Nat → Nat → Int) : Prop where
  cb : w0.cell? ⟨pb, 0, none⟩ = some (.int .i64 b)
  cm : w0.cell? ⟨pm, 0, none⟩ = some (.int .i64 N)
  cc : w0.cell? ⟨pc, 0, none⟩ = some vc
  cd : w0.cell? ⟨pd, 0, none⟩ = some vd
  ca : w0.cell? ⟨pa, 0, none⟩ = some (.int .i64 a)
  tc : Rows2 w0 vc ((List.range N).map (fun i => rowL N (c i)))
  td : Rows2 w0 vd ((List.range N).map (fun i => rowL N (d i)))
/-- The seven pointers that the function value holds; the found box is bf, its own box bf + 1. -/
def ptrs (bf pb pm pc pd pa : Nat) : Array Value := #[.pointer (some ⟨bf, 0, none⟩), .pointer (some ⟨pb, 0, none⟩), .pointer (some ⟨pm, 0, none⟩), .pointer (some ⟨pc, 0, none⟩), .pointer (some ⟨pd, 0, none⟩), .pointer (some ⟨pa, 0, none⟩), .pointer (some ⟨bf + 1, 0, none⟩)]
/-- A world of the search: all that was ahead of it is as it was, its own box holds it, the found box is one cell that may be written. -/
structure Live (w0 : World) (bf : Nat) (ps : Array Value) (w : World) : Prop where
  e0 : Ext w0 w
  lt : w0.heap.size ≤ bf
  sz : bf + 2 ≤ w.heap.size
  cg : w.cell? ⟨bf + 1, 0, none⟩ = some (.func (.func 54) #[] ps)
  cf : ∃ u, w.heap[bf]? = some (.cells #[u] 25 (0, 0))
theorem Live.fr {w0 : World} {bf : Nat} {ps : Array Value} {w w' : World} {row : Option Nat} (h : Live w0 bf ps w) (f : Fr bf row w w') (hr : ∀ k, row = some k → bf + 2 ≤ k) (hf : ∃ u, w'.heap[bf]? = some (.cells #[u] 25 (0, 0))) : Live w0 bf ps w' := by
  have hs := h.sz
  have hl := h.lt
  have hb := f.below (B := w0.heap.size) hl (by omega) (fun k hk => by have := hr k hk; omega)
  refine ⟨Ext.trans' h.e0 hb (Nat.le_refl _), hl, Nat.le_trans hs f.size, ?_, hf⟩
  rw [World.cell?_of_block (w := w) (f.block (bf + 1) (by omega) (by omega) (fun e => by have := hr _ e.symm; omega))]
  exact h.cg
theorem Live.ext {w0 : World} {bf : Nat} {ps : Array Value} {w w' : World} (h : Live w0 bf ps w) (e : Ext w w') : Live w0 bf ps w' := by
  obtain ⟨u, hu⟩ := h.cf
  exact h.fr (row := none) (Fr.ofExt e) (fun k hk => by simp at hk) ⟨u, heap_ext hu e⟩

theorem rowAt_tab {N i : Nat} {c : Nat → Nat → Int} (hi : i < N) : rowAt ((List.range N).map (fun i => rowL N (c i))) i = rowL N (c i) := by
  unfold rowAt
  rw [Int.toNat_natCast, List.getD_eq_getElem?_getD, List.getElem?_eq_getElem (by simp; exact hi)]
  simp

end Go.Proofs.YtkbkgkmogbkabaaDoor

/-
  The search of route.Way: its walk (under way: the step is not proved yet).
-/
namespace Go.Proofs.YtkbkgkmogbkabaaDoor
open Go.RowKit

theorem FoundBox.set {w : World} {bf : Nat} {u : Value} (h : w.heap[bf]? = some (.cells #[u] 25 (0, 0))) (v : Value) : (w.setCell ⟨bf, 0, none⟩ v).heap[bf]? = some (.cells #[v] 25 (0, 0)) := by
  simp only [World.setCell, Array.getElem?_modify, if_true, h, Option.map_some]
  simp

set_option maxRecDepth 20000 in
set_option maxHeartbeats 4000000 in
theorem grow_zero (w0 : World) (N b a pb pm pc pd pa : Nat) (vc vd : Value) (c d : Nat → Nat → Int) (bf : Nat) (tot : Int) (hS : Seen w0 N b a pb pm pc pd pa vc vd c d)
    (way : List Int) (last : Nat) (cost : Int) (vw : Value) (w : World) (hL : Live w0 bf (ptrs bf pb pm pc pd pa) w) (hw : OwnI (bf + 2) w vw way) (hn : 0 < way.length) (hn2 : way.length ≤ 100) (hlast : fn way (way.length - 1) = last) :
    Calls Tryd.prog 54 (#[vw, .int .i64 cost, .int .i64 way.length] ++ ptrs bf pb pm pc pd pa) w fun e w' => e = .returned (.bool (growP c d N b tot 0 way last cost).isSome) ∧ Fr bf vw.ownBlock w w' ∧ OwnI (bf + 2) w' vw way ∧ ∃ u, w'.heap[bf]? = some (.cells #[u] 25 (0, 0)) ∧ ∀ r, growP c d N b tot 0 way last cost = some r → Ints w' u r := by
  have hwi := hw.ints (by omega)
  obtain ⟨-, ag, cap, rfl, -⟩ := id hwi
  obtain ⟨g, og, rfl, -, hcl⟩ := hwi.get (way.length - 1) (by omega)
  rw [hlast] at hcl
  have dl := hcl _ (Ext.refl _)
  have HW := hid hw
  have HWI := hid hwi
  have HL := hid hL
  have hcb := hL.e0.cell hS.cb
  have HCB := hid hcb
  have hlen : ((way.length : Int) - 1).toNat = way.length - 1 := by omega
  unfold ptrs
  clear hw hwi hL hcl
  go_enter Tryd.func54, Tryd.ntmps54
  go_wp2_with (fail)
  refine (Clone_any _ way _ HWI.out).mono ?_
  rintro e w1 ⟨u, rfl, hu, he⟩
  have hui := hu.ints (by omega)
  obtain ⟨-, au, cu, rfl, -⟩ := id hui
  obtain ⟨u0, hf⟩ := (HL.out.ext he).cf
  have df := cell_of_row w1 bf 0 _ _ _ hf
  have ff : w1.frozen? ⟨bf, 0, none⟩ = false := by simp [World.frozen?, hf]
  have hpb := World.block_lt_of_cell? _ _ hS.cb
  have hlt := HL.out.lt
  have hpb2 : pb < w0.heap.size := hpb
  have cB : (w1.setCell ⟨bf, 0, none⟩ (.slice au way.length cu)).cell? ⟨pb, 0, none⟩ = some (.int .i64 b) := by
    rw [World.cell?_setCell_other (h := by first | (simp; done) | (simp; omega))]; exact he.cell HCB.out
  have hset := FoundBox.set hf (.slice au way.length cu)
  have hEs : Fr bf (Value.slice (some ⟨g, og, none⟩) way.length cap).ownBlock w (w1.setCell ⟨bf, 0, none⟩ (.slice au way.length cu)) :=
    ⟨he.os, he.tape, he.output, by have := he.size; simpa using this, fun k hk hb _ => by rw [Below.heap_setCell _ _ _ _ hb]; exact he.block k hk⟩
  have hW2 : OwnI (bf + 2) (w1.setCell ⟨bf, 0, none⟩ (.slice au way.length cu)) (.slice (some ⟨g, og, none⟩) way.length cap) way :=
    ownsRow_setCell_below (ownsRow_ext HW.out he) (a := ⟨bf, 0, none⟩) (by show bf < bf + 2; omega) _
  have hI2 : Ints (w1.setCell ⟨bf, 0, none⟩ (.slice au way.length cu)) (.slice au way.length cu) way := by
    have hsz := HL.out.sz
    exact OwnI.ints (ownsRow_setCell_below hu (a := ⟨bf, 0, none⟩) (by show bf < w.heap.size; omega) _) (by omega)
  have HSet := hid hset
  have HEs := hid hEs
  have HW2 := hid hW2
  have HI2 := hid hI2
  clear hu hui he hf hset hEs hW2 hI2 dl hlast hpb hpb2
  go_wp2
  go_ret
  refine ⟨ret_bool ?_, HEs.out, HW2.out, _, HSet.out, fun r hr => ?_⟩
  · unfold growP
    by_cases e : last = b
    · simp [e]
    · have e2 : ¬ (last : Int) = b := by omega
      simp [e, e2]
  · unfold growP at hr
    split at hr
    · simp only [Option.some.injEq] at hr; subst hr; exact HI2.out
    · simp at hr

end Go.Proofs.YtkbkgkmogbkabaaDoor

/-
  A stop behind a way, in its own block or a new one: one answer for both.
-/
namespace Go.Proofs.YtkbkgkmogbkabaaDoor
open Go.RowKit

theorem OwnI.heap {B : Nat} {w w' : World} {v : Value} {xs : List Int} (h : OwnI B w v xs) (hb : ∀ k, v.ownBlock = some k → w'.heap[k]? = w.heap[k]?) : OwnI B w' v xs := by
  obtain ⟨hl, h | ⟨g, cap, cur, rfl, hB, hg, r⟩⟩ := h
  · exact ⟨hl, .inl h⟩
  · exact ⟨hl, .inr ⟨g, cap, cur, rfl, hB, by rw [hb g rfl]; exact hg, r⟩⟩
theorem OwnI.lt {B : Nat} {w : World} {v : Value} {xs : List Int} (h : OwnI B w v xs) : ∀ k, v.ownBlock = some k → B ≤ k ∧ k < w.heap.size := by
  obtain ⟨-, h | ⟨g, cap, cur, rfl, hB, hg, -⟩⟩ := h
  · intro k hk; rw [h.1] at hk; simp [Value.ownBlock] at hk
  · intro k hk
    simp only [Value.ownBlock, Option.some.injEq] at hk
    subst hk
    exact ⟨hB, lt_of_block hg⟩

theorem wp_append_way2 {w : World} {o : Oper} {a : Act} {K : Act → World → Prop} {Q : Exit → Act → World → Prop} (s x : Operand)
    (ho : o.op = .call { callee := .builtin .append, args := #[s, x], argTypes := #[25, 25] })
    (bf g n cap : Nat) (xs : List Int) (hn : n = xs.length) (hs : a.eval s = .slice (some ⟨g, 0, none⟩) n cap) (hbf : bf + 2 ≤ w.heap.size) (hown : OwnI (bf + 2) w (.slice (some ⟨g, 0, none⟩) n cap) xs)
    (ad : Addr) (y : Int) (hx : a.eval x = .slice (some ad) 1 1) (hc : w.cell? ad = some (.int .i64 y)) (hl : xs.length ≤ 1000)
    (h : ∀ v' w', OwnI (bf + 2) w' v' (xs ++ [y]) → Fr bf (some g) w w' → w'.heap[bf]? = w.heap[bf]? →
      (∀ w'', Fr bf v'.ownBlock w' w'' → OwnI (bf + 2) w'' v' (xs ++ [y]) → Fr bf (some g) w w'' ∧ OwnI (bf + 2) w'' (.slice (some ⟨g, 0, none⟩) n cap) xs) → K (a.put o.dst v') w') : o.wp Tryd.prog a w K Q := by
  have hg := hown.lt g rfl
  refine wp_append_way s x ho (bf + 2) g n cap xs hn hs hown ad y hx hc hl (fun w' h1 h2 => ?_) (fun v' w' h1 h2 => ?_)
  · have hf : Fr bf (some g) w w' := Fr.ofGrown h2
    exact h _ _ h1 hf (h2.block bf (by omega) (by simp; omega)) (fun w'' f o => ⟨hf.trans f (.inl rfl), row_prefix hn o⟩)
  · have hv := h1.lt
    refine h _ _ (ownsRow_base h1 hbf) (Fr.ofExt h2) (h2.block bf (by omega)) (fun w'' f o => ?_)
    have hf : Fr bf (some g) w w'' := by
      cases e : v'.ownBlock with
      | none =>
        rw [e] at f
        have hs := h2.size
        exact ⟨by rw [f.os, h2.os], by rw [f.tape, h2.tape], by rw [f.output, h2.output], Nat.le_trans hs f.size, fun k hk hb _ => by rw [f.block k (by omega) hb (by simp), h2.block k hk]⟩
      | some q =>
        rw [e] at f
        exact (Fr.ofExt h2).trans f (.inr ⟨q, rfl, (hv q e).1⟩)
    refine ⟨hf, OwnI.heap hown (fun k hk => ?_)⟩
    simp only [Value.ownBlock, Option.some.injEq] at hk
    subst hk
    have hs := h2.size
    rw [f.block g (by omega) (by omega) (fun e => by have := (hv g e.symm).1; omega), h2.block g hg.2]

end Go.Proofs.YtkbkgkmogbkabaaDoor

/-
  The search of route.Way: its step.
-/
namespace Go.Proofs.YtkbkgkmogbkabaaDoor
open Go.RowKit

/-- What a call of the search answers. -/
def growPost (c d : Nat → Nat → Int) (N b bf : Nat) (tot : Int) (f : Nat) (way : List Int) (last : Nat) (cost : Int) (vw : Value) (w : World) : Ending → World → Prop := fun e w' =>
  e = .returned (.bool (growP c d N b tot f way last cost).isSome) ∧ Fr bf vw.ownBlock w w' ∧ OwnI (bf + 2) w' vw way ∧ ∃ u, w'.heap[bf]? = some (.cells #[u] 25 (0, 0)) ∧ ∀ r, growP c d N b tot f way last cost = some r → Ints w' u r

set_option maxRecDepth 20000 in
set_option maxHeartbeats 16000000 in
theorem grow_any (w0 : World) (N b a pb pm pc pd pa : Nat) (vc vd : Value) (c d : Nat → Nat → Int) (bf : Nat) (tot : Int) (hS : Seen w0 N b a pb pm pc pd pa vc vd c d) (hN : N ≤ 8) (hb : b < N) (ha : a < N) (htot : tot = d a b)
    (hc : ∀ i j, i < N → j < N → 0 ≤ c i j ∧ c i j ≤ far) (hd : ∀ i j, i < N → j < N → 0 ≤ d i j ∧ d i j ≤ far) :
    ∀ (f : Nat) (way : List Int) (last : Nat) (cost : Int) (vw : Value) (w : World), Live w0 bf (ptrs bf pb pm pc pd pa) w → OwnI (bf + 2) w vw way → 0 < way.length → way.length + f ≤ 100 → fn way (way.length - 1) = last → last < N → 0 ≤ cost → cost ≤ far →
    Calls Tryd.prog 54 (#[vw, .int .i64 cost, .int .i64 ((way.length + f : Nat) : Int)] ++ ptrs bf pb pm pc pd pa) w (growPost c d N b bf tot f way last cost vw w) := by
  intro f
  induction f with
  | zero =>
    intro way last cost vw w hL hw hn hn2 hlast _ _ _
    exact grow_zero w0 N b a pb pm pc pd pa vc vd c d bf tot hS way last cost vw w hL hw hn (by omega) hlast
  | succ f ih =>
    intro way last cost vw w hL hw hn hn2 hlast hlN hc0 hc1
    have hwi := hw.ints (by omega)
    obtain ⟨-, ag, cap, rfl, -⟩ := id hwi
    obtain ⟨gw, og, rfl, -, hcl⟩ := hwi.get (way.length - 1) (by omega)
    obtain ⟨rfl, hgw⟩ : og = 0 ∧ bf + 2 ≤ gw := by
      obtain ⟨-, ⟨h, -⟩ | ⟨g', c', u', h, hB, -⟩⟩ := id hw
      · simp at h
      · simp only [Value.slice.injEq, Option.some.injEq, Addr.mk.injEq, and_true] at h
        obtain ⟨⟨rfl, rfl⟩, -⟩ := h
        exact ⟨rfl, hB⟩
    rw [hlast] at hcl
    have dl := hcl _ (Ext.refl _)
    rw [Nat.zero_add] at dl
    obtain ⟨LL, hLL⟩ : ∃ LL : Int, ((way.length + (f + 1) : Nat) : Int) = LL := ⟨_, rfl⟩
    rw [hLL]
    have hne : ¬ (way.length : Int) = LL := by omega
    have hneb : ((way.length : Int) == LL) = false := beq_eq_false_iff_ne.2 hne
    have IHx : ∀ (vw' : Value) (cost' : Int) (w' : World) (x : Nat), Live w0 bf (ptrs bf pb pm pc pd pa) w' → OwnI (bf + 2) w' vw' (way ++ [(x : Int)]) → x < N → 0 ≤ cost' → cost' ≤ far →
        Calls Tryd.prog 54 #[vw', .int .i64 cost', .int .i64 LL, .pointer (some ⟨bf, 0, none⟩), .pointer (some ⟨pb, 0, none⟩), .pointer (some ⟨pm, 0, none⟩), .pointer (some ⟨pc, 0, none⟩), .pointer (some ⟨pd, 0, none⟩), .pointer (some ⟨pa, 0, none⟩), .pointer (some ⟨bf + 1, 0, none⟩)] w' (growPost c d N b bf tot f (way ++ [(x : Int)]) x cost' vw' w') := by
      intro vw' cost' w' x h1 h2 h3 h4 h5
      have hl2 : (way ++ [(x : Int)]).length = way.length + 1 := by simp
      have := ih (way ++ [(x : Int)]) x cost' vw' w' h1 h2 (by omega) (by omega) (by rw [fn_get (by omega)]; simp) h3 h4 h5
      rw [show (((way ++ [(x : Int)]).length + f : Nat) : Int) = LL by rw [hl2, ← hLL]; congr 1; omega] at this
      exact this
    have IH := hid IHx
    have HW := hid hw
    have HL := hid hL
    have HC := hid hc
    have HD := hid hd
    have HS := hid hS
    have Hlast := hid hlast
    have Hlen := hid hn2
    have cm := hL.e0.cell hS.cm
    have hlen : ((way.length : Int) - 1).toNat = way.length - 1 := by omega
    unfold ptrs
    have Htot := hid htot
    clear hw hwi hL hcl ih IHx hc hd hS hlast hLL htot
    go_enter Tryd.func54, Tryd.ntmps54
    go_wp2
    clear cm dl hn2
    go_loopg [33] N (fun g i wr => ∃ x : Nat, x + g = N ∧ i = .int .i64 x ∧ Hid ((List.range x).findSome? (growF c d N b tot f way last cost) = none) ∧ Hid (Fr bf (some gw) w wr) ∧ Hid (OwnI (bf + 2) wr (.slice (some ⟨gw, 0, none⟩) way.length cap) way) ∧ Hid (Live w0 bf (ptrs bf pb pm pc pd pa) wr))
    case atStart => exact ⟨0, by omega, rfl, rfl, Fr.ofExt (Ext.refl _), HW, HL⟩
    case round =>
      clear HW HL
      obtain ⟨x, hx, rfl, NO, FR, HW, HL⟩ := hrel
      have hxl : x ≤ N := by omega
      have Hx := hid hx
      clear hx
      by_cases hlt : x < N
      · have HFR := hid (FR.out.trans (Fr.ofExt (Ext.refl wr).drew) (.inl rfl))
        have HW2 := hid (ownsRow_ext HW.out (Ext.refl wr).drew)
        have HL2 := hid (HL.out.ext (Ext.refl wr).drew)
        by_cases e1 : x = last
        · have hF : Hid (growF c d N b tot f way last cost x = none) := by show _ = _; unfold growF; rw [if_neg (fun h => h.1 e1)]
          have e1b : ((x : Int) != (last : Int)) = false := by rw [e1]; simp
          have HX1 := hid e1
          have HNO := hid (find_none NO.out hF.out)
          clear e1
          go_wp2
          refine wp_region_held_drew (S := (fun _ => True)) (by kernel_rfl) ?hSa0 (fun hHeld => ?_)
          case hSa0 => (first | (trivial) | ((try dsimp only); trivial))
          refine wpAnyH_tk 0 (v := ?va0) rfl (by kernel_rfl) (by kernel_rfl) (by kernel_rfl) (fun _ _ _ h => h) (by rfl) ?hya0 (by assumption) ?_
          case hya0 => (intro w hSw; (try dsimp only at hSw); go_simp <;> with_reducible rfl)
          (try simp only [Act.put, List.setIfInBounds_toArray, List.set_cons_zero, List.set_cons_succ])
          refine wpAnyH_tk 1 (v := ?va1) rfl (by kernel_rfl) (by kernel_rfl) (by kernel_rfl) (fun _ _ _ h => h) (by rfl) ?hya1 (by assumption) ?_
          case hya1 => (intro w hSw; (try dsimp only at hSw); go_simp <;> with_reducible rfl)
          (try simp only [Act.put, List.setIfInBounds_toArray, List.set_cons_zero, List.set_cons_succ])
          refine wpAnyH_tk 2 (v := ?va2) rfl (by kernel_rfl) (by kernel_rfl) (by kernel_rfl) (fun _ _ _ h => h) (by rfl) ?hya2 (by assumption) ?_
          case hya2 => (intro w hSw; (try dsimp only at hSw); go_simp <;> with_reducible rfl)
          (try simp only [Act.put, List.setIfInBounds_toArray, List.set_cons_zero, List.set_cons_succ])
          refine wpAnyH_tk 3 (v := ?va3) rfl (by kernel_rfl) (by kernel_rfl) (by kernel_rfl) (fun _ _ _ h => h) (by rfl) ?hya3 (by assumption) ?_
          case hya3 => (intro w hSw; (try dsimp only at hSw); go_simp <;> with_reducible rfl)
          (try simp only [Act.put, List.setIfInBounds_toArray, List.set_cons_zero, List.set_cons_succ])
          refine wpAnyH_skips 3 true 39 52 (by kernel_rfl) rfl (fun _ _ _ _ _ h => h) [4, 5, 6, 7, 8, 9, 10, 11] [40, 41, 42, 43, 44, 45, 46, 47] _ _ _ rfl (by kernel_rfl) (by rfl) (by assumption) ?_
          (try simp only [putsAll, List.foldl, Act.put, List.setIfInBounds_toArray, List.set_cons_zero, List.set_cons_succ])
          refine wpAnyH_tk 12 (v := ?va12) rfl (by kernel_rfl) (by kernel_rfl) (by kernel_rfl) (fun _ _ _ h => h) (by rfl) ?hya12 (by assumption) ?_
          case hya12 => (intro w hSw; (try dsimp only at hSw); go_simp <;> with_reducible rfl)
          (try simp only [Act.put, List.setIfInBounds_toArray, List.set_cons_zero, List.set_cons_succ])
          refine wpAnyH_tk 13 (v := ?va13) rfl (by kernel_rfl) (by kernel_rfl) (by kernel_rfl) (fun _ _ _ h => h) (by rfl) ?hya13 (by assumption) ?_
          case hya13 => (intro w hSw; (try dsimp only at hSw); go_simp <;> with_reducible rfl)
          (try simp only [Act.put, List.setIfInBounds_toArray, List.set_cons_zero, List.set_cons_succ])
          refine wpAnyH_skips 13 true 49 25 (by kernel_rfl) rfl (fun _ _ _ _ _ h => h) [14, 15, 16, 17, 18, 19, 20, 21, 22, 23, 24, 25, 26, 27, 28, 29, 30, 31, 32, 33, 34, 35, 36, 37, 38] [50, 51, 52, 53, 54, 55, 56, 57, 58, 59, 60, 61, 62, 63, 64, 65, 66, 67, 68, 69, 70, 71, 72, 73, 74] _ _ _ rfl (by kernel_rfl) (by rfl) (by assumption) ?_
          (try simp only [putsAll, List.foldl, Act.put, List.setIfInBounds_toArray, List.set_cons_zero, List.set_cons_succ])
          refine wpAnyH_tk 39 (v := ?va39) rfl (by kernel_rfl) (by kernel_rfl) (by kernel_rfl) (fun _ _ _ h => h) (by rfl) ?hya39 (by assumption) ?_
          case hya39 => (intro w hSw; (try dsimp only at hSw); go_simp <;> with_reducible rfl)
          (try simp only [Act.put, List.setIfInBounds_toArray, List.set_cons_zero, List.set_cons_succ])
          refine wpAnyH_tk 40 (v := ?va40) rfl (by kernel_rfl) (by kernel_rfl) (by kernel_rfl) (fun _ _ _ h => h) (by rfl) ?hya40 (by assumption) ?_
          case hya40 => (intro w hSw; (try dsimp only at hSw); go_simp <;> with_reducible rfl)
          (try simp only [Act.put, List.setIfInBounds_toArray, List.set_cons_zero, List.set_cons_succ])
          refine wpAnyH_skips 40 true 76 19 (by kernel_rfl) rfl (fun _ _ _ _ _ h => h) [41, 42, 43, 44] [77, 78, 79, 80] _ _ _ rfl (by kernel_rfl) (by rfl) (by assumption) ?_
          (try simp only [putsAll, List.foldl, Act.put, List.setIfInBounds_toArray, List.set_cons_zero, List.set_cons_succ])
          refine wpAnyH_tk 45 (v := ?va45) rfl (by kernel_rfl) (by kernel_rfl) (by kernel_rfl) (fun _ _ _ h => h) (by rfl) ?hya45 (by assumption) ?_
          case hya45 => (intro w hSw; (try dsimp only at hSw); go_simp <;> with_reducible rfl)
          (try simp only [Act.put, List.setIfInBounds_toArray, List.set_cons_zero, List.set_cons_succ])
          refine wpAnyH_tk 46 (v := ?va46) rfl (by kernel_rfl) (by kernel_rfl) (by kernel_rfl) (fun _ _ _ h => h) (by rfl) ?hya46 (by assumption) ?_
          case hya46 => (intro w hSw; (try dsimp only at hSw); go_simp <;> with_reducible rfl)
          (try simp only [Act.put, List.setIfInBounds_toArray, List.set_cons_zero, List.set_cons_succ])
          refine wpAnyH_skips 46 true 82 1 (by kernel_rfl) rfl (fun _ _ _ _ _ h => h) [47, 48, 49, 50, 51, 52, 53, 54, 55, 56, 57, 58, 59, 60, 61, 62] [83, 84, 85, 86, 87, 88, 89, 90, 91, 92, 93, 94, 95, 96, 97, 98] _ _ _ rfl (by kernel_rfl) (by rfl) (by assumption) ?_
          (try simp only [putsAll, List.foldl, Act.put, List.setIfInBounds_toArray, List.set_cons_zero, List.set_cons_succ])
          refine wpAnyH_tk 63 (v := ?va63) rfl (by kernel_rfl) (by kernel_rfl) (by kernel_rfl) (fun _ _ _ h => h) (by rfl) ?hya63 (by assumption) ?_
          case hya63 => (intro w hSw; (try dsimp only at hSw); go_simp <;> with_reducible rfl)
          (try simp only [Act.put, List.setIfInBounds_toArray, List.set_cons_zero, List.set_cons_succ])
          refine wpAnyH_done (by kernel_rfl) ?_ _
          clear e1b
          go_wp2
          go_roundg (gk - 1)
          case rel => exact ⟨x + 1, by have := Hx.out; omega, by go_num, HNO.out, HFR.out, HW2.out, HL2.out⟩
          case measure => have := Hx.out; omega
        · obtain ⟨-, aoc, cpc, hvc, -⟩ := id HS.out.tc
          obtain ⟨-, aod, cpd, hvd, -⟩ := id HS.out.td
          subst hvc
          subst hvd
          obtain ⟨bC, oC, -, -, rfl, -, -⟩ := HS.out.tc.at 0 (by omega) (by simp; omega)
          obtain ⟨bD, oD, -, -, rfl, -, -⟩ := HS.out.td.at 0 (by omega) (by simp; omega)
          obtain ⟨-, arc, crc, hrc, hic⟩ := HS.out.tc.row last (by simp; omega)
          obtain ⟨-, ard, crd, hrd, hid_⟩ := HS.out.td.row x (by simp; omega)
          obtain ⟨-, ara, cra, hra, hia⟩ := HS.out.td.row a (by simp; omega)
          rw [rowAt_tab hlN] at hrc hic
          rw [rowAt_tab hlt] at hrd hid_
          rw [rowAt_tab ha] at hra hia
          obtain ⟨rC, oRC, rfl, -, hcC⟩ := hic.get x (by rw [rowL_len]; exact hlt)
          obtain ⟨rD, oRD, rfl, -, hcD⟩ := hid_.get b (by rw [rowL_len]; exact hb)
          obtain ⟨rA, oRA, rfl, -, hcA⟩ := hia.get b (by rw [rowL_len]; exact hb)
          rw [rowL_fn hlt] at hcC
          rw [rowL_fn hb] at hcD hcA
          rw [rowL_len] at hrc hrd hra
          have hall : ∀ w', Live w0 bf (ptrs bf pb pm pc pd pa) w' → (w'.cell? ⟨pc, 0, none⟩ = some (.slice (some ⟨bC, oC, none⟩) N cpc) ∧ w'.cell? ⟨bC, oC + last, none⟩ = some (.slice (some ⟨rC, oRC, none⟩) N crc) ∧ w'.cell? ⟨rC, oRC + x, none⟩ = some (.int .i64 (c last x)) ∧ w'.cell? ⟨pd, 0, none⟩ = some (.slice (some ⟨bD, oD, none⟩) N cpd) ∧ w'.cell? ⟨bD, oD + x, none⟩ = some (.slice (some ⟨rD, oRD, none⟩) N crd) ∧ w'.cell? ⟨rD, oRD + b, none⟩ = some (.int .i64 (d x b)) ∧ w'.cell? ⟨bD, oD + a, none⟩ = some (.slice (some ⟨rA, oRA, none⟩) N cra) ∧ w'.cell? ⟨rA, oRA + b, none⟩ = some (.int .i64 (d a b)) ∧ w'.cell? ⟨pb, 0, none⟩ = some (.int .i64 b) ∧ w'.cell? ⟨pa, 0, none⟩ = some (.int .i64 a) ∧ w'.cell? ⟨bf + 1, 0, none⟩ = some (.func (.func 54) #[] #[.pointer (some ⟨bf, 0, none⟩), .pointer (some ⟨pb, 0, none⟩), .pointer (some ⟨pm, 0, none⟩), .pointer (some ⟨pc, 0, none⟩), .pointer (some ⟨pd, 0, none⟩), .pointer (some ⟨pa, 0, none⟩), .pointer (some ⟨bf + 1, 0, none⟩)])) := by
            intro w' L
            have q1 := L.e0.cell HS.out.cc
            have q2 := L.e0.cell HS.out.cd
            rw [List.length_map, List.length_range] at q1 q2
            exact ⟨q1, hrc _ L.e0, hcC _ L.e0, q2, hrd _ L.e0, hcD _ L.e0, hra _ L.e0, hcA _ L.e0, L.e0.cell HS.out.cb, L.e0.cell HS.out.ca, L.cg⟩
          have HALL := hid hall
          clear hrc hrd hra hic hid_ hia hcC hcD hcA hall
          have W1 := HC.out last x hlN hlt
          have W2 := HD.out x b hlt hb
          have W3 := HD.out a b ha hb
          unfold far at W1 W2 W3 hc1
          have e1b : ((x : Int) != (last : Int)) = true := by rw [bne_iff_ne]; omega
          have HX1 := hid e1
          clear e1
          by_cases e2 : c last x < 1048576
          · have e2b : decide (c last x < 1048576) = true := decide_eq_true e2
            have z1 : IntKind.i64.wrap (cost + c last x) = cost + c last x := by rw [IntKind.wrap_i64]; omega
            have z2 : IntKind.i64.wrap (cost + c last x + d x b) = cost + c last x + d x b := by rw [IntKind.wrap_i64]; omega
            have HX2 := hid e2
            clear e2
            by_cases e3 : cost + c last x + d x b = tot
            · have e3b : (cost + c last x + d x b == d a b) = true := by rw [beq_iff_eq, ← Htot.out]; exact e3
              have HX3 := hid e3
              clear e3
              by_cases e4 : (x : Int) ∈ way
              · have e4b : hasI way x = true := by unfold hasI; rw [List.contains_iff_mem]; exact e4
                have hF : Hid (growF c d N b tot f way last cost x = none) := by show _ = _; unfold growF; rw [if_neg (fun h => h.2.2.2 e4)]
                have HNO := hid (find_none NO.out hF.out)
                clear e4
                go_wp2
                refine wp_region_held_drew (S := (fun w' => (w'.cell? ⟨pc, 0, none⟩ = some (.slice (some ⟨bC, oC, none⟩) N cpc) ∧ w'.cell? ⟨bC, oC + last, none⟩ = some (.slice (some ⟨rC, oRC, none⟩) N crc) ∧ w'.cell? ⟨rC, oRC + x, none⟩ = some (.int .i64 (c last x)) ∧ w'.cell? ⟨pd, 0, none⟩ = some (.slice (some ⟨bD, oD, none⟩) N cpd) ∧ w'.cell? ⟨bD, oD + x, none⟩ = some (.slice (some ⟨rD, oRD, none⟩) N crd) ∧ w'.cell? ⟨rD, oRD + b, none⟩ = some (.int .i64 (d x b)) ∧ w'.cell? ⟨bD, oD + a, none⟩ = some (.slice (some ⟨rA, oRA, none⟩) N cra) ∧ w'.cell? ⟨rA, oRA + b, none⟩ = some (.int .i64 (d a b)) ∧ w'.cell? ⟨pb, 0, none⟩ = some (.int .i64 b) ∧ w'.cell? ⟨pa, 0, none⟩ = some (.int .i64 a) ∧ w'.cell? ⟨bf + 1, 0, none⟩ = some (.func (.func 54) #[] #[.pointer (some ⟨bf, 0, none⟩), .pointer (some ⟨pb, 0, none⟩), .pointer (some ⟨pm, 0, none⟩), .pointer (some ⟨pc, 0, none⟩), .pointer (some ⟨pd, 0, none⟩), .pointer (some ⟨pa, 0, none⟩), .pointer (some ⟨bf + 1, 0, none⟩)])))) (by kernel_rfl) ?hSd0 (fun hHeld => ?_)
                case hSd0 => (first | (exact HALL.out _ HL2.out) | ((try dsimp only); exact HALL.out _ HL2.out))
                refine wpAnyH_tk 0 (v := ?vd0) rfl (by kernel_rfl) (by kernel_rfl) (by kernel_rfl) (fun _ _ _ h => h) (by rfl) ?hyd0 (by assumption) ?_
                case hyd0 => (intro w hSw; (try dsimp only at hSw); go_simp <;> with_reducible rfl)
                (try simp only [Act.put, List.setIfInBounds_toArray, List.set_cons_zero, List.set_cons_succ])
                refine wpAnyH_tk 1 (v := ?vd1) rfl (by kernel_rfl) (by kernel_rfl) (by kernel_rfl) (fun _ _ _ h => h) (by rfl) ?hyd1 (by assumption) ?_
                case hyd1 => (intro w hSw; (try dsimp only at hSw); go_simp <;> with_reducible rfl)
                (try simp only [Act.put, List.setIfInBounds_toArray, List.set_cons_zero, List.set_cons_succ])
                refine wpAnyH_tk 2 (v := ?vd2) rfl (by kernel_rfl) (by kernel_rfl) (by kernel_rfl) (fun _ _ _ h => h) (by rfl) ?hyd2 (by assumption) ?_
                case hyd2 => (intro w hSw; (try dsimp only at hSw); go_simp <;> with_reducible rfl)
                (try simp only [Act.put, List.setIfInBounds_toArray, List.set_cons_zero, List.set_cons_succ])
                refine wpAnyH_tk 3 (v := ?vd3) rfl (by kernel_rfl) (by kernel_rfl) (by kernel_rfl) (fun _ _ _ h => h) (by rfl) ?hyd3 (by assumption) ?_
                case hyd3 => (intro w hSw; (try dsimp only at hSw); go_simp <;> with_reducible rfl)
                (try simp only [Act.put, List.setIfInBounds_toArray, List.set_cons_zero, List.set_cons_succ])
                refine wpAnyH_tk 4 (v := ?vd4) rfl (by kernel_rfl) (by kernel_rfl) (by kernel_rfl) (fun _ _ _ h => h) (by rfl) ?hyd4 (by assumption) ?_
                case hyd4 => (intro w hSw; (try dsimp only at hSw); go_simp <;> with_reducible rfl)
                (try simp only [Act.put, List.setIfInBounds_toArray, List.set_cons_zero, List.set_cons_succ])
                refine wpAnyH_tk 5 (v := ?vd5) rfl (by kernel_rfl) (by kernel_rfl) (by kernel_rfl) (fun _ _ _ h => h) (by rfl) ?hyd5 (by assumption) ?_
                case hyd5 => (intro w hSw; (try dsimp only at hSw); go_simp <;> with_reducible rfl)
                (try simp only [Act.put, List.setIfInBounds_toArray, List.set_cons_zero, List.set_cons_succ])
                refine wpAnyH_tk 6 (v := ?vd6) rfl (by kernel_rfl) (by kernel_rfl) (by kernel_rfl) (fun _ _ _ h => h) (by rfl) ?hyd6 (by assumption) ?_
                case hyd6 => (intro w hSw; (try dsimp only at hSw); go_simp <;> with_reducible rfl)
                (try simp only [Act.put, List.setIfInBounds_toArray, List.set_cons_zero, List.set_cons_succ])
                refine wpAnyH_tk 7 (v := ?vd7) rfl (by kernel_rfl) (by kernel_rfl) (by kernel_rfl) (fun _ _ _ h => h) (by rfl) ?hyd7 (by assumption) ?_
                case hyd7 => (intro w hSw; (try dsimp only at hSw); go_simp <;> with_reducible rfl)
                (try simp only [Act.put, List.setIfInBounds_toArray, List.set_cons_zero, List.set_cons_succ])
                refine wpAnyH_tk 8 (v := ?vd8) rfl (by kernel_rfl) (by kernel_rfl) (by kernel_rfl) (fun _ _ _ h => h) (by rfl) ?hyd8 (by assumption) ?_
                case hyd8 => (intro w hSw; (try dsimp only at hSw); go_simp <;> with_reducible rfl)
                (try simp only [Act.put, List.setIfInBounds_toArray, List.set_cons_zero, List.set_cons_succ])
                refine wpAnyH_tk 9 (v := ?vd9) rfl (by kernel_rfl) (by kernel_rfl) (by kernel_rfl) (fun _ _ _ h => h) (by rfl) ?hyd9 (by assumption) ?_
                case hyd9 => (intro w hSw; (try dsimp only at hSw); go_simp <;> with_reducible rfl)
                (try simp only [Act.put, List.setIfInBounds_toArray, List.set_cons_zero, List.set_cons_succ])
                refine wpAnyH_tk 10 (v := ?vd10) rfl (by kernel_rfl) (by kernel_rfl) (by kernel_rfl) (fun _ _ _ h => h) (by rfl) ?hyd10 (by assumption) ?_
                case hyd10 => (intro w hSw; (try dsimp only at hSw); go_simp <;> with_reducible rfl)
                (try simp only [Act.put, List.setIfInBounds_toArray, List.set_cons_zero, List.set_cons_succ])
                refine wpAnyH_tk 11 (v := ?vd11) rfl (by kernel_rfl) (by kernel_rfl) (by kernel_rfl) (fun _ _ _ h => h) (by rfl) ?hyd11 (by assumption) ?_
                case hyd11 => (intro w hSw; (try dsimp only at hSw); go_simp <;> with_reducible rfl)
                (try simp only [Act.put, List.setIfInBounds_toArray, List.set_cons_zero, List.set_cons_succ])
                refine wpAnyH_tk 12 (v := ?vd12) rfl (by kernel_rfl) (by kernel_rfl) (by kernel_rfl) (fun _ _ _ h => h) (by rfl) ?hyd12 (by assumption) ?_
                case hyd12 => (intro w hSw; (try dsimp only at hSw); go_simp <;> with_reducible rfl)
                (try simp only [Act.put, List.setIfInBounds_toArray, List.set_cons_zero, List.set_cons_succ])
                refine wpAnyH_tk 13 (v := ?vd13) rfl (by kernel_rfl) (by kernel_rfl) (by kernel_rfl) (fun _ _ _ h => h) (by rfl) ?hyd13 (by assumption) ?_
                case hyd13 => (intro w hSw; (try dsimp only at hSw); go_simp <;> with_reducible rfl)
                (try simp only [Act.put, List.setIfInBounds_toArray, List.set_cons_zero, List.set_cons_succ])
                refine wpAnyH_tk 14 (v := ?vd14) rfl (by kernel_rfl) (by kernel_rfl) (by kernel_rfl) (fun _ _ _ h => h) (by rfl) ?hyd14 (by assumption) ?_
                case hyd14 => (intro w hSw; (try dsimp only at hSw); go_simp <;> with_reducible rfl)
                (try simp only [Act.put, List.setIfInBounds_toArray, List.set_cons_zero, List.set_cons_succ])
                refine wpAnyH_tk 15 (v := ?vd15) rfl (by kernel_rfl) (by kernel_rfl) (by kernel_rfl) (fun _ _ _ h => h) (by rfl) ?hyd15 (by assumption) ?_
                case hyd15 => (intro w hSw; (try dsimp only at hSw); go_simp <;> with_reducible rfl)
                (try simp only [Act.put, List.setIfInBounds_toArray, List.set_cons_zero, List.set_cons_succ])
                refine wpAnyH_tk 16 (v := ?vd16) rfl (by kernel_rfl) (by kernel_rfl) (by kernel_rfl) (fun _ _ _ h => h) (by rfl) ?hyd16 (by assumption) ?_
                case hyd16 => (intro w hSw; (try dsimp only at hSw); go_simp <;> with_reducible rfl)
                (try simp only [Act.put, List.setIfInBounds_toArray, List.set_cons_zero, List.set_cons_succ])
                refine wpAnyH_tk 17 (v := ?vd17) rfl (by kernel_rfl) (by kernel_rfl) (by kernel_rfl) (fun _ _ _ h => h) (by rfl) ?hyd17 (by assumption) ?_
                case hyd17 => (intro w hSw; (try dsimp only at hSw); go_simp <;> with_reducible rfl)
                (try simp only [Act.put, List.setIfInBounds_toArray, List.set_cons_zero, List.set_cons_succ])
                refine wpAnyH_tk 18 (v := ?vd18) rfl (by kernel_rfl) (by kernel_rfl) (by kernel_rfl) (fun _ _ _ h => h) (by rfl) ?hyd18 (by assumption) ?_
                case hyd18 => (intro w hSw; (try dsimp only at hSw); go_simp <;> with_reducible rfl)
                (try simp only [Act.put, List.setIfInBounds_toArray, List.set_cons_zero, List.set_cons_succ])
                refine wpAnyH_tk 19 (v := ?vd19) rfl (by kernel_rfl) (by kernel_rfl) (by kernel_rfl) (fun _ _ _ h => h) (by rfl) ?hyd19 (by assumption) ?_
                case hyd19 => (intro w hSw; (try dsimp only at hSw); go_simp <;> with_reducible rfl)
                (try simp only [Act.put, List.setIfInBounds_toArray, List.set_cons_zero, List.set_cons_succ])
                refine wpAnyH_tk 20 (v := ?vd20) rfl (by kernel_rfl) (by kernel_rfl) (by kernel_rfl) (fun _ _ _ h => h) (by rfl) ?hyd20 (by assumption) ?_
                case hyd20 => (intro w hSw; (try dsimp only at hSw); go_simp <;> with_reducible rfl)
                (try simp only [Act.put, List.setIfInBounds_toArray, List.set_cons_zero, List.set_cons_succ])
                refine wpAnyH_tk 21 (v := ?vd21) rfl (by kernel_rfl) (by kernel_rfl) (by kernel_rfl) (fun _ _ _ h => h) (by rfl) ?hyd21 (by assumption) ?_
                case hyd21 => (intro w hSw; (try dsimp only at hSw); go_simp <;> with_reducible rfl)
                (try simp only [Act.put, List.setIfInBounds_toArray, List.set_cons_zero, List.set_cons_succ])
                refine wpAnyH_tk 22 (v := ?vd22) rfl (by kernel_rfl) (by kernel_rfl) (by kernel_rfl) (fun _ _ _ h => h) (by rfl) ?hyd22 (by assumption) ?_
                case hyd22 => (intro w hSw; (try dsimp only at hSw); go_simp <;> with_reducible rfl)
                (try simp only [Act.put, List.setIfInBounds_toArray, List.set_cons_zero, List.set_cons_succ])
                refine wpAnyH_tk 23 (v := ?vd23) rfl (by kernel_rfl) (by kernel_rfl) (by kernel_rfl) (fun _ _ _ h => h) (by rfl) ?hyd23 (by assumption) ?_
                case hyd23 => (intro w hSw; (try dsimp only at hSw); go_simp <;> with_reducible rfl)
                (try simp only [Act.put, List.setIfInBounds_toArray, List.set_cons_zero, List.set_cons_succ])
                refine wpAnyH_tk 24 (v := ?vd24) rfl (by kernel_rfl) (by kernel_rfl) (by kernel_rfl) (fun _ _ _ h => h) (by rfl) ?hyd24 (by assumption) ?_
                case hyd24 => (intro w hSw; (try dsimp only at hSw); go_simp <;> with_reducible rfl)
                (try simp only [Act.put, List.setIfInBounds_toArray, List.set_cons_zero, List.set_cons_succ])
                refine wpAnyH_tk 25 (v := ?vd25) rfl (by kernel_rfl) (by kernel_rfl) (by kernel_rfl) (fun _ _ _ h => h) (by rfl) ?hyd25 (by assumption) ?_
                case hyd25 => (intro w hSw; (try dsimp only at hSw); go_simp <;> with_reducible rfl)
                (try simp only [Act.put, List.setIfInBounds_toArray, List.set_cons_zero, List.set_cons_succ])
                refine wpAnyH_tk 26 (v := ?vd26) rfl (by kernel_rfl) (by kernel_rfl) (by kernel_rfl) (fun _ _ _ h => h) (by rfl) ?hyd26 (by assumption) ?_
                case hyd26 => (intro w hSw; (try dsimp only at hSw); go_simp <;> with_reducible rfl)
                (try simp only [Act.put, List.setIfInBounds_toArray, List.set_cons_zero, List.set_cons_succ])
                refine wpAnyH_tk 27 (v := ?vd27) rfl (by kernel_rfl) (by kernel_rfl) (by kernel_rfl) (fun _ _ _ h => h) (by rfl) ?hyd27 (by assumption) ?_
                case hyd27 => (intro w hSw; (try dsimp only at hSw); go_simp <;> with_reducible rfl)
                (try simp only [Act.put, List.setIfInBounds_toArray, List.set_cons_zero, List.set_cons_succ])
                refine wpAnyH_tk 28 (v := ?vd28) rfl (by kernel_rfl) (by kernel_rfl) (by kernel_rfl) (fun _ _ _ h => h) (by rfl) ?hyd28 (by assumption) ?_
                case hyd28 => (intro w hSw; (try dsimp only at hSw); go_simp <;> with_reducible rfl)
                (try simp only [Act.put, List.setIfInBounds_toArray, List.set_cons_zero, List.set_cons_succ])
                refine wpAnyH_tk 29 (v := ?vd29) rfl (by kernel_rfl) (by kernel_rfl) (by kernel_rfl) (fun _ _ _ h => h) (by rfl) ?hyd29 (by assumption) ?_
                case hyd29 => (intro w hSw; (try dsimp only at hSw); go_simp <;> with_reducible rfl)
                (try simp only [Act.put, List.setIfInBounds_toArray, List.set_cons_zero, List.set_cons_succ])
                refine wpAnyH_tk 30 (v := ?vd30) rfl (by kernel_rfl) (by kernel_rfl) (by kernel_rfl) (fun _ _ _ h => h) (by rfl) ?hyd30 (by assumption) ?_
                case hyd30 => (intro w hSw; (try dsimp only at hSw); go_simp <;> with_reducible rfl)
                (try simp only [Act.put, List.setIfInBounds_toArray, List.set_cons_zero, List.set_cons_succ])
                refine wpAnyH_tk 31 (v := ?vd31) rfl (by kernel_rfl) (by kernel_rfl) (by kernel_rfl) (fun _ _ _ h => h) (by rfl) ?hyd31 (by assumption) ?_
                case hyd31 => (intro w hSw; (try dsimp only at hSw); go_simp <;> with_reducible rfl)
                (try simp only [Act.put, List.setIfInBounds_toArray, List.set_cons_zero, List.set_cons_succ])
                refine wpAnyH_tk 32 (v := ?vd32) rfl (by kernel_rfl) (by kernel_rfl) (by kernel_rfl) (fun _ _ _ h => h) (by rfl) ?hyd32 (by assumption) ?_
                case hyd32 => (intro w hSw; (try dsimp only at hSw); go_simp <;> with_reducible rfl)
                (try simp only [Act.put, List.setIfInBounds_toArray, List.set_cons_zero, List.set_cons_succ])
                refine wpAnyH_tk 33 (v := ?vd33) rfl (by kernel_rfl) (by kernel_rfl) (by kernel_rfl) (fun _ _ _ h => h) (by rfl) ?hyd33 (by assumption) ?_
                case hyd33 => (intro w hSw; (try dsimp only at hSw); go_simp <;> with_reducible rfl)
                (try simp only [Act.put, List.setIfInBounds_toArray, List.set_cons_zero, List.set_cons_succ])
                refine wpAnyH_tk 34 (v := ?vd34) rfl (by kernel_rfl) (by kernel_rfl) (by kernel_rfl) (fun _ _ _ h => h) (by rfl) ?hyd34 (by assumption) ?_
                case hyd34 => (intro w hSw; (try dsimp only at hSw); go_simp <;> with_reducible rfl)
                (try simp only [Act.put, List.setIfInBounds_toArray, List.set_cons_zero, List.set_cons_succ])
                refine wpAnyH_tk 35 (v := ?vd35) rfl (by kernel_rfl) (by kernel_rfl) (by kernel_rfl) (fun _ _ _ h => h) (by rfl) ?hyd35 (by assumption) ?_
                case hyd35 => (intro w hSw; (try dsimp only at hSw); go_simp <;> with_reducible rfl)
                (try simp only [Act.put, List.setIfInBounds_toArray, List.set_cons_zero, List.set_cons_succ])
                refine wpAnyH_tk 36 (v := ?vd36) rfl (by kernel_rfl) (by kernel_rfl) (by kernel_rfl) (fun _ _ _ h => h) (by rfl) ?hyd36 (by assumption) ?_
                case hyd36 => (intro w hSw; (try dsimp only at hSw); go_simp <;> with_reducible rfl)
                (try simp only [Act.put, List.setIfInBounds_toArray, List.set_cons_zero, List.set_cons_succ])
                refine wpAnyH_tk 37 (v := ?vd37) rfl (by kernel_rfl) (by kernel_rfl) (by kernel_rfl) (fun _ _ _ h => h) (by rfl) ?hyd37 (by assumption) ?_
                case hyd37 => (intro w hSw; (try dsimp only at hSw); go_simp <;> with_reducible rfl)
                (try simp only [Act.put, List.setIfInBounds_toArray, List.set_cons_zero, List.set_cons_succ])
                refine wpAnyH_tk 38 (v := ?vd38) rfl (by kernel_rfl) (by kernel_rfl) (by kernel_rfl) (fun _ _ _ h => h) (by rfl) ?hyd38 (by assumption) ?_
                case hyd38 => (intro w hSw; (try dsimp only at hSw); go_simp <;> with_reducible rfl)
                (try simp only [Act.put, List.setIfInBounds_toArray, List.set_cons_zero, List.set_cons_succ])
                refine wpAnyH_tk 39 (v := ?vd39) rfl (by kernel_rfl) (by kernel_rfl) (by kernel_rfl) (fun _ _ _ h => h) (by rfl) ?hyd39 (by assumption) ?_
                case hyd39 => (intro w hSw; (try dsimp only at hSw); go_simp <;> with_reducible rfl)
                (try simp only [Act.put, List.setIfInBounds_toArray, List.set_cons_zero, List.set_cons_succ])
                refine wpAnyH_tk 40 (v := ?vd40) rfl (by kernel_rfl) (by kernel_rfl) (by kernel_rfl) (fun _ _ _ h => h) (by rfl) ?hyd40 (by assumption) ?_
                case hyd40 => (intro w hSw; (try dsimp only at hSw); go_simp <;> with_reducible rfl)
                (try simp only [Act.put, List.setIfInBounds_toArray, List.set_cons_zero, List.set_cons_succ])
                refine wpAnyH_tk 41 (v := ?vd41) rfl (by kernel_rfl) (by kernel_rfl) (by kernel_rfl) (fun _ _ _ h => h) (by rfl) ?hyd41 (by assumption) ?_
                case hyd41 => (intro w hSw; (try dsimp only at hSw); go_simp <;> with_reducible rfl)
                (try simp only [Act.put, List.setIfInBounds_toArray, List.set_cons_zero, List.set_cons_succ])
                refine wpAnyH_tk 42 (v := ?vd42) rfl (by kernel_rfl) (by kernel_rfl) (by kernel_rfl) (fun _ _ _ h => h) (by rfl) ?hyd42 (by assumption) ?_
                case hyd42 => (intro w hSw; (try dsimp only at hSw); go_simp <;> with_reducible rfl)
                (try simp only [Act.put, List.setIfInBounds_toArray, List.set_cons_zero, List.set_cons_succ])
                refine wpAnyH_one 43 rfl (by kernel_rfl) (by rfl) (fun K hK => ?_)
                go_simp
                (refine (Contains_any _ way x _ (OwnI.ints HW2.out (by have := Hlen.out; omega))).mono ?_; rintro e w' ⟨rfl, rfl⟩)
                refine hK.out _ _ ?hSd44 (fun hHeld => ?_)
                case hSd44 => (first | (exact HALL.out _ HL2.out) | ((try dsimp only); exact HALL.out _ HL2.out))
                clear hK K
                (try simp only [Act.put, List.setIfInBounds_toArray, List.set_cons_zero, List.set_cons_succ])
                refine wpAnyH_tk 44 (v := ?vd44) rfl (by kernel_rfl) (by kernel_rfl) (by kernel_rfl) (fun _ _ _ h => h) (by rfl) ?hyd44 (by assumption) ?_
                case hyd44 => (intro w hSw; (try dsimp only at hSw); go_simp <;> with_reducible rfl)
                (try simp only [Act.put, List.setIfInBounds_toArray, List.set_cons_zero, List.set_cons_succ])
                refine wpAnyH_tk 45 (v := ?vd45) rfl (by kernel_rfl) (by kernel_rfl) (by kernel_rfl) (fun _ _ _ h => h) (by rfl) ?hyd45 (by assumption) ?_
                case hyd45 => (intro w hSw; (try dsimp only at hSw); go_simp <;> with_reducible rfl)
                (try simp only [Act.put, List.setIfInBounds_toArray, List.set_cons_zero, List.set_cons_succ])
                refine wpAnyH_tk 46 (v := ?vd46) rfl (by kernel_rfl) (by kernel_rfl) (by kernel_rfl) (fun _ _ _ h => h) (by rfl) ?hyd46 (by assumption) ?_
                case hyd46 => (intro w hSw; (try dsimp only at hSw); go_simp <;> with_reducible rfl)
                (try simp only [Act.put, List.setIfInBounds_toArray, List.set_cons_zero, List.set_cons_succ])
                refine wpAnyH_skips 46 true 82 1 (by kernel_rfl) rfl (fun _ _ _ _ _ h => h) [47, 48, 49, 50, 51, 52, 53, 54, 55, 56, 57, 58, 59, 60, 61, 62] [83, 84, 85, 86, 87, 88, 89, 90, 91, 92, 93, 94, 95, 96, 97, 98] _ _ _ rfl (by kernel_rfl) (by rfl) (by assumption) ?_
                (try simp only [putsAll, List.foldl, Act.put, List.setIfInBounds_toArray, List.set_cons_zero, List.set_cons_succ])
                refine wpAnyH_tk 63 (v := ?vd63) rfl (by kernel_rfl) (by kernel_rfl) (by kernel_rfl) (fun _ _ _ h => h) (by rfl) ?hyd63 (by assumption) ?_
                case hyd63 => (intro w hSw; (try dsimp only at hSw); go_simp <;> with_reducible rfl)
                (try simp only [Act.put, List.setIfInBounds_toArray, List.set_cons_zero, List.set_cons_succ])
                refine wpAnyH_done (by kernel_rfl) ?_ _
                clear e1b e2b e3b e4b z1 z2
                go_wp2
                go_roundg (gk - 1)
                case rel => exact ⟨x + 1, by have := Hx.out; omega, by go_num, HNO.out, HFR.out, HW2.out, HL2.out⟩
                case measure => have := Hx.out; omega
              · have e4b : hasI way x = false := by unfold hasI; rw [Bool.eq_false_iff, ne_eq, List.contains_iff_mem]; exact e4
                have hF : Hid (growF c d N b tot f way last cost x = growP c d N b tot f (way ++ [(x : Int)]) x (cost + c last x)) := by show _ = _; unfold growF; rw [if_pos ⟨HX1.out, HX2.out, HX3.out, e4⟩]
                have HLE := hid (show 0 ≤ cost + c last x ∧ cost + c last x ≤ far by have h1 := HX3.out; have h2 := Htot.out; unfold far; omega)
                have HNO := hid NO.out
                clear e4
                go_wp2
                refine wp_region_held_drew (S := (fun w' => (w'.cell? ⟨pc, 0, none⟩ = some (.slice (some ⟨bC, oC, none⟩) N cpc) ∧ w'.cell? ⟨bC, oC + last, none⟩ = some (.slice (some ⟨rC, oRC, none⟩) N crc) ∧ w'.cell? ⟨rC, oRC + x, none⟩ = some (.int .i64 (c last x)) ∧ w'.cell? ⟨pd, 0, none⟩ = some (.slice (some ⟨bD, oD, none⟩) N cpd) ∧ w'.cell? ⟨bD, oD + x, none⟩ = some (.slice (some ⟨rD, oRD, none⟩) N crd) ∧ w'.cell? ⟨rD, oRD + b, none⟩ = some (.int .i64 (d x b)) ∧ w'.cell? ⟨bD, oD + a, none⟩ = some (.slice (some ⟨rA, oRA, none⟩) N cra) ∧ w'.cell? ⟨rA, oRA + b, none⟩ = some (.int .i64 (d a b)) ∧ w'.cell? ⟨pb, 0, none⟩ = some (.int .i64 b) ∧ w'.cell? ⟨pa, 0, none⟩ = some (.int .i64 a) ∧ w'.cell? ⟨bf + 1, 0, none⟩ = some (.func (.func 54) #[] #[.pointer (some ⟨bf, 0, none⟩), .pointer (some ⟨pb, 0, none⟩), .pointer (some ⟨pm, 0, none⟩), .pointer (some ⟨pc, 0, none⟩), .pointer (some ⟨pd, 0, none⟩), .pointer (some ⟨pa, 0, none⟩), .pointer (some ⟨bf + 1, 0, none⟩)])))) (by kernel_rfl) ?hSe0 (fun hHeld => ?_)
                case hSe0 => (first | (exact HALL.out _ HL2.out) | ((try dsimp only); exact HALL.out _ HL2.out))
                refine wpAnyH_tk 0 (v := ?ve0) rfl (by kernel_rfl) (by kernel_rfl) (by kernel_rfl) (fun _ _ _ h => h) (by rfl) ?hye0 (by assumption) ?_
                case hye0 => (intro w hSw; (try dsimp only at hSw); go_simp <;> with_reducible rfl)
                (try simp only [Act.put, List.setIfInBounds_toArray, List.set_cons_zero, List.set_cons_succ])
                refine wpAnyH_tk 1 (v := ?ve1) rfl (by kernel_rfl) (by kernel_rfl) (by kernel_rfl) (fun _ _ _ h => h) (by rfl) ?hye1 (by assumption) ?_
                case hye1 => (intro w hSw; (try dsimp only at hSw); go_simp <;> with_reducible rfl)
                (try simp only [Act.put, List.setIfInBounds_toArray, List.set_cons_zero, List.set_cons_succ])
                refine wpAnyH_tk 2 (v := ?ve2) rfl (by kernel_rfl) (by kernel_rfl) (by kernel_rfl) (fun _ _ _ h => h) (by rfl) ?hye2 (by assumption) ?_
                case hye2 => (intro w hSw; (try dsimp only at hSw); go_simp <;> with_reducible rfl)
                (try simp only [Act.put, List.setIfInBounds_toArray, List.set_cons_zero, List.set_cons_succ])
                refine wpAnyH_tk 3 (v := ?ve3) rfl (by kernel_rfl) (by kernel_rfl) (by kernel_rfl) (fun _ _ _ h => h) (by rfl) ?hye3 (by assumption) ?_
                case hye3 => (intro w hSw; (try dsimp only at hSw); go_simp <;> with_reducible rfl)
                (try simp only [Act.put, List.setIfInBounds_toArray, List.set_cons_zero, List.set_cons_succ])
                refine wpAnyH_tk 4 (v := ?ve4) rfl (by kernel_rfl) (by kernel_rfl) (by kernel_rfl) (fun _ _ _ h => h) (by rfl) ?hye4 (by assumption) ?_
                case hye4 => (intro w hSw; (try dsimp only at hSw); go_simp <;> with_reducible rfl)
                (try simp only [Act.put, List.setIfInBounds_toArray, List.set_cons_zero, List.set_cons_succ])
                refine wpAnyH_tk 5 (v := ?ve5) rfl (by kernel_rfl) (by kernel_rfl) (by kernel_rfl) (fun _ _ _ h => h) (by rfl) ?hye5 (by assumption) ?_
                case hye5 => (intro w hSw; (try dsimp only at hSw); go_simp <;> with_reducible rfl)
                (try simp only [Act.put, List.setIfInBounds_toArray, List.set_cons_zero, List.set_cons_succ])
                refine wpAnyH_tk 6 (v := ?ve6) rfl (by kernel_rfl) (by kernel_rfl) (by kernel_rfl) (fun _ _ _ h => h) (by rfl) ?hye6 (by assumption) ?_
                case hye6 => (intro w hSw; (try dsimp only at hSw); go_simp <;> with_reducible rfl)
                (try simp only [Act.put, List.setIfInBounds_toArray, List.set_cons_zero, List.set_cons_succ])
                refine wpAnyH_tk 7 (v := ?ve7) rfl (by kernel_rfl) (by kernel_rfl) (by kernel_rfl) (fun _ _ _ h => h) (by rfl) ?hye7 (by assumption) ?_
                case hye7 => (intro w hSw; (try dsimp only at hSw); go_simp <;> with_reducible rfl)
                (try simp only [Act.put, List.setIfInBounds_toArray, List.set_cons_zero, List.set_cons_succ])
                refine wpAnyH_tk 8 (v := ?ve8) rfl (by kernel_rfl) (by kernel_rfl) (by kernel_rfl) (fun _ _ _ h => h) (by rfl) ?hye8 (by assumption) ?_
                case hye8 => (intro w hSw; (try dsimp only at hSw); go_simp <;> with_reducible rfl)
                (try simp only [Act.put, List.setIfInBounds_toArray, List.set_cons_zero, List.set_cons_succ])
                refine wpAnyH_tk 9 (v := ?ve9) rfl (by kernel_rfl) (by kernel_rfl) (by kernel_rfl) (fun _ _ _ h => h) (by rfl) ?hye9 (by assumption) ?_
                case hye9 => (intro w hSw; (try dsimp only at hSw); go_simp <;> with_reducible rfl)
                (try simp only [Act.put, List.setIfInBounds_toArray, List.set_cons_zero, List.set_cons_succ])
                refine wpAnyH_tk 10 (v := ?ve10) rfl (by kernel_rfl) (by kernel_rfl) (by kernel_rfl) (fun _ _ _ h => h) (by rfl) ?hye10 (by assumption) ?_
                case hye10 => (intro w hSw; (try dsimp only at hSw); go_simp <;> with_reducible rfl)
                (try simp only [Act.put, List.setIfInBounds_toArray, List.set_cons_zero, List.set_cons_succ])
                refine wpAnyH_tk 11 (v := ?ve11) rfl (by kernel_rfl) (by kernel_rfl) (by kernel_rfl) (fun _ _ _ h => h) (by rfl) ?hye11 (by assumption) ?_
                case hye11 => (intro w hSw; (try dsimp only at hSw); go_simp <;> with_reducible rfl)
                (try simp only [Act.put, List.setIfInBounds_toArray, List.set_cons_zero, List.set_cons_succ])
                refine wpAnyH_tk 12 (v := ?ve12) rfl (by kernel_rfl) (by kernel_rfl) (by kernel_rfl) (fun _ _ _ h => h) (by rfl) ?hye12 (by assumption) ?_
                case hye12 => (intro w hSw; (try dsimp only at hSw); go_simp <;> with_reducible rfl)
                (try simp only [Act.put, List.setIfInBounds_toArray, List.set_cons_zero, List.set_cons_succ])
                refine wpAnyH_tk 13 (v := ?ve13) rfl (by kernel_rfl) (by kernel_rfl) (by kernel_rfl) (fun _ _ _ h => h) (by rfl) ?hye13 (by assumption) ?_
                case hye13 => (intro w hSw; (try dsimp only at hSw); go_simp <;> with_reducible rfl)
                (try simp only [Act.put, List.setIfInBounds_toArray, List.set_cons_zero, List.set_cons_succ])
                refine wpAnyH_tk 14 (v := ?ve14) rfl (by kernel_rfl) (by kernel_rfl) (by kernel_rfl) (fun _ _ _ h => h) (by rfl) ?hye14 (by assumption) ?_
                case hye14 => (intro w hSw; (try dsimp only at hSw); go_simp <;> with_reducible rfl)
                (try simp only [Act.put, List.setIfInBounds_toArray, List.set_cons_zero, List.set_cons_succ])
                refine wpAnyH_tk 15 (v := ?ve15) rfl (by kernel_rfl) (by kernel_rfl) (by kernel_rfl) (fun _ _ _ h => h) (by rfl) ?hye15 (by assumption) ?_
                case hye15 => (intro w hSw; (try dsimp only at hSw); go_simp <;> with_reducible rfl)
                (try simp only [Act.put, List.setIfInBounds_toArray, List.set_cons_zero, List.set_cons_succ])
                refine wpAnyH_tk 16 (v := ?ve16) rfl (by kernel_rfl) (by kernel_rfl) (by kernel_rfl) (fun _ _ _ h => h) (by rfl) ?hye16 (by assumption) ?_
                case hye16 => (intro w hSw; (try dsimp only at hSw); go_simp <;> with_reducible rfl)
                (try simp only [Act.put, List.setIfInBounds_toArray, List.set_cons_zero, List.set_cons_succ])
                refine wpAnyH_tk 17 (v := ?ve17) rfl (by kernel_rfl) (by kernel_rfl) (by kernel_rfl) (fun _ _ _ h => h) (by rfl) ?hye17 (by assumption) ?_
                case hye17 => (intro w hSw; (try dsimp only at hSw); go_simp <;> with_reducible rfl)
                (try simp only [Act.put, List.setIfInBounds_toArray, List.set_cons_zero, List.set_cons_succ])
                refine wpAnyH_tk 18 (v := ?ve18) rfl (by kernel_rfl) (by kernel_rfl) (by kernel_rfl) (fun _ _ _ h => h) (by rfl) ?hye18 (by assumption) ?_
                case hye18 => (intro w hSw; (try dsimp only at hSw); go_simp <;> with_reducible rfl)
                (try simp only [Act.put, List.setIfInBounds_toArray, List.set_cons_zero, List.set_cons_succ])
                refine wpAnyH_tk 19 (v := ?ve19) rfl (by kernel_rfl) (by kernel_rfl) (by kernel_rfl) (fun _ _ _ h => h) (by rfl) ?hye19 (by assumption) ?_
                case hye19 => (intro w hSw; (try dsimp only at hSw); go_simp <;> with_reducible rfl)
                (try simp only [Act.put, List.setIfInBounds_toArray, List.set_cons_zero, List.set_cons_succ])
                refine wpAnyH_tk 20 (v := ?ve20) rfl (by kernel_rfl) (by kernel_rfl) (by kernel_rfl) (fun _ _ _ h => h) (by rfl) ?hye20 (by assumption) ?_
                case hye20 => (intro w hSw; (try dsimp only at hSw); go_simp <;> with_reducible rfl)
                (try simp only [Act.put, List.setIfInBounds_toArray, List.set_cons_zero, List.set_cons_succ])
                refine wpAnyH_tk 21 (v := ?ve21) rfl (by kernel_rfl) (by kernel_rfl) (by kernel_rfl) (fun _ _ _ h => h) (by rfl) ?hye21 (by assumption) ?_
                case hye21 => (intro w hSw; (try dsimp only at hSw); go_simp <;> with_reducible rfl)
                (try simp only [Act.put, List.setIfInBounds_toArray, List.set_cons_zero, List.set_cons_succ])
                refine wpAnyH_tk 22 (v := ?ve22) rfl (by kernel_rfl) (by kernel_rfl) (by kernel_rfl) (fun _ _ _ h => h) (by rfl) ?hye22 (by assumption) ?_
                case hye22 => (intro w hSw; (try dsimp only at hSw); go_simp <;> with_reducible rfl)
                (try simp only [Act.put, List.setIfInBounds_toArray, List.set_cons_zero, List.set_cons_succ])
                refine wpAnyH_tk 23 (v := ?ve23) rfl (by kernel_rfl) (by kernel_rfl) (by kernel_rfl) (fun _ _ _ h => h) (by rfl) ?hye23 (by assumption) ?_
                case hye23 => (intro w hSw; (try dsimp only at hSw); go_simp <;> with_reducible rfl)
                (try simp only [Act.put, List.setIfInBounds_toArray, List.set_cons_zero, List.set_cons_succ])
                refine wpAnyH_tk 24 (v := ?ve24) rfl (by kernel_rfl) (by kernel_rfl) (by kernel_rfl) (fun _ _ _ h => h) (by rfl) ?hye24 (by assumption) ?_
                case hye24 => (intro w hSw; (try dsimp only at hSw); go_simp <;> with_reducible rfl)
                (try simp only [Act.put, List.setIfInBounds_toArray, List.set_cons_zero, List.set_cons_succ])
                refine wpAnyH_tk 25 (v := ?ve25) rfl (by kernel_rfl) (by kernel_rfl) (by kernel_rfl) (fun _ _ _ h => h) (by rfl) ?hye25 (by assumption) ?_
                case hye25 => (intro w hSw; (try dsimp only at hSw); go_simp <;> with_reducible rfl)
                (try simp only [Act.put, List.setIfInBounds_toArray, List.set_cons_zero, List.set_cons_succ])
                refine wpAnyH_tk 26 (v := ?ve26) rfl (by kernel_rfl) (by kernel_rfl) (by kernel_rfl) (fun _ _ _ h => h) (by rfl) ?hye26 (by assumption) ?_
                case hye26 => (intro w hSw; (try dsimp only at hSw); go_simp <;> with_reducible rfl)
                (try simp only [Act.put, List.setIfInBounds_toArray, List.set_cons_zero, List.set_cons_succ])
                refine wpAnyH_tk 27 (v := ?ve27) rfl (by kernel_rfl) (by kernel_rfl) (by kernel_rfl) (fun _ _ _ h => h) (by rfl) ?hye27 (by assumption) ?_
                case hye27 => (intro w hSw; (try dsimp only at hSw); go_simp <;> with_reducible rfl)
                (try simp only [Act.put, List.setIfInBounds_toArray, List.set_cons_zero, List.set_cons_succ])
                refine wpAnyH_tk 28 (v := ?ve28) rfl (by kernel_rfl) (by kernel_rfl) (by kernel_rfl) (fun _ _ _ h => h) (by rfl) ?hye28 (by assumption) ?_
                case hye28 => (intro w hSw; (try dsimp only at hSw); go_simp <;> with_reducible rfl)
                (try simp only [Act.put, List.setIfInBounds_toArray, List.set_cons_zero, List.set_cons_succ])
                refine wpAnyH_tk 29 (v := ?ve29) rfl (by kernel_rfl) (by kernel_rfl) (by kernel_rfl) (fun _ _ _ h => h) (by rfl) ?hye29 (by assumption) ?_
                case hye29 => (intro w hSw; (try dsimp only at hSw); go_simp <;> with_reducible rfl)
                (try simp only [Act.put, List.setIfInBounds_toArray, List.set_cons_zero, List.set_cons_succ])
                refine wpAnyH_tk 30 (v := ?ve30) rfl (by kernel_rfl) (by kernel_rfl) (by kernel_rfl) (fun _ _ _ h => h) (by rfl) ?hye30 (by assumption) ?_
                case hye30 => (intro w hSw; (try dsimp only at hSw); go_simp <;> with_reducible rfl)
                (try simp only [Act.put, List.setIfInBounds_toArray, List.set_cons_zero, List.set_cons_succ])
                refine wpAnyH_tk 31 (v := ?ve31) rfl (by kernel_rfl) (by kernel_rfl) (by kernel_rfl) (fun _ _ _ h => h) (by rfl) ?hye31 (by assumption) ?_
                case hye31 => (intro w hSw; (try dsimp only at hSw); go_simp <;> with_reducible rfl)
                (try simp only [Act.put, List.setIfInBounds_toArray, List.set_cons_zero, List.set_cons_succ])
                refine wpAnyH_tk 32 (v := ?ve32) rfl (by kernel_rfl) (by kernel_rfl) (by kernel_rfl) (fun _ _ _ h => h) (by rfl) ?hye32 (by assumption) ?_
                case hye32 => (intro w hSw; (try dsimp only at hSw); go_simp <;> with_reducible rfl)
                (try simp only [Act.put, List.setIfInBounds_toArray, List.set_cons_zero, List.set_cons_succ])
                refine wpAnyH_tk 33 (v := ?ve33) rfl (by kernel_rfl) (by kernel_rfl) (by kernel_rfl) (fun _ _ _ h => h) (by rfl) ?hye33 (by assumption) ?_
                case hye33 => (intro w hSw; (try dsimp only at hSw); go_simp <;> with_reducible rfl)
                (try simp only [Act.put, List.setIfInBounds_toArray, List.set_cons_zero, List.set_cons_succ])
                refine wpAnyH_tk 34 (v := ?ve34) rfl (by kernel_rfl) (by kernel_rfl) (by kernel_rfl) (fun _ _ _ h => h) (by rfl) ?hye34 (by assumption) ?_
                case hye34 => (intro w hSw; (try dsimp only at hSw); go_simp <;> with_reducible rfl)
                (try simp only [Act.put, List.setIfInBounds_toArray, List.set_cons_zero, List.set_cons_succ])
                refine wpAnyH_tk 35 (v := ?ve35) rfl (by kernel_rfl) (by kernel_rfl) (by kernel_rfl) (fun _ _ _ h => h) (by rfl) ?hye35 (by assumption) ?_
                case hye35 => (intro w hSw; (try dsimp only at hSw); go_simp <;> with_reducible rfl)
                (try simp only [Act.put, List.setIfInBounds_toArray, List.set_cons_zero, List.set_cons_succ])
                refine wpAnyH_tk 36 (v := ?ve36) rfl (by kernel_rfl) (by kernel_rfl) (by kernel_rfl) (fun _ _ _ h => h) (by rfl) ?hye36 (by assumption) ?_
                case hye36 => (intro w hSw; (try dsimp only at hSw); go_simp <;> with_reducible rfl)
                (try simp only [Act.put, List.setIfInBounds_toArray, List.set_cons_zero, List.set_cons_succ])
                refine wpAnyH_tk 37 (v := ?ve37) rfl (by kernel_rfl) (by kernel_rfl) (by kernel_rfl) (fun _ _ _ h => h) (by rfl) ?hye37 (by assumption) ?_
                case hye37 => (intro w hSw; (try dsimp only at hSw); go_simp <;> with_reducible rfl)
                (try simp only [Act.put, List.setIfInBounds_toArray, List.set_cons_zero, List.set_cons_succ])
                refine wpAnyH_tk 38 (v := ?ve38) rfl (by kernel_rfl) (by kernel_rfl) (by kernel_rfl) (fun _ _ _ h => h) (by rfl) ?hye38 (by assumption) ?_
                case hye38 => (intro w hSw; (try dsimp only at hSw); go_simp <;> with_reducible rfl)
                (try simp only [Act.put, List.setIfInBounds_toArray, List.set_cons_zero, List.set_cons_succ])
                refine wpAnyH_tk 39 (v := ?ve39) rfl (by kernel_rfl) (by kernel_rfl) (by kernel_rfl) (fun _ _ _ h => h) (by rfl) ?hye39 (by assumption) ?_
                case hye39 => (intro w hSw; (try dsimp only at hSw); go_simp <;> with_reducible rfl)
                (try simp only [Act.put, List.setIfInBounds_toArray, List.set_cons_zero, List.set_cons_succ])
                refine wpAnyH_tk 40 (v := ?ve40) rfl (by kernel_rfl) (by kernel_rfl) (by kernel_rfl) (fun _ _ _ h => h) (by rfl) ?hye40 (by assumption) ?_
                case hye40 => (intro w hSw; (try dsimp only at hSw); go_simp <;> with_reducible rfl)
                (try simp only [Act.put, List.setIfInBounds_toArray, List.set_cons_zero, List.set_cons_succ])
                refine wpAnyH_tk 41 (v := ?ve41) rfl (by kernel_rfl) (by kernel_rfl) (by kernel_rfl) (fun _ _ _ h => h) (by rfl) ?hye41 (by assumption) ?_
                case hye41 => (intro w hSw; (try dsimp only at hSw); go_simp <;> with_reducible rfl)
                (try simp only [Act.put, List.setIfInBounds_toArray, List.set_cons_zero, List.set_cons_succ])
                refine wpAnyH_tk 42 (v := ?ve42) rfl (by kernel_rfl) (by kernel_rfl) (by kernel_rfl) (fun _ _ _ h => h) (by rfl) ?hye42 (by assumption) ?_
                case hye42 => (intro w hSw; (try dsimp only at hSw); go_simp <;> with_reducible rfl)
                (try simp only [Act.put, List.setIfInBounds_toArray, List.set_cons_zero, List.set_cons_succ])
                refine wpAnyH_one 43 rfl (by kernel_rfl) (by rfl) (fun K hK => ?_)
                go_simp
                (refine (Contains_any _ way x _ (OwnI.ints HW2.out (by have := Hlen.out; omega))).mono ?_; rintro e w' ⟨rfl, rfl⟩)
                refine hK.out _ _ ?hSe44 (fun hHeld => ?_)
                case hSe44 => (first | (exact HALL.out _ HL2.out) | ((try dsimp only); exact HALL.out _ HL2.out))
                clear hK K
                (try simp only [Act.put, List.setIfInBounds_toArray, List.set_cons_zero, List.set_cons_succ])
                refine wpAnyH_tk 44 (v := ?ve44) rfl (by kernel_rfl) (by kernel_rfl) (by kernel_rfl) (fun _ _ _ h => h) (by rfl) ?hye44 (by assumption) ?_
                case hye44 => (intro w hSw; (try dsimp only at hSw); go_simp <;> with_reducible rfl)
                (try simp only [Act.put, List.setIfInBounds_toArray, List.set_cons_zero, List.set_cons_succ])
                refine wpAnyH_tk 45 (v := ?ve45) rfl (by kernel_rfl) (by kernel_rfl) (by kernel_rfl) (fun _ _ _ h => h) (by rfl) ?hye45 (by assumption) ?_
                case hye45 => (intro w hSw; (try dsimp only at hSw); go_simp <;> with_reducible rfl)
                (try simp only [Act.put, List.setIfInBounds_toArray, List.set_cons_zero, List.set_cons_succ])
                refine wpAnyH_tk 46 (v := ?ve46) rfl (by kernel_rfl) (by kernel_rfl) (by kernel_rfl) (fun _ _ _ h => h) (by rfl) ?hye46 (by assumption) ?_
                case hye46 => (intro w hSw; (try dsimp only at hSw); go_simp <;> with_reducible rfl)
                (try simp only [Act.put, List.setIfInBounds_toArray, List.set_cons_zero, List.set_cons_succ])
                refine wpAnyH_tk 47 (v := ?ve47) rfl (by kernel_rfl) (by kernel_rfl) (by kernel_rfl) (fun _ _ _ h => h) (by rfl) ?hye47 (by assumption) ?_
                case hye47 => (intro w hSw; (try dsimp only at hSw); go_simp <;> with_reducible rfl)
                (try simp only [Act.put, List.setIfInBounds_toArray, List.set_cons_zero, List.set_cons_succ])
                refine wpAnyH_tk 48 (v := ?ve48) rfl (by kernel_rfl) (by kernel_rfl) (by kernel_rfl) (fun _ _ _ h => h) (by rfl) ?hye48 (by assumption) ?_
                case hye48 => (intro w hSw; (try dsimp only at hSw); go_simp <;> with_reducible rfl)
                (try simp only [Act.put, List.setIfInBounds_toArray, List.set_cons_zero, List.set_cons_succ])
                refine wpAnyH_tk 49 (v := ?ve49) rfl (by kernel_rfl) (by kernel_rfl) (by kernel_rfl) (fun _ _ _ h => h) (by rfl) ?hye49 (by assumption) ?_
                case hye49 => (intro w hSw; (try dsimp only at hSw); go_simp <;> with_reducible rfl)
                (try simp only [Act.put, List.setIfInBounds_toArray, List.set_cons_zero, List.set_cons_succ])
                refine wpAnyH_tk 52 (v := ?ve52) rfl (by kernel_rfl) (by kernel_rfl) (by kernel_rfl) (fun _ _ _ h => h) (by rfl) ?hye52 (by assumption) ?_
                case hye52 => (intro w hSw; (try dsimp only at hSw); go_simp <;> with_reducible rfl)
                (try simp only [Act.put, List.setIfInBounds_toArray, List.set_cons_zero, List.set_cons_succ])
                refine wpAnyH_tk 53 (v := ?ve53) rfl (by kernel_rfl) (by kernel_rfl) (by kernel_rfl) (fun _ _ _ h => h) (by rfl) ?hye53 (by assumption) ?_
                case hye53 => (intro w hSw; (try dsimp only at hSw); go_simp <;> with_reducible rfl)
                (try simp only [Act.put, List.setIfInBounds_toArray, List.set_cons_zero, List.set_cons_succ])
                refine wpAnyH_tk 54 (v := ?ve54) rfl (by kernel_rfl) (by kernel_rfl) (by kernel_rfl) (fun _ _ _ h => h) (by rfl) ?hye54 (by assumption) ?_
                case hye54 => (intro w hSw; (try dsimp only at hSw); go_simp <;> with_reducible rfl)
                (try simp only [Act.put, List.setIfInBounds_toArray, List.set_cons_zero, List.set_cons_succ])
                refine wpAnyH_tk 55 (v := ?ve55) rfl (by kernel_rfl) (by kernel_rfl) (by kernel_rfl) (fun _ _ _ h => h) (by rfl) ?hye55 (by assumption) ?_
                case hye55 => (intro w hSw; (try dsimp only at hSw); go_simp <;> with_reducible rfl)
                (try simp only [Act.put, List.setIfInBounds_toArray, List.set_cons_zero, List.set_cons_succ])
                refine wpAnyH_tk 56 (v := ?ve56) rfl (by kernel_rfl) (by kernel_rfl) (by kernel_rfl) (fun _ _ _ h => h) (by rfl) ?hye56 (by assumption) ?_
                case hye56 => (intro w hSw; (try dsimp only at hSw); go_simp <;> with_reducible rfl)
                (try simp only [Act.put, List.setIfInBounds_toArray, List.set_cons_zero, List.set_cons_succ])
                refine wpAnyH_tk 57 (v := ?ve57) rfl (by kernel_rfl) (by kernel_rfl) (by kernel_rfl) (fun _ _ _ h => h) (by rfl) ?hye57 (by assumption) ?_
                case hye57 => (intro w hSw; (try dsimp only at hSw); go_simp <;> with_reducible rfl)
                (try simp only [Act.put, List.setIfInBounds_toArray, List.set_cons_zero, List.set_cons_succ])
                refine wpAnyH_tk 58 (v := ?ve58) rfl (by kernel_rfl) (by kernel_rfl) (by kernel_rfl) (fun _ _ _ h => h) (by rfl) ?hye58 (by assumption) ?_
                case hye58 => (intro w hSw; (try dsimp only at hSw); go_simp <;> with_reducible rfl)
                (try simp only [Act.put, List.setIfInBounds_toArray, List.set_cons_zero, List.set_cons_succ])
                refine wpAnyH_tk 59 (v := ?ve59) rfl (by kernel_rfl) (by kernel_rfl) (by kernel_rfl) (fun _ _ _ h => h) (by rfl) ?hye59 (by assumption) ?_
                case hye59 => (intro w hSw; (try dsimp only at hSw); go_simp <;> with_reducible rfl)
                (try simp only [Act.put, List.setIfInBounds_toArray, List.set_cons_zero, List.set_cons_succ])
                refine wpAnyH_tk 60 (v := ?ve60) rfl (by kernel_rfl) (by kernel_rfl) (by kernel_rfl) (fun _ _ _ h => h) (by rfl) ?hye60 (by assumption) ?_
                case hye60 => (intro w hSw; (try dsimp only at hSw); go_simp <;> with_reducible rfl)
                (try simp only [Act.put, List.setIfInBounds_toArray, List.set_cons_zero, List.set_cons_succ])
                refine wpAnyH_tk 61 (v := ?ve61) rfl (by kernel_rfl) (by kernel_rfl) (by kernel_rfl) (fun _ _ _ h => h) (by rfl) ?hye61 (by assumption) ?_
                case hye61 => (intro w hSw; (try dsimp only at hSw); go_simp <;> with_reducible rfl)
                (try simp only [Act.put, List.setIfInBounds_toArray, List.set_cons_zero, List.set_cons_succ])
                refine wpAnyH_one 50 rfl (by kernel_rfl) (by rfl) (fun K hK => ?_)
                go_simp
                refine hK.out _ _ ?hSe51 (fun hHeld => ?_)
                case hSe51 => (first | (exact HALL.out _ (HL2.out.ext (Ext.ofAlloc _ _))) | ((try dsimp only); exact HALL.out _ (HL2.out.ext (Ext.ofAlloc _ _))))
                clear hK K
                (try simp only [Act.put, List.setIfInBounds_toArray, List.set_cons_zero, List.set_cons_succ])
                refine wpAnyH_one 51 rfl (by kernel_rfl) (by rfl) (fun K hK => ?_)
                ((refine wp_append_way2 _ _ rfl bf gw way.length cap way rfl rfl (HL2.out.ext (Ext.ofAlloc _ _)).sz (ownsRow_ext HW2.out (Ext.ofAlloc _ _)) _ (x : Int) rfl (by simp) (by have := Hlen.out; omega) ?_; intro v' w5 hO5 hF5 hB5 hG5; have HL5 := hid (Live.fr (HL2.out.ext (Ext.ofAlloc _ _)) hF5 (fun k hk => by simp at hk; omega) (by obtain ⟨u, hu⟩ := (HL2.out.ext (Ext.ofAlloc _ _)).cf; exact ⟨u, hB5.trans hu⟩)); have HO5 := hid hO5; have HG5 := hid hG5; clear hO5 hF5 hB5 hG5))
                refine hK.out _ _ ?hSe52 (fun hHeld => ?_)
                case hSe52 => (first | (exact HALL.out _ HL5.out) | ((try dsimp only); exact HALL.out _ HL5.out))
                clear hK K
                (try simp only [Act.put, List.setIfInBounds_toArray, List.set_cons_zero, List.set_cons_succ])
                refine wpAnyH_one 62 rfl (by kernel_rfl) (by rfl) (fun K hK => ?_)
                go_simp
                ((refine (IH.out _ _ _ x HL5.out HO5.out hlt HLE.out.1 HLE.out.2).mono ?_; rintro e w6 ⟨rfl, hF6, hO6, hU6⟩; have HL6 := hid (Live.fr HL5.out hF6 (fun k hk => (OwnI.lt HO5.out k hk).1) (by obtain ⟨u, hu, -⟩ := hU6; exact ⟨u, hu⟩)); have HFR6 := hid ((HFR.out.trans (Fr.ofExt (Ext.ofAlloc _ _)) (.inl rfl)).trans (HG5.out _ hF6 hO6).1 (.inl rfl)); have HW6 := hid (HG5.out _ hF6 hO6).2; have HU6 := hid hU6; obtain ⟨bb, hbb⟩ : ∃ bb, (growP c d N b tot f (way ++ [(x : Int)]) x (cost + c last x)).isSome = bb := ⟨_, rfl⟩; rw [hbb]; have Hbb := hid hbb; clear hF6 hO6 hU6 hbb))
                refine hK.out _ _ ?hSe63 (fun hHeld => ?_)
                case hSe63 => (first | (exact HALL.out _ HL6.out) | ((try dsimp only); exact HALL.out _ HL6.out))
                clear hK K
                (try simp only [Act.put, List.setIfInBounds_toArray, List.set_cons_zero, List.set_cons_succ])
                refine wpAnyH_tk 63 (v := ?ve63) rfl (by kernel_rfl) (by kernel_rfl) (by kernel_rfl) (fun _ _ _ h => h) (by rfl) ?hye63 (by assumption) ?_
                case hye63 => (intro w hSw; (try dsimp only at hSw); go_simp <;> with_reducible rfl)
                (try simp only [Act.put, List.setIfInBounds_toArray, List.set_cons_zero, List.set_cons_succ])
                refine wpAnyH_done (by kernel_rfl) ?_ _
                clear e1b e2b e3b e4b z1 z2
                cases bb
                · have hno := find_none HNO.out (hF.out.trans (by have h := Hbb.out; simpa using h))
                  have HN2 := hid hno
                  clear hno
                  go_wp2
                  go_roundg (gk - 1)
                  case rel => exact ⟨x + 1, by have := Hx.out; omega, by go_num, HN2.out, HFR6.out, HW6.out, HL6.out⟩
                  case measure => have := Hx.out; omega
                · obtain ⟨r, hr⟩ := Option.isSome_iff_exists.1 Hbb.out
                  have hs := find_first hlt HNO.out (hF.out.trans hr)
                  rw [← growP_succ] at hs
                  have HR := hid hr
                  have HS2 := hid hs
                  clear hr hs
                  obtain ⟨u, hu, hur⟩ := HU6.out
                  have HU := hid hu
                  have HUR := hid (hur r HR.out)
                  clear hu hur
                  go_wp2
                  go_ret
                  exact ⟨ret_bool (by rw [HS2.out]; rfl), HFR6.out, HW6.out, u, HU.out, fun r' hr' => by rw [HS2.out] at hr'; simp only [Option.some.injEq] at hr'; subst hr'; exact HUR.out⟩
            · have hF : Hid (growF c d N b tot f way last cost x = none) := by show _ = _; unfold growF; rw [if_neg (fun h => e3 h.2.2.1)]
              have HNO := hid (find_none NO.out hF.out)
              have e3b : (cost + c last x + d x b == d a b) = false := by rw [beq_eq_false_iff_ne, ← Htot.out]; exact e3
              clear e3
              go_wp2
              refine wp_region_held_drew (S := (fun w' => (w'.cell? ⟨pc, 0, none⟩ = some (.slice (some ⟨bC, oC, none⟩) N cpc) ∧ w'.cell? ⟨bC, oC + last, none⟩ = some (.slice (some ⟨rC, oRC, none⟩) N crc) ∧ w'.cell? ⟨rC, oRC + x, none⟩ = some (.int .i64 (c last x)) ∧ w'.cell? ⟨pd, 0, none⟩ = some (.slice (some ⟨bD, oD, none⟩) N cpd) ∧ w'.cell? ⟨bD, oD + x, none⟩ = some (.slice (some ⟨rD, oRD, none⟩) N crd) ∧ w'.cell? ⟨rD, oRD + b, none⟩ = some (.int .i64 (d x b)) ∧ w'.cell? ⟨bD, oD + a, none⟩ = some (.slice (some ⟨rA, oRA, none⟩) N cra) ∧ w'.cell? ⟨rA, oRA + b, none⟩ = some (.int .i64 (d a b)) ∧ w'.cell? ⟨pb, 0, none⟩ = some (.int .i64 b) ∧ w'.cell? ⟨pa, 0, none⟩ = some (.int .i64 a) ∧ w'.cell? ⟨bf + 1, 0, none⟩ = some (.func (.func 54) #[] #[.pointer (some ⟨bf, 0, none⟩), .pointer (some ⟨pb, 0, none⟩), .pointer (some ⟨pm, 0, none⟩), .pointer (some ⟨pc, 0, none⟩), .pointer (some ⟨pd, 0, none⟩), .pointer (some ⟨pa, 0, none⟩), .pointer (some ⟨bf + 1, 0, none⟩)])))) (by kernel_rfl) ?hSc0 (fun hHeld => ?_)
              case hSc0 => (first | (exact HALL.out _ HL2.out) | ((try dsimp only); exact HALL.out _ HL2.out))
              refine wpAnyH_tk 0 (v := ?vc0) rfl (by kernel_rfl) (by kernel_rfl) (by kernel_rfl) (fun _ _ _ h => h) (by rfl) ?hyc0 (by assumption) ?_
              case hyc0 => (intro w hSw; (try dsimp only at hSw); go_simp <;> with_reducible rfl)
              (try simp only [Act.put, List.setIfInBounds_toArray, List.set_cons_zero, List.set_cons_succ])
              refine wpAnyH_tk 1 (v := ?vc1) rfl (by kernel_rfl) (by kernel_rfl) (by kernel_rfl) (fun _ _ _ h => h) (by rfl) ?hyc1 (by assumption) ?_
              case hyc1 => (intro w hSw; (try dsimp only at hSw); go_simp <;> with_reducible rfl)
              (try simp only [Act.put, List.setIfInBounds_toArray, List.set_cons_zero, List.set_cons_succ])
              refine wpAnyH_tk 2 (v := ?vc2) rfl (by kernel_rfl) (by kernel_rfl) (by kernel_rfl) (fun _ _ _ h => h) (by rfl) ?hyc2 (by assumption) ?_
              case hyc2 => (intro w hSw; (try dsimp only at hSw); go_simp <;> with_reducible rfl)
              (try simp only [Act.put, List.setIfInBounds_toArray, List.set_cons_zero, List.set_cons_succ])
              refine wpAnyH_tk 3 (v := ?vc3) rfl (by kernel_rfl) (by kernel_rfl) (by kernel_rfl) (fun _ _ _ h => h) (by rfl) ?hyc3 (by assumption) ?_
              case hyc3 => (intro w hSw; (try dsimp only at hSw); go_simp <;> with_reducible rfl)
              (try simp only [Act.put, List.setIfInBounds_toArray, List.set_cons_zero, List.set_cons_succ])
              refine wpAnyH_tk 4 (v := ?vc4) rfl (by kernel_rfl) (by kernel_rfl) (by kernel_rfl) (fun _ _ _ h => h) (by rfl) ?hyc4 (by assumption) ?_
              case hyc4 => (intro w hSw; (try dsimp only at hSw); go_simp <;> with_reducible rfl)
              (try simp only [Act.put, List.setIfInBounds_toArray, List.set_cons_zero, List.set_cons_succ])
              refine wpAnyH_tk 5 (v := ?vc5) rfl (by kernel_rfl) (by kernel_rfl) (by kernel_rfl) (fun _ _ _ h => h) (by rfl) ?hyc5 (by assumption) ?_
              case hyc5 => (intro w hSw; (try dsimp only at hSw); go_simp <;> with_reducible rfl)
              (try simp only [Act.put, List.setIfInBounds_toArray, List.set_cons_zero, List.set_cons_succ])
              refine wpAnyH_tk 6 (v := ?vc6) rfl (by kernel_rfl) (by kernel_rfl) (by kernel_rfl) (fun _ _ _ h => h) (by rfl) ?hyc6 (by assumption) ?_
              case hyc6 => (intro w hSw; (try dsimp only at hSw); go_simp <;> with_reducible rfl)
              (try simp only [Act.put, List.setIfInBounds_toArray, List.set_cons_zero, List.set_cons_succ])
              refine wpAnyH_tk 7 (v := ?vc7) rfl (by kernel_rfl) (by kernel_rfl) (by kernel_rfl) (fun _ _ _ h => h) (by rfl) ?hyc7 (by assumption) ?_
              case hyc7 => (intro w hSw; (try dsimp only at hSw); go_simp <;> with_reducible rfl)
              (try simp only [Act.put, List.setIfInBounds_toArray, List.set_cons_zero, List.set_cons_succ])
              refine wpAnyH_tk 8 (v := ?vc8) rfl (by kernel_rfl) (by kernel_rfl) (by kernel_rfl) (fun _ _ _ h => h) (by rfl) ?hyc8 (by assumption) ?_
              case hyc8 => (intro w hSw; (try dsimp only at hSw); go_simp <;> with_reducible rfl)
              (try simp only [Act.put, List.setIfInBounds_toArray, List.set_cons_zero, List.set_cons_succ])
              refine wpAnyH_tk 9 (v := ?vc9) rfl (by kernel_rfl) (by kernel_rfl) (by kernel_rfl) (fun _ _ _ h => h) (by rfl) ?hyc9 (by assumption) ?_
              case hyc9 => (intro w hSw; (try dsimp only at hSw); go_simp <;> with_reducible rfl)
              (try simp only [Act.put, List.setIfInBounds_toArray, List.set_cons_zero, List.set_cons_succ])
              refine wpAnyH_tk 10 (v := ?vc10) rfl (by kernel_rfl) (by kernel_rfl) (by kernel_rfl) (fun _ _ _ h => h) (by rfl) ?hyc10 (by assumption) ?_
              case hyc10 => (intro w hSw; (try dsimp only at hSw); go_simp <;> with_reducible rfl)
              (try simp only [Act.put, List.setIfInBounds_toArray, List.set_cons_zero, List.set_cons_succ])
              refine wpAnyH_tk 11 (v := ?vc11) rfl (by kernel_rfl) (by kernel_rfl) (by kernel_rfl) (fun _ _ _ h => h) (by rfl) ?hyc11 (by assumption) ?_
              case hyc11 => (intro w hSw; (try dsimp only at hSw); go_simp <;> with_reducible rfl)
              (try simp only [Act.put, List.setIfInBounds_toArray, List.set_cons_zero, List.set_cons_succ])
              refine wpAnyH_tk 12 (v := ?vc12) rfl (by kernel_rfl) (by kernel_rfl) (by kernel_rfl) (fun _ _ _ h => h) (by rfl) ?hyc12 (by assumption) ?_
              case hyc12 => (intro w hSw; (try dsimp only at hSw); go_simp <;> with_reducible rfl)
              (try simp only [Act.put, List.setIfInBounds_toArray, List.set_cons_zero, List.set_cons_succ])
              refine wpAnyH_tk 13 (v := ?vc13) rfl (by kernel_rfl) (by kernel_rfl) (by kernel_rfl) (fun _ _ _ h => h) (by rfl) ?hyc13 (by assumption) ?_
              case hyc13 => (intro w hSw; (try dsimp only at hSw); go_simp <;> with_reducible rfl)
              (try simp only [Act.put, List.setIfInBounds_toArray, List.set_cons_zero, List.set_cons_succ])
              refine wpAnyH_tk 14 (v := ?vc14) rfl (by kernel_rfl) (by kernel_rfl) (by kernel_rfl) (fun _ _ _ h => h) (by rfl) ?hyc14 (by assumption) ?_
              case hyc14 => (intro w hSw; (try dsimp only at hSw); go_simp <;> with_reducible rfl)
              (try simp only [Act.put, List.setIfInBounds_toArray, List.set_cons_zero, List.set_cons_succ])
              refine wpAnyH_tk 15 (v := ?vc15) rfl (by kernel_rfl) (by kernel_rfl) (by kernel_rfl) (fun _ _ _ h => h) (by rfl) ?hyc15 (by assumption) ?_
              case hyc15 => (intro w hSw; (try dsimp only at hSw); go_simp <;> with_reducible rfl)
              (try simp only [Act.put, List.setIfInBounds_toArray, List.set_cons_zero, List.set_cons_succ])
              refine wpAnyH_tk 16 (v := ?vc16) rfl (by kernel_rfl) (by kernel_rfl) (by kernel_rfl) (fun _ _ _ h => h) (by rfl) ?hyc16 (by assumption) ?_
              case hyc16 => (intro w hSw; (try dsimp only at hSw); go_simp <;> with_reducible rfl)
              (try simp only [Act.put, List.setIfInBounds_toArray, List.set_cons_zero, List.set_cons_succ])
              refine wpAnyH_tk 17 (v := ?vc17) rfl (by kernel_rfl) (by kernel_rfl) (by kernel_rfl) (fun _ _ _ h => h) (by rfl) ?hyc17 (by assumption) ?_
              case hyc17 => (intro w hSw; (try dsimp only at hSw); go_simp <;> with_reducible rfl)
              (try simp only [Act.put, List.setIfInBounds_toArray, List.set_cons_zero, List.set_cons_succ])
              refine wpAnyH_tk 18 (v := ?vc18) rfl (by kernel_rfl) (by kernel_rfl) (by kernel_rfl) (fun _ _ _ h => h) (by rfl) ?hyc18 (by assumption) ?_
              case hyc18 => (intro w hSw; (try dsimp only at hSw); go_simp <;> with_reducible rfl)
              (try simp only [Act.put, List.setIfInBounds_toArray, List.set_cons_zero, List.set_cons_succ])
              refine wpAnyH_tk 19 (v := ?vc19) rfl (by kernel_rfl) (by kernel_rfl) (by kernel_rfl) (fun _ _ _ h => h) (by rfl) ?hyc19 (by assumption) ?_
              case hyc19 => (intro w hSw; (try dsimp only at hSw); go_simp <;> with_reducible rfl)
              (try simp only [Act.put, List.setIfInBounds_toArray, List.set_cons_zero, List.set_cons_succ])
              refine wpAnyH_tk 20 (v := ?vc20) rfl (by kernel_rfl) (by kernel_rfl) (by kernel_rfl) (fun _ _ _ h => h) (by rfl) ?hyc20 (by assumption) ?_
              case hyc20 => (intro w hSw; (try dsimp only at hSw); go_simp <;> with_reducible rfl)
              (try simp only [Act.put, List.setIfInBounds_toArray, List.set_cons_zero, List.set_cons_succ])
              refine wpAnyH_tk 21 (v := ?vc21) rfl (by kernel_rfl) (by kernel_rfl) (by kernel_rfl) (fun _ _ _ h => h) (by rfl) ?hyc21 (by assumption) ?_
              case hyc21 => (intro w hSw; (try dsimp only at hSw); go_simp <;> with_reducible rfl)
              (try simp only [Act.put, List.setIfInBounds_toArray, List.set_cons_zero, List.set_cons_succ])
              refine wpAnyH_tk 22 (v := ?vc22) rfl (by kernel_rfl) (by kernel_rfl) (by kernel_rfl) (fun _ _ _ h => h) (by rfl) ?hyc22 (by assumption) ?_
              case hyc22 => (intro w hSw; (try dsimp only at hSw); go_simp <;> with_reducible rfl)
              (try simp only [Act.put, List.setIfInBounds_toArray, List.set_cons_zero, List.set_cons_succ])
              refine wpAnyH_tk 23 (v := ?vc23) rfl (by kernel_rfl) (by kernel_rfl) (by kernel_rfl) (fun _ _ _ h => h) (by rfl) ?hyc23 (by assumption) ?_
              case hyc23 => (intro w hSw; (try dsimp only at hSw); go_simp <;> with_reducible rfl)
              (try simp only [Act.put, List.setIfInBounds_toArray, List.set_cons_zero, List.set_cons_succ])
              refine wpAnyH_tk 24 (v := ?vc24) rfl (by kernel_rfl) (by kernel_rfl) (by kernel_rfl) (fun _ _ _ h => h) (by rfl) ?hyc24 (by assumption) ?_
              case hyc24 => (intro w hSw; (try dsimp only at hSw); go_simp <;> with_reducible rfl)
              (try simp only [Act.put, List.setIfInBounds_toArray, List.set_cons_zero, List.set_cons_succ])
              refine wpAnyH_tk 25 (v := ?vc25) rfl (by kernel_rfl) (by kernel_rfl) (by kernel_rfl) (fun _ _ _ h => h) (by rfl) ?hyc25 (by assumption) ?_
              case hyc25 => (intro w hSw; (try dsimp only at hSw); go_simp <;> with_reducible rfl)
              (try simp only [Act.put, List.setIfInBounds_toArray, List.set_cons_zero, List.set_cons_succ])
              refine wpAnyH_tk 26 (v := ?vc26) rfl (by kernel_rfl) (by kernel_rfl) (by kernel_rfl) (fun _ _ _ h => h) (by rfl) ?hyc26 (by assumption) ?_
              case hyc26 => (intro w hSw; (try dsimp only at hSw); go_simp <;> with_reducible rfl)
              (try simp only [Act.put, List.setIfInBounds_toArray, List.set_cons_zero, List.set_cons_succ])
              refine wpAnyH_tk 27 (v := ?vc27) rfl (by kernel_rfl) (by kernel_rfl) (by kernel_rfl) (fun _ _ _ h => h) (by rfl) ?hyc27 (by assumption) ?_
              case hyc27 => (intro w hSw; (try dsimp only at hSw); go_simp <;> with_reducible rfl)
              (try simp only [Act.put, List.setIfInBounds_toArray, List.set_cons_zero, List.set_cons_succ])
              refine wpAnyH_tk 28 (v := ?vc28) rfl (by kernel_rfl) (by kernel_rfl) (by kernel_rfl) (fun _ _ _ h => h) (by rfl) ?hyc28 (by assumption) ?_
              case hyc28 => (intro w hSw; (try dsimp only at hSw); go_simp <;> with_reducible rfl)
              (try simp only [Act.put, List.setIfInBounds_toArray, List.set_cons_zero, List.set_cons_succ])
              refine wpAnyH_tk 29 (v := ?vc29) rfl (by kernel_rfl) (by kernel_rfl) (by kernel_rfl) (fun _ _ _ h => h) (by rfl) ?hyc29 (by assumption) ?_
              case hyc29 => (intro w hSw; (try dsimp only at hSw); go_simp <;> with_reducible rfl)
              (try simp only [Act.put, List.setIfInBounds_toArray, List.set_cons_zero, List.set_cons_succ])
              refine wpAnyH_tk 30 (v := ?vc30) rfl (by kernel_rfl) (by kernel_rfl) (by kernel_rfl) (fun _ _ _ h => h) (by rfl) ?hyc30 (by assumption) ?_
              case hyc30 => (intro w hSw; (try dsimp only at hSw); go_simp <;> with_reducible rfl)
              (try simp only [Act.put, List.setIfInBounds_toArray, List.set_cons_zero, List.set_cons_succ])
              refine wpAnyH_tk 31 (v := ?vc31) rfl (by kernel_rfl) (by kernel_rfl) (by kernel_rfl) (fun _ _ _ h => h) (by rfl) ?hyc31 (by assumption) ?_
              case hyc31 => (intro w hSw; (try dsimp only at hSw); go_simp <;> with_reducible rfl)
              (try simp only [Act.put, List.setIfInBounds_toArray, List.set_cons_zero, List.set_cons_succ])
              refine wpAnyH_tk 32 (v := ?vc32) rfl (by kernel_rfl) (by kernel_rfl) (by kernel_rfl) (fun _ _ _ h => h) (by rfl) ?hyc32 (by assumption) ?_
              case hyc32 => (intro w hSw; (try dsimp only at hSw); go_simp <;> with_reducible rfl)
              (try simp only [Act.put, List.setIfInBounds_toArray, List.set_cons_zero, List.set_cons_succ])
              refine wpAnyH_tk 33 (v := ?vc33) rfl (by kernel_rfl) (by kernel_rfl) (by kernel_rfl) (fun _ _ _ h => h) (by rfl) ?hyc33 (by assumption) ?_
              case hyc33 => (intro w hSw; (try dsimp only at hSw); go_simp <;> with_reducible rfl)
              (try simp only [Act.put, List.setIfInBounds_toArray, List.set_cons_zero, List.set_cons_succ])
              refine wpAnyH_tk 34 (v := ?vc34) rfl (by kernel_rfl) (by kernel_rfl) (by kernel_rfl) (fun _ _ _ h => h) (by rfl) ?hyc34 (by assumption) ?_
              case hyc34 => (intro w hSw; (try dsimp only at hSw); go_simp <;> with_reducible rfl)
              (try simp only [Act.put, List.setIfInBounds_toArray, List.set_cons_zero, List.set_cons_succ])
              refine wpAnyH_tk 35 (v := ?vc35) rfl (by kernel_rfl) (by kernel_rfl) (by kernel_rfl) (fun _ _ _ h => h) (by rfl) ?hyc35 (by assumption) ?_
              case hyc35 => (intro w hSw; (try dsimp only at hSw); go_simp <;> with_reducible rfl)
              (try simp only [Act.put, List.setIfInBounds_toArray, List.set_cons_zero, List.set_cons_succ])
              refine wpAnyH_tk 36 (v := ?vc36) rfl (by kernel_rfl) (by kernel_rfl) (by kernel_rfl) (fun _ _ _ h => h) (by rfl) ?hyc36 (by assumption) ?_
              case hyc36 => (intro w hSw; (try dsimp only at hSw); go_simp <;> with_reducible rfl)
              (try simp only [Act.put, List.setIfInBounds_toArray, List.set_cons_zero, List.set_cons_succ])
              refine wpAnyH_tk 37 (v := ?vc37) rfl (by kernel_rfl) (by kernel_rfl) (by kernel_rfl) (fun _ _ _ h => h) (by rfl) ?hyc37 (by assumption) ?_
              case hyc37 => (intro w hSw; (try dsimp only at hSw); go_simp <;> with_reducible rfl)
              (try simp only [Act.put, List.setIfInBounds_toArray, List.set_cons_zero, List.set_cons_succ])
              refine wpAnyH_tk 38 (v := ?vc38) rfl (by kernel_rfl) (by kernel_rfl) (by kernel_rfl) (fun _ _ _ h => h) (by rfl) ?hyc38 (by assumption) ?_
              case hyc38 => (intro w hSw; (try dsimp only at hSw); go_simp <;> with_reducible rfl)
              (try simp only [Act.put, List.setIfInBounds_toArray, List.set_cons_zero, List.set_cons_succ])
              refine wpAnyH_tk 39 (v := ?vc39) rfl (by kernel_rfl) (by kernel_rfl) (by kernel_rfl) (fun _ _ _ h => h) (by rfl) ?hyc39 (by assumption) ?_
              case hyc39 => (intro w hSw; (try dsimp only at hSw); go_simp <;> with_reducible rfl)
              (try simp only [Act.put, List.setIfInBounds_toArray, List.set_cons_zero, List.set_cons_succ])
              refine wpAnyH_tk 40 (v := ?vc40) rfl (by kernel_rfl) (by kernel_rfl) (by kernel_rfl) (fun _ _ _ h => h) (by rfl) ?hyc40 (by assumption) ?_
              case hyc40 => (intro w hSw; (try dsimp only at hSw); go_simp <;> with_reducible rfl)
              (try simp only [Act.put, List.setIfInBounds_toArray, List.set_cons_zero, List.set_cons_succ])
              refine wpAnyH_skips 40 true 76 19 (by kernel_rfl) rfl (fun _ _ _ _ _ h => h) [41, 42, 43, 44] [77, 78, 79, 80] _ _ _ rfl (by kernel_rfl) (by rfl) (by assumption) ?_
              (try simp only [putsAll, List.foldl, Act.put, List.setIfInBounds_toArray, List.set_cons_zero, List.set_cons_succ])
              refine wpAnyH_tk 45 (v := ?vc45) rfl (by kernel_rfl) (by kernel_rfl) (by kernel_rfl) (fun _ _ _ h => h) (by rfl) ?hyc45 (by assumption) ?_
              case hyc45 => (intro w hSw; (try dsimp only at hSw); go_simp <;> with_reducible rfl)
              (try simp only [Act.put, List.setIfInBounds_toArray, List.set_cons_zero, List.set_cons_succ])
              refine wpAnyH_tk 46 (v := ?vc46) rfl (by kernel_rfl) (by kernel_rfl) (by kernel_rfl) (fun _ _ _ h => h) (by rfl) ?hyc46 (by assumption) ?_
              case hyc46 => (intro w hSw; (try dsimp only at hSw); go_simp <;> with_reducible rfl)
              (try simp only [Act.put, List.setIfInBounds_toArray, List.set_cons_zero, List.set_cons_succ])
              refine wpAnyH_skips 46 true 82 1 (by kernel_rfl) rfl (fun _ _ _ _ _ h => h) [47, 48, 49, 50, 51, 52, 53, 54, 55, 56, 57, 58, 59, 60, 61, 62] [83, 84, 85, 86, 87, 88, 89, 90, 91, 92, 93, 94, 95, 96, 97, 98] _ _ _ rfl (by kernel_rfl) (by rfl) (by assumption) ?_
              (try simp only [putsAll, List.foldl, Act.put, List.setIfInBounds_toArray, List.set_cons_zero, List.set_cons_succ])
              refine wpAnyH_tk 63 (v := ?vc63) rfl (by kernel_rfl) (by kernel_rfl) (by kernel_rfl) (fun _ _ _ h => h) (by rfl) ?hyc63 (by assumption) ?_
              case hyc63 => (intro w hSw; (try dsimp only at hSw); go_simp <;> with_reducible rfl)
              (try simp only [Act.put, List.setIfInBounds_toArray, List.set_cons_zero, List.set_cons_succ])
              refine wpAnyH_done (by kernel_rfl) ?_ _
              clear e1b e2b e3b z1 z2
              go_wp2
              go_roundg (gk - 1)
              case rel => exact ⟨x + 1, by have := Hx.out; omega, by go_num, HNO.out, HFR.out, HW2.out, HL2.out⟩
              case measure => have := Hx.out; omega
          · have hF : Hid (growF c d N b tot f way last cost x = none) := by show _ = _; unfold growF; rw [if_neg (fun h => e2 h.2.1)]
            have HNO := hid (find_none NO.out hF.out)
            have e2b : decide (c last x < 1048576) = false := decide_eq_false e2
            clear e2
            go_wp2
            refine wp_region_held_drew (S := (fun w' => (w'.cell? ⟨pc, 0, none⟩ = some (.slice (some ⟨bC, oC, none⟩) N cpc) ∧ w'.cell? ⟨bC, oC + last, none⟩ = some (.slice (some ⟨rC, oRC, none⟩) N crc) ∧ w'.cell? ⟨rC, oRC + x, none⟩ = some (.int .i64 (c last x)) ∧ w'.cell? ⟨pd, 0, none⟩ = some (.slice (some ⟨bD, oD, none⟩) N cpd) ∧ w'.cell? ⟨bD, oD + x, none⟩ = some (.slice (some ⟨rD, oRD, none⟩) N crd) ∧ w'.cell? ⟨rD, oRD + b, none⟩ = some (.int .i64 (d x b)) ∧ w'.cell? ⟨bD, oD + a, none⟩ = some (.slice (some ⟨rA, oRA, none⟩) N cra) ∧ w'.cell? ⟨rA, oRA + b, none⟩ = some (.int .i64 (d a b)) ∧ w'.cell? ⟨pb, 0, none⟩ = some (.int .i64 b) ∧ w'.cell? ⟨pa, 0, none⟩ = some (.int .i64 a) ∧ w'.cell? ⟨bf + 1, 0, none⟩ = some (.func (.func 54) #[] #[.pointer (some ⟨bf, 0, none⟩), .pointer (some ⟨pb, 0, none⟩), .pointer (some ⟨pm, 0, none⟩), .pointer (some ⟨pc, 0, none⟩), .pointer (some ⟨pd, 0, none⟩), .pointer (some ⟨pa, 0, none⟩), .pointer (some ⟨bf + 1, 0, none⟩)])))) (by kernel_rfl) ?hSb0 (fun hHeld => ?_)
            case hSb0 => (first | (exact HALL.out _ HL2.out) | ((try dsimp only); exact HALL.out _ HL2.out))
            refine wpAnyH_tk 0 (v := ?vb0) rfl (by kernel_rfl) (by kernel_rfl) (by kernel_rfl) (fun _ _ _ h => h) (by rfl) ?hyb0 (by assumption) ?_
            case hyb0 => (intro w hSw; (try dsimp only at hSw); go_simp <;> with_reducible rfl)
            (try simp only [Act.put, List.setIfInBounds_toArray, List.set_cons_zero, List.set_cons_succ])
            refine wpAnyH_tk 1 (v := ?vb1) rfl (by kernel_rfl) (by kernel_rfl) (by kernel_rfl) (fun _ _ _ h => h) (by rfl) ?hyb1 (by assumption) ?_
            case hyb1 => (intro w hSw; (try dsimp only at hSw); go_simp <;> with_reducible rfl)
            (try simp only [Act.put, List.setIfInBounds_toArray, List.set_cons_zero, List.set_cons_succ])
            refine wpAnyH_tk 2 (v := ?vb2) rfl (by kernel_rfl) (by kernel_rfl) (by kernel_rfl) (fun _ _ _ h => h) (by rfl) ?hyb2 (by assumption) ?_
            case hyb2 => (intro w hSw; (try dsimp only at hSw); go_simp <;> with_reducible rfl)
            (try simp only [Act.put, List.setIfInBounds_toArray, List.set_cons_zero, List.set_cons_succ])
            refine wpAnyH_tk 3 (v := ?vb3) rfl (by kernel_rfl) (by kernel_rfl) (by kernel_rfl) (fun _ _ _ h => h) (by rfl) ?hyb3 (by assumption) ?_
            case hyb3 => (intro w hSw; (try dsimp only at hSw); go_simp <;> with_reducible rfl)
            (try simp only [Act.put, List.setIfInBounds_toArray, List.set_cons_zero, List.set_cons_succ])
            refine wpAnyH_tk 4 (v := ?vb4) rfl (by kernel_rfl) (by kernel_rfl) (by kernel_rfl) (fun _ _ _ h => h) (by rfl) ?hyb4 (by assumption) ?_
            case hyb4 => (intro w hSw; (try dsimp only at hSw); go_simp <;> with_reducible rfl)
            (try simp only [Act.put, List.setIfInBounds_toArray, List.set_cons_zero, List.set_cons_succ])
            refine wpAnyH_tk 5 (v := ?vb5) rfl (by kernel_rfl) (by kernel_rfl) (by kernel_rfl) (fun _ _ _ h => h) (by rfl) ?hyb5 (by assumption) ?_
            case hyb5 => (intro w hSw; (try dsimp only at hSw); go_simp <;> with_reducible rfl)
            (try simp only [Act.put, List.setIfInBounds_toArray, List.set_cons_zero, List.set_cons_succ])
            refine wpAnyH_tk 6 (v := ?vb6) rfl (by kernel_rfl) (by kernel_rfl) (by kernel_rfl) (fun _ _ _ h => h) (by rfl) ?hyb6 (by assumption) ?_
            case hyb6 => (intro w hSw; (try dsimp only at hSw); go_simp <;> with_reducible rfl)
            (try simp only [Act.put, List.setIfInBounds_toArray, List.set_cons_zero, List.set_cons_succ])
            refine wpAnyH_tk 7 (v := ?vb7) rfl (by kernel_rfl) (by kernel_rfl) (by kernel_rfl) (fun _ _ _ h => h) (by rfl) ?hyb7 (by assumption) ?_
            case hyb7 => (intro w hSw; (try dsimp only at hSw); go_simp <;> with_reducible rfl)
            (try simp only [Act.put, List.setIfInBounds_toArray, List.set_cons_zero, List.set_cons_succ])
            refine wpAnyH_tk 8 (v := ?vb8) rfl (by kernel_rfl) (by kernel_rfl) (by kernel_rfl) (fun _ _ _ h => h) (by rfl) ?hyb8 (by assumption) ?_
            case hyb8 => (intro w hSw; (try dsimp only at hSw); go_simp <;> with_reducible rfl)
            (try simp only [Act.put, List.setIfInBounds_toArray, List.set_cons_zero, List.set_cons_succ])
            refine wpAnyH_tk 9 (v := ?vb9) rfl (by kernel_rfl) (by kernel_rfl) (by kernel_rfl) (fun _ _ _ h => h) (by rfl) ?hyb9 (by assumption) ?_
            case hyb9 => (intro w hSw; (try dsimp only at hSw); go_simp <;> with_reducible rfl)
            (try simp only [Act.put, List.setIfInBounds_toArray, List.set_cons_zero, List.set_cons_succ])
            refine wpAnyH_tk 10 (v := ?vb10) rfl (by kernel_rfl) (by kernel_rfl) (by kernel_rfl) (fun _ _ _ h => h) (by rfl) ?hyb10 (by assumption) ?_
            case hyb10 => (intro w hSw; (try dsimp only at hSw); go_simp <;> with_reducible rfl)
            (try simp only [Act.put, List.setIfInBounds_toArray, List.set_cons_zero, List.set_cons_succ])
            refine wpAnyH_tk 11 (v := ?vb11) rfl (by kernel_rfl) (by kernel_rfl) (by kernel_rfl) (fun _ _ _ h => h) (by rfl) ?hyb11 (by assumption) ?_
            case hyb11 => (intro w hSw; (try dsimp only at hSw); go_simp <;> with_reducible rfl)
            (try simp only [Act.put, List.setIfInBounds_toArray, List.set_cons_zero, List.set_cons_succ])
            refine wpAnyH_tk 12 (v := ?vb12) rfl (by kernel_rfl) (by kernel_rfl) (by kernel_rfl) (fun _ _ _ h => h) (by rfl) ?hyb12 (by assumption) ?_
            case hyb12 => (intro w hSw; (try dsimp only at hSw); go_simp <;> with_reducible rfl)
            (try simp only [Act.put, List.setIfInBounds_toArray, List.set_cons_zero, List.set_cons_succ])
            refine wpAnyH_tk 13 (v := ?vb13) rfl (by kernel_rfl) (by kernel_rfl) (by kernel_rfl) (fun _ _ _ h => h) (by rfl) ?hyb13 (by assumption) ?_
            case hyb13 => (intro w hSw; (try dsimp only at hSw); go_simp <;> with_reducible rfl)
            (try simp only [Act.put, List.setIfInBounds_toArray, List.set_cons_zero, List.set_cons_succ])
            refine wpAnyH_skips 13 true 49 25 (by kernel_rfl) rfl (fun _ _ _ _ _ h => h) [14, 15, 16, 17, 18, 19, 20, 21, 22, 23, 24, 25, 26, 27, 28, 29, 30, 31, 32, 33, 34, 35, 36, 37, 38] [50, 51, 52, 53, 54, 55, 56, 57, 58, 59, 60, 61, 62, 63, 64, 65, 66, 67, 68, 69, 70, 71, 72, 73, 74] _ _ _ rfl (by kernel_rfl) (by rfl) (by assumption) ?_
            (try simp only [putsAll, List.foldl, Act.put, List.setIfInBounds_toArray, List.set_cons_zero, List.set_cons_succ])
            refine wpAnyH_tk 39 (v := ?vb39) rfl (by kernel_rfl) (by kernel_rfl) (by kernel_rfl) (fun _ _ _ h => h) (by rfl) ?hyb39 (by assumption) ?_
            case hyb39 => (intro w hSw; (try dsimp only at hSw); go_simp <;> with_reducible rfl)
            (try simp only [Act.put, List.setIfInBounds_toArray, List.set_cons_zero, List.set_cons_succ])
            refine wpAnyH_tk 40 (v := ?vb40) rfl (by kernel_rfl) (by kernel_rfl) (by kernel_rfl) (fun _ _ _ h => h) (by rfl) ?hyb40 (by assumption) ?_
            case hyb40 => (intro w hSw; (try dsimp only at hSw); go_simp <;> with_reducible rfl)
            (try simp only [Act.put, List.setIfInBounds_toArray, List.set_cons_zero, List.set_cons_succ])
            refine wpAnyH_skips 40 true 76 19 (by kernel_rfl) rfl (fun _ _ _ _ _ h => h) [41, 42, 43, 44] [77, 78, 79, 80] _ _ _ rfl (by kernel_rfl) (by rfl) (by assumption) ?_
            (try simp only [putsAll, List.foldl, Act.put, List.setIfInBounds_toArray, List.set_cons_zero, List.set_cons_succ])
            refine wpAnyH_tk 45 (v := ?vb45) rfl (by kernel_rfl) (by kernel_rfl) (by kernel_rfl) (fun _ _ _ h => h) (by rfl) ?hyb45 (by assumption) ?_
            case hyb45 => (intro w hSw; (try dsimp only at hSw); go_simp <;> with_reducible rfl)
            (try simp only [Act.put, List.setIfInBounds_toArray, List.set_cons_zero, List.set_cons_succ])
            refine wpAnyH_tk 46 (v := ?vb46) rfl (by kernel_rfl) (by kernel_rfl) (by kernel_rfl) (fun _ _ _ h => h) (by rfl) ?hyb46 (by assumption) ?_
            case hyb46 => (intro w hSw; (try dsimp only at hSw); go_simp <;> with_reducible rfl)
            (try simp only [Act.put, List.setIfInBounds_toArray, List.set_cons_zero, List.set_cons_succ])
            refine wpAnyH_skips 46 true 82 1 (by kernel_rfl) rfl (fun _ _ _ _ _ h => h) [47, 48, 49, 50, 51, 52, 53, 54, 55, 56, 57, 58, 59, 60, 61, 62] [83, 84, 85, 86, 87, 88, 89, 90, 91, 92, 93, 94, 95, 96, 97, 98] _ _ _ rfl (by kernel_rfl) (by rfl) (by assumption) ?_
            (try simp only [putsAll, List.foldl, Act.put, List.setIfInBounds_toArray, List.set_cons_zero, List.set_cons_succ])
            refine wpAnyH_tk 63 (v := ?vb63) rfl (by kernel_rfl) (by kernel_rfl) (by kernel_rfl) (fun _ _ _ h => h) (by rfl) ?hyb63 (by assumption) ?_
            case hyb63 => (intro w hSw; (try dsimp only at hSw); go_simp <;> with_reducible rfl)
            (try simp only [Act.put, List.setIfInBounds_toArray, List.set_cons_zero, List.set_cons_succ])
            refine wpAnyH_done (by kernel_rfl) ?_ _
            clear e1b e2b
            go_wp2
            go_roundg (gk - 1)
            case rel => exact ⟨x + 1, by have := Hx.out; omega, by go_num, HNO.out, HFR.out, HW2.out, HL2.out⟩
            case measure => have := Hx.out; omega
      · have ex : x = N := by omega
        have hno := NO.out
        rw [ex, ← growP_succ] at hno
        have HNo := hid hno
        clear ex hno
        obtain ⟨u, hu⟩ := HL.out.cf
        have HU := hid hu
        clear hu
        go_wp2
        go_ret
        exact ⟨ret_bool (by rw [HNo.out]; rfl), FR.out, HW.out, u, HU.out, fun r hr => by rw [HNo.out] at hr; simp at hr⟩

end Go.Proofs.YtkbkgkmogbkabaaDoor

/-
  How long a way is, in plain Lean.
-/
namespace Go.Proofs.YtkbkgkmogbkabaaDoor
open Go.RowKit

theorem growF_some {c d : Nat → Nat → Int} {n b : Nat} {tot : Int} {f : Nat} {way : List Int} {last : Nat} {cost : Int} {x : Nat} {r : List Int} (h : growF c d n b tot f way last cost x = some r) :
    (x ≠ last ∧ c last x < far ∧ cost + c last x + d x b = tot ∧ (x : Int) ∉ way) ∧ growP c d n b tot f (way ++ [(x : Int)]) x (cost + c last x) = some r := by
  unfold growF at h
  split at h
  · rename_i g; exact ⟨g, h⟩
  · simp at h
theorem grow_step {c d : Nat → Nat → Int} {n b : Nat} {tot : Int} {f : Nat} {way : List Int} {last : Nat} {cost : Int} {r : List Int} (h : growP c d n b tot (f + 1) way last cost = some r) :
    ∃ x, x < n ∧ growF c d n b tot f way last cost x = some r := by
  rw [growP_succ] at h
  obtain ⟨x, hx, hr⟩ := List.exists_of_findSome?_eq_some h
  exact ⟨x, List.mem_range.1 hx, hr⟩
theorem grow_len {c d : Nat → Nat → Int} {n b : Nat} {tot : Int} : ∀ {f : Nat} {way : List Int} {last : Nat} {cost : Int} {r : List Int}, growP c d n b tot f way last cost = some r → r.length = way.length + f
  | 0, way, last, cost, r, h => by
    unfold growP at h
    split at h
    · simp only [Option.some.injEq] at h; subst h; simp
    · simp at h
  | f + 1, way, last, cost, r, h => by
    obtain ⟨x, hx, hr⟩ := grow_step h
    have := grow_len (growF_some hr).2
    rw [this]; simp; omega
theorem grow_stops {c d : Nat → Nat → Int} {n b : Nat} {tot : Int} : ∀ {f : Nat} {way : List Int} {last : Nat} {cost : Int} {r : List Int}, growP c d n b tot f way last cost = some r →
    way.Nodup → (∀ y ∈ way, 0 ≤ y ∧ y < n) → r.Nodup ∧ ∀ y ∈ r, 0 ≤ y ∧ y < n
  | 0, way, last, cost, r, h, h1, h2 => by
    unfold growP at h
    split at h
    · simp only [Option.some.injEq] at h; subst h; exact ⟨h1, h2⟩
    · simp at h
  | f + 1, way, last, cost, r, h, h1, h2 => by
    obtain ⟨x, hx, hr⟩ := grow_step h
    obtain ⟨⟨g1, g2, g3, g4⟩, h'⟩ := growF_some hr
    refine grow_stops h' ?_ ?_
    · rw [List.nodup_append]
      refine ⟨h1, by simp, fun a ha b hb => ?_⟩
      simp only [List.mem_singleton] at hb
      subst hb
      intro e
      subst e
      exact g4 ha
    · intro y hy
      rcases List.mem_append.1 hy with hy | hy
      · exact h2 y hy
      · simp only [List.mem_singleton] at hy
        subst hy; omega
theorem nodup_len : ∀ (n : Nat) (l : List Int), l.Nodup → (∀ y ∈ l, 0 ≤ y ∧ y < n) → l.length ≤ n
  | 0, l, _, h => by
    cases l with
    | nil => simp
    | cons a l => have := h a (by simp); omega
  | n + 1, l, hn, h => by
    have h1 := nodup_len n (l.erase n) (hn.erase _) (fun y hy => by
      have h2 := h y (List.mem_of_mem_erase hy)
      have h3 : y ≠ n := fun e => by subst e; exact (hn.not_mem_erase) hy
      omega)
    rw [List.length_erase] at h1
    split at h1 <;> omega
theorem least {P : Nat → Prop} : ∀ n, P n → ∃ m, P m ∧ ∀ k, k < m → ¬ P k := by
  intro n
  induction n using Nat.strongRecOn with
  | _ n ih =>
    intro h
    by_cases e : ∃ k, k < n ∧ P k
    · obtain ⟨k, hk, hp⟩ := e
      exact ih k hk hp
    · exact ⟨n, h, fun k hk hp => e ⟨k, hk, hp⟩⟩

/-- The way that is found: the first of the shortest. -/
def IsWay (c d : Nat → Nat → Int) (n a b : Nat) (f : Nat) (r : List Int) : Prop :=
  growP c d n b (d a b) f [(a : Int)] a 0 = some r ∧ ∀ k, k < f → growP c d n b (d a b) k [(a : Int)] a 0 = none
theorem way_ex {N : Nat} {c : Nat → Nat → Int} (h : Tab N 50 c) (hN : N ≤ 8) {a b : Nat} (ha : a < N) (hb : b < N) (hf : fw c N a b < far) : ∃ f r, IsWay c (fw c N) N a b f r ∧ f < N := by
  have T := h.fw N (Nat.le_refl _)
  obtain ⟨f, r, -, hr⟩ := grow_some h hN hb (fw c N a b) _ a [(a : Int)] 0 ha hf (Nat.le_refl _) (by omega) (fun y hy => by
    simp only [List.mem_singleton] at hy
    have : y = a := by omega
    subst this; exact Int.le_refl _)
  obtain ⟨m, ⟨r', hm⟩, hl⟩ := least (P := fun f => ∃ r, growP c (fw c N) N b (fw c N a b) f [(a : Int)] a 0 = some r) f ⟨r, hr⟩
  refine ⟨m, r', ⟨hm, fun k hk => ?_⟩, ?_⟩
  · cases e : growP c (fw c N) N b (fw c N a b) k [(a : Int)] a 0 with
    | none => rfl
    | some z => exact absurd ⟨z, e⟩ (hl k hk)
  · obtain ⟨h1, h2⟩ := grow_stops hm (by simp) (fun y hy => by simp only [List.mem_singleton] at hy; subst hy; omega)
    have h3 := nodup_len N r' h1 h2
    rw [grow_len hm] at h3
    simp only [List.length_singleton] at h3
    omega

end Go.Proofs.YtkbkgkmogbkabaaDoor

/-
  Contract of Way.
-/
namespace Go.Proofs.YtkbkgkmogbkabaaDoor
open Go.RowKit

/-- Three operations may come up. -/
theorem wpAnyH_two {P : Program} {md : Region.Mode} {ops : Array Oper} {Q : Exit → Act → World → Prop} {S : World → Prop} {w : World} (i j : Nat) {o o2 : Oper} {fuel : Nat} {listed : Array Bool} {a : Act} (hi : ops.toList[i]? = some o) (hj : ops.toList[j]? = some o2)
    (hr : Region.ready md ops listed = [i, j]) (hw : Region.wanted o (yielded ops a.tmps) = true) (hw2 : Region.wanted o2 (yielded ops a.tmps) = true)
    (h : ∀ K' : Act → World → Prop, Shut (∀ a w, S w → (S w → wpAnyH P md ops Q S fuel (listed.setIfInBounds i true) a w) → K' a w) → Oper.wp P o a w K' Q)
    (h2 : ∀ K' : Act → World → Prop, Shut (∀ a w, S w → (S w → wpAnyH P md ops Q S fuel (listed.setIfInBounds j true) a w) → K' a w) → Oper.wp P o2 a w K' Q) : wpAnyH P md ops Q S (fuel + 1) listed a w :=
  wpAnyH_ready hr (by simp) (AllReadyH.cons (by rw [← Array.getElem?_toList]; exact hi) (fun K' hK => by rw [if_pos hw]; exact h K' hK) (AllReadyH.cons (by rw [← Array.getElem?_toList]; exact hj) (fun K' hK => by rw [if_pos hw2]; exact h2 K' hK) AllReadyH.nil))
theorem wpAnyH_three {P : Program} {md : Region.Mode} {ops : Array Oper} {Q : Exit → Act → World → Prop} {S : World → Prop} {w : World} (i j k : Nat) {o o2 o3 : Oper} {fuel : Nat} {listed : Array Bool} {a : Act} (hi : ops.toList[i]? = some o) (hj : ops.toList[j]? = some o2) (hk : ops.toList[k]? = some o3)
    (hr : Region.ready md ops listed = [i, j, k]) (hw : Region.wanted o (yielded ops a.tmps) = true) (hw2 : Region.wanted o2 (yielded ops a.tmps) = true) (hw3 : Region.wanted o3 (yielded ops a.tmps) = true)
    (h : ∀ K' : Act → World → Prop, Shut (∀ a w, S w → (S w → wpAnyH P md ops Q S fuel (listed.setIfInBounds i true) a w) → K' a w) → Oper.wp P o a w K' Q)
    (h2 : ∀ K' : Act → World → Prop, Shut (∀ a w, S w → (S w → wpAnyH P md ops Q S fuel (listed.setIfInBounds j true) a w) → K' a w) → Oper.wp P o2 a w K' Q)
    (h3 : ∀ K' : Act → World → Prop, Shut (∀ a w, S w → (S w → wpAnyH P md ops Q S fuel (listed.setIfInBounds k true) a w) → K' a w) → Oper.wp P o3 a w K' Q) : wpAnyH P md ops Q S (fuel + 1) listed a w :=
  wpAnyH_ready hr (by simp) (AllReadyH.cons (by rw [← Array.getElem?_toList]; exact hi) (fun K' hK => by rw [if_pos hw]; exact h K' hK) (AllReadyH.cons (by rw [← Array.getElem?_toList]; exact hj) (fun K' hK => by rw [if_pos hw2]; exact h2 K' hK) (AllReadyH.cons (by rw [← Array.getElem?_toList]; exact hk) (fun K' hK => by rw [if_pos hw3]; exact h3 K' hK) AllReadyH.nil)))

/-- A box of one table. -/
def TBox (w : World) (b : Nat) (u : Value) : Prop := w.heap[b]? = some (.cells #[u] 52 (0, 0))
theorem TBox.ext {w w' : World} {b : Nat} {u : Value} (h : TBox w b u) (e : Ext w w') : TBox w' b u := heap_ext h e
theorem TBox.lt {w : World} {b : Nat} {u : Value} (h : TBox w b u) : b < w.heap.size := lt_of_block h
theorem TBox.cell {w : World} {b : Nat} {u : Value} (h : TBox w b u) : w.cell? ⟨b, 0, none⟩ = some u := cell_of_row w b 0 _ _ _ h
theorem TBox.free {w : World} {b : Nat} {u : Value} (h : TBox w b u) : w.frozen? ⟨b, 0, none⟩ = false := by
  have h' : w.heap[b]? = some (.cells #[u] 52 (0, 0)) := h
  simp [World.frozen?, h']
theorem TBox.set {w : World} {b : Nat} {u : Value} (h : TBox w b u) (v : Value) : TBox (w.setCell ⟨b, 0, none⟩ v) b v := by
  have h' : w.heap[b]? = some (.cells #[u] 52 (0, 0)) := h
  show (w.setCell _ _).heap[b]? = _
  simp only [World.setCell, Array.getElem?_modify, if_true, h', Option.map_some]
  simp
theorem TBox.other {w : World} {b b' : Nat} {u : Value} (h : TBox w b u) (hb : b' ≠ b) (v : Value) : TBox (w.setCell ⟨b', 0, none⟩ v) b u := by
  have h' : w.heap[b]? = some (.cells #[u] 52 (0, 0)) := h
  show (w.setCell _ _).heap[b]? = _
  simp only [World.setCell, Array.getElem?_modify]
  rw [if_neg hb]; exact h'
theorem Mat.setBox {B : Nat} {w : World} {v : Value} {k n : Nat} {D : Nat → Nat → Int} (h : Mat B w v k n D) {b : Nat} {u : Value} (hb : TBox w b u) (x : Value) : Mat B (w.setCell ⟨b, 0, none⟩ x) v k n D := by
  have hb' : w.heap[b]? = some (.cells #[u] 52 (0, 0)) := hb
  obtain ⟨gs, h1, h2, h3, h4, h5⟩ := h
  refine ⟨gs, h1, h2, ownsRow_setCell_other h3 (a := ⟨b, 0, none⟩) ?_ _, h4, fun i hi => ?_⟩
  · intro e
    obtain ⟨-, ⟨h, -⟩ | ⟨g, cap, cur, h, hB, hg, -⟩⟩ := h3
    · rw [h] at e; simp [Value.ownBlock] at e
    · rw [h] at e
      simp only [Value.ownBlock, Option.some.injEq] at e
      subst e
      rw [hg] at hb'; simp at hb'
  · have hi5 : w.heap[gs[i]]? = _ := h5 i hi
    have : b ≠ gs[i] := by
      intro e
      rw [← e, hb'] at hi5; simp at hi5
    exact (h5 i hi).other this 0 x

/-- A part of the code that makes two boxes of tables: what holds behind it. -/
theorem wp_mid {P : Program} {c : Code} {a : Act} {w : World} {Q : Exit → Act → World → Prop} {A : Nat → Nat → Option Addr → Nat → Option Addr → Nat → Act} {F : Nat → Nat → Option Addr → Nat → Option Addr → Nat → World → Prop}
    (h1 : c.wp P (Exit.then (fun a' w' => ∃ b8 b9 a8 k8 a9 k9, a' = A b8 b9 a8 k8 a9 k9 ∧ F b8 b9 a8 k8 a9 k9 w') (fun _ _ _ => False)) a w) (h2 : ∀ b8 b9 a8 k8 a9 k9 w', F b8 b9 a8 k8 a9 k9 w' → Q .normal (A b8 b9 a8 k8 a9 k9) w') : c.wp P Q a w :=
  wp_mono h1 (fun e a' w' h => by
    cases e with
    | normal => obtain ⟨b8, b9, a8, k8, a9, k9, rfl, hf⟩ := h; exact h2 _ _ _ _ _ _ _ hf
    | _ => exact h.elim)

structure Tables (w : World) (N : Nat) (rs : List RoadD) (b8 b9 : Nat) (a8 : Option Addr) (k8 : Nat) (a9 : Option Addr) (k9 : Nat) (w' : World) : Prop where
  e : Ext w w'
  m8 : Mat w.heap.size w' (.slice a8 N k8) N N (fw (costTo rs) N)
  m9 : Mat w.heap.size w' (.slice a9 N k9) N N (costTo rs)
  t8 : TBox w' b8 (.slice a8 N k8)
  t9 : TBox w' b9 (.slice a9 N k9)
  s8 : w.heap.size ≤ b8
  s9 : w.heap.size ≤ b9

theorem Live.start (w6 : World) (ps : Array Value) (t : TypeId) : Live w6 w6.heap.size ps ((w6.alloc (.cells #[Value.slice none 0 0] 25)).alloc (.cells #[.func (.func 54) #[] ps] t)) := by
  refine ⟨((Ext.refl w6).alloc _).alloc _, Nat.le_refl _, by simp, ?_, ?_⟩
  · simp
  · exact ⟨.slice none 0 0, heap_ext (heap_alloc_new w6 _) (Ext.ofAlloc _ _)⟩

set_option maxRecDepth 20000 in
set_option maxHeartbeats 16000000 in
theorem Way_ok (vr : Value) (N : Nat) (rs : List RoadD) (a b : Nat) (w : World) (hv : Roads w vr rs) (hok : mapOk ⟨N, rs⟩ = true) (ha : a < N) (hb : b < N) (hf : fw (costTo rs) N a b < far) :
    Calls Tryd.prog 33 #[.agg #[.int .i64 N, vr], .int .i64 a, .int .i64 b] w fun e w' => ∃ v f r, e = .returned (.tuple #[v, .int .i64 0]) ∧ Ints w' v r ∧ IsWay (costTo rs) (fw (costTo rs) N) N a b f r ∧ f < N ∧ Ext w w' := by
  obtain ⟨ao, cap, rfl⟩ := hv.shape
  have HV := hid hv
  have hok2 := hok
  unfold mapOk at hok2
  rw [Bool.and_eq_true, decide_eq_true_iff, List.all_eq_true] at hok2
  obtain ⟨⟨h1, h8, h16⟩, hall⟩ := hok2
  dsimp only at h1 h8 h16 hall
  have hN1 : 1 ≤ N := by omega
  have hN8 : N ≤ 8 := by omega
  have HAll := hid hall
  have HOk := hid hok
  have HF := hid hf
  have TAB := hid (costs_tab HAll.out)
  have HSA : Hid (stopB N a = true) := by show _ = _; unfold stopB; rw [decide_eq_true_iff]; omega
  have HSB : Hid (stopB N b = true) := by show _ = _; unfold stopB; rw [decide_eq_true_iff]; omega
  have X0 := hid (Box2.alloc w 31 (.int .i64 N) (.slice ao rs.length cap))
  clear hv hok hall hf
  go_enter Tryd.func33, Tryd.ntmps33
  go_wp2_with (fail)
  refine (valid_any _ ⟨N, rs⟩ _ (Roads.ext HV.out (((Ext.ofAlloc _ _).alloc _).alloc _))).mono ?_
  rw [HOk.out]
  rintro e w1 ⟨rfl, he⟩
  have HE := hid ((((Ext.ofAlloc w _).alloc _).alloc _).trans he)
  obtain ⟨c0, c1⟩ := (((X0.out.ext (Ext.ofAlloc _ _)).ext (Ext.ofAlloc _ _)).ext he).cells
  have ca : w1.cell? ⟨w.heap.size + 1, 0, none⟩ = some (.int .i64 a) := by have h := he.cell ((Ext.ofAlloc _ _).cell (World.cell?_alloc_new _ _ _ 0)); simpa using h
  have cb : w1.cell? ⟨w.heap.size + 1 + 1, 0, none⟩ = some (.int .i64 b) := by have h := he.cell (World.cell?_alloc_new _ _ _ 0); simpa using h
  clear he
  go_wp2_with (fail)
  refine (stop_any _ ⟨N, rs⟩ a _ (Roads.ext HV.out HE.out)).mono ?_
  rw [HSA.out]
  rintro e w2 ⟨rfl, he⟩
  replace HE := hid (HE.out.trans he)
  replace c0 := he.cell c0
  replace c1 := he.cell c1
  replace ca := he.cell ca
  replace cb := he.cell cb
  clear he
  go_wp2_with (fail)
  refine (stop_any _ ⟨N, rs⟩ b _ (Roads.ext HV.out HE.out)).mono ?_
  rw [HSB.out]
  rintro e w4 ⟨rfl, he⟩
  replace HE := hid (HE.out.trans he)
  replace c0 := he.cell c0
  replace c1 := he.cell c1
  replace ca := he.cell ca
  replace cb := he.cell cb
  clear he
  go_wp2
  have HKEEP : Hid (∀ w', Ext w4 w' → (w'.cell? ⟨w.heap.size, 0, none⟩ = some (.int .i64 N) ∧ w'.cell? ⟨w.heap.size, 1, none⟩ = some (.slice ao rs.length cap))) := fun w' e => ⟨e.cell c0, e.cell c1⟩
  have E := hid ((Ext.refl w4).drew)
  have CA := hid ca
  have CB := hid cb
  have C0 := hid c0
  clear c0 c1 ca cb
  apply wp_mid (F := Tables w4 N rs)
  case h1 =>
    refine wp_region_held_drew (S := (fun w' => (w'.cell? ⟨w.heap.size, 0, none⟩ = some (.int .i64 N) ∧ w'.cell? ⟨w.heap.size, 1, none⟩ = some (.slice ao rs.length cap)))) (by kernel_rfl) ?hSa0 (fun hHeld => ?_)
    case hSa0 => exact HKEEP.out _ E.out
    refine wpAnyH_tk 0 (v := ?va0x1) rfl (by kernel_rfl) (by kernel_rfl) (by kernel_rfl) (fun _ _ _ h => h) (by rfl) ?hya0x1 (by assumption) ?_
    case hya0x1 => (intro w hSw; (try dsimp only at hSw); go_simp <;> with_reducible rfl)
    (try simp only [Act.put, List.setIfInBounds_toArray, List.set_cons_zero, List.set_cons_succ])
    refine wpAnyH_tk 2 (v := ?va2x2) rfl (by kernel_rfl) (by kernel_rfl) (by kernel_rfl) (fun _ _ _ h => h) (by rfl) ?hya2x2 (by assumption) ?_
    case hya2x2 => (intro w hSw; (try dsimp only at hSw); go_simp <;> with_reducible rfl)
    (try simp only [Act.put, List.setIfInBounds_toArray, List.set_cons_zero, List.set_cons_succ])
    refine wpAnyH_three 1 4 5 rfl rfl rfl (by kernel_rfl) (by rfl) (by rfl) (by rfl) (fun K hK => ?_) (fun K hK => ?_) (fun K hK => ?_)
    · skip
      go_simp
      refine (distances_any _ N rs _ (Roads.ext HV.out (HE.out.trans E.out)) hN1 hN8 h16 HAll.out (TAB.out.good (by decide))).mono ?_
      rintro e W0 ⟨v8, rfl, hm, he⟩
      obtain ⟨a8, k8, rfl⟩ := hm.shape
      have M8 := hid (hm.base E.out.size)
      replace E := hid (E.out.trans he)
      clear hm he
      refine hK.out _ _ ?hSa1x3 (fun hHeld => ?_)
      case hSa1x3 => exact HKEEP.out _ E.out
      clear hK K
      (try simp only [Act.put, List.setIfInBounds_toArray, List.set_cons_zero, List.set_cons_succ])
      refine wpAnyH_three 3 4 5 rfl rfl rfl (by kernel_rfl) (by rfl) (by rfl) (by rfl) (fun K hK => ?_) (fun K hK => ?_) (fun K hK => ?_)
      · skip
        go_simp
        refine (costs_any _ N rs _ (Roads.ext HV.out (HE.out.trans E.out)) hN1 hN8 h16 HAll.out).mono ?_
        rintro e W1 ⟨v9, rfl, hm, he⟩
        obtain ⟨a9, k9, rfl⟩ := hm.shape
        have M9 := hid (hm.base E.out.size)
        replace E := hid (E.out.trans he)
        replace M8 := hid (M8.out.ext he)
        clear hm he
        refine hK.out _ _ ?hSa3x4 (fun hHeld => ?_)
        case hSa3x4 => exact HKEEP.out _ E.out
        clear hK K
        (try simp only [Act.put, List.setIfInBounds_toArray, List.set_cons_zero, List.set_cons_succ])
        refine wpAnyH_two 4 5 rfl rfl (by kernel_rfl) (by rfl) (by rfl) (fun K hK => ?_) (fun K hK => ?_)
        · skip
          go_simp
          have he : Ext W1 (W1.alloc (.cells #[Value.slice none 0 0] 52)) := Ext.ofAlloc _ _
          have hx := heap_alloc_new W1 (.cells #[Value.slice none 0 0] 52)
          have hs := E.out.size
          generalize W1.alloc (.cells #[Value.slice none 0 0] 52) = W2 at he hx ⊢
          generalize W1.heap.size = b8 at hx hs ⊢
          have B8 : Hid (TBox W2 b8 (.slice none 0 0)) := hx
          have S8 := hid hs
          replace E := hid (E.out.trans he)
          replace M8 := hid (M8.out.ext he)
          replace M9 := hid (M9.out.ext he)
          clear he hx hs
          refine hK.out _ _ ?hSa4x5 (fun hHeld => ?_)
          case hSa4x5 => exact HKEEP.out _ E.out
          clear hK K
          (try simp only [Act.put, List.setIfInBounds_toArray, List.set_cons_zero, List.set_cons_succ])
          refine wpAnyH_one 5 rfl (by kernel_rfl) (by rfl) (fun K hK => ?_)
          go_simp
          have he : Ext W2 (W2.alloc (.cells #[Value.slice none 0 0] 52)) := Ext.ofAlloc _ _
          have hx := heap_alloc_new W2 (.cells #[Value.slice none 0 0] 52)
          have hs := E.out.size
          have hlt := B8.out.lt
          generalize W2.alloc (.cells #[Value.slice none 0 0] 52) = W3 at he hx ⊢
          generalize W2.heap.size = b9 at hx hs hlt ⊢
          have B9 : Hid (TBox W3 b9 (.slice none 0 0)) := hx
          have S9 := hid hs
          have HNE : Hid (b8 ≠ b9) := Nat.ne_of_lt hlt
          replace E := hid (E.out.trans he)
          replace M8 := hid (M8.out.ext he)
          replace M9 := hid (M9.out.ext he)
          replace B8 := hid (B8.out.ext he)
          clear he hx hs hlt
          refine hK.out _ _ ?hSa5x6 (fun hHeld => ?_)
          case hSa5x6 => exact HKEEP.out _ E.out
          clear hK K
          (try simp only [Act.put, List.setIfInBounds_toArray, List.set_cons_zero, List.set_cons_succ])
          have d8 := B8.out.cell
          have fr8 := B8.out.free
          refine wpAnyH_one 6 rfl (by kernel_rfl) (by rfl) (fun K hK => ?_)
          go_simp
          replace E := hid (Ext.setCell E.out S8.out 0 (.slice a8 N k8))
          replace M8 := hid (M8.out.setBox B8.out (.slice a8 N k8))
          replace M9 := hid (M9.out.setBox B8.out (.slice a8 N k8))
          replace B9 := hid (B9.out.other HNE.out (.slice a8 N k8))
          replace B8 := hid (B8.out.set (.slice a8 N k8))
          clear d8 fr8
          generalize W3.setCell ⟨b8, 0, none⟩ (.slice a8 N k8) = W4 at E M8 M9 B8 B9 ⊢
          refine hK.out _ _ ?hSa6x7 (fun hHeld => ?_)
          case hSa6x7 => exact HKEEP.out _ E.out
          clear hK K
          (try simp only [Act.put, List.setIfInBounds_toArray, List.set_cons_zero, List.set_cons_succ])
          have d8 := B9.out.cell
          have fr8 := B9.out.free
          refine wpAnyH_one 7 rfl (by kernel_rfl) (by rfl) (fun K hK => ?_)
          go_simp
          replace E := hid (Ext.setCell E.out S9.out 0 (.slice a9 N k9))
          replace M8 := hid (M8.out.setBox B9.out (.slice a9 N k9))
          replace M9 := hid (M9.out.setBox B9.out (.slice a9 N k9))
          replace B8 := hid (B8.out.other HNE.out.symm (.slice a9 N k9))
          replace B9 := hid (B9.out.set (.slice a9 N k9))
          clear d8 fr8
          generalize W4.setCell ⟨b9, 0, none⟩ (.slice a9 N k9) = W5 at E M8 M9 B8 B9 ⊢
          refine hK.out _ _ ?hSa7x8 (fun hHeld => ?_)
          case hSa7x8 => exact HKEEP.out _ E.out
          clear hK K
          (try simp only [Act.put, List.setIfInBounds_toArray, List.set_cons_zero, List.set_cons_succ])
          refine wpAnyH_done (by kernel_rfl) ?_ _
          exact ⟨b8, b9, a8, k8, a9, k9, rfl, ⟨E.out, M8.out, M9.out, B8.out, B9.out, S8.out, S9.out⟩⟩
        · skip
          go_simp
          have he : Ext W1 (W1.alloc (.cells #[Value.slice none 0 0] 52)) := Ext.ofAlloc _ _
          have hx := heap_alloc_new W1 (.cells #[Value.slice none 0 0] 52)
          have hs := E.out.size
          generalize W1.alloc (.cells #[Value.slice none 0 0] 52) = W2 at he hx ⊢
          generalize W1.heap.size = b9 at hx hs ⊢
          have B9 : Hid (TBox W2 b9 (.slice none 0 0)) := hx
          have S9 := hid hs
          replace E := hid (E.out.trans he)
          replace M8 := hid (M8.out.ext he)
          replace M9 := hid (M9.out.ext he)
          clear he hx hs
          refine hK.out _ _ ?hSa5x9 (fun hHeld => ?_)
          case hSa5x9 => exact HKEEP.out _ E.out
          clear hK K
          (try simp only [Act.put, List.setIfInBounds_toArray, List.set_cons_zero, List.set_cons_succ])
          refine wpAnyH_one 4 rfl (by kernel_rfl) (by rfl) (fun K hK => ?_)
          go_simp
          have he : Ext W2 (W2.alloc (.cells #[Value.slice none 0 0] 52)) := Ext.ofAlloc _ _
          have hx := heap_alloc_new W2 (.cells #[Value.slice none 0 0] 52)
          have hs := E.out.size
          have hlt := B9.out.lt
          generalize W2.alloc (.cells #[Value.slice none 0 0] 52) = W3 at he hx ⊢
          generalize W2.heap.size = b8 at hx hs hlt ⊢
          have B8 : Hid (TBox W3 b8 (.slice none 0 0)) := hx
          have S8 := hid hs
          have HNE : Hid (b8 ≠ b9) := Nat.ne_of_gt hlt
          replace E := hid (E.out.trans he)
          replace M8 := hid (M8.out.ext he)
          replace M9 := hid (M9.out.ext he)
          replace B9 := hid (B9.out.ext he)
          clear he hx hs hlt
          refine hK.out _ _ ?hSa4x10 (fun hHeld => ?_)
          case hSa4x10 => exact HKEEP.out _ E.out
          clear hK K
          (try simp only [Act.put, List.setIfInBounds_toArray, List.set_cons_zero, List.set_cons_succ])
          have d8 := B8.out.cell
          have fr8 := B8.out.free
          refine wpAnyH_one 6 rfl (by kernel_rfl) (by rfl) (fun K hK => ?_)
          go_simp
          replace E := hid (Ext.setCell E.out S8.out 0 (.slice a8 N k8))
          replace M8 := hid (M8.out.setBox B8.out (.slice a8 N k8))
          replace M9 := hid (M9.out.setBox B8.out (.slice a8 N k8))
          replace B9 := hid (B9.out.other HNE.out (.slice a8 N k8))
          replace B8 := hid (B8.out.set (.slice a8 N k8))
          clear d8 fr8
          generalize W3.setCell ⟨b8, 0, none⟩ (.slice a8 N k8) = W4 at E M8 M9 B8 B9 ⊢
          refine hK.out _ _ ?hSa6x11 (fun hHeld => ?_)
          case hSa6x11 => exact HKEEP.out _ E.out
          clear hK K
          (try simp only [Act.put, List.setIfInBounds_toArray, List.set_cons_zero, List.set_cons_succ])
          have d8 := B9.out.cell
          have fr8 := B9.out.free
          refine wpAnyH_one 7 rfl (by kernel_rfl) (by rfl) (fun K hK => ?_)
          go_simp
          replace E := hid (Ext.setCell E.out S9.out 0 (.slice a9 N k9))
          replace M8 := hid (M8.out.setBox B9.out (.slice a9 N k9))
          replace M9 := hid (M9.out.setBox B9.out (.slice a9 N k9))
          replace B8 := hid (B8.out.other HNE.out.symm (.slice a9 N k9))
          replace B9 := hid (B9.out.set (.slice a9 N k9))
          clear d8 fr8
          generalize W4.setCell ⟨b9, 0, none⟩ (.slice a9 N k9) = W5 at E M8 M9 B8 B9 ⊢
          refine hK.out _ _ ?hSa7x12 (fun hHeld => ?_)
          case hSa7x12 => exact HKEEP.out _ E.out
          clear hK K
          (try simp only [Act.put, List.setIfInBounds_toArray, List.set_cons_zero, List.set_cons_succ])
          refine wpAnyH_done (by kernel_rfl) ?_ _
          exact ⟨b8, b9, a8, k8, a9, k9, rfl, ⟨E.out, M8.out, M9.out, B8.out, B9.out, S8.out, S9.out⟩⟩
      · skip
        go_simp
        have he : Ext W0 (W0.alloc (.cells #[Value.slice none 0 0] 52)) := Ext.ofAlloc _ _
        have hx := heap_alloc_new W0 (.cells #[Value.slice none 0 0] 52)
        have hs := E.out.size
        generalize W0.alloc (.cells #[Value.slice none 0 0] 52) = W1 at he hx ⊢
        generalize W0.heap.size = b8 at hx hs ⊢
        have B8 : Hid (TBox W1 b8 (.slice none 0 0)) := hx
        have S8 := hid hs
        replace E := hid (E.out.trans he)
        replace M8 := hid (M8.out.ext he)
        clear he hx hs
        refine hK.out _ _ ?hSa4x13 (fun hHeld => ?_)
        case hSa4x13 => exact HKEEP.out _ E.out
        clear hK K
        (try simp only [Act.put, List.setIfInBounds_toArray, List.set_cons_zero, List.set_cons_succ])
        refine wpAnyH_two 3 5 rfl rfl (by kernel_rfl) (by rfl) (by rfl) (fun K hK => ?_) (fun K hK => ?_)
        · skip
          go_simp
          refine (costs_any _ N rs _ (Roads.ext HV.out (HE.out.trans E.out)) hN1 hN8 h16 HAll.out).mono ?_
          rintro e W2 ⟨v9, rfl, hm, he⟩
          obtain ⟨a9, k9, rfl⟩ := hm.shape
          have M9 := hid (hm.base E.out.size)
          replace E := hid (E.out.trans he)
          replace M8 := hid (M8.out.ext he)
          replace B8 := hid (B8.out.ext he)
          clear hm he
          refine hK.out _ _ ?hSa3x14 (fun hHeld => ?_)
          case hSa3x14 => exact HKEEP.out _ E.out
          clear hK K
          (try simp only [Act.put, List.setIfInBounds_toArray, List.set_cons_zero, List.set_cons_succ])
          refine wpAnyH_one 5 rfl (by kernel_rfl) (by rfl) (fun K hK => ?_)
          go_simp
          have he : Ext W2 (W2.alloc (.cells #[Value.slice none 0 0] 52)) := Ext.ofAlloc _ _
          have hx := heap_alloc_new W2 (.cells #[Value.slice none 0 0] 52)
          have hs := E.out.size
          have hlt := B8.out.lt
          generalize W2.alloc (.cells #[Value.slice none 0 0] 52) = W3 at he hx ⊢
          generalize W2.heap.size = b9 at hx hs hlt ⊢
          have B9 : Hid (TBox W3 b9 (.slice none 0 0)) := hx
          have S9 := hid hs
          have HNE : Hid (b8 ≠ b9) := Nat.ne_of_lt hlt
          replace E := hid (E.out.trans he)
          replace M8 := hid (M8.out.ext he)
          replace M9 := hid (M9.out.ext he)
          replace B8 := hid (B8.out.ext he)
          clear he hx hs hlt
          refine hK.out _ _ ?hSa5x15 (fun hHeld => ?_)
          case hSa5x15 => exact HKEEP.out _ E.out
          clear hK K
          (try simp only [Act.put, List.setIfInBounds_toArray, List.set_cons_zero, List.set_cons_succ])
          have d8 := B8.out.cell
          have fr8 := B8.out.free
          refine wpAnyH_one 6 rfl (by kernel_rfl) (by rfl) (fun K hK => ?_)
          go_simp
          replace E := hid (Ext.setCell E.out S8.out 0 (.slice a8 N k8))
          replace M8 := hid (M8.out.setBox B8.out (.slice a8 N k8))
          replace M9 := hid (M9.out.setBox B8.out (.slice a8 N k8))
          replace B9 := hid (B9.out.other HNE.out (.slice a8 N k8))
          replace B8 := hid (B8.out.set (.slice a8 N k8))
          clear d8 fr8
          generalize W3.setCell ⟨b8, 0, none⟩ (.slice a8 N k8) = W4 at E M8 M9 B8 B9 ⊢
          refine hK.out _ _ ?hSa6x16 (fun hHeld => ?_)
          case hSa6x16 => exact HKEEP.out _ E.out
          clear hK K
          (try simp only [Act.put, List.setIfInBounds_toArray, List.set_cons_zero, List.set_cons_succ])
          have d8 := B9.out.cell
          have fr8 := B9.out.free
          refine wpAnyH_one 7 rfl (by kernel_rfl) (by rfl) (fun K hK => ?_)
          go_simp
          replace E := hid (Ext.setCell E.out S9.out 0 (.slice a9 N k9))
          replace M8 := hid (M8.out.setBox B9.out (.slice a9 N k9))
          replace M9 := hid (M9.out.setBox B9.out (.slice a9 N k9))
          replace B8 := hid (B8.out.other HNE.out.symm (.slice a9 N k9))
          replace B9 := hid (B9.out.set (.slice a9 N k9))
          clear d8 fr8
          generalize W4.setCell ⟨b9, 0, none⟩ (.slice a9 N k9) = W5 at E M8 M9 B8 B9 ⊢
          refine hK.out _ _ ?hSa7x17 (fun hHeld => ?_)
          case hSa7x17 => exact HKEEP.out _ E.out
          clear hK K
          (try simp only [Act.put, List.setIfInBounds_toArray, List.set_cons_zero, List.set_cons_succ])
          refine wpAnyH_done (by kernel_rfl) ?_ _
          exact ⟨b8, b9, a8, k8, a9, k9, rfl, ⟨E.out, M8.out, M9.out, B8.out, B9.out, S8.out, S9.out⟩⟩
        · skip
          go_simp
          have he : Ext W1 (W1.alloc (.cells #[Value.slice none 0 0] 52)) := Ext.ofAlloc _ _
          have hx := heap_alloc_new W1 (.cells #[Value.slice none 0 0] 52)
          have hs := E.out.size
          have hlt := B8.out.lt
          generalize W1.alloc (.cells #[Value.slice none 0 0] 52) = W2 at he hx ⊢
          generalize W1.heap.size = b9 at hx hs hlt ⊢
          have B9 : Hid (TBox W2 b9 (.slice none 0 0)) := hx
          have S9 := hid hs
          have HNE : Hid (b8 ≠ b9) := Nat.ne_of_lt hlt
          replace E := hid (E.out.trans he)
          replace M8 := hid (M8.out.ext he)
          replace B8 := hid (B8.out.ext he)
          clear he hx hs hlt
          refine hK.out _ _ ?hSa5x18 (fun hHeld => ?_)
          case hSa5x18 => exact HKEEP.out _ E.out
          clear hK K
          (try simp only [Act.put, List.setIfInBounds_toArray, List.set_cons_zero, List.set_cons_succ])
          refine wpAnyH_one 3 rfl (by kernel_rfl) (by rfl) (fun K hK => ?_)
          go_simp
          refine (costs_any _ N rs _ (Roads.ext HV.out (HE.out.trans E.out)) hN1 hN8 h16 HAll.out).mono ?_
          rintro e W3 ⟨v9, rfl, hm, he⟩
          obtain ⟨a9, k9, rfl⟩ := hm.shape
          have M9 := hid (hm.base E.out.size)
          replace E := hid (E.out.trans he)
          replace M8 := hid (M8.out.ext he)
          replace B8 := hid (B8.out.ext he)
          replace B9 := hid (B9.out.ext he)
          clear hm he
          refine hK.out _ _ ?hSa3x19 (fun hHeld => ?_)
          case hSa3x19 => exact HKEEP.out _ E.out
          clear hK K
          (try simp only [Act.put, List.setIfInBounds_toArray, List.set_cons_zero, List.set_cons_succ])
          have d8 := B8.out.cell
          have fr8 := B8.out.free
          refine wpAnyH_one 6 rfl (by kernel_rfl) (by rfl) (fun K hK => ?_)
          go_simp
          replace E := hid (Ext.setCell E.out S8.out 0 (.slice a8 N k8))
          replace M8 := hid (M8.out.setBox B8.out (.slice a8 N k8))
          replace M9 := hid (M9.out.setBox B8.out (.slice a8 N k8))
          replace B9 := hid (B9.out.other HNE.out (.slice a8 N k8))
          replace B8 := hid (B8.out.set (.slice a8 N k8))
          clear d8 fr8
          generalize W3.setCell ⟨b8, 0, none⟩ (.slice a8 N k8) = W4 at E M8 M9 B8 B9 ⊢
          refine hK.out _ _ ?hSa6x20 (fun hHeld => ?_)
          case hSa6x20 => exact HKEEP.out _ E.out
          clear hK K
          (try simp only [Act.put, List.setIfInBounds_toArray, List.set_cons_zero, List.set_cons_succ])
          have d8 := B9.out.cell
          have fr8 := B9.out.free
          refine wpAnyH_one 7 rfl (by kernel_rfl) (by rfl) (fun K hK => ?_)
          go_simp
          replace E := hid (Ext.setCell E.out S9.out 0 (.slice a9 N k9))
          replace M8 := hid (M8.out.setBox B9.out (.slice a9 N k9))
          replace M9 := hid (M9.out.setBox B9.out (.slice a9 N k9))
          replace B8 := hid (B8.out.other HNE.out.symm (.slice a9 N k9))
          replace B9 := hid (B9.out.set (.slice a9 N k9))
          clear d8 fr8
          generalize W4.setCell ⟨b9, 0, none⟩ (.slice a9 N k9) = W5 at E M8 M9 B8 B9 ⊢
          refine hK.out _ _ ?hSa7x21 (fun hHeld => ?_)
          case hSa7x21 => exact HKEEP.out _ E.out
          clear hK K
          (try simp only [Act.put, List.setIfInBounds_toArray, List.set_cons_zero, List.set_cons_succ])
          refine wpAnyH_done (by kernel_rfl) ?_ _
          exact ⟨b8, b9, a8, k8, a9, k9, rfl, ⟨E.out, M8.out, M9.out, B8.out, B9.out, S8.out, S9.out⟩⟩
      · skip
        go_simp
        have he : Ext W0 (W0.alloc (.cells #[Value.slice none 0 0] 52)) := Ext.ofAlloc _ _
        have hx := heap_alloc_new W0 (.cells #[Value.slice none 0 0] 52)
        have hs := E.out.size
        generalize W0.alloc (.cells #[Value.slice none 0 0] 52) = W1 at he hx ⊢
        generalize W0.heap.size = b9 at hx hs ⊢
        have B9 : Hid (TBox W1 b9 (.slice none 0 0)) := hx
        have S9 := hid hs
        replace E := hid (E.out.trans he)
        replace M8 := hid (M8.out.ext he)
        clear he hx hs
        refine hK.out _ _ ?hSa5x22 (fun hHeld => ?_)
        case hSa5x22 => exact HKEEP.out _ E.out
        clear hK K
        (try simp only [Act.put, List.setIfInBounds_toArray, List.set_cons_zero, List.set_cons_succ])
        refine wpAnyH_two 3 4 rfl rfl (by kernel_rfl) (by rfl) (by rfl) (fun K hK => ?_) (fun K hK => ?_)
        · skip
          go_simp
          refine (costs_any _ N rs _ (Roads.ext HV.out (HE.out.trans E.out)) hN1 hN8 h16 HAll.out).mono ?_
          rintro e W2 ⟨v9, rfl, hm, he⟩
          obtain ⟨a9, k9, rfl⟩ := hm.shape
          have M9 := hid (hm.base E.out.size)
          replace E := hid (E.out.trans he)
          replace M8 := hid (M8.out.ext he)
          replace B9 := hid (B9.out.ext he)
          clear hm he
          refine hK.out _ _ ?hSa3x23 (fun hHeld => ?_)
          case hSa3x23 => exact HKEEP.out _ E.out
          clear hK K
          (try simp only [Act.put, List.setIfInBounds_toArray, List.set_cons_zero, List.set_cons_succ])
          refine wpAnyH_one 4 rfl (by kernel_rfl) (by rfl) (fun K hK => ?_)
          go_simp
          have he : Ext W2 (W2.alloc (.cells #[Value.slice none 0 0] 52)) := Ext.ofAlloc _ _
          have hx := heap_alloc_new W2 (.cells #[Value.slice none 0 0] 52)
          have hs := E.out.size
          have hlt := B9.out.lt
          generalize W2.alloc (.cells #[Value.slice none 0 0] 52) = W3 at he hx ⊢
          generalize W2.heap.size = b8 at hx hs hlt ⊢
          have B8 : Hid (TBox W3 b8 (.slice none 0 0)) := hx
          have S8 := hid hs
          have HNE : Hid (b8 ≠ b9) := Nat.ne_of_gt hlt
          replace E := hid (E.out.trans he)
          replace M8 := hid (M8.out.ext he)
          replace M9 := hid (M9.out.ext he)
          replace B9 := hid (B9.out.ext he)
          clear he hx hs hlt
          refine hK.out _ _ ?hSa4x24 (fun hHeld => ?_)
          case hSa4x24 => exact HKEEP.out _ E.out
          clear hK K
          (try simp only [Act.put, List.setIfInBounds_toArray, List.set_cons_zero, List.set_cons_succ])
          have d8 := B8.out.cell
          have fr8 := B8.out.free
          refine wpAnyH_one 6 rfl (by kernel_rfl) (by rfl) (fun K hK => ?_)
          go_simp
          replace E := hid (Ext.setCell E.out S8.out 0 (.slice a8 N k8))
          replace M8 := hid (M8.out.setBox B8.out (.slice a8 N k8))
          replace M9 := hid (M9.out.setBox B8.out (.slice a8 N k8))
          replace B9 := hid (B9.out.other HNE.out (.slice a8 N k8))
          replace B8 := hid (B8.out.set (.slice a8 N k8))
          clear d8 fr8
          generalize W3.setCell ⟨b8, 0, none⟩ (.slice a8 N k8) = W4 at E M8 M9 B8 B9 ⊢
          refine hK.out _ _ ?hSa6x25 (fun hHeld => ?_)
          case hSa6x25 => exact HKEEP.out _ E.out
          clear hK K
          (try simp only [Act.put, List.setIfInBounds_toArray, List.set_cons_zero, List.set_cons_succ])
          have d8 := B9.out.cell
          have fr8 := B9.out.free
          refine wpAnyH_one 7 rfl (by kernel_rfl) (by rfl) (fun K hK => ?_)
          go_simp
          replace E := hid (Ext.setCell E.out S9.out 0 (.slice a9 N k9))
          replace M8 := hid (M8.out.setBox B9.out (.slice a9 N k9))
          replace M9 := hid (M9.out.setBox B9.out (.slice a9 N k9))
          replace B8 := hid (B8.out.other HNE.out.symm (.slice a9 N k9))
          replace B9 := hid (B9.out.set (.slice a9 N k9))
          clear d8 fr8
          generalize W4.setCell ⟨b9, 0, none⟩ (.slice a9 N k9) = W5 at E M8 M9 B8 B9 ⊢
          refine hK.out _ _ ?hSa7x26 (fun hHeld => ?_)
          case hSa7x26 => exact HKEEP.out _ E.out
          clear hK K
          (try simp only [Act.put, List.setIfInBounds_toArray, List.set_cons_zero, List.set_cons_succ])
          refine wpAnyH_done (by kernel_rfl) ?_ _
          exact ⟨b8, b9, a8, k8, a9, k9, rfl, ⟨E.out, M8.out, M9.out, B8.out, B9.out, S8.out, S9.out⟩⟩
        · skip
          go_simp
          have he : Ext W1 (W1.alloc (.cells #[Value.slice none 0 0] 52)) := Ext.ofAlloc _ _
          have hx := heap_alloc_new W1 (.cells #[Value.slice none 0 0] 52)
          have hs := E.out.size
          have hlt := B9.out.lt
          generalize W1.alloc (.cells #[Value.slice none 0 0] 52) = W2 at he hx ⊢
          generalize W1.heap.size = b8 at hx hs hlt ⊢
          have B8 : Hid (TBox W2 b8 (.slice none 0 0)) := hx
          have S8 := hid hs
          have HNE : Hid (b8 ≠ b9) := Nat.ne_of_gt hlt
          replace E := hid (E.out.trans he)
          replace M8 := hid (M8.out.ext he)
          replace B9 := hid (B9.out.ext he)
          clear he hx hs hlt
          refine hK.out _ _ ?hSa4x27 (fun hHeld => ?_)
          case hSa4x27 => exact HKEEP.out _ E.out
          clear hK K
          (try simp only [Act.put, List.setIfInBounds_toArray, List.set_cons_zero, List.set_cons_succ])
          refine wpAnyH_one 3 rfl (by kernel_rfl) (by rfl) (fun K hK => ?_)
          go_simp
          refine (costs_any _ N rs _ (Roads.ext HV.out (HE.out.trans E.out)) hN1 hN8 h16 HAll.out).mono ?_
          rintro e W3 ⟨v9, rfl, hm, he⟩
          obtain ⟨a9, k9, rfl⟩ := hm.shape
          have M9 := hid (hm.base E.out.size)
          replace E := hid (E.out.trans he)
          replace M8 := hid (M8.out.ext he)
          replace B8 := hid (B8.out.ext he)
          replace B9 := hid (B9.out.ext he)
          clear hm he
          refine hK.out _ _ ?hSa3x28 (fun hHeld => ?_)
          case hSa3x28 => exact HKEEP.out _ E.out
          clear hK K
          (try simp only [Act.put, List.setIfInBounds_toArray, List.set_cons_zero, List.set_cons_succ])
          have d8 := B8.out.cell
          have fr8 := B8.out.free
          refine wpAnyH_one 6 rfl (by kernel_rfl) (by rfl) (fun K hK => ?_)
          go_simp
          replace E := hid (Ext.setCell E.out S8.out 0 (.slice a8 N k8))
          replace M8 := hid (M8.out.setBox B8.out (.slice a8 N k8))
          replace M9 := hid (M9.out.setBox B8.out (.slice a8 N k8))
          replace B9 := hid (B9.out.other HNE.out (.slice a8 N k8))
          replace B8 := hid (B8.out.set (.slice a8 N k8))
          clear d8 fr8
          generalize W3.setCell ⟨b8, 0, none⟩ (.slice a8 N k8) = W4 at E M8 M9 B8 B9 ⊢
          refine hK.out _ _ ?hSa6x29 (fun hHeld => ?_)
          case hSa6x29 => exact HKEEP.out _ E.out
          clear hK K
          (try simp only [Act.put, List.setIfInBounds_toArray, List.set_cons_zero, List.set_cons_succ])
          have d8 := B9.out.cell
          have fr8 := B9.out.free
          refine wpAnyH_one 7 rfl (by kernel_rfl) (by rfl) (fun K hK => ?_)
          go_simp
          replace E := hid (Ext.setCell E.out S9.out 0 (.slice a9 N k9))
          replace M8 := hid (M8.out.setBox B9.out (.slice a9 N k9))
          replace M9 := hid (M9.out.setBox B9.out (.slice a9 N k9))
          replace B8 := hid (B8.out.other HNE.out.symm (.slice a9 N k9))
          replace B9 := hid (B9.out.set (.slice a9 N k9))
          clear d8 fr8
          generalize W4.setCell ⟨b9, 0, none⟩ (.slice a9 N k9) = W5 at E M8 M9 B8 B9 ⊢
          refine hK.out _ _ ?hSa7x30 (fun hHeld => ?_)
          case hSa7x30 => exact HKEEP.out _ E.out
          clear hK K
          (try simp only [Act.put, List.setIfInBounds_toArray, List.set_cons_zero, List.set_cons_succ])
          refine wpAnyH_done (by kernel_rfl) ?_ _
          exact ⟨b8, b9, a8, k8, a9, k9, rfl, ⟨E.out, M8.out, M9.out, B8.out, B9.out, S8.out, S9.out⟩⟩
    · skip
      go_simp
      have he : Ext w4 (w4.alloc (.cells #[Value.slice none 0 0] 52)).drew := (Ext.ofAlloc _ _).drew
      have hx : (w4.alloc (.cells #[Value.slice none 0 0] 52)).drew.heap[w4.heap.size]? = _ := heap_alloc_new w4 (.cells #[Value.slice none 0 0] 52)
      replace E := hid (Ext.refl w4)
      have hs := E.out.size
      generalize (w4.alloc (.cells #[Value.slice none 0 0] 52)).drew = W0 at he hx ⊢
      clear hs
      generalize hbb : w4.heap.size = b8 at hx ⊢
      have hs : w4.heap.size ≤ b8 := Nat.le_of_eq hbb
      clear hbb
      have B8 : Hid (TBox W0 b8 (.slice none 0 0)) := hx
      have S8 := hid hs
      replace E := hid (E.out.trans he)
      clear he hx hs
      refine hK.out _ _ ?hSa4x31 (fun hHeld => ?_)
      case hSa4x31 => exact HKEEP.out _ E.out
      clear hK K
      (try simp only [Act.put, List.setIfInBounds_toArray, List.set_cons_zero, List.set_cons_succ])
      refine wpAnyH_two 1 5 rfl rfl (by kernel_rfl) (by rfl) (by rfl) (fun K hK => ?_) (fun K hK => ?_)
      · skip
        go_simp
        refine (distances_any _ N rs _ (Roads.ext HV.out (HE.out.trans E.out)) hN1 hN8 h16 HAll.out (TAB.out.good (by decide))).mono ?_
        rintro e W1 ⟨v8, rfl, hm, he⟩
        obtain ⟨a8, k8, rfl⟩ := hm.shape
        have M8 := hid (hm.base E.out.size)
        replace E := hid (E.out.trans he)
        replace B8 := hid (B8.out.ext he)
        clear hm he
        refine hK.out _ _ ?hSa1x32 (fun hHeld => ?_)
        case hSa1x32 => exact HKEEP.out _ E.out
        clear hK K
        (try simp only [Act.put, List.setIfInBounds_toArray, List.set_cons_zero, List.set_cons_succ])
        refine wpAnyH_two 3 5 rfl rfl (by kernel_rfl) (by rfl) (by rfl) (fun K hK => ?_) (fun K hK => ?_)
        · skip
          go_simp
          refine (costs_any _ N rs _ (Roads.ext HV.out (HE.out.trans E.out)) hN1 hN8 h16 HAll.out).mono ?_
          rintro e W2 ⟨v9, rfl, hm, he⟩
          obtain ⟨a9, k9, rfl⟩ := hm.shape
          have M9 := hid (hm.base E.out.size)
          replace E := hid (E.out.trans he)
          replace M8 := hid (M8.out.ext he)
          replace B8 := hid (B8.out.ext he)
          clear hm he
          refine hK.out _ _ ?hSa3x33 (fun hHeld => ?_)
          case hSa3x33 => exact HKEEP.out _ E.out
          clear hK K
          (try simp only [Act.put, List.setIfInBounds_toArray, List.set_cons_zero, List.set_cons_succ])
          refine wpAnyH_one 5 rfl (by kernel_rfl) (by rfl) (fun K hK => ?_)
          go_simp
          have he : Ext W2 (W2.alloc (.cells #[Value.slice none 0 0] 52)) := Ext.ofAlloc _ _
          have hx := heap_alloc_new W2 (.cells #[Value.slice none 0 0] 52)
          have hs := E.out.size
          have hlt := B8.out.lt
          generalize W2.alloc (.cells #[Value.slice none 0 0] 52) = W3 at he hx ⊢
          generalize W2.heap.size = b9 at hx hs hlt ⊢
          have B9 : Hid (TBox W3 b9 (.slice none 0 0)) := hx
          have S9 := hid hs
          have HNE : Hid (b8 ≠ b9) := Nat.ne_of_lt hlt
          replace E := hid (E.out.trans he)
          replace M8 := hid (M8.out.ext he)
          replace M9 := hid (M9.out.ext he)
          replace B8 := hid (B8.out.ext he)
          clear he hx hs hlt
          refine hK.out _ _ ?hSa5x34 (fun hHeld => ?_)
          case hSa5x34 => exact HKEEP.out _ E.out
          clear hK K
          (try simp only [Act.put, List.setIfInBounds_toArray, List.set_cons_zero, List.set_cons_succ])
          have d8 := B8.out.cell
          have fr8 := B8.out.free
          refine wpAnyH_one 6 rfl (by kernel_rfl) (by rfl) (fun K hK => ?_)
          go_simp
          replace E := hid (Ext.setCell E.out S8.out 0 (.slice a8 N k8))
          replace M8 := hid (M8.out.setBox B8.out (.slice a8 N k8))
          replace M9 := hid (M9.out.setBox B8.out (.slice a8 N k8))
          replace B9 := hid (B9.out.other HNE.out (.slice a8 N k8))
          replace B8 := hid (B8.out.set (.slice a8 N k8))
          clear d8 fr8
          generalize W3.setCell ⟨b8, 0, none⟩ (.slice a8 N k8) = W4 at E M8 M9 B8 B9 ⊢
          refine hK.out _ _ ?hSa6x35 (fun hHeld => ?_)
          case hSa6x35 => exact HKEEP.out _ E.out
          clear hK K
          (try simp only [Act.put, List.setIfInBounds_toArray, List.set_cons_zero, List.set_cons_succ])
          have d8 := B9.out.cell
          have fr8 := B9.out.free
          refine wpAnyH_one 7 rfl (by kernel_rfl) (by rfl) (fun K hK => ?_)
          go_simp
          replace E := hid (Ext.setCell E.out S9.out 0 (.slice a9 N k9))
          replace M8 := hid (M8.out.setBox B9.out (.slice a9 N k9))
          replace M9 := hid (M9.out.setBox B9.out (.slice a9 N k9))
          replace B8 := hid (B8.out.other HNE.out.symm (.slice a9 N k9))
          replace B9 := hid (B9.out.set (.slice a9 N k9))
          clear d8 fr8
          generalize W4.setCell ⟨b9, 0, none⟩ (.slice a9 N k9) = W5 at E M8 M9 B8 B9 ⊢
          refine hK.out _ _ ?hSa7x36 (fun hHeld => ?_)
          case hSa7x36 => exact HKEEP.out _ E.out
          clear hK K
          (try simp only [Act.put, List.setIfInBounds_toArray, List.set_cons_zero, List.set_cons_succ])
          refine wpAnyH_done (by kernel_rfl) ?_ _
          exact ⟨b8, b9, a8, k8, a9, k9, rfl, ⟨E.out, M8.out, M9.out, B8.out, B9.out, S8.out, S9.out⟩⟩
        · skip
          go_simp
          have he : Ext W1 (W1.alloc (.cells #[Value.slice none 0 0] 52)) := Ext.ofAlloc _ _
          have hx := heap_alloc_new W1 (.cells #[Value.slice none 0 0] 52)
          have hs := E.out.size
          have hlt := B8.out.lt
          generalize W1.alloc (.cells #[Value.slice none 0 0] 52) = W2 at he hx ⊢
          generalize W1.heap.size = b9 at hx hs hlt ⊢
          have B9 : Hid (TBox W2 b9 (.slice none 0 0)) := hx
          have S9 := hid hs
          have HNE : Hid (b8 ≠ b9) := Nat.ne_of_lt hlt
          replace E := hid (E.out.trans he)
          replace M8 := hid (M8.out.ext he)
          replace B8 := hid (B8.out.ext he)
          clear he hx hs hlt
          refine hK.out _ _ ?hSa5x37 (fun hHeld => ?_)
          case hSa5x37 => exact HKEEP.out _ E.out
          clear hK K
          (try simp only [Act.put, List.setIfInBounds_toArray, List.set_cons_zero, List.set_cons_succ])
          refine wpAnyH_one 3 rfl (by kernel_rfl) (by rfl) (fun K hK => ?_)
          go_simp
          refine (costs_any _ N rs _ (Roads.ext HV.out (HE.out.trans E.out)) hN1 hN8 h16 HAll.out).mono ?_
          rintro e W3 ⟨v9, rfl, hm, he⟩
          obtain ⟨a9, k9, rfl⟩ := hm.shape
          have M9 := hid (hm.base E.out.size)
          replace E := hid (E.out.trans he)
          replace M8 := hid (M8.out.ext he)
          replace B8 := hid (B8.out.ext he)
          replace B9 := hid (B9.out.ext he)
          clear hm he
          refine hK.out _ _ ?hSa3x38 (fun hHeld => ?_)
          case hSa3x38 => exact HKEEP.out _ E.out
          clear hK K
          (try simp only [Act.put, List.setIfInBounds_toArray, List.set_cons_zero, List.set_cons_succ])
          have d8 := B8.out.cell
          have fr8 := B8.out.free
          refine wpAnyH_one 6 rfl (by kernel_rfl) (by rfl) (fun K hK => ?_)
          go_simp
          replace E := hid (Ext.setCell E.out S8.out 0 (.slice a8 N k8))
          replace M8 := hid (M8.out.setBox B8.out (.slice a8 N k8))
          replace M9 := hid (M9.out.setBox B8.out (.slice a8 N k8))
          replace B9 := hid (B9.out.other HNE.out (.slice a8 N k8))
          replace B8 := hid (B8.out.set (.slice a8 N k8))
          clear d8 fr8
          generalize W3.setCell ⟨b8, 0, none⟩ (.slice a8 N k8) = W4 at E M8 M9 B8 B9 ⊢
          refine hK.out _ _ ?hSa6x39 (fun hHeld => ?_)
          case hSa6x39 => exact HKEEP.out _ E.out
          clear hK K
          (try simp only [Act.put, List.setIfInBounds_toArray, List.set_cons_zero, List.set_cons_succ])
          have d8 := B9.out.cell
          have fr8 := B9.out.free
          refine wpAnyH_one 7 rfl (by kernel_rfl) (by rfl) (fun K hK => ?_)
          go_simp
          replace E := hid (Ext.setCell E.out S9.out 0 (.slice a9 N k9))
          replace M8 := hid (M8.out.setBox B9.out (.slice a9 N k9))
          replace M9 := hid (M9.out.setBox B9.out (.slice a9 N k9))
          replace B8 := hid (B8.out.other HNE.out.symm (.slice a9 N k9))
          replace B9 := hid (B9.out.set (.slice a9 N k9))
          clear d8 fr8
          generalize W4.setCell ⟨b9, 0, none⟩ (.slice a9 N k9) = W5 at E M8 M9 B8 B9 ⊢
          refine hK.out _ _ ?hSa7x40 (fun hHeld => ?_)
          case hSa7x40 => exact HKEEP.out _ E.out
          clear hK K
          (try simp only [Act.put, List.setIfInBounds_toArray, List.set_cons_zero, List.set_cons_succ])
          refine wpAnyH_done (by kernel_rfl) ?_ _
          exact ⟨b8, b9, a8, k8, a9, k9, rfl, ⟨E.out, M8.out, M9.out, B8.out, B9.out, S8.out, S9.out⟩⟩
      · skip
        go_simp
        have he : Ext W0 (W0.alloc (.cells #[Value.slice none 0 0] 52)) := Ext.ofAlloc _ _
        have hx := heap_alloc_new W0 (.cells #[Value.slice none 0 0] 52)
        have hs := E.out.size
        have hlt := B8.out.lt
        generalize W0.alloc (.cells #[Value.slice none 0 0] 52) = W1 at he hx ⊢
        generalize W0.heap.size = b9 at hx hs hlt ⊢
        have B9 : Hid (TBox W1 b9 (.slice none 0 0)) := hx
        have S9 := hid hs
        have HNE : Hid (b8 ≠ b9) := Nat.ne_of_lt hlt
        replace E := hid (E.out.trans he)
        replace B8 := hid (B8.out.ext he)
        clear he hx hs hlt
        refine hK.out _ _ ?hSa5x41 (fun hHeld => ?_)
        case hSa5x41 => exact HKEEP.out _ E.out
        clear hK K
        (try simp only [Act.put, List.setIfInBounds_toArray, List.set_cons_zero, List.set_cons_succ])
        refine wpAnyH_one 1 rfl (by kernel_rfl) (by rfl) (fun K hK => ?_)
        go_simp
        refine (distances_any _ N rs _ (Roads.ext HV.out (HE.out.trans E.out)) hN1 hN8 h16 HAll.out (TAB.out.good (by decide))).mono ?_
        rintro e W2 ⟨v8, rfl, hm, he⟩
        obtain ⟨a8, k8, rfl⟩ := hm.shape
        have M8 := hid (hm.base E.out.size)
        replace E := hid (E.out.trans he)
        replace B8 := hid (B8.out.ext he)
        replace B9 := hid (B9.out.ext he)
        clear hm he
        refine hK.out _ _ ?hSa1x42 (fun hHeld => ?_)
        case hSa1x42 => exact HKEEP.out _ E.out
        clear hK K
        (try simp only [Act.put, List.setIfInBounds_toArray, List.set_cons_zero, List.set_cons_succ])
        refine wpAnyH_one 3 rfl (by kernel_rfl) (by rfl) (fun K hK => ?_)
        go_simp
        refine (costs_any _ N rs _ (Roads.ext HV.out (HE.out.trans E.out)) hN1 hN8 h16 HAll.out).mono ?_
        rintro e W3 ⟨v9, rfl, hm, he⟩
        obtain ⟨a9, k9, rfl⟩ := hm.shape
        have M9 := hid (hm.base E.out.size)
        replace E := hid (E.out.trans he)
        replace M8 := hid (M8.out.ext he)
        replace B8 := hid (B8.out.ext he)
        replace B9 := hid (B9.out.ext he)
        clear hm he
        refine hK.out _ _ ?hSa3x43 (fun hHeld => ?_)
        case hSa3x43 => exact HKEEP.out _ E.out
        clear hK K
        (try simp only [Act.put, List.setIfInBounds_toArray, List.set_cons_zero, List.set_cons_succ])
        have d8 := B8.out.cell
        have fr8 := B8.out.free
        refine wpAnyH_one 6 rfl (by kernel_rfl) (by rfl) (fun K hK => ?_)
        go_simp
        replace E := hid (Ext.setCell E.out S8.out 0 (.slice a8 N k8))
        replace M8 := hid (M8.out.setBox B8.out (.slice a8 N k8))
        replace M9 := hid (M9.out.setBox B8.out (.slice a8 N k8))
        replace B9 := hid (B9.out.other HNE.out (.slice a8 N k8))
        replace B8 := hid (B8.out.set (.slice a8 N k8))
        clear d8 fr8
        generalize W3.setCell ⟨b8, 0, none⟩ (.slice a8 N k8) = W4 at E M8 M9 B8 B9 ⊢
        refine hK.out _ _ ?hSa6x44 (fun hHeld => ?_)
        case hSa6x44 => exact HKEEP.out _ E.out
        clear hK K
        (try simp only [Act.put, List.setIfInBounds_toArray, List.set_cons_zero, List.set_cons_succ])
        have d8 := B9.out.cell
        have fr8 := B9.out.free
        refine wpAnyH_one 7 rfl (by kernel_rfl) (by rfl) (fun K hK => ?_)
        go_simp
        replace E := hid (Ext.setCell E.out S9.out 0 (.slice a9 N k9))
        replace M8 := hid (M8.out.setBox B9.out (.slice a9 N k9))
        replace M9 := hid (M9.out.setBox B9.out (.slice a9 N k9))
        replace B8 := hid (B8.out.other HNE.out.symm (.slice a9 N k9))
        replace B9 := hid (B9.out.set (.slice a9 N k9))
        clear d8 fr8
        generalize W4.setCell ⟨b9, 0, none⟩ (.slice a9 N k9) = W5 at E M8 M9 B8 B9 ⊢
        refine hK.out _ _ ?hSa7x45 (fun hHeld => ?_)
        case hSa7x45 => exact HKEEP.out _ E.out
        clear hK K
        (try simp only [Act.put, List.setIfInBounds_toArray, List.set_cons_zero, List.set_cons_succ])
        refine wpAnyH_done (by kernel_rfl) ?_ _
        exact ⟨b8, b9, a8, k8, a9, k9, rfl, ⟨E.out, M8.out, M9.out, B8.out, B9.out, S8.out, S9.out⟩⟩
    · skip
      go_simp
      have he : Ext w4 (w4.alloc (.cells #[Value.slice none 0 0] 52)).drew := (Ext.ofAlloc _ _).drew
      have hx : (w4.alloc (.cells #[Value.slice none 0 0] 52)).drew.heap[w4.heap.size]? = _ := heap_alloc_new w4 (.cells #[Value.slice none 0 0] 52)
      replace E := hid (Ext.refl w4)
      have hs := E.out.size
      generalize (w4.alloc (.cells #[Value.slice none 0 0] 52)).drew = W0 at he hx ⊢
      clear hs
      generalize hbb : w4.heap.size = b9 at hx ⊢
      have hs : w4.heap.size ≤ b9 := Nat.le_of_eq hbb
      clear hbb
      have B9 : Hid (TBox W0 b9 (.slice none 0 0)) := hx
      have S9 := hid hs
      replace E := hid (E.out.trans he)
      clear he hx hs
      refine hK.out _ _ ?hSa5x46 (fun hHeld => ?_)
      case hSa5x46 => exact HKEEP.out _ E.out
      clear hK K
      (try simp only [Act.put, List.setIfInBounds_toArray, List.set_cons_zero, List.set_cons_succ])
      refine wpAnyH_two 1 4 rfl rfl (by kernel_rfl) (by rfl) (by rfl) (fun K hK => ?_) (fun K hK => ?_)
      · skip
        go_simp
        refine (distances_any _ N rs _ (Roads.ext HV.out (HE.out.trans E.out)) hN1 hN8 h16 HAll.out (TAB.out.good (by decide))).mono ?_
        rintro e W1 ⟨v8, rfl, hm, he⟩
        obtain ⟨a8, k8, rfl⟩ := hm.shape
        have M8 := hid (hm.base E.out.size)
        replace E := hid (E.out.trans he)
        replace B9 := hid (B9.out.ext he)
        clear hm he
        refine hK.out _ _ ?hSa1x47 (fun hHeld => ?_)
        case hSa1x47 => exact HKEEP.out _ E.out
        clear hK K
        (try simp only [Act.put, List.setIfInBounds_toArray, List.set_cons_zero, List.set_cons_succ])
        refine wpAnyH_two 3 4 rfl rfl (by kernel_rfl) (by rfl) (by rfl) (fun K hK => ?_) (fun K hK => ?_)
        · skip
          go_simp
          refine (costs_any _ N rs _ (Roads.ext HV.out (HE.out.trans E.out)) hN1 hN8 h16 HAll.out).mono ?_
          rintro e W2 ⟨v9, rfl, hm, he⟩
          obtain ⟨a9, k9, rfl⟩ := hm.shape
          have M9 := hid (hm.base E.out.size)
          replace E := hid (E.out.trans he)
          replace M8 := hid (M8.out.ext he)
          replace B9 := hid (B9.out.ext he)
          clear hm he
          refine hK.out _ _ ?hSa3x48 (fun hHeld => ?_)
          case hSa3x48 => exact HKEEP.out _ E.out
          clear hK K
          (try simp only [Act.put, List.setIfInBounds_toArray, List.set_cons_zero, List.set_cons_succ])
          refine wpAnyH_one 4 rfl (by kernel_rfl) (by rfl) (fun K hK => ?_)
          go_simp
          have he : Ext W2 (W2.alloc (.cells #[Value.slice none 0 0] 52)) := Ext.ofAlloc _ _
          have hx := heap_alloc_new W2 (.cells #[Value.slice none 0 0] 52)
          have hs := E.out.size
          have hlt := B9.out.lt
          generalize W2.alloc (.cells #[Value.slice none 0 0] 52) = W3 at he hx ⊢
          generalize W2.heap.size = b8 at hx hs hlt ⊢
          have B8 : Hid (TBox W3 b8 (.slice none 0 0)) := hx
          have S8 := hid hs
          have HNE : Hid (b8 ≠ b9) := Nat.ne_of_gt hlt
          replace E := hid (E.out.trans he)
          replace M8 := hid (M8.out.ext he)
          replace M9 := hid (M9.out.ext he)
          replace B9 := hid (B9.out.ext he)
          clear he hx hs hlt
          refine hK.out _ _ ?hSa4x49 (fun hHeld => ?_)
          case hSa4x49 => exact HKEEP.out _ E.out
          clear hK K
          (try simp only [Act.put, List.setIfInBounds_toArray, List.set_cons_zero, List.set_cons_succ])
          have d8 := B8.out.cell
          have fr8 := B8.out.free
          refine wpAnyH_one 6 rfl (by kernel_rfl) (by rfl) (fun K hK => ?_)
          go_simp
          replace E := hid (Ext.setCell E.out S8.out 0 (.slice a8 N k8))
          replace M8 := hid (M8.out.setBox B8.out (.slice a8 N k8))
          replace M9 := hid (M9.out.setBox B8.out (.slice a8 N k8))
          replace B9 := hid (B9.out.other HNE.out (.slice a8 N k8))
          replace B8 := hid (B8.out.set (.slice a8 N k8))
          clear d8 fr8
          generalize W3.setCell ⟨b8, 0, none⟩ (.slice a8 N k8) = W4 at E M8 M9 B8 B9 ⊢
          refine hK.out _ _ ?hSa6x50 (fun hHeld => ?_)
          case hSa6x50 => exact HKEEP.out _ E.out
          clear hK K
          (try simp only [Act.put, List.setIfInBounds_toArray, List.set_cons_zero, List.set_cons_succ])
          have d8 := B9.out.cell
          have fr8 := B9.out.free
          refine wpAnyH_one 7 rfl (by kernel_rfl) (by rfl) (fun K hK => ?_)
          go_simp
          replace E := hid (Ext.setCell E.out S9.out 0 (.slice a9 N k9))
          replace M8 := hid (M8.out.setBox B9.out (.slice a9 N k9))
          replace M9 := hid (M9.out.setBox B9.out (.slice a9 N k9))
          replace B8 := hid (B8.out.other HNE.out.symm (.slice a9 N k9))
          replace B9 := hid (B9.out.set (.slice a9 N k9))
          clear d8 fr8
          generalize W4.setCell ⟨b9, 0, none⟩ (.slice a9 N k9) = W5 at E M8 M9 B8 B9 ⊢
          refine hK.out _ _ ?hSa7x51 (fun hHeld => ?_)
          case hSa7x51 => exact HKEEP.out _ E.out
          clear hK K
          (try simp only [Act.put, List.setIfInBounds_toArray, List.set_cons_zero, List.set_cons_succ])
          refine wpAnyH_done (by kernel_rfl) ?_ _
          exact ⟨b8, b9, a8, k8, a9, k9, rfl, ⟨E.out, M8.out, M9.out, B8.out, B9.out, S8.out, S9.out⟩⟩
        · skip
          go_simp
          have he : Ext W1 (W1.alloc (.cells #[Value.slice none 0 0] 52)) := Ext.ofAlloc _ _
          have hx := heap_alloc_new W1 (.cells #[Value.slice none 0 0] 52)
          have hs := E.out.size
          have hlt := B9.out.lt
          generalize W1.alloc (.cells #[Value.slice none 0 0] 52) = W2 at he hx ⊢
          generalize W1.heap.size = b8 at hx hs hlt ⊢
          have B8 : Hid (TBox W2 b8 (.slice none 0 0)) := hx
          have S8 := hid hs
          have HNE : Hid (b8 ≠ b9) := Nat.ne_of_gt hlt
          replace E := hid (E.out.trans he)
          replace M8 := hid (M8.out.ext he)
          replace B9 := hid (B9.out.ext he)
          clear he hx hs hlt
          refine hK.out _ _ ?hSa4x52 (fun hHeld => ?_)
          case hSa4x52 => exact HKEEP.out _ E.out
          clear hK K
          (try simp only [Act.put, List.setIfInBounds_toArray, List.set_cons_zero, List.set_cons_succ])
          refine wpAnyH_one 3 rfl (by kernel_rfl) (by rfl) (fun K hK => ?_)
          go_simp
          refine (costs_any _ N rs _ (Roads.ext HV.out (HE.out.trans E.out)) hN1 hN8 h16 HAll.out).mono ?_
          rintro e W3 ⟨v9, rfl, hm, he⟩
          obtain ⟨a9, k9, rfl⟩ := hm.shape
          have M9 := hid (hm.base E.out.size)
          replace E := hid (E.out.trans he)
          replace M8 := hid (M8.out.ext he)
          replace B8 := hid (B8.out.ext he)
          replace B9 := hid (B9.out.ext he)
          clear hm he
          refine hK.out _ _ ?hSa3x53 (fun hHeld => ?_)
          case hSa3x53 => exact HKEEP.out _ E.out
          clear hK K
          (try simp only [Act.put, List.setIfInBounds_toArray, List.set_cons_zero, List.set_cons_succ])
          have d8 := B8.out.cell
          have fr8 := B8.out.free
          refine wpAnyH_one 6 rfl (by kernel_rfl) (by rfl) (fun K hK => ?_)
          go_simp
          replace E := hid (Ext.setCell E.out S8.out 0 (.slice a8 N k8))
          replace M8 := hid (M8.out.setBox B8.out (.slice a8 N k8))
          replace M9 := hid (M9.out.setBox B8.out (.slice a8 N k8))
          replace B9 := hid (B9.out.other HNE.out (.slice a8 N k8))
          replace B8 := hid (B8.out.set (.slice a8 N k8))
          clear d8 fr8
          generalize W3.setCell ⟨b8, 0, none⟩ (.slice a8 N k8) = W4 at E M8 M9 B8 B9 ⊢
          refine hK.out _ _ ?hSa6x54 (fun hHeld => ?_)
          case hSa6x54 => exact HKEEP.out _ E.out
          clear hK K
          (try simp only [Act.put, List.setIfInBounds_toArray, List.set_cons_zero, List.set_cons_succ])
          have d8 := B9.out.cell
          have fr8 := B9.out.free
          refine wpAnyH_one 7 rfl (by kernel_rfl) (by rfl) (fun K hK => ?_)
          go_simp
          replace E := hid (Ext.setCell E.out S9.out 0 (.slice a9 N k9))
          replace M8 := hid (M8.out.setBox B9.out (.slice a9 N k9))
          replace M9 := hid (M9.out.setBox B9.out (.slice a9 N k9))
          replace B8 := hid (B8.out.other HNE.out.symm (.slice a9 N k9))
          replace B9 := hid (B9.out.set (.slice a9 N k9))
          clear d8 fr8
          generalize W4.setCell ⟨b9, 0, none⟩ (.slice a9 N k9) = W5 at E M8 M9 B8 B9 ⊢
          refine hK.out _ _ ?hSa7x55 (fun hHeld => ?_)
          case hSa7x55 => exact HKEEP.out _ E.out
          clear hK K
          (try simp only [Act.put, List.setIfInBounds_toArray, List.set_cons_zero, List.set_cons_succ])
          refine wpAnyH_done (by kernel_rfl) ?_ _
          exact ⟨b8, b9, a8, k8, a9, k9, rfl, ⟨E.out, M8.out, M9.out, B8.out, B9.out, S8.out, S9.out⟩⟩
      · skip
        go_simp
        have he : Ext W0 (W0.alloc (.cells #[Value.slice none 0 0] 52)) := Ext.ofAlloc _ _
        have hx := heap_alloc_new W0 (.cells #[Value.slice none 0 0] 52)
        have hs := E.out.size
        have hlt := B9.out.lt
        generalize W0.alloc (.cells #[Value.slice none 0 0] 52) = W1 at he hx ⊢
        generalize W0.heap.size = b8 at hx hs hlt ⊢
        have B8 : Hid (TBox W1 b8 (.slice none 0 0)) := hx
        have S8 := hid hs
        have HNE : Hid (b8 ≠ b9) := Nat.ne_of_gt hlt
        replace E := hid (E.out.trans he)
        replace B9 := hid (B9.out.ext he)
        clear he hx hs hlt
        refine hK.out _ _ ?hSa4x56 (fun hHeld => ?_)
        case hSa4x56 => exact HKEEP.out _ E.out
        clear hK K
        (try simp only [Act.put, List.setIfInBounds_toArray, List.set_cons_zero, List.set_cons_succ])
        refine wpAnyH_one 1 rfl (by kernel_rfl) (by rfl) (fun K hK => ?_)
        go_simp
        refine (distances_any _ N rs _ (Roads.ext HV.out (HE.out.trans E.out)) hN1 hN8 h16 HAll.out (TAB.out.good (by decide))).mono ?_
        rintro e W2 ⟨v8, rfl, hm, he⟩
        obtain ⟨a8, k8, rfl⟩ := hm.shape
        have M8 := hid (hm.base E.out.size)
        replace E := hid (E.out.trans he)
        replace B8 := hid (B8.out.ext he)
        replace B9 := hid (B9.out.ext he)
        clear hm he
        refine hK.out _ _ ?hSa1x57 (fun hHeld => ?_)
        case hSa1x57 => exact HKEEP.out _ E.out
        clear hK K
        (try simp only [Act.put, List.setIfInBounds_toArray, List.set_cons_zero, List.set_cons_succ])
        refine wpAnyH_one 3 rfl (by kernel_rfl) (by rfl) (fun K hK => ?_)
        go_simp
        refine (costs_any _ N rs _ (Roads.ext HV.out (HE.out.trans E.out)) hN1 hN8 h16 HAll.out).mono ?_
        rintro e W3 ⟨v9, rfl, hm, he⟩
        obtain ⟨a9, k9, rfl⟩ := hm.shape
        have M9 := hid (hm.base E.out.size)
        replace E := hid (E.out.trans he)
        replace M8 := hid (M8.out.ext he)
        replace B8 := hid (B8.out.ext he)
        replace B9 := hid (B9.out.ext he)
        clear hm he
        refine hK.out _ _ ?hSa3x58 (fun hHeld => ?_)
        case hSa3x58 => exact HKEEP.out _ E.out
        clear hK K
        (try simp only [Act.put, List.setIfInBounds_toArray, List.set_cons_zero, List.set_cons_succ])
        have d8 := B8.out.cell
        have fr8 := B8.out.free
        refine wpAnyH_one 6 rfl (by kernel_rfl) (by rfl) (fun K hK => ?_)
        go_simp
        replace E := hid (Ext.setCell E.out S8.out 0 (.slice a8 N k8))
        replace M8 := hid (M8.out.setBox B8.out (.slice a8 N k8))
        replace M9 := hid (M9.out.setBox B8.out (.slice a8 N k8))
        replace B9 := hid (B9.out.other HNE.out (.slice a8 N k8))
        replace B8 := hid (B8.out.set (.slice a8 N k8))
        clear d8 fr8
        generalize W3.setCell ⟨b8, 0, none⟩ (.slice a8 N k8) = W4 at E M8 M9 B8 B9 ⊢
        refine hK.out _ _ ?hSa6x59 (fun hHeld => ?_)
        case hSa6x59 => exact HKEEP.out _ E.out
        clear hK K
        (try simp only [Act.put, List.setIfInBounds_toArray, List.set_cons_zero, List.set_cons_succ])
        have d8 := B9.out.cell
        have fr8 := B9.out.free
        refine wpAnyH_one 7 rfl (by kernel_rfl) (by rfl) (fun K hK => ?_)
        go_simp
        replace E := hid (Ext.setCell E.out S9.out 0 (.slice a9 N k9))
        replace M8 := hid (M8.out.setBox B9.out (.slice a9 N k9))
        replace M9 := hid (M9.out.setBox B9.out (.slice a9 N k9))
        replace B8 := hid (B8.out.other HNE.out.symm (.slice a9 N k9))
        replace B9 := hid (B9.out.set (.slice a9 N k9))
        clear d8 fr8
        generalize W4.setCell ⟨b9, 0, none⟩ (.slice a9 N k9) = W5 at E M8 M9 B8 B9 ⊢
        refine hK.out _ _ ?hSa7x60 (fun hHeld => ?_)
        case hSa7x60 => exact HKEEP.out _ E.out
        clear hK K
        (try simp only [Act.put, List.setIfInBounds_toArray, List.set_cons_zero, List.set_cons_succ])
        refine wpAnyH_done (by kernel_rfl) ?_ _
        exact ⟨b8, b9, a8, k8, a9, k9, rfl, ⟨E.out, M8.out, M9.out, B8.out, B9.out, S8.out, S9.out⟩⟩
  case h2 =>
    intro b8 b9 a8 k8 a9 k9 w5 T
    obtain ⟨g8, kk, he8, -⟩ := T.m8.head (by omega)
    simp only [Value.slice.injEq, true_and] at he8
    obtain ⟨rfl, rfl⟩ := he8
    obtain ⟨gr, cr, ir, -⟩ := T.m8.row ha
    have cr' : w5.cell? ⟨g8, a, none⟩ = some (.slice (some ⟨gr, 0, none⟩) N N) := cr
    have ce := ir.cell (i := b) (by rw [rowL_len]; exact hb)
    rw [rowL_fn hb] at ce
    have c8 := T.t8.cell
    have ca := T.e.cell CA.out
    have cb := T.e.cell CB.out
    have hfb : decide (1048576 ≤ fw (costTo rs) N a b) = false := decide_eq_false (by have h := HF.out; unfold far at h; omega)
    have E6 := hid (T.e.drew)
    have M8 := hid (T.m8.ext (Ext.refl w5).drew)
    have M9 := hid (T.m9.ext (Ext.refl w5).drew)
    have B8 := hid (T.t8.ext (Ext.refl w5).drew)
    have B9 := hid (T.t9.ext (Ext.refl w5).drew)
    have S8 := hid T.s8
    have S9 := hid T.s9
    clear T cr ir
    go_wp2
    refine wp_region_held_drew (S := (fun w' => w'.cell? ⟨b8, 0, none⟩ = some (.slice (some ⟨g8, 0, none⟩) N k8) ∧ w'.cell? ⟨g8, a, none⟩ = some (.slice (some ⟨gr, 0, none⟩) N N) ∧ w'.cell? ⟨gr, b, none⟩ = some (.int .i64 (fw (costTo rs) N a b)) ∧ w'.cell? ⟨w.heap.size + 1, 0, none⟩ = some (.int .i64 a) ∧ w'.cell? ⟨w.heap.size + 1 + 1, 0, none⟩ = some (.int .i64 b))) (by kernel_rfl) ?hSb0 (fun hHeld => ?_)
    case hSb0 => (first | (exact ⟨c8, cr', ce, ca, cb⟩) | ((try dsimp only); exact ⟨c8, cr', ce, ca, cb⟩))
    refine wpAnyH_tk 0 (v := ?vb0) rfl (by kernel_rfl) (by kernel_rfl) (by kernel_rfl) (fun _ _ _ h => h) (by rfl) ?hyb0 (by assumption) ?_
    case hyb0 => (intro w hSw; (try dsimp only at hSw); go_simp <;> with_reducible rfl)
    (try simp only [Act.put, List.setIfInBounds_toArray, List.set_cons_zero, List.set_cons_succ])
    refine wpAnyH_tk 1 (v := ?vb1) rfl (by kernel_rfl) (by kernel_rfl) (by kernel_rfl) (fun _ _ _ h => h) (by rfl) ?hyb1 (by assumption) ?_
    case hyb1 => (intro w hSw; (try dsimp only at hSw); go_simp <;> with_reducible rfl)
    (try simp only [Act.put, List.setIfInBounds_toArray, List.set_cons_zero, List.set_cons_succ])
    refine wpAnyH_tk 2 (v := ?vb2) rfl (by kernel_rfl) (by kernel_rfl) (by kernel_rfl) (fun _ _ _ h => h) (by rfl) ?hyb2 (by assumption) ?_
    case hyb2 => (intro w hSw; (try dsimp only at hSw); go_simp <;> with_reducible rfl)
    (try simp only [Act.put, List.setIfInBounds_toArray, List.set_cons_zero, List.set_cons_succ])
    refine wpAnyH_tk 3 (v := ?vb3) rfl (by kernel_rfl) (by kernel_rfl) (by kernel_rfl) (fun _ _ _ h => h) (by rfl) ?hyb3 (by assumption) ?_
    case hyb3 => (intro w hSw; (try dsimp only at hSw); go_simp <;> with_reducible rfl)
    (try simp only [Act.put, List.setIfInBounds_toArray, List.set_cons_zero, List.set_cons_succ])
    refine wpAnyH_tk 4 (v := ?vb4) rfl (by kernel_rfl) (by kernel_rfl) (by kernel_rfl) (fun _ _ _ h => h) (by rfl) ?hyb4 (by assumption) ?_
    case hyb4 => (intro w hSw; (try dsimp only at hSw); go_simp <;> with_reducible rfl)
    (try simp only [Act.put, List.setIfInBounds_toArray, List.set_cons_zero, List.set_cons_succ])
    refine wpAnyH_tk 5 (v := ?vb5) rfl (by kernel_rfl) (by kernel_rfl) (by kernel_rfl) (fun _ _ _ h => h) (by rfl) ?hyb5 (by assumption) ?_
    case hyb5 => (intro w hSw; (try dsimp only at hSw); go_simp <;> with_reducible rfl)
    (try simp only [Act.put, List.setIfInBounds_toArray, List.set_cons_zero, List.set_cons_succ])
    refine wpAnyH_tk 6 (v := ?vb6) rfl (by kernel_rfl) (by kernel_rfl) (by kernel_rfl) (fun _ _ _ h => h) (by rfl) ?hyb6 (by assumption) ?_
    case hyb6 => (intro w hSw; (try dsimp only at hSw); go_simp <;> with_reducible rfl)
    (try simp only [Act.put, List.setIfInBounds_toArray, List.set_cons_zero, List.set_cons_succ])
    refine wpAnyH_tk 7 (v := ?vb7) rfl (by kernel_rfl) (by kernel_rfl) (by kernel_rfl) (fun _ _ _ h => h) (by rfl) ?hyb7 (by assumption) ?_
    case hyb7 => (intro w hSw; (try dsimp only at hSw); go_simp <;> with_reducible rfl)
    (try simp only [Act.put, List.setIfInBounds_toArray, List.set_cons_zero, List.set_cons_succ])
    refine wpAnyH_done (by kernel_rfl) ?_ _
    clear c8 ca cb cr' ce hHeld
    generalize w5.drew = w6 at *
    go_wp2
    obtain ⟨f0, r, hway, hf0⟩ := way_ex TAB.out hN8 ha hb HF.out
    have HW := hid hway
    clear hway hfb
    have GA : Hid (∀ (f : Nat) (w' : World), f < N → Live w6 w6.heap.size (ptrs w6.heap.size (w.heap.size + 1 + 1) w.heap.size b9 b8 (w.heap.size + 1)) w' →
        Calls Tryd.prog 54 #[.slice (some ⟨w'.heap.size, 0, none⟩) 1 1, .int .i64 0, .int .i64 (1 + (f : Int)), .pointer (some ⟨w6.heap.size, 0, none⟩), .pointer (some ⟨w.heap.size + 1 + 1, 0, none⟩), .pointer (some ⟨w.heap.size, 0, none⟩), .pointer (some ⟨b9, 0, none⟩), .pointer (some ⟨b8, 0, none⟩), .pointer (some ⟨w.heap.size + 1, 0, none⟩), .pointer (some ⟨w6.heap.size + 1, 0, none⟩)] (w'.alloc (.cells #[.int .i64 a] 3))
          (growPost (costTo rs) (fw (costTo rs) N) N b w6.heap.size (fw (costTo rs) N a b) f [(a : Int)] a 0 (.slice (some ⟨w'.heap.size, 0, none⟩) 1 1) (w'.alloc (.cells #[.int .i64 a] 3)))) := by
      intro f w' hfN hL
      have G1 := TAB.out.good (by decide)
      have G2 := G1.fw N (Nat.le_refl _)
      have hblk : IntBlock (w'.alloc (.cells #[.int .i64 a] 3)) w'.heap.size [(a : Int)] := heap_alloc_new w' _
      have := grow_any w6 N b a (w.heap.size + 1 + 1) w.heap.size b9 b8 (w.heap.size + 1) (.slice a9 N k9) (.slice (some ⟨g8, 0, none⟩) N k8) (costTo rs) (fw (costTo rs) N) w6.heap.size _
        ⟨E6.out.cell CB.out, E6.out.cell C0.out, B9.out.cell, B8.out.cell, E6.out.cell CA.out, M9.out.rows2 (by omega) (by omega), M8.out.rows2 (by omega) (by omega)⟩ hN8 hb ha rfl
        (fun i j hi hj => ⟨G1.lo i j hi hj, G1.hi i j hi hj⟩) (fun i j hi hj => ⟨G2.lo i j hi hj, G2.hi i j hi hj⟩) f [(a : Int)] a 0 _ _ (hL.ext (Ext.ofAlloc _ _)) (hblk.own (n := 1) hL.sz rfl (by simp)) (by simp) (by simp; omega) (by rfl) ha (by omega) (by unfold far; omega)
      exact this
    go_loopg [12] f0 (fun g i wr => ∃ f : Nat, f + g = f0 ∧ i = .int .i64 ((1 + f : Nat) : Int) ∧ Hid (Live w6 w6.heap.size (ptrs w6.heap.size (w.heap.size + 1 + 1) w.heap.size b9 b8 (w.heap.size + 1)) wr))
    case atStart => exact ⟨0, by omega, rfl, Live.start w6 _ _⟩
    case round =>
      obtain ⟨f, hff, rfl, HL⟩ := hrel
      have Hff := hid hff
      clear hff
      have cg := HL.out.cg
      unfold ptrs at cg
      have ca := HL.out.e0.cell (E6.out.cell CA.out)
      go_wp2_with (fail)
      have HL1 := hid (HL.out.ext (Ext.ofAlloc wr (.cells #[.int .i64 a] 3)))
      refine (GA.out f wr (by have := Hff.out; omega) HL.out).mono ?_
      rintro e w7 ⟨rfl, hF, hO, u, hu, hr⟩
      have HL7 := hid (Live.fr HL1.out hF (fun k hk => by simp only [Value.ownBlock, Option.some.injEq] at hk; subst hk; exact HL.out.sz) ⟨u, hu⟩)
      have HU := hid hu
      have HR := hid hr
      clear hF hO hu hr ca cg HL HL1
      by_cases ef : f = f0
      · subst ef
        have hs : (growP (costTo rs) (fw (costTo rs) N) N b (fw (costTo rs) N a b) f [(a : Int)] a 0).isSome = true := by rw [HW.out.1]; rfl
        rw [hs]
        have HI := hid (HR.out r HW.out.1)
        have cu := cell_of_row w7 w6.heap.size 0 _ _ _ HU.out
        clear hs HR HU
        go_wp2
        go_ret2
        exact ⟨u, f, r, rfl, HI.out, HW.out, hf0, HE.out.trans (E6.out.trans HL7.out.e0)⟩
      · have hs : (growP (costTo rs) (fw (costTo rs) N) N b (fw (costTo rs) N a b) f [(a : Int)] a 0).isSome = false := by rw [HW.out.2 f (by have := Hff.out; omega)]; rfl
        rw [hs]
        have Hef := hid ef
        have hb8 : f ≤ 8 := by have := Hff.out; omega
        clear hs HR HU ef
        go_wp2
        go_roundg (gk - 1)
        case rel =>
          exact ⟨f + 1, by have := Hff.out; have := Hef.out; omega, by go_num, HL7.out⟩
        case measure => have := Hff.out; have := Hef.out; omega

end Go.Proofs.YtkbkgkmogbkabaaDoor
