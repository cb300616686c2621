/-
  Lie returns the first list by which a shift gains, or the documented error.
-/
import Derived.Test.YtkdfbbkonbgfmaaListPlain
import Derived.Test.YtkdfbbkonbgfmaaSeq
import Derived.Laws.CopyOwn
import Derived.Test.YtkdfbbkonbgfmaaRefC
import Derived.Test.YtkdfbbkonbgfmaaRefB
import Derived.Test.YtkdfbbkonbgfmaaMoreLaw
import Derived.Test.YtkdfbbkonbgfmaaFrame
import Derived.Test.YtkdfbbkonbgfmaaLiesP1
/-
  A slice of the call's own whose rows lie elsewhere: one more row, a row put in.
-/
namespace Go.Proofs.Ytkdfbbkonbgfmaa
open Go.RowKit

abbrev fstL (ps : List (Value × List Int)) : List Value := ps.map Prod.fst
abbrev sndL (ps : List (Value × List Int)) : List (List Int) := ps.map Prod.snd
/-- The rows read so in W, the slice itself in w. -/
def RowsOut (B C : Nat) (W w : World) (v : Value) (L : List (List Int)) : Prop :=
  ∃ ps : List (Value × List Int), w.ownsRow B 23 1 v ps.length (fstL ps) ∧ L = sndL ps ∧ ∀ p ∈ ps, OwnI C W p.1 p.2 ∧ p.2.length ≤ 17592186044416
theorem RowsOut.nil (B C : Nat) (W w : World) : RowsOut B C W w (.slice none 0 0) [] := ⟨[], World.ownsRow_nil _ _ _ _, rfl, fun p h => by simp at h⟩
theorem RowsOut.ext {B C : Nat} {W w w' : World} {v : Value} {L : List (List Int)} (h : RowsOut B C W w v L) (e : Ext w w') : RowsOut B C W w' v L := by
  obtain ⟨ps, h1, h2, h3⟩ := h
  exact ⟨ps, ownsRow_ext h1 e, h2, h3⟩
theorem RowsOut.rows {B C : Nat} {W w : World} {v : Value} {L : List (List Int)} (h : RowsOut B C W w v L) (e : Ext W w) (hC : C ≤ B) : OwnRows C w v L := by
  obtain ⟨ps, h1, rfl, h3⟩ := h
  refine ⟨fstL ps, ?_, by simp, fun i a b => ?_⟩
  · rw [List.length_map]; exact ownsRow_base h1 hC
  · rw [List.length_map] at a
    rw [List.getElem_map, List.getElem_map]
    have := h3 ps[i] (List.getElem_mem a)
    exact ⟨ownsRow_ext this.1 e, this.2⟩
theorem RowsOut.get {B C : Nat} {W w : World} {v : Value} {L : List (List Int)} (h : RowsOut B C W w v L) {i : Nat} (hi : i < L.length) :
    ∃ g cap a n c, v = .slice (some ⟨g, 0, none⟩) L.length cap ∧ L.length ≤ cap ∧ w.cell? ⟨g, i, none⟩ = some (.slice a n c) ∧ OwnI C W (.slice a n c) L[i] ∧ L[i].length = n ∧ L[i].length ≤ 17592186044416 := by
  obtain ⟨ps, h1, rfl, h3⟩ := h
  have hi' : i < ps.length := by simpa using hi
  obtain ⟨hl, h | ⟨g, cap, cur, hv, hg, hh, hn, hm, hs, ht⟩⟩ := id h1
  · omega
  · subst hv
    have hc := World.ownsRow.cellAt h1 i (by omega)
    rw [List.getElem?_eq_getElem (by simpa using hi'), List.getElem_map] at hc
    have h4 := h3 ps[i] (List.getElem_mem hi')
    obtain ⟨a, c, e⟩ := own_len h4.1
    rw [e] at hc
    have h5 := h4.1
    rw [e] at h5
    refine ⟨g, cap, a, _, c, by simp, by simpa using hn, hc, ?_, ?_, ?_⟩
    · simp only [List.getElem_map]; exact h5
    · simp
    · simp only [List.getElem_map]; exact h4.2
theorem RowsOut.shape {B C : Nat} {W w : World} {v : Value} {L : List (List Int)} (h : RowsOut B C W w v L) : ∃ a c, v = .slice a L.length c ∧ L.length ≤ c := by
  obtain ⟨ps, h1, rfl, h3⟩ := h
  obtain ⟨hl, ⟨rfl, h⟩ | ⟨g, cap, cur, hv, hg, hh, hn, hm, hs, ht⟩⟩ := id h1
  · exact ⟨none, 0, by simp [h], by simp [h]⟩
  · exact ⟨some ⟨g, 0, none⟩, cap, by rw [hv]; simp, by simpa using hn⟩

/-- Behind the append of an empty place, ahead of the copy: L has a place more. -/
def RowsMore (B C : Nat) (W w : World) (g cap : Nat) (L : List (List Int)) : Prop :=
  ∃ ps : List (Value × List Int), w.ownsRow B 23 1 (.slice (some ⟨g, 0, none⟩) (ps.length + 1) cap) (ps.length + 1) (fstL ps ++ [Value.slice none 0 0]) ∧ L = sndL ps ∧ ∀ p ∈ ps, OwnI C W p.1 p.2 ∧ p.2.length ≤ 17592186044416
/-- Behind the copy: place k is open. -/
def RowsGap (B C : Nat) (W w : World) (g cap : Nat) (L : List (List Int)) (k : Nat) : Prop :=
  ∃ ps : List (Value × List Int), w.ownsRow B 23 1 (.slice (some ⟨g, 0, none⟩) (ps.length + 1) cap) (ps.length + 1) ((fstL ps ++ [Value.slice none 0 0]).take (k + 1) ++ (fstL ps).drop k) ∧ L = sndL ps ∧ ∀ p ∈ ps, OwnI C W p.1 p.2 ∧ p.2.length ≤ 17592186044416

theorem wpl_append_gap {W w w0 : World} {ops : Array Oper} {rest : List Oper} {o : Oper} {a : Act} {Q : Exit → Act → World → Prop} (hgd : o.guard = none) (s x : Operand)
    (ho : o.op = .call { callee := .builtin .append, args := #[s, x], argTypes := #[22, 22] })
    (B C : Nat) (v : Value) (L : List (List Int)) (hs : a.eval s = v) (hown : RowsOut B C W w0 v L) (hw : w = w0.alloc (.cells #[.slice none 0 0] 23))
    (hx : a.eval x = .slice (some ⟨w0.heap.size, 0, none⟩) 1 1) (hl : L.length ≤ 1000000) (hB : B ≤ w0.heap.size) (hE : Ext W w0) (hWB : W.heap.size ≤ B)
    (h : ∀ g cap w', RowsMore B C W w' g cap L → B ≤ g → L.length + 1 ≤ cap → Ext W w' → wpList Try.prog ops Q rest (a.put o.dst (.slice (some ⟨g, 0, none⟩) (L.length + 1) cap)) w') : wpList Try.prog ops Q (o :: rest) a w := by
  obtain ⟨i0, hi, hz0, hz1, hz2⟩ := info_parts info_ints
  obtain ⟨ps, h1, rfl, h3⟩ := hown
  subst hw
  rw [List.length_map] at *
  refine wpList_plain hgd fun K hK => ?_
  refine wp_append_own _ s x 22 ho B 23 i0 (.slice none 0 0) 1 24 Try.underlying22 hi hz0 hz1 hz2 rfl (by decide) v ps.length (fstL ps) hs (h1.alloc _) ⟨w0.heap.size, 0, none⟩ 1 1 [.slice none 0 0] hx rfl (cell_one_new _ _ _) (fun z hz => by simp at hz; subst hz; rfl) (by unfold maxLen; omega) (by omega) (by simp; omega) (fun v' w' hown' hg _ => ?_)
  obtain ⟨-, ⟨-, e⟩ | ⟨g, cap, cur, rfl, hgB, -, hn, -⟩⟩ := id hown'
  · omega
  · exact hK _ _ (h g cap w' ⟨ps, hown', rfl, h3⟩ hgB hn (Ext.push hE h1 hWB hg))

theorem RowsMore.drew {B C : Nat} {W w : World} {g cap : Nat} {L : List (List Int)} (h : RowsMore B C W w g cap L) : RowsMore B C W w.drew g cap L := by
  obtain ⟨ps, h1, h2, h3⟩ := h
  exact ⟨ps, ownsRow_ext h1 (Ext.refl w).drew, h2, h3⟩
theorem take_take_drop {us cur : List Value} {z : Value} {k : Nat} (hk : k ≤ us.length) (ht : cur.take (us.length + 1) = us ++ [z]) : (splice cur (k + 1) (us.drop k)).take (us.length + 1) = (us ++ [z]).take (k + 1) ++ us.drop k := by
  have hcl : us.length + 1 ≤ cur.length := by
    have := congrArg List.length ht
    rw [List.length_take, List.length_append] at this
    simp at this; omega
  unfold splice
  rw [← List.append_assoc, List.take_append_of_le_length (by simp; omega), List.take_of_length_le (by simp; omega)]
  congr 1
  rw [← ht, List.take_take]
  congr 1; omega

/-- copy(out[k+1:], out[k:]). -/
theorem wp_copy_gap {W w : World} {o : Oper} {a : Act} {K : Act → World → Prop} {Q : Exit → Act → World → Prop} (d s : Operand)
    (ho : o.op = .call { callee := .builtin .copy, args := #[d, s], argTypes := #[22, 22] }) (hgd : o.guard = none)
    (B C g cap : Nat) (L : List (List Int)) (k : Nat) (hrow : RowsMore B C W w g cap L) (hk : k ≤ L.length) (hcap : L.length + 1 ≤ cap)
    (dp sp : Option Addr) (dl sl dC sC : Nat) (hd : a.eval d = .slice dp dl dC) (hs : a.eval s = .slice sp sl sC) (hdl : dl = L.length - k) (hsl : sl = L.length + 1 - k)
    (hdp : k < L.length → dp = some ⟨g, k + 1, none⟩) (hsp : k < L.length → sp = some ⟨g, k, none⟩) (hE : Ext W w) (hWB : W.heap.size ≤ B)
    (h : ∀ x w', RowsGap B C W w' g cap L k → Ext W w' → K (a.put o.dst x) w') : o.wp Try.prog a w K Q := by
  subst hdl hsl
  obtain ⟨ps, h1, rfl, h3⟩ := hrow
  rw [List.length_map] at *
  obtain ⟨hl, ⟨e, -⟩ | ⟨g', cap', cur, hv, hgB, hh, hn, hm, hsz, ht⟩⟩ := id h1
  · simp at e
  · simp only [Value.slice.injEq, Option.some.injEq, Addr.mk.injEq, and_true, true_and] at hv
    obtain ⟨rfl, rfl⟩ := hv
    have ht' : cur.toList.take ((fstL ps).length + 1) = fstL ps ++ [Value.slice none 0 0] := by rw [List.length_map]; simpa using ht
    have hcl : ps.length + 1 ≤ cur.toList.length := by
      have := congrArg List.length ht'
      rw [List.length_take, List.length_append, List.length_map] at this
      simp only [List.length_cons, List.length_nil] at this; omega
    have key := step_copy_splice (P := Try.prog) (ops := #[]) (o := o) (a := a) (w := w) (K := K) (Q := Q) (E := True) hgd d s 22 22 ho 23 Try.underlying22 (by kernel_rfl) dp sp (ps.length - k) dC (ps.length + 1 - k) sC hd hs g (k + 1) cur.toList 23 (by simpa using hh)
      ((fstL ps).drop k) (by rw [List.length_drop, List.length_map]; exact (Nat.min_eq_right (by omega)).symm) ?_ (by rw [List.length_drop, List.length_map]; omega) ?_ B w (RowKit.Below.refl _ _) hgB ?_
    · have hw : Region.wanted o (yielded #[] a.tmps) = true := by simp [Region.wanted, hgd]
      rwa [if_pos hw] at key
    · intro hpos
      rw [List.length_drop, List.length_map] at hpos
      refine ⟨hdp (by omega), _, hsp (by omega), fun j z hz => ?_⟩
      rw [List.getElem?_drop] at hz
      have hj : k + j < ps.length := by
        rcases Nat.lt_or_ge (k + j) ps.length with g | g
        · exact g
        · rw [List.getElem?_eq_none (by simpa using g)] at hz; simp at hz
      have hc := World.ownsRow.cellAt h1 (k + j) (by omega)
      rw [List.getElem?_append_left (by simpa using hj), hz] at hc
      rw [Addr.add_lit]; exact hc
    · intro z hz
      obtain ⟨p, hp, rfl⟩ := List.mem_map.1 (List.mem_of_mem_drop hz)
      obtain ⟨a', n', c', e⟩ := own_shape (h3 p hp).1
      rw [e]; rfl
    · intro w' hg' hb'
      have hlen : (splice cur.toList (k + 1) ((fstL ps).drop k)).length = cur.size := by
        rw [length_splice _ _ _ (by rw [List.length_drop, List.length_map]; omega), Array.length_toList]
      refine h _ w' ⟨ps, ⟨?_, .inr ⟨g, cap, _, rfl, hgB, hg'.out, hn, hm, ?_, ?_⟩⟩, rfl, h3⟩ (Below.trans hE (Below.mono hb' hWB))
      · simp; omega
      · rw [List.size_toArray, hlen]; exact hsz
      · have := take_take_drop (k := k) (by simpa using hk) ht'
        rw [List.length_map] at this
        simpa using this

end Go.Proofs.Ytkdfbbkonbgfmaa

/-
  Contract of the reference's lists: all lists of different numbers of a list, in order.
-/
namespace Go.Proofs.Ytkdfbbkonbgfmaa
open Go.RowKit

def allTo (own : List Int) (k : Nat) : List (List Int) := ((List.range k).map (chosenP own)).flatten
theorem allTo_succ (own : List Int) (k : Nat) : allTo own (k + 1) = allTo own k ++ chosenP own k := by
  unfold allTo
  rw [List.range_succ, List.map_append, List.flatten_append]; simp
theorem allTo_len {own : List Int} (h : own.length ≤ 6) : ∀ k, k ≤ 7 → (allTo own k).length ≤ k * 46656 := by
  intro k
  induction k with
  | zero => intro _; simp [allTo]
  | succ k ih =>
    intro hk
    have := ih (by omega)
    rw [allTo_succ, List.length_append]
    have h1 := chosenP_len h k
    have h2 : 6 ^ k ≤ 6 ^ 6 := Nat.pow_le_pow_right (by decide) (by omega)
    have h3 : (6 : Nat) ^ 6 = 46656 := by decide
    omega
theorem allTo_mem {own l : List Int} : l ∈ allTo own (own.length + 1) ↔ SubL own l := by
  unfold allTo
  rw [List.mem_flatten]
  constructor
  · rintro ⟨L, hL, hl⟩
    obtain ⟨k, -, rfl⟩ := List.mem_map.1 hL
    exact (chosenP_mem.1 hl).1
  · intro h
    exact ⟨chosenP own l.length, List.mem_map.2 ⟨l.length, List.mem_range.2 (by have := h.len; omega), rfl⟩, chosenP_mem.2 ⟨h, rfl⟩⟩
theorem ins_mem {L : List (List Int)} {l x : List Int} {k : Nat} : x ∈ L.take k ++ l :: L.drop k ↔ x ∈ L ∨ x = l := by
  rw [List.mem_append, List.mem_cons]
  constructor
  · rintro (h | h | h)
    · exact .inl (List.mem_of_mem_take h)
    · exact .inr h
    · exact .inl (List.mem_of_mem_drop h)
  · rintro (h | h)
    · rw [← List.take_append_drop k L, List.mem_append] at h
      rcases h with h | h
      · exact .inl h
      · exact .inr (.inr h)
    · exact .inr (.inl h)
theorem take_succ_mem {A : List (List Int)} {k : Nat} (hk : k < A.length) (x : List Int) : x ∈ A.take (k + 1) ↔ x ∈ A.take k ∨ x = A[k] := by
  rw [List.take_succ_eq_append_getElem hk, List.mem_append, List.mem_singleton]
theorem RowsGap.set {B C : Nat} {W w : World} {g cap : Nat} {L : List (List Int)} {k : Nat} (h : RowsGap B C W w g cap L k) (hk : k ≤ L.length) {u : Value} {l : List Int} (hu : OwnI C W u l) (hl : l.length ≤ 17592186044416) :
    RowsOut B C W (w.setCell ⟨g, k, none⟩ u) (.slice (some ⟨g, 0, none⟩) (L.length + 1) cap) (L.take k ++ l :: L.drop k) ∧ (∃ z, w.cell? ⟨g, k, none⟩ = some z) ∧ w.frozen? ⟨g, k, none⟩ = false ∧ B ≤ g := by
  obtain ⟨ps, h1, rfl, h3⟩ := h
  rw [List.length_map] at hk
  have hst := (World.ownsRow.stored h1 k u).1
  have hc := World.ownsRow.cellAt h1 k (by omega)
  have hset : ((fstL ps ++ [Value.slice none 0 0]).take (k + 1) ++ (fstL ps).drop k).set k u = fstL (ps.take k ++ (u, l) :: ps.drop k) := by
    have e1 : (fstL ps ++ [Value.slice none 0 0]).take (k + 1) = (fstL ps).take k ++ [(fstL ps ++ [Value.slice none 0 0])[k]'(by simp; omega)] := by
      rw [List.take_succ_eq_append_getElem (by simp; omega), List.take_append_of_le_length (by simp; omega)]
    rw [e1, List.append_assoc, List.set_append_right _ _ (by simp; omega)]
    simp [Nat.min_eq_left hk, List.map_take, List.map_drop]
  have hlen : (ps.take k ++ (u, l) :: ps.drop k).length = ps.length + 1 := by simp; omega
  refine ⟨⟨ps.take k ++ (u, l) :: ps.drop k, ?_, ?_, fun p hp => ?_⟩, ?_, World.ownsRow.frozenAt h1 k, ?_⟩
  · rw [hlen, ← hset, List.length_map]; exact hst
  · simp [List.map_take, List.map_drop]
  · rcases List.mem_append.1 hp with hp | hp
    · exact h3 p (List.mem_of_mem_take hp)
    · rcases List.mem_cons.1 hp with hp | hp
      · rw [hp]; exact ⟨hu, hl⟩
      · exact h3 p (List.mem_of_mem_drop hp)
  · rw [List.getElem?_eq_getElem (by simp; omega)] at hc
    exact ⟨_, hc⟩
  · obtain ⟨-, ⟨e, -⟩ | ⟨g', cap', cur, e, hg, -⟩⟩ := h1
    · simp at e
    · simp only [Value.slice.injEq, Option.some.injEq, Addr.mk.injEq, and_true, true_and] at e
      rw [e.1]; exact hg
theorem RowsOut.none {B C : Nat} {W w : World} {n c : Nat} {L : List (List Int)} (h : RowsOut B C W w (.slice none n c) L) : L = [] := by
  cases L with
  | nil => rfl
  | cons a L => obtain ⟨g, cap, a, n, c, e, -⟩ := h.get (i := 0) (by simp); simp at e

set_option maxRecDepth 20000 in
set_option maxHeartbeats 4000000 in
theorem lists_any2 (v : Value) (own : List Int) (w : World) (hv : Ints w v own) (h6 : own.length ≤ 6) :
    Calls Try.prog 91 #[v] w fun e w' => ∃ u, e = .returned u ∧ ∃ L, OwnRows w.heap.size w' u L ∧ IsLists own L ∧ L.length ≤ 400000 ∧ Ext w w' := by
  have HV := hid hv
  obtain ⟨-, ao, cap, rfl, -⟩ := id hv
  have hw1 : IntKind.i64.wrap ((own.length : Int) + 1) = (own.length : Int) + 1 := by rw [IntKind.wrap_i64]; omega
  have hw2 : wrap64 ((own.length : Int) + 1) = (own.length : Int) + 1 := IntWalk.wrap64_in _ (by omega)
  clear hv
  go_enter Try.func91, Try.ntmps91
  go_wp2
  clear hw1 hw2
  go_loopg [12, 3] (own.length + 1) (fun g i v wr => ∃ (k : Nat) (z : Value), k + g = own.length + 1 ∧ i = .int .i64 k ∧ v = z ∧ Hid (OwnRows w.heap.size wr z (allTo own k)) ∧ Hid (Ext w wr))
  case atStart => exact ⟨0, _, by omega, rfl, rfl, OwnRows.nil _ _, Ext.refl _⟩
  case round =>
    obtain ⟨k, vA, hk, rfl, hvz, HO, E⟩ := hrel
    have hvz2 := hvz.symm
    subst hvz2
    have hkn : k ≤ own.length + 1 := by omega
    have Hk := hid hk
    clear hk
    by_cases hlt : k < own.length + 1
    · have hki : (k : Int) < (own.length : Int) + 1 := by omega
      have HAS := hid (allTo_succ own k)
      have hal := allTo_len h6 k (by omega)
      have hcl := chosenP_len h6 k
      have hp6 : 6 ^ k ≤ 6 ^ 6 := Nat.pow_le_pow_right (by decide) (by omega)
      have hp7 : (6 : Nat) ^ 6 = 46656 := by decide
      have hsum : (allTo own k).length + (chosenP own k).length ≤ 1000000 := by omega
      have HSUM := hid hsum
      have hsz := E.out.size
      clear hal hcl hp6 hp7 hsum
      go_wp2_with (fail)
      refine (chosen_any own h6 k _ _ (by omega) (HV.out.ext E.out)).mono ?_
      rintro e w1 ⟨u1, rfl, hu1, he1⟩
      have HU := hid hu1
      have HE1 := hid (E.out.trans he1)
      have hsz1 := he1.size
      have HO1 := hid (HO.out.ext he1)
      obtain ⟨a1, n1, c1, rfl⟩ := OwnRows.shape hu1
      obtain ⟨aA, nA, cA, rfl⟩ := OwnRows.shape HO.out
      clear hu1 he1
      go_wp2_with (at_builtin; go_must (refine wpl_append_rows rfl _ _ rfl w.heap.size wr.heap.size _ _ (allTo own k) (chosenP own k) rfl HO1.out rfl HU.out hsz HSUM.out (by omega) ?_))
      intro v2 w2 hO2 hE2
      rw [← HAS.out] at hO2
      have HO2 := hid hO2
      have HE2 := hid (hE2 w HE1.out (Nat.le_refl _))
      clear hO2 hE2
      go_wp2
      go_roundg (gk - 1)
      case rel => exact ⟨k + 1, _, by have := Hk.out; omega, by go_num, rfl, HO2, HE2⟩
      case measure => have := Hk.out; omega
    · have ek : k = own.length + 1 := by omega
      have hki : ¬ ((k : Int) < (own.length : Int) + 1) := by omega
      obtain ⟨A, hA⟩ : ∃ A, A = allTo own (own.length + 1) := ⟨_, rfl⟩
      have hAl : A.length ≤ 400000 := by have := allTo_len h6 (own.length + 1) (by omega); rw [hA]; omega
      have hAm : ∀ l, l ∈ A ↔ SubL own l := fun l => by rw [hA]; exact allTo_mem
      have hO := HO.out
      rw [ek, ← hA] at hO
      have HAR := hid hO
      have HAM := hid hAm
      obtain ⟨aA, nA, cA, rfl⟩ := OwnRows.shape HO.out
      have hr := hO.rows2 (by omega)
      obtain ⟨-, aB, cB, he, -⟩ := id hr
      simp only [Value.slice.injEq] at he
      obtain ⟨rfl, rfl, rfl⟩ := he
      have HSUB : Hid (∀ l ∈ A, l.length ≤ 6) := fun l hl => by have := ((hAm l).1 hl).len; omega
      have hszW := E.out.size
      obtain ⟨W, hW⟩ : ∃ W, W = wr := ⟨_, rfl⟩
      rw [← hW] at HAR E ⊢ hszW
      clear ek hA hAm hO HO hlt hr hW
      go_wp2
      go_loopg [23, 5] A.length (fun g i v wr => ∃ (k : Nat) (L : List (List Int)) (z : Value), k + g = A.length ∧ i = .int .i64 k ∧ v = z ∧ Hid (RowsOut W.heap.size w.heap.size W wr z L) ∧ L.length = k ∧ Hid (SrtL L) ∧ Hid (∀ l, l ∈ L ↔ l ∈ A.take k) ∧ Hid (Ext W wr))
      case atStart => exact ⟨0, [], _, by omega, rfl, rfl, RowsOut.nil _ _ _ _, rfl, List.Pairwise.nil, fun l => by simp, Ext.refl _⟩
      case round =>
        obtain ⟨k, L, vB, hk, rfl, hvz, RO, hLk, SRT, MEM, E2⟩ := hrel
        have hvz2 := hvz.symm
        subst hvz2
        have hkn : k ≤ A.length := by omega
        have Hk := hid hk
        clear hk
        by_cases hlt : k < A.length
        · have hki : (k : Int) < A.length := by omega
          obtain ⟨g0, cap0, a0, c0, he0, hcell, hu, hul⟩ := HAR.out.cellAt hlt
          simp only [Value.slice.injEq, true_and] at he0
          obtain ⟨rfl, rfl⟩ := he0
          have dc := hcell _ E2.out
          obtain ⟨l, hl⟩ : ∃ l, l = A[k] := ⟨_, rfl⟩
          rw [← hl] at hu hul dc
          have HUL := hid (hu.ints hul)
          have HU := hid hu
          have hl6 : l.length ≤ 6 := by rw [hl]; exact HSUB.out _ (List.getElem_mem hlt)
          have HTM : Hid (∀ x, x ∈ A.take (k + 1) ↔ x ∈ A.take k ∨ x = l) := fun x => by rw [hl]; exact take_succ_mem hlt x
          clear hcell hu hl
          have Hlk := hid hLk
          have hLl : L.length ≤ 400000 := by omega
          clear hLk
          obtain ⟨aL, cL, rfl, hcL⟩ := RO.out.shape
          go_wp2
          clear dc
          obtain ⟨W2, hW2⟩ : ∃ W2, W2 = wr := ⟨_, rfl⟩
          rw [← hW2] at RO E2 ⊢
          clear hW2
          go_loopg [8] L.length (fun g i wr => ∃ (j : Nat), j + g = L.length ∧ i = .int .i64 j ∧ Hid (∀ i, (hi : i < j) → (h2 : i < L.length) → ltL L[i] l) ∧ W2 = wr)
          case atStart => exact ⟨0, by omega, rfl, fun i hi => by omega, rfl⟩
          case round =>
            obtain ⟨j, hj, rfl, LT, rfl⟩ := hrel
            have hjl : j ≤ L.length := by omega
            have Hj := hid hj
            clear hj
            have hszE := E2.out.size
            by_cases hjlt : j < L.length
            · have hji : (j : Int) < L.length := by omega
              obtain ⟨g1, cap1, a1, n1, c1, he1, hcp1, hcell1, hu1, hn1, hul1⟩ := RO.out.get hjlt
              simp only [Value.slice.injEq, true_and] at he1
              obtain ⟨rfl, rfl⟩ := he1
              have HI1 := hid ((hu1.ints hul1).ext E2.out)
              obtain ⟨x, hx⟩ : ∃ x, x = L[j] := ⟨_, rfl⟩
              rw [← hx] at HI1
              have hbx := befB_iff x l
              have HX := hid hx
              clear hu1 hx hn1
              cases hb : befB x l with
              | true =>
                have LT2 : Hid (∀ i, (hi : i < j + 1) → (h2 : i < L.length) → ltL L[i] l) := fun i hi h2 => by
                  by_cases e : i = j
                  · subst e
                    have := hbx.1 hb
                    rw [HX.out] at this
                    exact this
                  · exact LT.out i (by omega) h2
                clear hbx
                go_wp2_with (fail)
                refine (before_any _ _ x l _ HI1.out (HUL.out.ext E2.out)).mono ?_
                rintro e w3 ⟨rfl, rfl⟩
                rw [hb]
                go_wp2
                go_roundg (gk - 1)
                case rel => exact ⟨j + 1, by have := Hj.out; omega, by go_num, LT2, rfl⟩
                case measure => have := Hj.out; omega
              | false =>
                have HN : Hid (∀ hj : j < L.length, ¬ ltL L[j] l) := fun hj h => by
                  rw [← HX.out] at h
                  rw [hbx.2 h] at hb
                  simp at hb
                clear hbx
                go_wp2_with (fail)
                refine (before_any _ _ x l _ HI1.out (HUL.out.ext E2.out)).mono ?_
                rintro e w3 ⟨rfl, rfl⟩
                rw [hb]
                have Hb := hid hb
                clear hb hcell1
                go_wp2_with (at_builtin; go_must (refine wpl_append_gap rfl _ _ rfl W.heap.size w.heap.size _ L rfl RO.out rfl rfl (by omega) hszE E2.out (Nat.le_refl _) ?_))
                intro g4 cap4 w4 RM hg4 hcap4 E4
                have HRM := hid RM
                have HE4 := hid E4
                clear RM E4
                go_wp2
                have hcd : j < L.length → ¬ cap4 = j + 1 := fun h => by omega
                have hcs : j < L.length → ¬ cap4 = j := fun h => by omega
                have hj1 : ((j : Int) + 1).toNat = j + 1 := by omega
                have hj2 : (0 : Int) ≤ (j : Int) + 1 := by omega
                have hj3 : (j : Int) + 1 ≤ (L.length : Int) + 1 := by omega
                have hj4 : (j : Int) ≤ (L.length : Int) + 1 := by omega
                have hjL1 : (j : Int) < (L.length : Int) + 1 := by omega
                have hw1 : IntKind.i64.wrap ((j : Int) + 1) = (j : Int) + 1 := IntWalk.i64_in _ (by omega)
                have hw2 : wrap64 ((j : Int) + 1) = (j : Int) + 1 := IntWalk.wrap64_in _ (by have h := hjl; have h2 := hLl; clear hw1; omega)
                have HRMD : Hid (RowsMore W.heap.size w.heap.size W w4.drew g4 cap4 L) := RowsMore.drew HRM.out
                refine wp_region_held_drew (S := (fun _ => True)) (by kernel_rfl) ?hSa0 (fun hHeld => ?_)
                case hSa0 => (first | (trivial) | ((try dsimp only); trivial))
                refine wpAnyH_tk 0 (v := ?va0) rfl (by kernel_rfl) (by kernel_rfl) (by kernel_rfl) (fun _ _ _ h => h) (by rfl) ?hya0 (by assumption) ?_
                case hya0 => (intro w hSw; (try dsimp only at hSw); go_simp <;> with_reducible rfl)
                (try simp only [Act.put, List.setIfInBounds_toArray, List.set_cons_zero, List.set_cons_succ])
                refine wpAnyH_tk 1 (v := ?va1) rfl (by kernel_rfl) (by kernel_rfl) (by kernel_rfl) (fun _ _ _ h => h) (by rfl) ?hya1 (by assumption) ?_
                case hya1 => (intro w hSw; (try dsimp only at hSw); go_simp <;> with_reducible rfl)
                (try simp only [Act.put, List.setIfInBounds_toArray, List.set_cons_zero, List.set_cons_succ])
                refine wpAnyH_tk 2 (v := ?va2) rfl (by kernel_rfl) (by kernel_rfl) (by kernel_rfl) (fun _ _ _ h => h) (by rfl) ?hya2 (by assumption) ?_
                case hya2 => (intro w hSw; (try dsimp only at hSw); go_simp <;> with_reducible rfl)
                (try simp only [Act.put, List.setIfInBounds_toArray, List.set_cons_zero, List.set_cons_succ])
                refine wpAnyH_tk 3 (v := ?va3) rfl (by kernel_rfl) (by kernel_rfl) (by kernel_rfl) (fun _ _ _ h => h) (by rfl) ?hya3 (by assumption) ?_
                case hya3 => (intro w hSw; (try dsimp only at hSw); go_simp <;> with_reducible rfl)
                (try simp only [Act.put, List.setIfInBounds_toArray, List.set_cons_zero, List.set_cons_succ])
                refine wpAnyH_tk 4 (v := ?va4) rfl (by kernel_rfl) (by kernel_rfl) (by kernel_rfl) (fun _ _ _ h => h) (by rfl) ?hya4 (by assumption) ?_
                case hya4 => (intro w hSw; (try dsimp only at hSw); go_simp <;> with_reducible rfl)
                (try simp only [Act.put, List.setIfInBounds_toArray, List.set_cons_zero, List.set_cons_succ])
                refine wpAnyH_tk 5 (v := ?va5) rfl (by kernel_rfl) (by kernel_rfl) (by kernel_rfl) (fun _ _ _ h => h) (by rfl) ?hya5 (by assumption) ?_
                case hya5 => (intro w hSw; (try dsimp only at hSw); go_simp <;> with_reducible rfl)
                (try simp only [Act.put, List.setIfInBounds_toArray, List.set_cons_zero, List.set_cons_succ])
                refine wpAnyH_tk 6 (v := ?va6) rfl (by kernel_rfl) (by kernel_rfl) (by kernel_rfl) (fun _ _ _ h => h) (by rfl) ?hya6 (by assumption) ?_
                case hya6 => (intro w hSw; (try dsimp only at hSw); go_simp <;> with_reducible rfl)
                (try simp only [Act.put, List.setIfInBounds_toArray, List.set_cons_zero, List.set_cons_succ])
                refine wpAnyH_one 7 rfl (by kernel_rfl) (by rfl) (fun K hK => ?_)
                have E4d := hid HE4.out.drew
                refine wp_copy_gap _ _ rfl rfl W.heap.size w.heap.size g4 cap4 L j (HRMD.out) hjl hcap4 _ _ _ _ _ _ (by rfl) (by rfl) ?dl ?sl ?cd ?cs E4d.out (Nat.le_refl _) ?_
                case dl => (first | rfl | (clear hw1 hw2; omega))
                case sl => (first | rfl | (clear hw1 hw2; omega))
                case cd => intro h; (first | rfl | (rw [if_neg (hcd h)]))
                case cs => intro h; (first | rfl | (rw [if_neg (hcs h)]) | (rw [if_neg (hcs h)]; simp))
                intro x5 w5 RG E5
                have HRG := hid RG
                have HE5 := hid E5
                clear RG E5
                refine hK.out _ _ ?hSa8 (fun hHeld => ?_)
                case hSa8 => (first | (trivial) | ((try dsimp only); trivial))
                clear hK K
                (try simp only [Act.put, List.setIfInBounds_toArray, List.set_cons_zero, List.set_cons_succ])
                refine wpAnyH_done (by kernel_rfl) ?_ _
                clear hw1 hw2
                have HS := HRG.out.set hjl HU.out hul
                obtain ⟨z, hz⟩ := HS.2.1
                have hfz := HS.2.2.1
                have hgB := HS.2.2.2
                have HRO := hid HS.1
                have E6 := hid (HE5.out.setCell (g := g4) hgB j (.slice a0 l.length c0))
                have HSRT : Hid (SrtL (L.take j ++ l :: L.drop j)) := SRT.out.insert hjl (fun i hi => LT.out i hi (by omega)) HN.out
                have HMEM : Hid (∀ x, x ∈ L.take j ++ l :: L.drop j ↔ x ∈ A.take (k + 1)) := fun x => by rw [ins_mem, HTM.out, MEM.out]
                have HLL2 : Hid ((L.take j ++ l :: L.drop j).length = k + 1) := by show _ = _; rw [List.length_append, List.length_cons, List.length_take, List.length_drop]; have := Hlk.out; omega
                clear HS hj1 hj2 hj3 hj4
                have hcj : ¬ cap4 = j := by omega
                have hce : ¬ cap4 = j + 1 := by omega
                go_wp2
                go_roundg (A.length - (k + 1))
                case rel => exact ⟨k + 1, _, _, by have := Hk.out; omega, by go_num, rfl, HRO, HLL2.out, HSRT, HMEM, E6⟩
                case measure => have := Hk.out; omega
            · have hji : ¬ ((j : Int) < L.length) := by omega
              have HN : Hid (∀ hj : j < L.length, ¬ ltL L[j] l) := fun hj => absurd hj hjlt
              go_wp2_with (at_builtin; go_must (refine wpl_append_gap rfl _ _ rfl W.heap.size w.heap.size _ L rfl RO.out rfl rfl (by omega) hszE E2.out (Nat.le_refl _) ?_))
              intro g4 cap4 w4 RM hg4 hcap4 E4
              have HRM := hid RM
              have HE4 := hid E4
              clear RM E4
              go_wp2
              have hcd : j < L.length → ¬ cap4 = j + 1 := fun h => by omega
              have hcs : j < L.length → ¬ cap4 = j := fun h => by omega
              have hj1 : ((j : Int) + 1).toNat = j + 1 := by omega
              have hj2 : (0 : Int) ≤ (j : Int) + 1 := by omega
              have hj3 : (j : Int) + 1 ≤ (L.length : Int) + 1 := by omega
              have hj4 : (j : Int) ≤ (L.length : Int) + 1 := by omega
              have hjL1 : (j : Int) < (L.length : Int) + 1 := by omega
              have hw1 : IntKind.i64.wrap ((j : Int) + 1) = (j : Int) + 1 := IntWalk.i64_in _ (by omega)
              have hw2 : wrap64 ((j : Int) + 1) = (j : Int) + 1 := IntWalk.wrap64_in _ (by have h := hjl; have h2 := hLl; clear hw1; omega)
              have HRMD : Hid (RowsMore W.heap.size w.heap.size W w4.drew g4 cap4 L) := RowsMore.drew HRM.out
              refine wp_region_held_drew (S := (fun _ => True)) (by kernel_rfl) ?hSb0 (fun hHeld => ?_)
              case hSb0 => (first | (trivial) | ((try dsimp only); trivial))
              refine wpAnyH_tk 0 (v := ?vb0) rfl (by kernel_rfl) (by kernel_rfl) (by kernel_rfl) (fun _ _ _ h => h) (by rfl) ?hyb0 (by assumption) ?_
              case hyb0 => (intro w hSw; (try dsimp only at hSw); go_simp <;> with_reducible rfl)
              (try simp only [Act.put, List.setIfInBounds_toArray, List.set_cons_zero, List.set_cons_succ])
              refine wpAnyH_tk 1 (v := ?vb1) rfl (by kernel_rfl) (by kernel_rfl) (by kernel_rfl) (fun _ _ _ h => h) (by rfl) ?hyb1 (by assumption) ?_
              case hyb1 => (intro w hSw; (try dsimp only at hSw); go_simp <;> with_reducible rfl)
              (try simp only [Act.put, List.setIfInBounds_toArray, List.set_cons_zero, List.set_cons_succ])
              refine wpAnyH_tk 2 (v := ?vb2) rfl (by kernel_rfl) (by kernel_rfl) (by kernel_rfl) (fun _ _ _ h => h) (by rfl) ?hyb2 (by assumption) ?_
              case hyb2 => (intro w hSw; (try dsimp only at hSw); go_simp <;> with_reducible rfl)
              (try simp only [Act.put, List.setIfInBounds_toArray, List.set_cons_zero, List.set_cons_succ])
              refine wpAnyH_tk 3 (v := ?vb3) rfl (by kernel_rfl) (by kernel_rfl) (by kernel_rfl) (fun _ _ _ h => h) (by rfl) ?hyb3 (by assumption) ?_
              case hyb3 => (intro w hSw; (try dsimp only at hSw); go_simp <;> with_reducible rfl)
              (try simp only [Act.put, List.setIfInBounds_toArray, List.set_cons_zero, List.set_cons_succ])
              refine wpAnyH_tk 4 (v := ?vb4) rfl (by kernel_rfl) (by kernel_rfl) (by kernel_rfl) (fun _ _ _ h => h) (by rfl) ?hyb4 (by assumption) ?_
              case hyb4 => (intro w hSw; (try dsimp only at hSw); go_simp <;> with_reducible rfl)
              (try simp only [Act.put, List.setIfInBounds_toArray, List.set_cons_zero, List.set_cons_succ])
              refine wpAnyH_tk 5 (v := ?vb5) rfl (by kernel_rfl) (by kernel_rfl) (by kernel_rfl) (fun _ _ _ h => h) (by rfl) ?hyb5 (by assumption) ?_
              case hyb5 => (intro w hSw; (try dsimp only at hSw); go_simp <;> with_reducible rfl)
              (try simp only [Act.put, List.setIfInBounds_toArray, List.set_cons_zero, List.set_cons_succ])
              refine wpAnyH_tk 6 (v := ?vb6) rfl (by kernel_rfl) (by kernel_rfl) (by kernel_rfl) (fun _ _ _ h => h) (by rfl) ?hyb6 (by assumption) ?_
              case hyb6 => (intro w hSw; (try dsimp only at hSw); go_simp <;> with_reducible rfl)
              (try simp only [Act.put, List.setIfInBounds_toArray, List.set_cons_zero, List.set_cons_succ])
              refine wpAnyH_one 7 rfl (by kernel_rfl) (by rfl) (fun K hK => ?_)
              have E4d := hid HE4.out.drew
              refine wp_copy_gap _ _ rfl rfl W.heap.size w.heap.size g4 cap4 L j (HRMD.out) hjl hcap4 _ _ _ _ _ _ (by rfl) (by rfl) ?dl ?sl ?cd ?cs E4d.out (Nat.le_refl _) ?_
              case dl => (first | rfl | (clear hw1 hw2; omega))
              case sl => (first | rfl | (clear hw1 hw2; omega))
              case cd => intro h; (first | rfl | (rw [if_neg (hcd h)]))
              case cs => intro h; (first | rfl | (rw [if_neg (hcs h)]) | (rw [if_neg (hcs h)]; simp))
              intro x5 w5 RG E5
              have HRG := hid RG
              have HE5 := hid E5
              clear RG E5
              refine hK.out _ _ ?hSb8 (fun hHeld => ?_)
              case hSb8 => (first | (trivial) | ((try dsimp only); trivial))
              clear hK K
              (try simp only [Act.put, List.setIfInBounds_toArray, List.set_cons_zero, List.set_cons_succ])
              refine wpAnyH_done (by kernel_rfl) ?_ _
              clear hw1 hw2
              have HS := HRG.out.set hjl HU.out hul
              obtain ⟨z, hz⟩ := HS.2.1
              have hfz := HS.2.2.1
              have hgB := HS.2.2.2
              have HRO := hid HS.1
              have E6 := hid (HE5.out.setCell (g := g4) hgB j (.slice a0 l.length c0))
              have HSRT : Hid (SrtL (L.take j ++ l :: L.drop j)) := SRT.out.insert hjl (fun i hi => LT.out i hi (by omega)) HN.out
              have HMEM : Hid (∀ x, x ∈ L.take j ++ l :: L.drop j ↔ x ∈ A.take (k + 1)) := fun x => by rw [ins_mem, HTM.out, MEM.out]
              have HLL2 : Hid ((L.take j ++ l :: L.drop j).length = k + 1) := by show _ = _; rw [List.length_append, List.length_cons, List.length_take, List.length_drop]; have := Hlk.out; omega
              clear HS hj1 hj2 hj3 hj4
              have hcj : ¬ cap4 = j := by omega
              have ejL : L.length = j := by omega
              by_cases hce : cap4 = j + 1
              · subst hce
                subst ejL
                clear hcd hcs hcap4 hcj hjl
                go_wp2
                go_roundg (A.length - (k + 1))
                case rel => exact ⟨k + 1, _, _, by have := Hk.out; omega, by go_num, rfl, HRO, HLL2.out, HSRT, HMEM, E6⟩
                case measure => have := Hk.out; omega
              · clear ejL
                go_wp2
                go_roundg (A.length - (k + 1))
                case rel => exact ⟨k + 1, _, _, by have := Hk.out; omega, by go_num, rfl, HRO, HLL2.out, HSRT, HMEM, E6⟩
                case measure => have := Hk.out; omega
        · have ek : k = A.length := by omega
          have hki : ¬ ((k : Int) < A.length) := by omega
          have hm := MEM.out
          rw [ek, List.take_length] at hm
          have HF : Hid (IsLists own L) := ⟨SRT.out, fun l => (hm l).trans (HAM.out l)⟩
          have HLL : Hid (L.length ≤ 400000) := by show _ ≤ _; omega
          obtain ⟨aL, cL, rfl, -⟩ := RO.out.shape
          clear ek hm hlt hLk
          go_wp2
          go_ret
          exact ⟨_, rfl, L, RO.out.rows E2.out hszW, HF.out, HLL.out, E.out.trans E2.out⟩

end Go.Proofs.Ytkdfbbkonbgfmaa

/-
  Contract of the reference's trimmed: the hand that a shift likes least goes, if it has more than places.
-/
namespace Go.Proofs.Ytkdfbbkonbgfmaa
open Go.RowKit

/-- The worst hand of a shift so far. -/
def WorstTo (p : PlanD) (m : List Int) (s : Int) (k : Nat) (w : Int) : Prop :=
  (w = -1 ∧ ∀ x, x < k → fn m x ≠ s) ∨ ∃ y : Nat, w = y ∧ y < k ∧ fn m y = s ∧ ∀ x : Nat, x < k → fn m x = s → rankP (rowAt p.shifts s) x ≤ rankP (rowAt p.shifts s) y
/-- A list without the hand that the shift likes least, if there are too many. -/
def trimI (p : PlanD) (m : List Int) (s : Int) : List Int :=
  if intAt p.places s < ((handsI (rowAt p.shifts s) m s).length : Int) then m.set ((handsI (rowAt p.shifts s) m s).getD ((handsI (rowAt p.shifts s) m s).length - 1) (-2)).toNat (-1) else m
theorem WorstTo.miss {p : PlanD} {m : List Int} {s : Int} {k : Nat} {w : Int} (h : WorstTo p m s k w) (e : fn m k ≠ s) : WorstTo p m s (k + 1) w := by
  rcases h with ⟨h1, h2⟩ | ⟨y, h1, h2, h3, h4⟩
  · exact .inl ⟨h1, fun x hx => by
      rcases Nat.lt_or_ge x k with g | g
      · exact h2 x g
      · obtain rfl : x = k := by omega
        exact e⟩
  · exact .inr ⟨y, h1, by omega, h3, fun x hx ex => by
      rcases Nat.lt_or_ge x k with g | g
      · exact h4 x g ex
      · obtain rfl : x = k := by omega
        exact absurd ex e⟩
theorem WorstTo.first {p : PlanD} {m : List Int} {s : Int} {k : Nat} {w : Int} (h : WorstTo p m s k w) (e : fn m k = s) (hw : w < 0) : WorstTo p m s (k + 1) k := by
  rcases h with ⟨h1, h2⟩ | ⟨y, h1, h2, h3, h4⟩
  · exact .inr ⟨k, rfl, by omega, e, fun x hx ex => by
      rcases Nat.lt_or_ge x k with g | g
      · exact absurd ex (h2 x g)
      · obtain rfl : x = k := by omega
        exact Int.le_refl _⟩
  · omega
theorem WorstTo.worse {p : PlanD} {m : List Int} {s : Int} {k : Nat} {w : Int} (h : WorstTo p m s k w) (e : fn m k = s) (hw : ¬ w < 0) (hr : rankP (rowAt p.shifts s) w < rankP (rowAt p.shifts s) k) : WorstTo p m s (k + 1) k := by
  rcases h with ⟨h1, h2⟩ | ⟨y, h1, h2, h3, h4⟩
  · omega
  · subst h1
    exact .inr ⟨k, rfl, by omega, e, fun x hx ex => by
      rcases Nat.lt_or_ge x k with g | g
      · have := h4 x g ex; omega
      · obtain rfl : x = k := by omega
        exact Int.le_refl _⟩
theorem WorstTo.better {p : PlanD} {m : List Int} {s : Int} {k : Nat} {w : Int} (h : WorstTo p m s k w) (hw : ¬ w < 0) (hr : ¬ rankP (rowAt p.shifts s) w < rankP (rowAt p.shifts s) k) : WorstTo p m s (k + 1) w := by
  rcases h with ⟨h1, h2⟩ | ⟨y, h1, h2, h3, h4⟩
  · omega
  · subst h1
    exact .inr ⟨y, rfl, by omega, h3, fun x hx ex => by
      rcases Nat.lt_or_ge x k with g | g
      · exact h4 x g ex
      · obtain rfl : x = k := by omega
        omega⟩
theorem WorstTo.range {p : PlanD} {m : List Int} {s : Int} {k : Nat} {w : Int} (h : WorstTo p m s k w) : w = -1 ∨ (0 ≤ w ∧ w < k ∧ fn m w.toNat = s) := by
  rcases h with ⟨h1, -⟩ | ⟨y, h1, h2, h3, -⟩
  · exact .inl h1
  · subst h1; exact .inr ⟨by omega, by omega, by rw [Int.toNat_natCast]; exact h3⟩
theorem rankI_P {l : List Int} {x : Int} (h : x ∈ l) : rankI l x = rankP l x := by unfold rankI rankP; rw [if_pos h, if_pos h]
theorem WorstTo.last {p : PlanD} (hp : PlanOk p) {m : List Int} {s : Int} {w : Int} (s0 : 0 ≤ s) (h : WorstTo p m s p.hands.length w) (hcol : ∀ x : Nat, x < p.hands.length → fn m x = s → (x : Int) ∈ rowAt p.shifts s)
    (hne : 0 < (handsI (rowAt p.shifts s) m s).length) : (handsI (rowAt p.shifts s) m s).getD ((handsI (rowAt p.shifts s) m s).length - 1) (-2) = w := by
  obtain ⟨kept, hkept⟩ : ∃ kept, kept = handsI (rowAt p.shifts s) m s := ⟨_, rfl⟩
  rw [← hkept] at hne ⊢
  have hmem : ∀ x, x ∈ kept ↔ x ∈ rowAt p.shifts s ∧ intAt m x = s := fun x => by rw [hkept]; unfold handsI; rw [List.mem_filter, beq_iff_eq]
  have hnn : kept ≠ [] := by intro e; rw [e] at hne; simp at hne
  have hpw : kept.Pairwise (fun x y => rankP (rowAt p.shifts s) x < rankP (rowAt p.shifts s) y) := by
    rw [hkept]; exact (row_pairwise (hp.col s0).2).sublist List.filter_sublist
  have hlast : kept.getD (kept.length - 1) (-2) = kept.getLast hnn := by
    rw [List.getLast_eq_getElem, List.getD_eq_getElem?_getD, List.getElem?_eq_getElem (by omega)]; rfl
  rw [hlast]
  have hz := (hmem _).1 (List.getLast_mem hnn)
  have hzr := (hp.col s0).1 _ hz.1
  have hzf : fn m (kept.getLast hnn).toNat = s := by unfold fn; rw [Int.toNat_of_nonneg hzr.1]; exact hz.2
  rcases h with ⟨h1, h2⟩ | ⟨y, h1, h2, h3, h4⟩
  · exact absurd hzf (h2 _ (by omega))
  · have hy : (y : Int) ∈ kept := (hmem _).2 ⟨hcol y h2 h3, h3⟩
    have h5 := h4 (kept.getLast hnn).toNat (by omega) hzf
    rw [Int.toNat_of_nonneg hzr.1] at h5
    rcases last_max hpw hnn y hy with g | g
    · rw [h1]; exact g.symm
    · omega

set_option maxRecDepth 20000 in
set_option maxHeartbeats 4000000 in
theorem trimmed_any (vh vs vp vm : Value) (p : PlanD) (hok : PlanOk p) (m : List Int) (s : Int) (w : World) (hp : PlanR w vh vs vp p) (hm : Ints w vm m) (s0 : 0 ≤ s) (s1 : s < p.shifts.length) (hl : m.length = p.hands.length)
    (hcol : ∀ x : Nat, x < p.hands.length → fn m x = s → (x : Int) ∈ rowAt p.shifts s) :
    Calls Try.prog 122 #[.agg #[vh, vs, vp], vm, .int .i64 s] w fun e w' => ∃ z, e = .returned z ∧ OwnI w.heap.size w' z (trimI p m s) ∧ Ext w w' := by
  obtain ⟨aoh, caph, aos, caps, aop, capp, rfl, rfl, rfl⟩ := planR_shape hp
  have HP := hid hp
  have HM := hid hm
  have hs4 := hok.s4
  have hn6 := hok.h6
  have hn1 := hok.h1
  have hpl := hok.pl
  have Hok := hid hok
  have HCOL := hid hcol
  have hrl : (rowAt p.shifts s).length ≤ 6 := by have := rowOk_short (rowAt_ok hok.ss (i := s) (by omega)); omega
  obtain ⟨b1, o1, a1, c1, rfl, hrow, hri⟩ := hp.2.1.at s (by omega) (by omega)
  obtain ⟨bp, op, rfl, hpc⟩ := hp.2.2.at s (by omega) (by rw [hpl]; omega)
  have HROW := hid hrow
  have HRI := hid hri
  have HPC := hid hpc
  obtain ⟨-, am, cm, rfl, -⟩ := id hm
  obtain ⟨bm, om, rfl, -, -⟩ := hm.get 0 (by omega)
  have e0 := hid (Ext.ofAlloc w (.cells #[.slice aoh p.hands.length caph, .slice (some ⟨b1, o1, none⟩) p.shifts.length caps, .slice (some ⟨bp, op, none⟩) p.places.length capp] 25))
  have X0 := hid (Box3.alloc w 25 (.slice aoh p.hands.length caph) (.slice (some ⟨b1, o1, none⟩) p.shifts.length caps) (.slice (some ⟨bp, op, none⟩) p.places.length capp))
  have HL := hid hl
  have HPL := hid hpl
  have hml : m.length ≤ 6 := by omega
  clear hp hm hrow hri hpc hcol hl hpl hok
  go_enter Try.func122, Try.ntmps122
  go_wp2
  have hWs := e0.out.size
  generalize w.alloc (.cells #[.slice aoh p.hands.length caph, .slice (some ⟨b1, o1, none⟩) p.shifts.length caps, .slice (some ⟨bp, op, none⟩) p.places.length capp] 25) = W at *
  go_loopg [14, 7, 8] m.length (fun g i c v wr => ∃ (k : Nat) (x : Int), k + g = m.length ∧ i = .int .i64 k ∧ c = .int .i64 ((cntTo m k s : Nat) : Int) ∧ v = .int .i64 x ∧ Hid (WorstTo p m s k x) ∧ Hid (Ext W wr))
  case atStart => exact ⟨0, -1, by omega, rfl, rfl, rfl, .inl ⟨rfl, fun x hx => by omega⟩, Ext.refl _⟩
  case round =>
    obtain ⟨k, x, hk, rfl, rfl, rfl, WT, E⟩ := hrel
    have hkm : k ≤ m.length := by omega
    have Hk := hid hk
    clear hk
    by_cases hlt : k < m.length
    · have hki : (k : Int) < m.length := by omega
      have hkn : k < p.hands.length := by have := HL.out; omega
      have dm := (HM.out.get' k hlt).2 _ (e0.out.trans E.out)
      have hcl := cntTo_le m k s
      by_cases e : fn m k = s
      · have he : (fn m k == s) = true := by simpa using e
        have HC := hid (cntTo_bool he)
        have hko := HCOL.out k hkn e
        have HE := hid e
        by_cases hx0 : x < 0
        · have HW2 := hid (WT.out.first e hx0)
          clear e hko
          go_wp2
          go_quiet (fail)
          go_wp2
          go_roundg (gk - 1)
          case rel => exact ⟨k + 1, k, by have := Hk.out; omega, by go_num, by rw [HC.out]; simp, rfl, HW2, E.out.drewN _⟩
          case measure => have := Hk.out; omega
        · have hxr : 0 ≤ x ∧ x < k ∧ fn m x.toNat = s := by
            rcases WT.out.range with g | g
            · omega
            · exact g
          have hxo := HCOL.out x.toNat (by have := HL.out; omega) hxr.2.2
          rw [Int.toNat_of_nonneg hxr.1] at hxo
          have h1 := rankI_P hko
          have h2 := rankI_P hxo
          obtain ⟨c0, d0, f0⟩ := (X0.out.ext E.out).cells
          have dr := HROW.out _ (e0.out.trans E.out)
          have HS : Hid (∀ n x, Calls Try.prog 101 #[.slice a1 (rowAt p.shifts s).length c1, .int .i64 x] (wr.drewN n) fun e w' => e = .returned (.int .i64 (rankI (rowAt p.shifts s) x)) ∧ w' = wr.drewN n) :=
            fun n x => (Rank_any _ _ x _ (HRI.out.ext ((e0.out.trans E.out).drewN n))).mono fun _ _ ⟨he, hw⟩ => ⟨he, hw.symm⟩
          by_cases hr : rankI (rowAt p.shifts s) x < rankI (rowAt p.shifts s) k
          · have HW2 := hid (WT.out.worse e hx0 (by rw [← h1, ← h2]; exact hr))
            clear e hko hxo h1 h2 hxr
            go_wp2
            go_quiet ((go_at_call 101; exact Calls.quiet_of_same (HS.out _ _)))
            go_wp2
            go_roundg (gk - 1)
            case rel => exact ⟨k + 1, k, by have := Hk.out; omega, by go_num, by rw [HC.out]; simp, rfl, HW2, E.out.drewN _⟩
            case measure => have := Hk.out; omega
          · have HW2 := hid (WT.out.better hx0 (by rw [← h1, ← h2]; exact hr))
            clear e hko hxo h1 h2 hxr
            go_wp2
            go_quiet ((go_at_call 101; exact Calls.quiet_of_same (HS.out _ _)))
            go_wp2
            go_roundg (gk - 1)
            case rel => exact ⟨k + 1, x, by have := Hk.out; omega, by go_num, by rw [HC.out]; simp, rfl, HW2, E.out.drewN _⟩
            case measure => have := Hk.out; omega
      · have he : (fn m k == s) = false := by simpa using e
        have HC := hid (cntTo_bool he)
        have HW2 := hid (WT.out.miss e)
        clear e
        go_wp2
        go_roundg (gk - 1)
        case rel => exact ⟨k + 1, x, by have := Hk.out; omega, by go_num, by rw [HC.out]; simp, rfl, HW2, E⟩
        case measure => have := Hk.out; omega
    · have ek : k = m.length := by omega
      subst ek
      have hki : ¬ ((m.length : Int) < m.length) := by omega
      have HW1 := WT.out
      rw [HL.out] at HW1
      have HW := hid HW1
      have hcnt := hands_cnt Hok.out s0 HCOL.out
      have hcc : cntTo m m.length s = (handsI (rowAt p.shifts s) m s).length := by rw [hcnt, HL.out]; exact cntTo_all (hp := Hok.out) m s
      have hcl := cntTo_le m m.length s
      have hWT := HW.out.range
      have hlast := WorstTo.last Hok.out s0 HW.out HCOL.out
      have HCC := hid hcc
      obtain ⟨n, hn⟩ : ∃ n, n = cntTo m m.length s := ⟨_, rfl⟩
      have hsz := E.out.size
      obtain ⟨c0, d0, f0⟩ := (X0.out.ext E.out).cells
      have hown0 : OwnI wr.heap.size (wr.alloc (.cells #[] 3)) (.slice (some ⟨wr.heap.size, 0, none⟩) 0 0) [] := World.ownsRow_lit wr #[] 0 (Nat.le_refl _) (by decide) rfl
      have Hown0 := hid hown0
      have HMR : Hid (∀ w', Ext w w' → ∀ k, k < m.length → ∃ ad, (some ⟨bm, om, none⟩ : Option Addr) = some ad ∧ w'.cell? (ad.add k) = some (.int .i64 (fn m k))) := fun w' e k hk => ⟨_, rfl, by rw [Addr.add_lit]; exact (HM.out.get' k hk).2 _ e⟩
      have HWT := hid hWT
      have HLAST := hid hlast
      have HN := hid hn
      rw [← hn]
      rw [← hn] at hcl
      have HSP := hid s1
      have hsp : s < p.places.length := by rw [HPL.out]; exact s1
      clear hlt HW1 hcnt hcc hWT hlast hn hown0 hcl
      clear c0 d0 f0
      go_wp2_with (at_builtin; go_must (refine wpl_append_ints rfl _ _ rfl wr.heap.size (.slice (some ⟨wr.heap.size, 0, none⟩) 0 0) [] rfl Hown0.out (some ⟨bm, om, none⟩) m.length cm m rfl rfl (fun h => by simp at h) (HMR.out _ ((e0.out.trans E.out).alloc _)) (by first | omega | (simp; done) | (simp; omega)) (by first | omega | (simp; done) | (simp; omega)) ?_))
      intro v' w1 hv' hg
      try rw [List.nil_append] at hv'
      obtain ⟨g1, cap1, cur1, hvv, hgB, hh1, hnn, -⟩ : ∃ g cap cur, v' = .slice (some ⟨g, 0, none⟩) m.length cap ∧ wr.heap.size ≤ g ∧ w1.heap[g]? = some (.cells cur 3 (0, 0)) ∧ m.length ≤ cap ∧ True := by
        obtain ⟨-, ⟨-, h⟩ | ⟨g, cap, cur, h1, h2, h3, h4, -⟩⟩ := id hv'
        · have := HL.out; omega
        · exact ⟨g, cap, cur, h1, h2, h3, h4, trivial⟩
      subst hvv
      have HV := hid hv'
      have E1 : Hid (Ext W w1) := (Below.grown (E.out.alloc (.cells #[] 3)) hg (by simp; omega) (fun k hk => by simp [Value.ownBlock] at hk; omega))
      have HSZ1 := E1.out.size
      obtain ⟨c0, d0, f0⟩ := (X0.out.ext E1.out).cells
      have dp := HPC.out _ (e0.out.trans E1.out)
      clear hv' hg hh1
      have hcl := cntTo_le m m.length s
      rw [← HN.out] at hcl
      by_cases hq : intAt p.places s < (n : Int)
      · have hk0 : 0 < (handsI (rowAt p.shifts s) m s).length := by
          have h1 := HCC.out
          have h2 := HN.out
          have h3 := planPlaces Hok.out s0 HSP.out
          omega
        have hx := HLAST.out hk0
        have htr : trimI p m s = m.set x.toNat (-1) := by
          unfold trimI
          rw [hx, if_pos (by rw [← HCC.out, ← HN.out]; exact hq)]
        have hx0 : 0 ≤ x := by
          have hw := HLAST.out hk0
          rcases HWT.out with g | g
          · have := HN.out
            have h4 := HW.out
            rcases h4 with ⟨-, h5⟩ | ⟨y, h5, -⟩
            · exfalso
              have hmem := List.getElem_mem (l := handsI (rowAt p.shifts s) m s) (n := 0) hk0
              unfold handsI at hmem
              rw [List.mem_filter, beq_iff_eq] at hmem
              have hr := (Hok.out.col s0).1 _ hmem.1
              refine h5 (((rowAt p.shifts s).filter (fun h => intAt m h == s))[0]'hk0).toNat (by omega) ?_
              unfold fn
              rw [Int.toNat_of_nonneg hr.1]; exact hmem.2
            · omega
          · exact g.1
        have hxm : x < m.length := by
          rcases HWT.out with g | g
          · omega
          · have := g.2.1; have := HL.out; omega
        have hst := World.ownsRow.stored HV.out x.toNat (.int .i64 (-1))
        have HST : Hid (OwnI wr.heap.size (w1.setCell ⟨g1, x.toNat, none⟩ (.int .i64 (-1))) (.slice (some ⟨g1, 0, none⟩) m.length cap1) (trimI p m s)) := by
          show World.ownsRow _ _ _ _ _ (trimI p m s).length ((trimI p m s).map (Value.int .i64))
          rw [htr, List.length_set, List.map_set]
          exact hst.1
        have hcell := World.ownsRow.cellAt HV.out x.toNat (by omega)
        have hcx : w1.cell? ⟨g1, x.toNat, none⟩ = some (.int .i64 (fn m x.toNat)) := by
          rw [hcell, List.getElem?_map, List.getElem?_eq_getElem (by omega), fn_get (by omega)]; rfl
        have hfr := World.ownsRow.frozenAt HV.out x.toNat
        have E2 := hid (E1.out.setCell (g := g1) (by omega) x.toNat (.int .i64 (-1)))
        clear hx htr hst hcell hk0 HV
        go_wp2
        go_ret
        exact ⟨_, rfl, ownsRow_base HST.out (by omega), e0.out.trans E2.out⟩
      · have htr : trimI p m s = m := by
          unfold trimI
          rw [if_neg (by rw [← HCC.out, ← HN.out]; exact hq)]
        have HST : Hid (OwnI wr.heap.size w1 (.slice (some ⟨g1, 0, none⟩) m.length cap1) (trimI p m s)) := by
          show OwnI _ _ _ _
          rw [htr]; exact HV.out
        clear htr
        go_wp2
        go_ret
        exact ⟨_, rfl, ownsRow_base HST.out (by omega), e0.out.trans E1.out⟩

end Go.Proofs.Ytkdfbbkonbgfmaa

/-
  Contract of the reference's Deferred: it returns the stable matching that is best for the hands.
-/
namespace Go.Proofs.Ytkdfbbkonbgfmaa
open Go.RowKit

theorem own_some {B : Nat} {w : World} {v : Value} {xs : List Int} (h : OwnI B w v xs) (hl : 0 < xs.length) : ∃ g c, v = .slice (some ⟨g, 0, none⟩) xs.length c ∧ B ≤ g ∧ g < w.heap.size ∧ xs.length ≤ c := by
  obtain ⟨-, ⟨-, h⟩ | ⟨g, cap, cur, h1, h2, h3, h4, -⟩⟩ := h
  · omega
  · exact ⟨g, cap, h1, h2, lt_of_block h3, h4⟩
theorem OwnI.other {B : Nat} {w : World} {g n c : Nat} {xs : List Int} (h : OwnI B w (.slice (some ⟨g, 0, none⟩) n c) xs) {g' : Nat} (hg : g' ≠ g) (i : Nat) (v : Value) : OwnI B (w.setCell ⟨g', i, none⟩ v) (.slice (some ⟨g, 0, none⟩) n c) xs :=
  ownsRow_setCell_other h (a := ⟨g', i, none⟩) (by simp [Value.ownBlock]; omega) v
theorem OwnI.set {B : Nat} {w : World} {g n c : Nat} {xs : List Int} (h : OwnI B w (.slice (some ⟨g, 0, none⟩) n c) xs) (hn : n = xs.length) {i : Nat} (hi : i < xs.length) (x : Int) :
    OwnI B (w.setCell ⟨g, i, none⟩ (.int .i64 x)) (.slice (some ⟨g, 0, none⟩) n c) (xs.set i x) ∧ w.cell? ⟨g, i, none⟩ = some (.int .i64 (fn xs i)) ∧ w.frozen? ⟨g, i, none⟩ = false := by
  subst hn
  refine ⟨?_, ?_, World.ownsRow.frozenAt h i⟩
  · show World.ownsRow _ _ _ _ _ (xs.set i x).length ((xs.set i x).map (Value.int .i64))
    rw [List.length_set, List.map_set]
    exact (World.ownsRow.stored h i (.int .i64 x)).1
  · rw [World.ownsRow.cellAt h i (by omega), List.getElem?_map, List.getElem?_eq_getElem hi, fn_get hi]; rfl

set_option maxRecDepth 20000 in
set_option maxHeartbeats 4000000 in
theorem Deferred_any (vh vs vp : Value) (p : PlanD) (hok : PlanOk p) (w : World) (hp : PlanR w vh vs vp p) :
    Calls Try.prog 93 #[.agg #[vh, vs, vp]] w fun e w' => ∃ u, e = .returned u ∧ ∃ m, OwnI w.heap.size w' u m ∧ IsFirst p hok m ∧ Ext w w' := by
  obtain ⟨hh, hs, hpp⟩ := hp
  obtain ⟨hlh, aoh, caph, rfl, hch, hhc⟩ := id hh
  obtain ⟨hls, aos, caps, rfl, hcs, hsc⟩ := id hs
  obtain ⟨hlp, aop, capp, rfl, hcp, hpc⟩ := id hpp
  obtain ⟨bh, oh, -, rfl, -, -⟩ := hhc 0 (by have := hok.h1; omega)
  obtain ⟨bs, os, -, rfl, -, -⟩ := hsc 0 (by have := hok.s1; omega)
  obtain ⟨bp, op, rfl, -⟩ := hpc 0 (by have := hok.pl; have := hok.s1; omega)
  clear hhc hsc hpc hch hcs hcp
  have Hh := hid hh
  have Hs' := hid hs
  have Hp := hid hpp
  have Hok := hid hok
  have hn1 := hok.h1
  have hn6 := hok.h6
  clear hh hs hpp
  have hmk := run_make_row' (P := Try.prog) 23 3 (.int .i64 0) 8 Try.underlying23 info_int rfl .i64 .i64 p.hands.length (by omega) (by omega)
  have hbx := Box3.alloc w 25 (.slice (some ⟨bh, oh, none⟩) p.hands.length caph) (.slice (some ⟨bs, os, none⟩) p.shifts.length caps) (.slice (some ⟨bp, op, none⟩) p.places.length capp)
  have Hbx := hid hbx
  have E0 := hid (Ext.ofAlloc w (.cells #[.slice (some ⟨bh, oh, none⟩) p.hands.length caph, .slice (some ⟨bs, os, none⟩) p.shifts.length caps, .slice (some ⟨bp, op, none⟩) p.places.length capp] 25))
  have hszw : (w.alloc (.cells #[.slice (some ⟨bh, oh, none⟩) p.hands.length caph, .slice (some ⟨bs, os, none⟩) p.shifts.length caps, .slice (some ⟨bp, op, none⟩) p.places.length capp] 25)).heap.size = w.heap.size + 1 := by simp
  have Hszw := hid hszw
  clear hbx hszw
  go_enter Try.func93, Try.ntmps93
  go_wp2
  have hmade : madeCells #[Value.int .i64 0] p.hands.length = ((List.replicate p.hands.length (0 : Int)).map (Value.int .i64)).toArray := by
    apply Array.ext'
    rw [toList_madeCells_one]; simp
  rw [hmade]
  generalize w.alloc (.cells #[.slice (some ⟨bh, oh, none⟩) p.hands.length caph, .slice (some ⟨bs, os, none⟩) p.shifts.length caps, .slice (some ⟨bp, op, none⟩) p.places.length capp] 25) = W at *
  have b1 : IntBlock (W.alloc (.cells ((List.replicate p.hands.length (0 : Int)).map (Value.int .i64)).toArray 3)) W.heap.size (List.replicate p.hands.length 0) := heap_alloc_new W _
  have b2 : IntBlock ((W.alloc (.cells ((List.replicate p.hands.length (0 : Int)).map (Value.int .i64)).toArray 3)).alloc (.cells ((List.replicate p.hands.length (0 : Int)).map (Value.int .i64)).toArray 3)) (W.alloc (.cells ((List.replicate p.hands.length (0 : Int)).map (Value.int .i64)).toArray 3)).heap.size (List.replicate p.hands.length 0) := heap_alloc_new _ _
  rw [World.size_alloc] at b2
  have B1 := hid (b1.ext (Ext.ofAlloc _ (.cells ((List.replicate p.hands.length (0 : Int)).map (Value.int .i64)).toArray 3)))
  have B2 := hid b2
  have E1 := hid ((E0.out.alloc (.cells ((List.replicate p.hands.length (0 : Int)).map (Value.int .i64)).toArray 3)).alloc (.cells ((List.replicate p.hands.length (0 : Int)).map (Value.int .i64)).toArray 3))
  have X1 := hid (Hbx.out.ext (((Ext.refl W).alloc (.cells ((List.replicate p.hands.length (0 : Int)).map (Value.int .i64)).toArray 3)).alloc (.cells ((List.replicate p.hands.length (0 : Int)).map (Value.int .i64)).toArray 3)))
  generalize (W.alloc (.cells ((List.replicate p.hands.length (0 : Int)).map (Value.int .i64)).toArray 3)).alloc (.cells ((List.replicate p.hands.length (0 : Int)).map (Value.int .i64)).toArray 3) = W1 at *
  have hszW := Hszw.out
  clear b1 b2 hmk hmade
  rw [hszW] at B1 B2
  obtain ⟨g1, hg1⟩ : ∃ g, g = w.heap.size + 1 := ⟨_, rfl⟩
  have hwg : w.heap.size < g1 := by omega
  rw [← hg1] at B1 B2 ⊢
  have HG1 := hid hg1
  clear hg1 hszW
  go_loopg [19] p.hands.length (fun g i wr => ∃ (k : Nat), k + g = p.hands.length ∧ i = .int .i64 k ∧ Hid (IntBlock wr g1 (List.replicate k (-1) ++ List.replicate (p.hands.length - k) 0)) ∧ Hid (IntBlock wr (g1 + 1) (List.replicate p.hands.length 0)) ∧ Hid (Box3 wr w.heap.size 25 (.slice (some ⟨bh, oh, none⟩) p.hands.length caph) (.slice (some ⟨bs, os, none⟩) p.shifts.length caps) (.slice (some ⟨bp, op, none⟩) p.places.length capp)) ∧ Hid (Ext w wr))
  case atStart => exact ⟨0, by omega, rfl, by simpa using B1, B2, X1, E1⟩
  case round =>
    obtain ⟨k, hk, rfl, M, A, X, E⟩ := hrel
    have hkl : k ≤ p.hands.length := by omega
    have Hk := hid hk
    clear hk
    by_cases hlt : k < p.hands.length
    · have hki : (k : Int) < p.hands.length := by omega
      have hlen : (List.replicate k (-1 : Int) ++ List.replicate (p.hands.length - k) 0).length = p.hands.length := by simp; omega
      have hc := M.out.cell (i := k) (by omega)
      have hf := M.out.free k
      have M2 := M.out.set k (-1)
      have e2 : (List.replicate k (-1 : Int) ++ List.replicate (p.hands.length - k) 0).set k (-1) = List.replicate (k + 1) (-1) ++ List.replicate (p.hands.length - (k + 1)) 0 := by
        rw [List.set_append_right _ _ (by simp), List.length_replicate, Nat.sub_self]
        obtain ⟨d, hd⟩ : ∃ d, p.hands.length - k = d + 1 := ⟨p.hands.length - k - 1, by omega⟩
        have hd2 : p.hands.length - (k + 1) = d := by omega
        rw [hd, hd2, List.replicate_succ, List.set_cons_zero, List.replicate_succ' (n := k), List.append_assoc]; rfl
      rw [e2] at M2
      have HM2 := hid M2
      have A2 := hid (A.out.other (g' := g1) (by omega) k (.int .i64 (-1)))
      have X2 := hid (X.out.other (g' := g1) (by omega) k (.int .i64 (-1)))
      have E2 := hid (E.out.setCell (g := g1) (by omega) k (.int .i64 (-1)))
      clear M2 e2 hlen
      go_wp2
      go_roundg (gk - 1)
      case rel => exact ⟨k + 1, by have := Hk.out; omega, by go_num, HM2, A2, X2, E2⟩
      case measure => have := Hk.out; omega
    · have ek : k = p.hands.length := by omega
      have hki : ¬ ((k : Int) < p.hands.length) := by omega
      have m0 := M.out
      rw [ek, Nat.sub_self, List.replicate_zero, List.append_nil] at m0
      have MO : Hid (OwnI g1 wr (.slice (some ⟨g1, 0, none⟩) p.hands.length p.hands.length) (List.replicate p.hands.length (-1))) := IntBlock.own m0 (Nat.le_refl _) (by simp) (by simp; omega)
      have A0' := A
      have X0' := X
      have E0' := E
      clear ek m0 M A X E hlt
      go_wp2
      go_loopg [6, 3] (rho p (List.replicate p.hands.length 0) + 1) (fun g ag v wr => ∃ (m a : List Int) (b : Bool) (gm cm : Nat), ag = .bool b ∧ v = .slice (some ⟨gm, 0, none⟩) p.hands.length cm ∧ gm ≠ g1 + 1 ∧ g1 ≤ gm ∧ p.hands.length ≤ cm ∧ Hid (FS p hok m a) ∧ Hid (OwnI g1 wr (.slice (some ⟨gm, 0, none⟩) p.hands.length cm) m) ∧ Hid (IntBlock wr (g1 + 1) a) ∧ Hid (Box3 wr w.heap.size 25 (.slice (some ⟨bh, oh, none⟩) p.hands.length caph) (.slice (some ⟨bs, os, none⟩) p.shifts.length caps) (.slice (some ⟨bp, op, none⟩) p.places.length capp)) ∧ Hid (Ext w wr) ∧ (b = true → rho p a < g) ∧ (b = false → Hid (∀ h, h < p.hands.length → fn m h ≠ -1 ∨ fn a h = (rowAt p.hands h).length)))
      case atStart => exact ⟨_, _, true, g1, _, rfl, rfl, by omega, by omega, by omega, FS.start, MO, A0', X0', E0', fun _ => by omega, fun h => by simp at h⟩
      case round =>
        clear MO A0' X0' E0'
        obtain ⟨m0, a0, b, gm0, cm0, rfl, rfl, hgn0, hgm0, hcm0, F0, M0, A0, X0, E0, hrho, hend⟩ := hrel
        cases b
        · have hd := hend rfl
          clear hend hrho
          go_wp2
          go_ret
          exact ⟨_, rfl, m0, ownsRow_base M0.out (by omega), F0.out.first hd.out, E0.out⟩
        · have hr0 := hrho rfl
          clear hrho hend
          go_wp2
          go_loopg [29, 6, 3] p.hands.length (fun g i ag v wr => ∃ (k : Nat) (m a : List Int) (b : Bool) (gm cm : Nat), k + g = p.hands.length ∧ i = .int .i64 k ∧ ag = .bool b ∧ v = .slice (some ⟨gm, 0, none⟩) p.hands.length cm ∧ gm ≠ g1 + 1 ∧ g1 ≤ gm ∧ p.hands.length ≤ cm ∧ Hid (FS p hok m a) ∧ Hid (OwnI g1 wr (.slice (some ⟨gm, 0, none⟩) p.hands.length cm) m) ∧ Hid (IntBlock wr (g1 + 1) a) ∧ Hid (Box3 wr w.heap.size 25 (.slice (some ⟨bh, oh, none⟩) p.hands.length caph) (.slice (some ⟨bs, os, none⟩) p.shifts.length caps) (.slice (some ⟨bp, op, none⟩) p.places.length capp)) ∧ Hid (Ext w wr) ∧ Hid (b = true → rho p a < rho p a0) ∧ Hid (b = false → a = a0 ∧ ∀ h, h < k → fn m h ≠ -1 ∨ fn a h = (rowAt p.hands h).length))
          case atStart => exact ⟨0, m0, a0, false, gm0, cm0, by omega, rfl, rfl, rfl, hgn0, hgm0, hcm0, F0, M0, A0, X0, E0, fun h => by simp at h, fun _ => ⟨rfl, fun h hh => by omega⟩⟩
          case round =>
            clear F0 M0 A0 X0 E0
            obtain ⟨k, m, a, b, gm, cm, hk, rfl, rfl, rfl, hgn, hgm, hcm, F, M, A, X, E, hT, hF⟩ := hrel
            have hkl : k ≤ p.hands.length := by omega
            have Hk := hid hk
            clear hk
            by_cases hlt : k < p.hands.length
            · have hki : (k : Int) < p.hands.length := by omega
              have hlm := F.out.lm
              have hla := F.out.la
              have hmk' := (M.out.set hlm.symm (i := k) (by omega) 0).2.1
              have hak' := A.out.cell (i := k) (by omega)
              obtain ⟨hbh, ar, cr, hrow, hri⟩ := Hh.out.row k hlt
              have hrow' := hrow _ E.out
              have Hri := hid hri
              obtain ⟨c0, c1, c2⟩ := X.out.cells
              have hlo := F.out.lo k hlt
              have hrl := Hri.out.1
              have hbs' := E.out.size
              have hcur : fn m k = -1 ∨ 0 ≤ fn m k := by
                rcases F.out.da.cur k hlt with c | ⟨c, -⟩
                · exact .inl c
                · exact .inr ((mkt p Hok.out).pos_lo _ _ c)
              have HROW := hid hrow
              clear hrow hri
              by_cases hm1 : 0 ≤ fn m k
              · have hm2 : fn m k ≠ -1 := by omega
                have Hm1 := hid hm2
                clear hm2 hcur
                go_wp2
                go_quiet (fail)
                go_wp2
                go_roundg (gk - 1)
                case rel => exact ⟨k + 1, m, a, b, gm, cm, by have := Hk.out; omega, by go_num, rfl, rfl, hgn, hgm, hcm, F, ownsRow_ext M.out ((Ext.refl _).drewN _), A.out.ext ((Ext.refl _).drewN _), X.out.ext ((Ext.refl _).drewN _), E.out.drewN _, hT, fun h => ⟨(hF.out h).1, fun x hx => by
                  rcases Nat.lt_or_ge x k with h' | h'
                  · exact (hF.out h).2 x h'
                  · obtain rfl : x = k := by omega
                    exact .inl Hm1.out⟩⟩
                case measure => have := Hk.out; omega
              · have hm1e : fn m k = -1 := by omega
                by_cases ha1 : (rowAt p.hands k).length ≤ fn a k
                · have Ha1 := hid (show fn a k = (rowAt p.hands k).length by omega)
                  clear hm1e hcur
                  go_wp2
                  go_quiet (fail)
                  go_wp2
                  go_roundg (gk - 1)
                  case rel => exact ⟨k + 1, m, a, b, gm, cm, by have := Hk.out; omega, by go_num, rfl, rfl, hgn, hgm, hcm, F, ownsRow_ext M.out ((Ext.refl _).drewN _), A.out.ext ((Ext.refl _).drewN _), X.out.ext ((Ext.refl _).drewN _), E.out.drewN _, hT, fun h => ⟨(hF.out h).1, fun x hx => by
                    rcases Nat.lt_or_ge x k with h' | h'
                    · exact (hF.out h).2 x h'
                    · obtain rfl : x = k := by omega
                      exact .inr Ha1.out⟩⟩
                  case measure => have := Hk.out; omega
                · -- an offer
                  have hal : fn a k < (rowAt p.hands k).length := by omega
                  have ha0 := hlo.1
                  obtain ⟨s, hs⟩ : ∃ s, s = nextS p a k := ⟨_, rfl⟩
                  have hsr := nextS_range Hok.out ha0 hal
                  have hsg := nextS_get ha0 hal
                  rw [← hs] at hsr hsg
                  have hs0 := hsr.1
                  have hs1 := hsr.2
                  obtain ⟨br, orr, rfl, hbr, hcr⟩ := Hri.out.get (fn a k).toNat (by omega)
                  have HCR := hid hcr
                  have hfs : fn (rowAt p.hands k) (fn a k).toNat = s := by rw [fn_get (h := (fn a k).toNat) (by omega)]; exact hsg.symm
                  have HFS := hid hfs
                  have hrs := rho_step (p := p) hlt hla hal
                  have Hrs := hid hrs
                  have Hm1 := hid hm1e
                  have Hs := hid hs
                  have Hal := hid hal
                  have HCUR := hid hcur
                  clear hm1e hcur hs hsg hsr hcr hrs hfs
                  have hcr0 := HCR.out _ E.out
                  rw [HFS.out] at hcr0
                  clear hcr0
                  go_wp2
                  go_quiet (fail)
                  clear hmk' hak' hrow' c0 c1 c2
                  obtain ⟨V0, hV⟩ : ∃ V, V = wr.drewN nq := ⟨_, rfl⟩
                  have M1 : Hid (OwnI g1 V0 (.slice (some ⟨gm, 0, none⟩) p.hands.length cm) m) := by rw [hV]; exact ownsRow_ext M.out ((Ext.refl _).drewN _)
                  have A1 : Hid (IntBlock V0 (g1 + 1) a) := by rw [hV]; exact A.out.ext ((Ext.refl _).drewN _)
                  have X1 : Hid (Box3 V0 w.heap.size 25 (.slice (some ⟨bh, oh, none⟩) p.hands.length caph) (.slice (some ⟨bs, os, none⟩) p.shifts.length caps) (.slice (some ⟨bp, op, none⟩) p.places.length capp)) := by rw [hV]; exact X.out.ext ((Ext.refl _).drewN _)
                  have E1 : Hid (Ext w V0) := by rw [hV]; exact E.out.drewN _
                  rw [← hV]
                  clear hV
                  have hak' := A1.out.cell (i := k) (by omega)
                  have hrow' := HROW.out _ E1.out
                  have hcr' := HCR.out _ E1.out
                  rw [HFS.out] at hcr'
                  obtain ⟨c0, c1, c2⟩ := X1.out.cells
                  go_wp2
                  go_quiet (fail)
                  clear hak' hrow' c0 c1 c2 hcr'
                  obtain ⟨V, hV⟩ : ∃ V, V = V0.drewN nq := ⟨_, rfl⟩
                  replace M1 : Hid (OwnI g1 V (.slice (some ⟨gm, 0, none⟩) p.hands.length cm) m) := by rw [hV]; exact ownsRow_ext M1.out ((Ext.refl _).drewN _)
                  replace A1 : Hid (IntBlock V (g1 + 1) a) := by rw [hV]; exact A1.out.ext ((Ext.refl _).drewN _)
                  replace X1 : Hid (Box3 V w.heap.size 25 (.slice (some ⟨bh, oh, none⟩) p.hands.length caph) (.slice (some ⟨bs, os, none⟩) p.shifts.length caps) (.slice (some ⟨bp, op, none⟩) p.places.length capp)) := by rw [hV]; exact X1.out.ext ((Ext.refl _).drewN _)
                  replace E1 : Hid (Ext w V) := by rw [hV]; exact E1.out.drewN _
                  rw [← hV]
                  clear hV
                  have hak1 := A1.out.cell (i := k) (by omega)
                  have hfree := A1.out.free k
                  have hEs := E1.out.size
                  -- behind the count's store
                  have Aa := hid (A1.out.set k (fn a k + 1))
                  have Ma := hid (M1.out.other (g' := g1 + 1) (by omega) k (.int .i64 (fn a k + 1)))
                  have Xa := hid (X1.out.other (g' := g1 + 1) (by omega) k (.int .i64 (fn a k + 1)))
                  have Ea := hid (E1.out.setCell (g := g1 + 1) (by omega) k (.int .i64 (fn a k + 1)))
                  obtain ⟨d0, d1, d2⟩ := Xa.out.cells
                  have hT' : Hid (∀ m', FS p hok m' (a.set k (fn a k + 1)) → (true = true → rho p (a.set k (fn a k + 1)) < rho p a0)) := by
                    intro m' _ _
                    have h1 := Hrs.out
                    cases b
                    · have := (hF.out rfl).1; subst this; omega
                    · have := hT.out rfl; omega
                  cases hps : possB p k s
                  · have Fn := hid (F.out.skip hlt Hm1.out Hal.out (by rw [← Hs.out]; exact hps))
                    go_wp2_with (fail)
                    refine (Rpossible_any _ _ _ p k s _ ⟨Hh.out.ext Ea.out, Hs'.out.ext Ea.out, Hp.out.ext Ea.out⟩ (by omega) (by omega) hs0 hs1).mono ?_
                    rintro e w2 ⟨rfl, he2⟩
                    have He2 := hid he2
                    clear he2
                    go_wp2
                    go_roundg (gk - 1)
                    case rel => exact ⟨k + 1, m, _, true, gm, cm, by have := Hk.out; omega, by go_num, rfl, rfl, hgn, hgm, hcm, Fn, ownsRow_ext Ma.out He2.out, Aa.out.ext He2.out, Xa.out.ext He2.out, Ea.out.trans He2.out, fun _ => hT'.out m Fn.out trivial, fun h => by simp at h⟩
                    case measure => have := Hk.out; omega
                  · have HPS := hid hps
                    go_wp2_with (fail)
                    refine (Rpossible_any _ _ _ p k s _ ⟨Hh.out.ext Ea.out, Hs'.out.ext Ea.out, Hp.out.ext Ea.out⟩ (by omega) (by omega) hs0 hs1).mono ?_
                    rintro e w2 ⟨rfl, he2⟩
                    have M2 := hid (ownsRow_ext Ma.out he2 : OwnI g1 w2 (.slice (some ⟨gm, 0, none⟩) p.hands.length cm) m)
                    have A2 := hid (Aa.out.ext he2)
                    have X2 := hid (Xa.out.ext he2)
                    have E2 := hid (Ea.out.trans he2)
                    clear he2 d0 d1 d2
                    obtain ⟨M3', hm2, hf2⟩ := OwnI.set M2.out hlm.symm (i := k) (by omega) s
                    have M3 := hid M3'
                    have A3 := hid (A2.out.other (g' := gm) (by omega) k (.int .i64 s))
                    have X3 := hid (X2.out.other (g' := gm) (by omega) k (.int .i64 s))
                    have E3 := hid (E2.out.setCell (g := gm) (by omega) k (.int .i64 s))
                    obtain ⟨d0, d1, d2⟩ := X3.out.cells
                    have Hlen := hid (show (m.set k s).length = p.hands.length by rw [List.length_set]; exact hlm)
                    have HI3 : Hid (Ints (w2.setCell ⟨gm, k, none⟩ (.int .i64 s)) (.slice (some ⟨gm, 0, none⟩) p.hands.length cm) (m.set k s)) := OwnI.ints M3.out (by rw [Hlen.out]; omega)
                    have HCOL := hid (F.out.col hlt hs0 hps)
                    have hsz3 := E3.out.size
                    have hgn3 : g1 + 1 < (w2.setCell ⟨gm, k, none⟩ (.int .i64 s)).heap.size := A3.out.lt
                    clear M3'
                    go_wp2_with (fail)
                    refine (trimmed_any _ _ _ _ p hok (m.set k s) s _ ⟨Hh.out.ext E3.out, Hs'.out.ext E3.out, Hp.out.ext E3.out⟩ HI3.out hs0 hs1 Hlen.out HCOL.out).mono ?_
                    rintro e w3 ⟨u, rfl, hu, he3⟩
                    have A4 := hid (A3.out.ext he3)
                    have X4 := hid (X3.out.ext he3)
                    have E4 := hid (E3.out.trans he3)
                    have hFN : FS p hok (trimI p (m.set k s) s) (a.set k (fn a k + 1)) := by
                      unfold trimI
                      split
                      · rename_i hfull
                        have hsw := F.out.swap hlt Hm1.out Hal.out (by rw [← Hs.out]; exact HPS.out) (kept := handsI (rowAt p.shifts s) (m.set k s) s) (w := _) (by rw [← Hs.out]) (by rw [← Hs.out]; exact hfull) rfl
                        rw [← Hs.out] at hsw
                        exact hsw.2.2
                      · rename_i hroom
                        have htk := F.out.take hlt Hm1.out Hal.out (by rw [← Hs.out]; exact HPS.out) (by rw [← Hs.out]; exact hroom)
                        rw [← Hs.out] at htk
                        exact htk
                    have Fn := hid hFN
                    obtain ⟨g4, c4, hu4, hg4, -, hc4⟩ := own_some hu (by have := hFN.lm; omega)
                    have hlt4 := hFN.lm
                    have M4 : Hid (OwnI g1 w3 u (trimI p (m.set k s) s)) := ownsRow_base hu (by omega)
                    rw [hlt4] at hu4 hc4
                    subst hu4
                    have hg41 : g4 ≠ g1 + 1 := by omega
                    have hg42 : g1 ≤ g4 := by omega
                    clear hu he3 hFN d0 d1 d2 hlt4
                    go_wp2
                    go_roundg (gk - 1)
                    case rel => exact ⟨k + 1, _, _, true, g4, c4, by have := Hk.out; omega, by go_num, rfl, rfl, hg41, hg42, hc4, Fn, M4, A4, X4, E4, fun _ => hT'.out _ Fn.out trivial, fun h => by simp at h⟩
                    case measure => have := Hk.out; omega
            · have hki : ¬ ((k : Int) < p.hands.length) := by omega
              go_wp2
              cases b
              · go_roundg 0
                case rel => exact ⟨m, a, false, gm, cm, rfl, rfl, hgn, hgm, hcm, F, M, A, X, E, fun h => by simp at h, fun _ => show ∀ h, h < p.hands.length → fn m h ≠ -1 ∨ fn a h = (rowAt p.hands h).length from fun h hh => (hF.out rfl).2 h (by omega)⟩
                case measure => omega
              · have := hT.out rfl
                go_roundg (rho p a0)
                case rel => exact ⟨m, a, true, gm, cm, rfl, rfl, hgn, hgm, hcm, F, M, A, X, E, fun _ => this, fun h => by simp at h⟩
                case measure => omega

end Go.Proofs.Ytkdfbbkonbgfmaa

/-
  Contract of the reference's Lie.
-/
namespace Go.Proofs.Ytkdfbbkonbgfmaa
open Go.RowKit

/-- The first list by which the shift gains, or none. -/
def LieAns (p : PlanD) (s : Nat) (m0 : List Int) (e : Ending) (w' : World) : Prop :=
  (∃ (a : Option Addr) (c : Nat) (f : List Int), e = .returned (.tuple #[.slice a f.length c, .int .i64 0]) ∧ Ints w' (.slice a f.length c) f ∧ LeastL (GainsBy p s m0) (rowAt p.shifts s) f) ∨ (e = .returned (.tuple #[.slice none 0 0, .int .i64 4]) ∧ ∀ l, SubL (rowAt p.shifts s) l → ¬ GainsBy p s m0 l)
theorem OwnRows.at {B : Nat} {w : World} {v : Value} {xss : List (List Int)} (h : OwnRows B w v xss) {i : Nat} (hi : i < xss.length) :
    ∃ g cap a c, v = .slice (some ⟨g, 0, none⟩) xss.length cap ∧ (∀ w', Ext w w' → w'.cell? ⟨g, i, none⟩ = some (.slice a xss[i].length c)) ∧ Ints w (.slice a xss[i].length c) xss[i] := by
  obtain ⟨g, cap, a, c, h1, h2, h3, h4⟩ := h.cellAt hi
  exact ⟨g, cap, a, c, h1, h2, OwnI.ints h3 h4⟩

set_option maxRecDepth 20000 in
set_option maxHeartbeats 4000000 in
theorem RLie_any (vh vs vp : Value) (p : PlanD) (hok : PlanOk p) (s : Nat) (m0 : List Int) (hm0 : IsFirst p hok m0) (w : World) (hp : PlanR w vh vs vp p) (hs : s < p.shifts.length) :
    Calls Try.prog 49 #[.agg #[vh, vs, vp], .int .i64 s] w fun e w' => LieAns p s m0 e w' ∧ Ext w w' := by
  obtain ⟨aoh, caph, aos, caps, aop, capp, rfl, rfl, rfl⟩ := planR_shape hp
  have HP := hid hp
  have hs4 := hok.s4
  have hh6 := hok.h6
  have HM0 := hid hm0
  have hsi : (s : Int) < p.shifts.length := by omega
  have hrl : (rowAt p.shifts s).length ≤ 6 := by have := rowOk_short (rowAt_ok hok.ss (i := s) (by omega)); omega
  obtain ⟨bs, os, ar, cr, rfl, hrow, hri⟩ := hp.2.1.at s (by omega) (by omega)
  rw [Int.toNat_natCast] at hrow
  have HROW := hid hrow
  have HRI := hid hri
  have e0 := hid (Ext.ofAlloc w (.cells #[.slice aoh p.hands.length caph, .slice (some ⟨bs, os, none⟩) p.shifts.length caps, .slice aop p.places.length capp] 25))
  have X0 := hid (Box3.alloc w 25 (.slice aoh p.hands.length caph) (.slice (some ⟨bs, os, none⟩) p.shifts.length caps) (.slice aop p.places.length capp))
  have HR0 := hid (ranksI_was hok hs hm0).2
  have HOK := hid hok
  clear hp hrow hri hm0
  go_enter Try.func49, Try.ntmps49
  go_wp2_with (fail)
  refine (RFirst_any _ _ _ p hok m0 HM0.out _ (HP.out.ext e0.out)).mono ?_
  rintro e w1 ⟨u6, rfl, hu6, he1⟩
  obtain ⟨-, a6, c6, rfl, -⟩ := id hu6
  have HU6 := hid hu6
  have E1 := hid (e0.out.trans he1)
  have X1 := hid (X0.out.ext he1)
  have dr := HROW.out _ E1.out
  obtain ⟨c0, d0, f0⟩ := X1.out.cells
  obtain ⟨k6, hk6⟩ : ∃ k, k = m0.length := ⟨_, rfl⟩
  clear hu6 he1
  go_wp2_with (fail)
  refine (lists_any2 _ _ _ (HRI.out.ext E1.out) hrl).mono ?_
  rintro e w2 ⟨u2, rfl, L, hu2, hL, hLl, he2⟩
  clear dr c0 d0 f0
  have HU2 := hid hu2
  have HL := hid hL
  have E2 := hid (E1.out.trans he2)
  have X2 := hid (X1.out.ext he2)
  have HM6 := hid (HU6.out.ext he2)
  obtain ⟨-, a2, c2, rfl, -⟩ := id (hu2.rows2 (by omega))
  clear hu2 hL he2
  go_wp2
  go_loopg [18] L.length (fun g i wr => ∃ (k : Nat), k + g = L.length ∧ i = .int .i64 k ∧ Hid (∀ j, (hj : j < k) → (h2 : j < L.length) → ¬ GainsBy p s m0 L[j]) ∧ Hid (Ext w2 wr))
  case atStart => exact ⟨0, by omega, rfl, fun j hj => by omega, Ext.refl _⟩
  case round =>
    obtain ⟨k, hk, rfl, NO, E⟩ := hrel
    have hkn : k ≤ L.length := by omega
    have Hk := hid hk
    clear hk
    by_cases hlt : k < L.length
    · have hki : (k : Int) < L.length := by omega
      obtain ⟨g0, cap0, a0, c0, he0, hcell, hu⟩ := HU2.out.at hlt
      simp only [Value.slice.injEq, true_and] at he0
      obtain ⟨rfl, rfl⟩ := he0
      have dc := hcell _ E.out
      have HUL := hid (hu.ext E.out)
      have hsub := (HL.out.mem L[k]).1 (List.getElem_mem hlt)
      have HLE : Hid (GainsBy p s m0 L[k] → LeastL (GainsBy p s m0) (rowAt p.shifts s) L[k]) := fun hg => HL.out.least hlt hg (fun j hj => NO.out j hj (by omega))
      have HN2 : Hid (¬ GainsBy p s m0 L[k] → ∀ j, (hj : j < k + 1) → (h2 : j < L.length) → ¬ GainsBy p s m0 L[j]) := fun hn j hj h2 => by
        by_cases e : j = k
        · subst e; exact hn
        · exact NO.out j (by omega) h2
      obtain ⟨l, hl⟩ : ∃ l, l = L[k] := ⟨_, rfl⟩
      rw [← hl] at HUL dc hsub HLE HN2
      have hq : PlanOk (setS p s l) := hsub.ok HOK.out
      have HQ := hid hq
      have HSUB := hid hsub
      have E3 := hid (E2.out.trans E.out)
      obtain ⟨c0', d0, f0⟩ := (X2.out.ext E.out).cells
      obtain ⟨nl, hnl⟩ : ∃ n, n = l.length := ⟨_, rfl⟩
      clear hcell hu hl hsub hq
      go_wp2
      clear dc
      refine wp_region_held_drew (S := (fun w' => w'.cell? ⟨w.heap.size, 0, none⟩ = some (.slice aoh p.hands.length caph) ∧ w'.cell? ⟨w.heap.size, 1, none⟩ = some (.slice (some ⟨bs, os, none⟩) p.shifts.length caps) ∧ w'.cell? ⟨w.heap.size, 2, none⟩ = some (.slice aop p.places.length capp))) (by kernel_rfl) ?hSa0 (fun hHeld => ?_)
      case hSa0 => (first | (exact ⟨c0', d0, f0⟩) | ((try dsimp only); exact ⟨c0', d0, f0⟩))
      refine wpAnyH_tk 0 (v := ?va0) rfl (by kernel_rfl) (by kernel_rfl) (by kernel_rfl) (fun _ _ _ h => h) (by rfl) ?hya0 (by assumption) ?_
      case hya0 => (intro w hSw; (try dsimp only at hSw); go_simp <;> with_reducible rfl)
      (try simp only [Act.put, List.setIfInBounds_toArray, List.set_cons_zero, List.set_cons_succ])
      refine wpAnyH_tk 1 (v := ?va1) rfl (by kernel_rfl) (by kernel_rfl) (by kernel_rfl) (fun _ _ _ h => h) (by rfl) ?hya1 (by assumption) ?_
      case hya1 => (intro w hSw; (try dsimp only at hSw); go_simp <;> with_reducible rfl)
      (try simp only [Act.put, List.setIfInBounds_toArray, List.set_cons_zero, List.set_cons_succ])
      refine wpAnyH_tk 2 (v := ?va2) rfl (by kernel_rfl) (by kernel_rfl) (by kernel_rfl) (fun _ _ _ h => h) (by rfl) ?hya2 (by assumption) ?_
      case hya2 => (intro w hSw; (try dsimp only at hSw); go_simp <;> with_reducible rfl)
      (try simp only [Act.put, List.setIfInBounds_toArray, List.set_cons_zero, List.set_cons_succ])
      refine wpAnyH_tk 3 (v := ?va3) rfl (by kernel_rfl) (by kernel_rfl) (by kernel_rfl) (fun _ _ _ h => h) (by rfl) ?hya3 (by assumption) ?_
      case hya3 => (intro w hSw; (try dsimp only at hSw); go_simp <;> with_reducible rfl)
      (try simp only [Act.put, List.setIfInBounds_toArray, List.set_cons_zero, List.set_cons_succ])
      refine wpAnyH_tk 4 (v := ?va4) rfl (by kernel_rfl) (by kernel_rfl) (by kernel_rfl) (fun _ _ _ h => h) (by rfl) ?hya4 (by assumption) ?_
      case hya4 => (intro w hSw; (try dsimp only at hSw); go_simp <;> with_reducible rfl)
      (try simp only [Act.put, List.setIfInBounds_toArray, List.set_cons_zero, List.set_cons_succ])
      refine wpAnyH_tk 7 (v := ?va7) rfl (by kernel_rfl) (by kernel_rfl) (by kernel_rfl) (fun _ _ _ h => h) (by rfl) ?hya7 (by assumption) ?_
      case hya7 => (intro w hSw; (try dsimp only at hSw); go_simp <;> with_reducible rfl)
      (try simp only [Act.put, List.setIfInBounds_toArray, List.set_cons_zero, List.set_cons_succ])
      refine wpAnyH_one 5 rfl (by kernel_rfl) (by rfl) (fun K hK => ?_)
      go_simp
      ((refine (With_any _ _ _ _ p s l _ (HP.out.ext E3.out.drew) (HUL.out.ext (Ext.refl _).drew) hs hs4).mono ?_; rintro e W1 ⟨uW, rfl, hpW, he5⟩))
      refine hK.out _ _ ?hSa6 (fun hHeld => ?_)
      case hSa6 => (first | (exact ⟨he5.cell c0', he5.cell d0, he5.cell f0⟩) | ((try dsimp only); exact ⟨he5.cell c0', he5.cell d0, he5.cell f0⟩))
      clear hK K
      (try simp only [Act.put, List.setIfInBounds_toArray, List.set_cons_zero, List.set_cons_succ])
      refine wpAnyH_one 6 rfl (by kernel_rfl) (by rfl) (fun K hK => ?_)
      go_simp
      ((refine (Deferred_any _ _ _ (setS p s l) HQ.out _ hpW).mono ?_; rintro e W2 ⟨u28, rfl, mD, hoD, hmD, he6⟩; obtain ⟨aD, cD, rfl⟩ := own_len hoD))
      refine hK.out _ _ ?hSa7 (fun hHeld => ?_)
      case hSa7 => (first | (exact ⟨he6.cell (he5.cell c0'), he6.cell (he5.cell d0), he6.cell (he5.cell f0)⟩) | ((try dsimp only); exact ⟨he6.cell (he5.cell c0'), he6.cell (he5.cell d0), he6.cell (he5.cell f0)⟩))
      clear hK K
      (try simp only [Act.put, List.setIfInBounds_toArray, List.set_cons_zero, List.set_cons_succ])
      refine wpAnyH_one 8 rfl (by kernel_rfl) (by rfl) (fun K hK => ?_)
      go_simp
      ((have E7 : Hid (Ext wr W2) := ((Ext.refl wr).drew.trans he5).trans he6; have hlD : mD.length = p.hands.length := hmD.len; have hGB := GainsBy.of (m0 := m0) HQ.out hmD; refine (Gains_any _ _ _ _ _ p HOK.out s mD m0 _ (HP.out.ext (E3.out.trans E7.out)) (OwnI.ints hoD (by omega)) (HM6.out.ext (E.out.trans E7.out)) hs hlD HM0.out.len (ranksI_first HOK.out hs HSUB.out HQ.out hmD).2 HR0.out).mono ?_; rintro e W3 ⟨⟨b, rfl, hbf⟩, he8⟩; rw [← hGB] at hbf; replace E7 : Hid (Ext wr W3) := E7.out.trans he8; clear hGB hlD))
      refine hK.out _ _ ?hSa9 (fun hHeld => ?_)
      case hSa9 => (first | (exact ⟨he8.cell (he6.cell (he5.cell c0')), he8.cell (he6.cell (he5.cell d0)), he8.cell (he6.cell (he5.cell f0))⟩) | ((try dsimp only); exact ⟨he8.cell (he6.cell (he5.cell c0')), he8.cell (he6.cell (he5.cell d0)), he8.cell (he6.cell (he5.cell f0))⟩))
      clear hK K
      (try simp only [Act.put, List.setIfInBounds_toArray, List.set_cons_zero, List.set_cons_succ])
      refine wpAnyH_done (by kernel_rfl) ?_ _
      have HBF := hid hbf
      clear hbf
      cases b with
      | true =>
        have HLL := hid (HLE.out (HBF.out.1 rfl))
        have HUF : Hid (Ints W3 (.slice a0 l.length c0) l) := HUL.out.ext E7.out
        clear c0' d0 f0
        go_wp2
        go_ret2
        exact ⟨.inl ⟨_, _, l, rfl, HUF.out, HLL.out⟩, E3.out.trans E7.out⟩
      | false =>
        have hno : ¬ GainsBy p s m0 l := fun h => by have := HBF.out.2 h; simp at this
        have HN3 := hid (HN2.out hno)
        have E9 := hid (E.out.trans E7.out)
        clear hno c0' d0 f0
        go_wp2
        go_roundg (gk - 1)
        case rel => exact ⟨k + 1, by have := Hk.out; omega, by go_num, HN3, E9⟩
        case measure => have := Hk.out; omega
    · have ek : k = L.length := by omega
      have hki : ¬ ((k : Int) < L.length) := by omega
      have hno := NO.out
      have HNO : Hid (∀ l, SubL (rowAt p.shifts s) l → ¬ GainsBy p s m0 l) := fun l hsl hg => by
        obtain ⟨j, hj, rfl⟩ := List.getElem_of_mem ((HL.out.mem l).2 hsl)
        exact hno j (by omega) hj hg
      clear hno ek hlt
      go_wp2
      go_ret2
      exact ⟨.inr ⟨rfl, HNO.out⟩, E2.out.trans E.out⟩

end Go.Proofs.Ytkdfbbkonbgfmaa

/-
  The statement TurnsLies: its walk.
-/
namespace Go.Proofs.Ytkdfbbkonbgfmaa
open Go.RowKit

theorem eqI_self5 (a : List Int) : eqI a a = true := by unfold eqI; exact decide_eq_true rfl

set_option maxRecDepth 20000 in
set_option maxHeartbeats 4000000 in
theorem TurnsLies_any (vh vs vp : Value) (p : PlanD) (k : Int) (w : World) (hp : PlanR w vh vs vp p) :
    Calls Try.prog 14 #[.agg #[vh, vs, vp], .int .i64 k] w fun e w' => e = .returned (.bool true) ∧ Ext w w' := by
  obtain ⟨aoh, caph, aos, caps, aop, capp, rfl, rfl, rfl⟩ := planR_shape hp
  have HP := hid hp
  have X0 := Box3.alloc w 25 (.slice aoh p.hands.length caph) (.slice aos p.shifts.length caps) (.slice aop p.places.length capp)
  clear hp
  cases hb : planOk (cutP p)
  · have hbp : planOk p = false := by rw [← planOk_cut]; exact hb
    go_enter Try.func14, Try.ntmps14
    go_wp2_with (fail)
    refine (Of_any _ _ _ p _ (HP.out.ext (Ext.ofAlloc w _))).mono ?_
    rintro e w1 ⟨uh, us, up, rfl, hu, he1⟩
    have X1 := hid (X0.ext he1)
    have E1 := hid ((Ext.ofAlloc w _).trans he1)
    clear he1
    obtain ⟨c0, c1, c2⟩ := X1.out.cells
    have HU := hid hu
    clear hu
    go_wp2_with (fail)
    refine (Lie_bad _ _ _ _ k _ HU.out.planR (.inl hb)).mono ?_
    rintro e w2 ⟨rfl, he2⟩
    clear c0 c1 c2
    have X2 := hid (X1.out.ext he2)
    have E2 := hid (E1.out.trans he2)
    clear he2
    obtain ⟨c0, c1, c2⟩ := X2.out.cells
    go_wp2_with (fail)
    refine (RValid_any _ _ _ p _ (HP.out.ext E2.out)).mono ?_
    rw [hbp]
    rintro e w3 ⟨rfl, he3⟩
    clear c0 c1 c2
    have X3 := hid (X2.out.ext he3)
    have E3 := hid (E2.out.trans he3)
    clear he3
    obtain ⟨c0, c1, c2⟩ := X3.out.cells
    go_wp2_with (fail)
    refine (awake_any _).mono ?_
    rintro e w4 ⟨rfl, he4⟩
    clear c0 c1 c2
    have E4 := hid (E3.out.trans he4)
    clear he4
    go_wp2
    go_ret
    exact ⟨rfl, E4.out⟩
  · have hok := planOk_iff.1 hb
    have hcut := cutP_id hok
    rw [hcut] at hok hb
    have Hok := hid hok
    have Hcut := hid hcut
    have Hb := hid hb
    have hn1 := hok.h1
    have hn6 := hok.h6
    have hs1 := hok.s1
    have hs4 := hok.s4
    clear hok hcut hb
    by_cases hk : k < 0 ∨ (p.shifts.length : Int) ≤ k
    · skip
      have HK := hid hk
      go_enter Try.func14, Try.ntmps14
      go_wp2_with (fail)
      refine (Of_any _ _ _ p _ (HP.out.ext (Ext.ofAlloc w _))).mono ?_
      rintro e w1 ⟨uh, us, up, rfl, hu, he1⟩
      have X1 := hid (X0.ext he1)
      have E1 := hid ((Ext.ofAlloc w _).trans he1)
      clear he1
      obtain ⟨c0, c1, c2⟩ := X1.out.cells
      have HU := hid hu.planR
      rw [Hcut.out] at HU
      clear hu
      go_wp2_with (fail)
      refine (Lie_bad _ _ _ p k _ HU.out (.inr HK.out)).mono ?_
      rintro e w2 ⟨rfl, he2⟩
      clear c0 c1 c2
      have X2 := hid (X1.out.ext he2)
      have E2 := hid (E1.out.trans he2)
      clear he2
      obtain ⟨c0, c1, c2⟩ := X2.out.cells
      clear hk
      go_wp2_with (fail)
      refine (RValid_any _ _ _ p _ (HP.out.ext E2.out)).mono ?_
      rw [Hb.out]
      rintro e w3 ⟨rfl, he3⟩
      clear c0 c1 c2
      have X3 := hid (X2.out.ext he3)
      have E3 := hid (E2.out.trans he3)
      clear he3
      obtain ⟨c0, c1, c2⟩ := X3.out.cells
      by_cases h1 : k < 0
      · skip
        go_wp2_with (fail)
        refine (awake_any _).mono ?_
        rintro e w4 ⟨rfl, he4⟩
        clear c0 c1 c2
        have E4 := hid (E3.out.trans he4)
        clear he4
        go_wp2
        go_ret
        exact ⟨rfl, E4.out⟩
      · skip
        have h2 : (p.shifts.length : Int) ≤ k := by have := HK.out; omega
        go_wp2_with (fail)
        refine (awake_any _).mono ?_
        rintro e w4 ⟨rfl, he4⟩
        clear c0 c1 c2
        have E4 := hid (E3.out.trans he4)
        clear he4
        go_wp2
        go_ret
        exact ⟨rfl, E4.out⟩
    · skip
      obtain ⟨s, hsk⟩ : ∃ s : Nat, k = s := Int.eq_ofNat_of_zero_le (by omega)
      subst hsk
      have hs : s < p.shifts.length := by omega
      have hk0 : ¬ ((s : Int) < 0) := by omega
      have hk1 : ¬ ((p.shifts.length : Int) ≤ s) := by omega
      clear hk
      go_enter Try.func14, Try.ntmps14
      go_wp2_with (fail)
      refine (Of_any _ _ _ p _ (HP.out.ext (Ext.ofAlloc w _))).mono ?_
      rintro e w1 ⟨uh, us, up, rfl, hu, he1⟩
      have X1 := hid (X0.ext he1)
      have E1 := hid ((Ext.ofAlloc w _).trans he1)
      clear he1
      obtain ⟨c0, c1, c2⟩ := X1.out.cells
      have HU := hid hu.planR
      rw [Hcut.out] at HU
      clear hu
      go_wp2_with (fail)
      refine (Lie_ok _ _ _ p Hok.out s _ HU.out hs).mono ?_
      rintro e w2 ⟨he2, m0, hm0, hans⟩
      clear c0 c1 c2
      have X2 := hid (X1.out.ext he2)
      have E2 := hid (E1.out.trans he2)
      clear he2
      obtain ⟨c0, c1, c2⟩ := X2.out.cells
      have HM0 := hid hm0
      clear hm0
      rcases hans with ⟨a5, c5, f, rfl, hf, hl⟩ | ⟨rfl, hn⟩
      · skip
        have HL := hid hl
        have C_2 := hid (hf)
        clear hf hl
        go_wp2_with (fail)
        refine (RValid_any _ _ _ p _ (HP.out.ext E2.out)).mono ?_
        rw [Hb.out]
        rintro e w3 ⟨rfl, he3⟩
        clear c0 c1 c2
        have X3 := hid (X2.out.ext he3)
        have C_3 := hid (C_2.out.ext he3)
        have E3 := hid (E2.out.trans he3)
        clear he3
        obtain ⟨c0, c1, c2⟩ := X3.out.cells
        go_wp2_with (fail)
        refine (RLie_any _ _ _ p Hok.out s m0 HM0.out _ (HP.out.ext E3.out) hs).mono ?_
        rintro e w4 ⟨hans2, he4⟩
        clear c0 c1 c2
        have X4 := hid (X3.out.ext he4)
        have C_4 := hid (C_3.out.ext he4)
        have E4 := hid (E3.out.trans he4)
        clear he4
        obtain ⟨c0, c1, c2⟩ := X4.out.cells
        rcases hans2 with ⟨a6, c6, f2, rfl, hf2, hl2⟩ | ⟨rfl, hn2⟩
        · skip
          obtain rfl := HL.out.unique hl2
          have D_4 := hid (hf2)
          clear hf2 hl2
          go_wp2_with (fail)
          refine (Equal_any _ _ f f _ C_4.out D_4.out).mono ?_
          rw [eqI_self5]
          rintro e w5_ ⟨rfl, n7, rfl⟩
          clear c0 c1 c2
          have X5 := hid (X4.out.ext ((Ext.refl _).drewN n7))
          have C_5 := hid (C_4.out.ext ((Ext.refl _).drewN n7))
          have D_5 := hid (D_4.out.ext ((Ext.refl _).drewN n7))
          have E5 := hid (E4.out.trans ((Ext.refl _).drewN n7))
          obtain ⟨c0, c1, c2⟩ := X5.out.cells
          go_wp2_with (fail)
          refine (awake_any _).mono ?_
          rintro e w6 ⟨rfl, he6⟩
          clear c0 c1 c2
          have E6 := hid (E5.out.trans he6)
          clear he6
          go_wp2
          go_ret
          exact ⟨rfl, E6.out⟩
        · exact absurd HL.out.2.1 (hn2 f HL.out.1)
      · skip
        have HN := hid hn
        clear hn
        go_wp2_with (fail)
        refine (RValid_any _ _ _ p _ (HP.out.ext E2.out)).mono ?_
        rw [Hb.out]
        rintro e w3 ⟨rfl, he3⟩
        clear c0 c1 c2
        have X3 := hid (X2.out.ext he3)
        have E3 := hid (E2.out.trans he3)
        clear he3
        obtain ⟨c0, c1, c2⟩ := X3.out.cells
        go_wp2_with (fail)
        refine (RLie_any _ _ _ p Hok.out s m0 HM0.out _ (HP.out.ext E3.out) hs).mono ?_
        rintro e w4 ⟨hans2, he4⟩
        clear c0 c1 c2
        have X4 := hid (X3.out.ext he4)
        have E4 := hid (E3.out.trans he4)
        clear he4
        obtain ⟨c0, c1, c2⟩ := X4.out.cells
        rcases hans2 with ⟨a6, c6, f2, rfl, hf2, hl2⟩ | ⟨rfl, hn2⟩
        · exact absurd hl2.2.1 (HN.out f2 hl2.1)
        · skip
          clear hn2
          go_wp2_with (fail)
          refine (Equal_any _ _ [] [] _ (Ints.nil _ _ _) (Ints.nil _ _ _)).mono ?_
          rw [eqI_self5]
          rintro e w5_ ⟨rfl, n7, rfl⟩
          clear c0 c1 c2
          have X5 := hid (X4.out.ext ((Ext.refl _).drewN n7))
          have E5 := hid (E4.out.trans ((Ext.refl _).drewN n7))
          obtain ⟨c0, c1, c2⟩ := X5.out.cells
          go_wp2_with (fail)
          refine (awake_any _).mono ?_
          rintro e w6 ⟨rfl, he6⟩
          clear c0 c1 c2
          have E6 := hid (E5.out.trans he6)
          clear he6
          go_wp2
          go_ret
          exact ⟨rfl, E6.out⟩

end Go.Proofs.Ytkdfbbkonbgfmaa

/-
  Lie returns the first list by which a shift gains, or the documented error.
-/
namespace Go.Proofs.Ytkdfbbkonbgfmaa
open Go.ChangeShapes Go.WideShapes Go.ChangeAt Go.RowKit

set_option maxRecDepth 100000 in
theorem turnsLies_lifted (os : Os) (started : os.Started) (H : Type) (enc : TypeId × Value → H) :
    ReturnsInHanded {} Try.checked os 14 .any (Rows.turnsLiesSpec.pre6 enc Try.prog Try.f14 Rows.turnsLiesRow.domain false) (Rows.turnsLiesSpec.post enc Try.prog Try.f14 false true false false) := by
  refine returnsInHanded_of_change_sized (C := Try.checked) own started (by kernel_rfl) Try.func14
    (ChangeSpec.witness6 (enc := enc) (C := Try.checked) false ⟨#[], #[.agg #[.slice none 0 0, .slice none 0 0, .slice none 0 0], .int .i64 0], []⟩ 8 (by kernel_rfl) (by kernel_rfl) (by kernel_rfl) (by kernel_rfl)) ?_
  intro W base args ds gs before hval0 hW _ hsz0 _
  have hsz : (DataW.weightsEach Try.prog (Try.f14.params.toList ++ Rows.turnsLiesSpec.plain.varTypes Try.prog) (ds ++ gs)).all (· ≤ reachBytes) = true := hsz0
  clear hsz0
  have hval : ∀ (j : Nat) t v, Try.f14.params[j]? = some t → args[j]? = some v → Value.okWide Try.prog W .any base t v := hval0
  have hW' := hW
  obtain ⟨p, q, hA0, hV, rfl, _, _⟩ := hW
  have hA : DataW.TrodAll enc Try.prog W 0 (fun _ => true) true Try.f14.params.toList args.toList ds p := hA0
  rw [Try.params14] at hA hval hsz
  obtain ⟨v0, vs0, d0, ds0, p0, q0, hargs, rfl, rfl, h0, r0⟩ := trodAll_cons hA
  obtain ⟨v1, vs1, d1, ds1, p1, q1, rfl, rfl, rfl, h1, r1⟩ := trodAll_cons r0
  obtain ⟨rfl, rfl, rfl⟩ := trodAll_nil r1
  obtain rfl : args = #[v0, v1] := by cases args; simp_all
  obtain ⟨rfl, rfl⟩ := trodVars_none hV
  have k0 := h0
  have lt0 : ∀ x ∈ p0, x.block < W.heap.size := by obtain ⟨m, hm⟩ := k0; exact DataW.trod_lt m _ _ _ hm
  obtain ⟨vh, vs, vp, pl, rfl, hp⟩ := plan_of_trod (hval 0 _ v0 rfl rfl) h0 (weights_at hsz (j := 0) rfl rfl)
  obtain ⟨a1, rfl, rfl, rfl, w1⟩ := open_int Try.underlying3 (hval 1 _ v1 rfl rfl) h1
  clear hA0 hval0
  refine (TurnsLies_any vh vs vp pl a1 W hp).mono fun e W' ⟨he, bel⟩ => ?_
  subst he
  exact ⟨_, rfl, _, _, _, [], _, [], hW', trodAll_mk1 (shut_bool Try.underlying4 _),
    (trodAll_cons_mk (Below.trod laidOut (by kernel_rfl) (of_decide_eq_true (by kernel_rfl)) k0 bel lt0) (trodAll_cons_mk (shut_int Try.underlying3 w1) trodAll_mk0)), rfl, bel.frame _, fun h => by cases h⟩

theorem turnsLies_holds : Rows.TurnsLiesSaid :=
  OpenClaim.holds_of_wide 14 Try.f14 rfl rfl rfl rfl rfl rfl rfl ⟨rfl, rfl, rfl, rfl, rfl⟩ rfl rfl rfl rfl rfl (by kernel_rfl) Try.func14 (by kernel_rfl)
    (of_decide_eq_true (by kernel_rfl)) (by unfold Func.isWrapper; first | (rw [if_pos (by decide +kernel)]; kernel_rfl) | (rw [if_neg (by decide +kernel)]; exact ⟨rfl, rfl⟩))
    (fun os started H enc _ => turnsLies_lifted os started H enc)

end Go.Proofs.Ytkdfbbkonbgfmaa

#print axioms Go.Proofs.Ytkdfbbkonbgfmaa.turnsLies_holds
