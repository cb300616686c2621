/-
  What is kept while a lie is looked for; when a shift gains, by the ranks that are compared. Plain Lean.
-/
import Derived.Test.YtkdfbbkonbgfmaaLieRanks
import Derived.Test.YtkdfbbkonbgfmaaHonestLaw
namespace Go.Proofs.Ytkdfbbkonbgfmaa
open Go.RowKit Mkt

/-- What is kept when two blocks may change. -/
structure ExtX (a b : Nat) (w w' : World) : Prop where
  os : w'.os = w.os
  tape : w'.tape = w.tape
  output : w'.output = w.output
  size : w.heap.size ≤ w'.heap.size
  block : ∀ k, k < w.heap.size → k ≠ a → k ≠ b → w'.heap[k]? = w.heap[k]?
theorem ExtX.refl (a b : Nat) (w : World) : ExtX a b w w := ⟨rfl, rfl, rfl, Nat.le_refl _, fun _ _ _ _ => rfl⟩
theorem ExtX.trans {a b : Nat} {x y z : World} (h : ExtX a b x y) (g : ExtX a b y z) : ExtX a b x z :=
  ⟨g.os.trans h.os, g.tape.trans h.tape, g.output.trans h.output, Nat.le_trans h.size g.size, fun k hk ha hb => (g.block k (Nat.lt_of_lt_of_le hk h.size) ha hb).trans (h.block k hk ha hb)⟩
theorem Ext.x {w w' : World} (e : Ext w w') (a b : Nat) : ExtX a b w w' := ⟨e.os, e.tape, e.output, e.size, fun k hk _ _ => e.block k hk⟩
theorem ExtX.setA {a b : Nat} {w w' : World} (h : ExtX a b w w') (i : Nat) (v : Value) : ExtX a b w (w'.setCell ⟨a, i, none⟩ v) :=
  ⟨h.os, h.tape, h.output, by have := h.size; simpa using this, fun k hk ha hb => by rw [Below.heap_setCell _ _ _ _ ha]; exact h.block k hk ha hb⟩
theorem ExtX.setB {a b : Nat} {w w' : World} (h : ExtX a b w w') (i : Nat) (v : Value) : ExtX a b w (w'.setCell ⟨b, i, none⟩ v) :=
  ⟨h.os, h.tape, h.output, by have := h.size; simpa using this, fun k hk ha hb => by rw [Below.heap_setCell _ _ _ _ hb]; exact h.block k hk ha hb⟩
theorem ExtX.heap {a b : Nat} {w w' : World} (h : ExtX a b w w') {k : Nat} (ha : k ≠ a) (hb : k ≠ b) {o : Obj} (ho : w.heap[k]? = some o) : w'.heap[k]? = some o := by
  rw [h.block k (lt_of_block ho) ha hb]; exact ho
/-- Reads so for good, whatever becomes of the two blocks. -/
def Stays (a b : Nat) (w : World) (v : Value) (xs : List Int) : Prop := ∀ w', ExtX a b w w' → Ints w' v xs
theorem Stays.now {a b : Nat} {w : World} {v : Value} {xs : List Int} (h : Stays a b w v xs) : Ints w v xs := h w (ExtX.refl _ _ _)
theorem Stays.later {a b : Nat} {w w' : World} {v : Value} {xs : List Int} (h : Stays a b w v xs) (e : ExtX a b w w') : Stays a b w' v xs := fun _ e2 => h _ (e.trans e2)
theorem Stays.own {a b B : Nat} {w : World} {v : Value} {xs : List Int} (h : OwnI B w v xs) (hl : xs.length ≤ 17592186044416) (ha : a < B) (hb : b < B) : Stays a b w v xs := by
  intro w' e
  refine OwnI.ints (base := B) ?_ hl
  obtain ⟨hl2, h | ⟨g, cap, cur, rfl, hg, hh, r⟩⟩ := h
  · exact ⟨hl2, .inl h⟩
  · exact ⟨hl2, .inr ⟨g, cap, cur, rfl, hg, e.heap (by omega) (by omega) hh, r⟩⟩
theorem Stays.of {a b : Nat} {w0 w : World} {v : Value} {xs : List Int} (h : Ints w0 v xs) (e : Ext w0 w) (ha : w0.heap.size ≤ a) (hb : w0.heap.size ≤ b) : Stays a b w v xs := by
  intro w' e2
  refine h.ext ⟨e2.os.trans e.os, e2.tape.trans e.tape, e2.output.trans e.output, Nat.le_trans e.size e2.size, fun k hk => ?_⟩
  rw [e2.block k (Nat.lt_of_lt_of_le hk e.size) (by omega) (by omega)]
  exact e.block k hk

/-- The ranks of the hands that a shift has, with those of its free places. -/
def padL (own m : List Int) (s : Int) (q : Nat) : List Int := rksL own m s ++ List.replicate (q - (rksL own m s).length) ((own.length : Int) + 1)
theorem padL_len {own m : List Int} {s : Int} {q : Nat} (h : (rksL own m s).length ≤ q) : (padL own m s q).length = q := by
  unfold padL
  rw [List.length_append, List.length_replicate]; omega
theorem padL_fn {own m : List Int} {s : Int} {q : Nat} (h : (rksL own m s).length ≤ q) {i : Nat} (hi : i < q) : fn (padL own m s q) i = atP ((own.length : Int) + 1) (rksL own m s) i := by
  unfold padL
  exact atP_app _ _ _ _ (by omega)
theorem ranksI_rks {own l m : List Int} {s : Int} {q : Nat} (hn : own.Nodup) (h0 : ∀ x ∈ own, 0 ≤ x) (hs : SubL own l) (hm : ∀ x ∈ own, fn m x.toNat = s → x ∈ l) : ranksI own (handsI l m s) q = padL own m s q ∧ (rksL own m s).length = (handsI l m s).length := by
  have e := srt_hands hn h0 hs hm
  have hl : (rksL own m s).length = (handsI l m s).length := by rw [← e, srt_len, List.length_map]
  refine ⟨?_, hl⟩
  unfold ranksI padL
  symm
  refine srt_unique ?_ ?_
  · rw [List.pairwise_append]
    refine ⟨List.Pairwise.imp (fun h => by omega) (rksL_lt own m s), List.pairwise_replicate.2 (.inr (by omega)), fun x hx y hy => ?_⟩
    have := rksL_hi hx
    have := List.eq_of_mem_replicate hy
    omega
  · rw [hl, ← e]
    exact List.Perm.append_right _ (srt_perm _)
theorem setS_row {p : PlanD} {s : Nat} (hs : s < p.shifts.length) (l : List Int) : rowAt (setS p s l).shifts s = l := by
  unfold setS
  have := rowAt_set hs l s
  rw [if_pos rfl] at this
  exact this
theorem ranksI_first {p : PlanD} (hok : PlanOk p) {s : Nat} (hs : s < p.shifts.length) {l m : List Int} (hsub : SubL (rowAt p.shifts s) l) (hq : PlanOk (setS p s l)) (hm : IsFirst _ hq m) :
    ranksI (rowAt p.shifts s) (handsI l m s) (intAt p.places s).toNat = padL (rowAt p.shifts s) m s (intAt p.places s).toNat ∧ (rksL (rowAt p.shifts s) m s).length ≤ (intAt p.places s).toNat := by
  have hc := hok.col (s := s) (by omega)
  have hin : ∀ h, h < p.hands.length → fn m h = s → (h : Int) ∈ rowAt (setS p s l).shifts s := by
    intro h hh e
    rcases hm.st.m.ok h hh with g | g
    · omega
    · rw [e] at g
      exact (possB_iff.1 g).2
  have hr := ranksI_rks (own := rowAt p.shifts s) (l := l) (m := m) (s := s) (q := (intAt p.places s).toNat) hc.2 (fun x hx => (hc.1 x hx).1) hsub (fun x hx e => by
    have h1 := hc.1 x hx
    have := hin x.toNat (by omega) e
    rw [setS_row hs, Int.toNat_of_nonneg h1.1] at this
    exact this)
  refine ⟨hr.1, ?_⟩
  rw [hr.2]
  have h1 := hands_cnt hq (m := m) (s := s) (by omega) hin
  rw [setS_row hs] at h1
  rw [h1]
  exact hm.st.m.room s (by omega) (by show (s : Int) < ((setS p s l).shifts.length : Nat); unfold setS; simp; omega)
theorem rowAt_nat {xss : List (List Int)} {i : Nat} (hi : i < xss.length) : rowAt xss (i : Int) = xss[i] := by unfold rowAt; simp [hi]
theorem setS_self {p : PlanD} {s : Nat} (hs : s < p.shifts.length) : setS p s (rowAt p.shifts s) = p := by
  unfold setS
  have : p.shifts.set s (rowAt p.shifts s) = p.shifts := by
    refine List.ext_getElem (by simp) (fun i h1 h2 => ?_)
    rw [List.getElem_set]
    split
    · rename_i e; subst e; exact rowAt_nat hs
    · rfl
  rw [this]
theorem IsFirst.cast {p q : PlanD} (e : p = q) {hp : PlanOk p} {hq : PlanOk q} {m : List Int} (h : IsFirst p hp m) : IsFirst q hq m := by subst e; exact h
theorem SubL.self {p : PlanD} (hok : PlanOk p) {s : Nat} : SubL (rowAt p.shifts s) (rowAt p.shifts s) := ⟨(hok.col (s := s) (by omega)).2, fun _ h => h⟩
theorem ranksI_was {p : PlanD} (hok : PlanOk p) {s : Nat} (hs : s < p.shifts.length) {m : List Int} (hm : IsFirst _ hok m) :
    ranksI (rowAt p.shifts s) (handsI (rowAt p.shifts s) m s) (intAt p.places s).toNat = padL (rowAt p.shifts s) m s (intAt p.places s).toNat ∧ (rksL (rowAt p.shifts s) m s).length ≤ (intAt p.places s).toNat := by
  have e := setS_self (p := p) hs
  refine ranksI_first hok hs (SubL.self hok) (by rw [e]; exact hok) ?_
  exact IsFirst.cast e.symm hm
theorem gain_pad {own ma mb : List Int} {s : Int} {q : Nat} (h6 : own.length ≤ 6) (ha : (rksL own ma s).length ≤ q) (hb : (rksL own mb s).length ≤ q) :
    GainL 9 (rksL own ma s) (rksL own mb s) q ↔ (∀ i, i < q → fn (padL own ma s q) i ≤ fn (padL own mb s q) i) ∧ padL own ma s q ≠ padL own mb s q := by
  have lo : ∀ m : List Int, ∀ x ∈ rksL own m s, x < (own.length : Int) + 1 := fun m x hx => by have := rksL_hi hx; omega
  have l9 : ∀ m : List Int, ∀ x ∈ rksL own m s, x < 9 := fun m x hx => by have := rksL_hi hx; omega
  rw [GainL.pad (l9 ma) (l9 mb) (lo ma) (lo mb)]
  unfold GainL
  constructor
  · rintro ⟨g1, i, g2, g3⟩
    refine ⟨fun j hj => by rw [padL_fn ha hj, padL_fn hb hj]; exact g1 j hj, fun e => ?_⟩
    rw [← padL_fn ha g2, ← padL_fn hb g2, e] at g3
    omega
  · rintro ⟨g1, g2⟩
    refine ⟨fun j hj => by rw [← padL_fn ha hj, ← padL_fn hb hj]; exact g1 j hj, ?_⟩
    apply Classical.byContradiction
    intro hno
    refine g2 (fn_ext (by rw [padL_len ha, padL_len hb]) (fun x hx => ?_))
    rw [padL_len ha] at hx
    have h1 := g1 x hx
    have h2 : ¬ atP ((own.length : Int) + 1) (rksL own ma s) x < atP ((own.length : Int) + 1) (rksL own mb s) x := fun h => hno ⟨x, hx, h⟩
    rw [← padL_fn ha hx, ← padL_fn hb hx] at h2
    omega

/-- What the search reads and writes. -/
structure LieC where
  p : PlanD
  s : Nat
  m0 : List Int
  names : List Int
  bS : Nat
  bF : Nat
  bq : Nat
  bs : Nat
  bo : Nat
  bp : Nat
  bw : Nat
  bg : Nat
  bn : Nat
  bt : Nat
  cS : Nat
  ah : Option Addr
  ch : Nat
  ap : Option Addr
  cp : Nat
  vs : Value
  ao : Option Addr
  co : Nat
  aw : Option Addr
  cw : Nat
  an : Option Addr
  cn : Nat
/-- What it reads in a world, for good. -/
structure LieAt (C : LieC) (W : World) : Prop where
  q : Box3 W C.bq 29 (.slice C.ah C.p.hands.length C.ch) (.slice (some ⟨C.bS, 0, none⟩) C.p.shifts.length C.cS) (.slice C.ap C.p.places.length C.cp)
  p : Box3 W C.bp 29 (.slice C.ah C.p.hands.length C.ch) C.vs (.slice C.ap C.p.places.length C.cp)
  cS : C.p.shifts.length ≤ C.cS
  ne : C.bF ≠ C.bS
  s : W.cell? ⟨C.bs, 0, none⟩ = some (.int .i64 C.s)
  o : W.cell? ⟨C.bo, 0, none⟩ = some (.slice C.ao (rowAt C.p.shifts C.s).length C.co)
  own : Ints W (.slice C.ao (rowAt C.p.shifts C.s).length C.co) (rowAt C.p.shifts C.s)
  hands : Rows2 W (.slice C.ah C.p.hands.length C.ch) C.p.hands
  places : Ints W (.slice C.ap C.p.places.length C.cp) C.p.places
  w : W.cell? ⟨C.bw, 0, none⟩ = some (.slice C.aw (intAt C.p.places C.s).toNat C.cw)
  was : Ints W (.slice C.aw (intAt C.p.places C.s).toNat C.cw) (padL (rowAt C.p.shifts C.s) C.m0 C.s (intAt C.p.places C.s).toNat)
  g : W.cell? ⟨C.bg, 0, none⟩ = some (.func (.func 86) #[] #[.pointer (some ⟨C.bq, 0, none⟩), .pointer (some ⟨C.bs, 0, none⟩), .pointer (some ⟨C.bo, 0, none⟩), .pointer (some ⟨C.bp, 0, none⟩), .pointer (some ⟨C.bw, 0, none⟩)])
  n : W.cell? ⟨C.bn, 0, none⟩ = some (.slice C.an C.names.length C.cn)
  names : Ints W (.slice C.an C.names.length C.cn) C.names
  t : W.cell? ⟨C.bt, 0, none⟩ = some (.func (.func 87) #[] #[.pointer (some ⟨C.bg, 0, none⟩), .pointer (some ⟨C.bF, 0, none⟩), .pointer (some ⟨C.bn, 0, none⟩), .pointer (some ⟨C.bt, 0, none⟩)])
abbrev KeptX (C : LieC) (w w' : World) : Prop := ExtX C.bS C.bF w w'
/-- In this world and in all that grow out of it. -/
def LieOn (C : LieC) (w : World) : Prop := ∀ w', KeptX C w w' → LieAt C w'
theorem LieOn.at {C : LieC} {w w' : World} (h : LieOn C w) (e : KeptX C w w') : LieAt C w' := h _ e
theorem LieOn.later {C : LieC} {w w' : World} (h : LieOn C w) (e : KeptX C w w') : LieOn C w' := fun _ e2 => h _ (e.trans e2)
/-- The shifts' rows in the plan that changes. -/
def LieRows (C : LieC) (w : World) : Prop := ∀ j, j < C.p.shifts.length → ∃ u, w.cell? ⟨C.bS, j, none⟩ = some u ∧ w.frozen? ⟨C.bS, j, none⟩ = false ∧ (j ≠ C.s → Stays C.bS C.bF w u (rowAt C.p.shifts j))
theorem LieRows.ext {C : LieC} {w w' : World} (h : LieRows C w) (e : Ext w w') : LieRows C w' := by
  intro j hj
  obtain ⟨u, h1, h2, h3⟩ := h j hj
  exact ⟨u, e.cell h1, frozen_ext e h1 h2, fun hne => (h3 hne).later (e.x _ _)⟩
theorem LieRows.set {C : LieC} {w : World} (h : LieRows C w) (v : Value) : LieRows C (w.setCell ⟨C.bS, C.s, none⟩ v) := by
  intro j hj
  obtain ⟨u, h1, h2, h3⟩ := h j hj
  by_cases e : j = C.s
  · subst e
    exact ⟨v, World.cell?_setCell_same _ _ _ h1, (World.frozen?_setCell _ _ _ _).trans h2, fun hne => absurd rfl hne⟩
  · refine ⟨u, ?_, (World.frozen?_setCell _ _ _ _).trans h2, fun hne => (h3 hne).later ((ExtX.refl _ _ _).setA _ _)⟩
    rw [World.cell?_setCell_other (h := by intro h; simp at h)]
    exact h1
/-- The rows behind the store. -/
theorem LieRows.rows2 {C : LieC} {w : World} (h : LieRows C w) (hs : C.s < C.p.shifts.length) {v : Value} {l : List Int} (hv : Stays C.bS C.bF w v l) (h4 : C.p.shifts.length ≤ 4) (hc : C.p.shifts.length ≤ C.cS) :
    Rows2 (w.setCell ⟨C.bS, C.s, none⟩ v) (.slice (some ⟨C.bS, 0, none⟩) C.p.shifts.length C.cS) (setS C.p C.s l).shifts := by
  have hlen : (setS C.p C.s l).shifts.length = C.p.shifts.length := by unfold setS; simp
  have hrow : ∀ i, rowAt (setS C.p C.s l).shifts (i : Nat) = if i = C.s then l else rowAt C.p.shifts i := fun i => rowAt_set hs l i
  refine ⟨by omega, _, _, by rw [hlen], by omega, fun i hi => ?_⟩
  rw [hlen] at hi
  obtain ⟨u, h1, h2, h3⟩ := h i hi
  have e1 := rowAt_nat (xss := (setS C.p C.s l).shifts) (i := i) (by omega)
  have e2 := hrow i
  rw [← e1, e2]
  by_cases e : i = C.s
  · rw [if_pos e]
    subst e
    exact ⟨C.bS, 0, v, rfl, by rw [Nat.zero_add]; exact World.cell?_setCell_same _ _ _ h1, (hv.later ((ExtX.refl _ _ _).setA _ _)).now⟩
  · rw [if_neg e]
    refine ⟨C.bS, 0, u, rfl, ?_, ((h3 e).later ((ExtX.refl _ _ _).setA _ _)).now⟩
    rw [Nat.zero_add, World.cell?_setCell_other (h := by intro h; simp at h)]
    exact h1

end Go.Proofs.Ytkdfbbkonbgfmaa
