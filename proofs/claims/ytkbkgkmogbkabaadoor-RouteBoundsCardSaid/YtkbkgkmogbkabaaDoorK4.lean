/-
  Texts of this claim, part 4: Skips, RtBase, RtMap.
-/
import Derived.Deep.RegionHeld3
import Derived.Test.YtkbkgkmogbkabaaDoorK3
/-
  In a region that draws its order: all operations that bear one guard which is not met are passed over in one step. A lemma for the walks of this claim.
-/
namespace Go.Proofs.YtkbkgkmogbkabaaDoor
open Go.RowKit

/-- The operations U, in this order, may come up one after the other; each bears the guard (g, b), and none writes the guard's own temporary t. -/
def skipOk (md : Region.Mode) (ops : Array Oper) (g : Nat) (b : Bool) (t : Tmp) : Array Bool → List Nat → List Tmp → Bool
  | _, [], [] => true
  | listed, i :: U, d :: ds =>
    (match ops[i]? with
      | some o => decide (o.guard = some (g, b)) && decide (o.dst = some d) && decide (d ≠ t)
      | none => false) && Region.free md ops listed i && (Region.ready md ops listed).contains i && skipOk md ops g b t (listed.setIfInBounds i true) U ds
  | _, _, _ => false

def listedAll (listed : Array Bool) (U : List Nat) : Array Bool := U.foldl (fun l i => l.setIfInBounds i true) listed
def putsAll (a : Act) (ds : List Tmp) : Act := ds.foldl (fun a d => a.put (some d) undef) a

theorem wpAnyH_skips {P : Program} {md : Region.Mode} {ops : Array Oper} {Q : Exit → Act → World → Prop} {S : World → Prop} {w : World} (g : Nat) (b : Bool) (t : Tmp) (fuel : Nat)
    (hsel : Region.noSelect ops = true) (hg : (ops[g]?).bind (·.dst) = some t) (hQ : ∀ c (a : Act) (d : Tmp) v w, Q (.panic c) (a.put (some d) v) w → Q (.panic c) a w) :
    ∀ (U : List Nat) (ds : List Tmp) (listed : Array Bool) (a : Act) (F : Nat), F = fuel + U.length → skipOk md ops g b t listed U ds = true → a.tmps[t]? = some (.bool (!b)) → S w →
      wpAnyH P md ops Q S fuel (listedAll listed U) (putsAll a ds) w → wpAnyH P md ops Q S F listed a w := by
  intro U
  induction U with
  | nil =>
    intro ds listed a F hF hok hv hS h
    cases ds with
    | nil => subst hF; exact h
    | cons d ds => simp [skipOk] at hok
  | cons i U ih =>
    intro ds listed a F hF hok hv hS h
    cases ds with
    | nil => simp [skipOk] at hok
    | cons d ds =>
      rw [skipOk, Bool.and_eq_true, Bool.and_eq_true, Bool.and_eq_true] at hok
      obtain ⟨⟨⟨h1, h2⟩, h3⟩, h4⟩ := hok
      cases ho : ops[i]? with
      | none => rw [ho] at h1; simp at h1
      | some o =>
        rw [ho] at h1
        simp only [Bool.and_eq_true, decide_eq_true_iff] at h1
        obtain ⟨⟨g1, g2⟩, g3⟩ := h1
        have hF' : F = (fuel + U.length) + 1 := by rw [hF, List.length_cons]; omega
        subst hF'
        refine wpAnyH_take (i := i) (oi := o) (v := undef) ho hsel h2 h3 (fun c a w => by rw [g2]; exact hQ c a _ _ w) (Or.inr ⟨?_, rfl⟩) hS ?_
        · unfold Region.wanted
          rw [g1]
          show (yielded ops a.tmps g == some b) = false
          unfold yielded
          rw [hg]
          show ((match (a.tmps[t]?) with | some (.bool b) => some b | _ => none) == some b) = false
          rw [hv]
          cases b <;> rfl
        · rw [g2]
          refine ih ds _ _ _ rfl h4 ?_ hS h
          show (a.tmps.setIfInBounds d undef)[t]? = _
          rw [Array.getElem?_setIfInBounds_ne g3]
          exact hv

/-- The same where the guard itself was passed over. -/
theorem wpAnyH_skipsU {P : Program} {md : Region.Mode} {ops : Array Oper} {Q : Exit → Act → World → Prop} {S : World → Prop} {w : World} (g : Nat) (b : Bool) (t : Tmp) (fuel : Nat)
    (hsel : Region.noSelect ops = true) (hg : (ops[g]?).bind (·.dst) = some t) (hQ : ∀ c (a : Act) (d : Tmp) v w, Q (.panic c) (a.put (some d) v) w → Q (.panic c) a w) :
    ∀ (U : List Nat) (ds : List Tmp) (listed : Array Bool) (a : Act) (F : Nat), F = fuel + U.length → skipOk md ops g b t listed U ds = true → a.tmps[t]? = some undef → S w →
      wpAnyH P md ops Q S fuel (listedAll listed U) (putsAll a ds) w → wpAnyH P md ops Q S F listed a w := by
  intro U
  induction U with
  | nil =>
    intro ds listed a F hF hok hv hS h
    cases ds with
    | nil => subst hF; exact h
    | cons d ds => simp [skipOk] at hok
  | cons i U ih =>
    intro ds listed a F hF hok hv hS h
    cases ds with
    | nil => simp [skipOk] at hok
    | cons d ds =>
      rw [skipOk, Bool.and_eq_true, Bool.and_eq_true, Bool.and_eq_true] at hok
      obtain ⟨⟨⟨h1, h2⟩, h3⟩, h4⟩ := hok
      cases ho : ops[i]? with
      | none => rw [ho] at h1; simp at h1
      | some o =>
        rw [ho] at h1
        simp only [Bool.and_eq_true, decide_eq_true_iff] at h1
        obtain ⟨⟨g1, g2⟩, g3⟩ := h1
        have hF' : F = (fuel + U.length) + 1 := by rw [hF, List.length_cons]; omega
        subst hF'
        refine wpAnyH_take (i := i) (oi := o) (v := undef) ho hsel h2 h3 (fun c a w => by rw [g2]; exact hQ c a _ _ w) (Or.inr ⟨?_, rfl⟩) hS ?_
        · unfold Region.wanted
          rw [g1]
          show (yielded ops a.tmps g == some b) = false
          unfold yielded
          rw [hg]
          show ((match (a.tmps[t]?) with | some (.bool b) => some b | _ => none) == some b) = false
          rw [hv]
          cases b <;> rfl
        · rw [g2]
          refine ih ds _ _ _ rfl h4 ?_ hS h
          show (a.tmps.setIfInBounds d undef)[t]? = _
          rw [Array.getElem?_setIfInBounds_ne g3]
          exact hv

/-- One operation is taken first ('wpAnyH_take'); it is found in the list of the region's operations, and comes out of it written out. -/
theorem wpAnyH_tk {P : Program} {md : Region.Mode} {ops : Array Oper} {Q : Exit → Act → World → Prop} {S : World → Prop} {w : World} (i : Nat) {oi : Oper} {v : Value} {fuel : Nat} {listed : Array Bool} {a : Act} (hi : ops.toList[i]? = some oi)
    (hs : Region.noSelect ops = true) (hf : Region.free md ops listed i = true) (hr : (Region.ready md ops listed).contains i = true)
    (hQ : ∀ c a w, Q (.panic c) (a.put oi.dst v) w → Q (.panic c) a w) (hw : Region.wanted oi (yielded ops a.tmps) = true) (hy : ∀ w, S w → (execOp a.eval oi).run P w = .ok (.value v) w) (hS : S w)
    (h : wpAnyH P md ops Q S fuel (listed.setIfInBounds i true) (a.put oi.dst v) w) : wpAnyH P md ops Q S (fuel + 1) listed a w :=
  wpAnyH_take (by rw [← Array.getElem?_toList]; exact hi) hs hf hr hQ (Or.inl ⟨hw, hy⟩) hS h

/-- One operation, a call, is the only one that may come up. -/
theorem wpAnyH_one {P : Program} {md : Region.Mode} {ops : Array Oper} {Q : Exit → Act → World → Prop} {S : World → Prop} {w : World} (i : Nat) {o : Oper} {fuel : Nat} {listed : Array Bool} {a : Act} (hi : ops.toList[i]? = some o)
    (hr : Region.ready md ops listed = [i]) (hw : Region.wanted o (yielded ops a.tmps) = true)
    (h : ∀ K' : Act → World → Prop, Shut (∀ a w, S w → (S w → wpAnyH P md ops Q S fuel (listed.setIfInBounds i true) a w) → K' a w) → Oper.wp P o a w K' Q) : wpAnyH P md ops Q S (fuel + 1) listed a w :=
  wpAnyH_ready hr (by simp) (AllReadyH.cons (by rw [← Array.getElem?_toList]; exact hi) (fun K' hK => by rw [if_pos hw]; exact h K' hK) AllReadyH.nil)

end Go.Proofs.YtkbkgkmogbkabaaDoor

/-
  Plain lemmas of rows, blocks and slices of slices.
-/
namespace Go.Proofs.YtkbkgkmogbkabaaDoor
open Go.RowKit

def rowAt (xss : List (List Int)) (i : Int) : List Int := xss.getD i.toNat []
/-- A row of a slice of slices, found and read, in every later world. -/
theorem Rows2.at {w : World} {ao : Option Addr} {n cap : Nat} {xss : List (List Int)} (h : Rows2 w (.slice ao n cap) xss) (i : Int) (h0 : 0 ≤ i) (h1 : i < xss.length) :
    ∃ b off ar cr, ao = some ⟨b, off, none⟩ ∧ (∀ w', Ext w w' → w'.cell? ⟨b, off + i.toNat, none⟩ = some (.slice ar (rowAt xss i).length cr)) ∧ Ints w (.slice ar (rowAt xss i).length cr) (rowAt xss i) := by
  obtain ⟨hl, ao', cap', he, hcap, hc⟩ := h
  simp only [Value.slice.injEq] at he
  obtain ⟨rfl, rfl, rfl⟩ := he
  obtain ⟨b, off, u, ha, hcell, hu⟩ := hc i.toNat (by omega)
  have hr : xss[i.toNat]'(by omega) = rowAt xss i := by unfold rowAt; rw [List.getD_eq_getElem?_getD, List.getElem?_eq_getElem (by omega)]; rfl
  rw [hr] at hu
  obtain ⟨hl', ar, cr, rfl, r⟩ := hu
  exact ⟨b, off, ar, cr, ha, fun w' e => e.cell hcell, hl', ar, cr, rfl, r⟩
/-- The hands of a shift, the best first. -/
def intAt (m : List Int) (i : Int) : Int := m.getD i.toNat (-2)
theorem Ints.at {w : World} {ao : Option Addr} {n cap : Nat} {xs : List Int} (h : Ints w (.slice ao n cap) xs) (i : Int) (h0 : 0 ≤ i) (h1 : i < xs.length) :
    ∃ b off, ao = some ⟨b, off, none⟩ ∧ (∀ w', Ext w w' → w'.cell? ⟨b, off + i.toNat, none⟩ = some (.int .i64 (intAt xs i))) := by
  obtain ⟨hl, ao', cap', he, hcap, hc⟩ := h
  simp only [Value.slice.injEq] at he
  obtain ⟨rfl, rfl, rfl⟩ := he
  obtain ⟨b, off, ha, hcell⟩ := hc i.toNat (by omega)
  have hr : xs[i.toNat]'(by omega) = intAt xs i := by unfold intAt; rw [List.getD_eq_getElem?_getD, List.getElem?_eq_getElem (by omega)]; rfl
  rw [hr] at hcell
  exact ⟨b, off, ha, fun w' e => e.cell hcell⟩
theorem rowAt_mem {xss : List (List Int)} {i : Int} (h0 : 0 ≤ i) (h1 : i < xss.length) : rowAt xss i ∈ xss := by
  have hlt : i.toNat < xss.length := by omega
  have : rowAt xss i = xss[i.toNat] := by unfold rowAt; rw [List.getD_eq_getElem?_getD, List.getElem?_eq_getElem hlt]; rfl
  rw [this]; exact List.getElem_mem hlt
/-- A list of shifts as a matching. -/
def fn (m : List Int) (h : Nat) : Int := intAt m h
theorem fn_get {m : List Int} {h : Nat} (hh : h < m.length) : fn m h = m[h] := by
  unfold fn intAt; rw [Int.toNat_natCast, List.getD_eq_getElem?_getD, List.getElem?_eq_getElem hh]; rfl
theorem fn_ext {a b : List Int} (hl : a.length = b.length) (h : ∀ x, x < a.length → fn a x = fn b x) : a = b := by
  apply List.ext_getElem hl
  intro i h1 h2
  have := h i h1
  rwa [fn_get h1, fn_get h2] at this
theorem IntBlock.lt {w : World} {g : Nat} {xs : List Int} (h : IntBlock w g xs) : g < w.heap.size := lt_of_block h
theorem IntBlock.cell {w : World} {g : Nat} {xs : List Int} (h : IntBlock w g xs) {i : Nat} (hi : i < xs.length) : w.cell? ⟨g, i, none⟩ = some (.int .i64 (fn xs i)) := by
  rw [cell_of_row w g i _ _ _ h, fn_get hi]; simp [hi]
theorem IntBlock.free {w : World} {g : Nat} {xs : List Int} (h : IntBlock w g xs) (i : Nat) : w.frozen? ⟨g, i, none⟩ = false := by
  have h' : w.heap[g]? = some (.cells (xs.map (Value.int .i64)).toArray 3 (0, 0)) := h
  simp [World.frozen?, h']
theorem IntBlock.set {w : World} {g : Nat} {xs : List Int} (h : IntBlock w g xs) (i : Nat) (v : Int) : IntBlock (w.setCell ⟨g, i, none⟩ (.int .i64 v)) g (xs.set i v) := by
  have h' : w.heap[g]? = some (.cells (xs.map (Value.int .i64)).toArray 3 (0, 0)) := h
  show (w.setCell ⟨g, i, none⟩ (.int .i64 v)).heap[g]? = _
  simp only [World.setCell, Array.getElem?_modify, if_true, h', Option.map_some]
  simp [List.map_set]
theorem IntBlock.other {w : World} {g : Nat} {xs : List Int} (h : IntBlock w g xs) {g' : Nat} (hg : g' ≠ g) (i : Nat) (v : Value) : IntBlock (w.setCell ⟨g', i, none⟩ v) g xs := by
  show (w.setCell ⟨g', i, none⟩ v).heap[g]? = _
  rw [Below.heap_setCell _ _ _ _ (fun e => hg e.symm)]; exact h
theorem heap_ext {w w' : World} {g : Nat} {o : Obj} (h : w.heap[g]? = some o) (e : Ext w w') : w'.heap[g]? = some o := by rw [e.block g (lt_of_block h)]; exact h
theorem IntBlock.ext {w w' : World} {g : Nat} {xs : List Int} (h : IntBlock w g xs) (e : Ext w w') : IntBlock w' g xs := heap_ext h e
theorem IntBlock.own {w : World} {g : Nat} {xs : List Int} (h : IntBlock w g xs) {base n : Nat} (hb : base ≤ g) (hn : n = xs.length) (hm : xs.length ≤ 17592186044416) : OwnI base w (.slice (some ⟨g, 0, none⟩) n n) xs := by
  subst hn
  exact ⟨by simp, .inr ⟨g, xs.length, _, rfl, hb, h, Nat.le_refl _, by unfold maxLen; omega, by simp, by simp [List.take_of_length_le]⟩⟩
theorem IntBlock.ints {w : World} {g : Nat} {xs : List Int} (h : IntBlock w g xs) {n : Nat} (hn : n = xs.length) (hm : xs.length ≤ 17592186044416) : Ints w (.slice (some ⟨g, 0, none⟩) n n) xs := (h.own (base := 0) (Nat.zero_le _) hn hm).ints hm
/-- A block of three cells: a plan in memory of the call's own. -/
def Box3 (w : World) (b : Nat) (t : TypeId) (v0 v1 v2 : Value) : Prop := w.heap[b]? = some (.cells #[v0, v1, v2] t (0, 0))
theorem Box3.cells {w : World} {b : Nat} {t : TypeId} {v0 v1 v2 : Value} (h : Box3 w b t v0 v1 v2) : w.cell? ⟨b, 0, none⟩ = some v0 ∧ w.cell? ⟨b, 1, none⟩ = some v1 ∧ w.cell? ⟨b, 2, none⟩ = some v2 :=
  ⟨cell_of_row w b 0 _ _ _ h, cell_of_row w b 1 _ _ _ h, cell_of_row w b 2 _ _ _ h⟩
theorem Box3.ext {w w' : World} {b : Nat} {t : TypeId} {v0 v1 v2 : Value} (h : Box3 w b t v0 v1 v2) (e : Ext w w') : Box3 w' b t v0 v1 v2 := heap_ext h e
theorem Box3.other {w : World} {b : Nat} {t : TypeId} {v0 v1 v2 : Value} (h : Box3 w b t v0 v1 v2) {g' : Nat} (hg : g' ≠ b) (i : Nat) (v : Value) : Box3 (w.setCell ⟨g', i, none⟩ v) b t v0 v1 v2 := by
  show (w.setCell ⟨g', i, none⟩ v).heap[b]? = _
  rw [Below.heap_setCell _ _ _ _ (fun e => hg e.symm)]; exact h
theorem Box3.alloc (w : World) (t : TypeId) (v0 v1 v2 : Value) : Box3 (w.alloc (.cells #[v0, v1, v2] t)) w.heap.size t v0 v1 v2 := heap_alloc_new w _
theorem Ext.setCell {a w : World} (h : Ext a w) {g : Nat} (hg : a.heap.size ≤ g) (i : Nat) (v : Value) : Ext a (w.setCell ⟨g, i, none⟩ v) := Below.setCell h (p := ⟨g, i, none⟩) hg v
/-- A row of a slice of slices whose address is known. -/
theorem Rows2.row {w : World} {b off n cap : Nat} {xss : List (List Int)} (h : Rows2 w (.slice (some ⟨b, off, none⟩) n cap) xss) (k : Nat) (hk : k < xss.length) :
    b < w.heap.size ∧ ∃ ar cr, (∀ w', Ext w w' → w'.cell? ⟨b, off + k, none⟩ = some (.slice ar (rowAt xss k).length cr)) ∧ Ints w (.slice ar (rowAt xss k).length cr) (rowAt xss k) := by
  obtain ⟨b', off', ar, cr, he, hc, hi⟩ := h.at k (by omega) (by omega)
  simp only [Option.some.injEq, Addr.mk.injEq, and_true] at he
  obtain ⟨rfl, rfl⟩ := he
  rw [Int.toNat_natCast] at hc
  exact ⟨World.block_lt_of_cell? _ _ (hc w (Ext.refl w)), ar, cr, hc, hi⟩
theorem Ints.get {w : World} {ao : Option Addr} {n cap : Nat} {xs : List Int} (h : Ints w (.slice ao n cap) xs) (i : Nat) (hi : i < xs.length) :
    ∃ b off, ao = some ⟨b, off, none⟩ ∧ b < w.heap.size ∧ (∀ w', Ext w w' → w'.cell? ⟨b, off + i, none⟩ = some (.int .i64 (fn xs i))) := by
  obtain ⟨b, off, ha, hc⟩ := h.at i (by omega) (by omega)
  rw [Int.toNat_natCast] at hc
  exact ⟨b, off, ha, World.block_lt_of_cell? _ _ (hc w (Ext.refl w)), hc⟩
theorem Ints.get' {w : World} {b off n cap : Nat} {xs : List Int} (h : Ints w (.slice (some ⟨b, off, none⟩) n cap) xs) (i : Nat) (hi : i < xs.length) :
    b < w.heap.size ∧ (∀ w', Ext w w' → w'.cell? ⟨b, off + i, none⟩ = some (.int .i64 (fn xs i))) := by
  obtain ⟨b', off', he, r⟩ := h.get i hi
  simp only [Option.some.injEq, Addr.mk.injEq, and_true] at he
  obtain ⟨rfl, rfl⟩ := he
  exact r
/-- A slice of slices of the call's own, its rows too. -/
def OwnRows (B : Nat) (w : World) (v : Value) (xss : List (List Int)) : Prop :=
  ∃ us : List Value, w.ownsRow B 25 1 v us.length us ∧ us.length = xss.length ∧ ∀ i, (h1 : i < us.length) → (h2 : i < xss.length) → OwnI B w us[i] xss[i] ∧ xss[i].length ≤ 17592186044416
theorem OwnRows.ext {B : Nat} {w w' : World} {v : Value} {xss : List (List Int)} (h : OwnRows B w v xss) (e : Ext w w') : OwnRows B w' v xss := by
  obtain ⟨us, h1, h2, h3⟩ := h
  exact ⟨us, ownsRow_ext h1 e, h2, fun i a b => ⟨ownsRow_ext (h3 i a b).1 e, (h3 i a b).2⟩⟩
theorem OwnRows.base {B B' : Nat} {w : World} {v : Value} {xss : List (List Int)} (h : OwnRows B w v xss) (hb : B' ≤ B) : OwnRows B' w v xss := by
  obtain ⟨us, h1, h2, h3⟩ := h
  exact ⟨us, ownsRow_base h1 hb, h2, fun i a b => ⟨ownsRow_base (h3 i a b).1 hb, (h3 i a b).2⟩⟩
theorem OwnRows.nil (B : Nat) (w : World) : OwnRows B w (.slice none 0 0) [] := ⟨[], World.ownsRow_nil _ _ _ _, rfl, fun i h _ => by simp at h⟩
theorem OwnRows.rows2 {B : Nat} {w : World} {v : Value} {xss : List (List Int)} (h : OwnRows B w v xss) (hl : xss.length ≤ 5864062014805) : Rows2 w v xss := by
  obtain ⟨us, h1, h2, h3⟩ := h
  refine ⟨hl, ?_⟩
  obtain ⟨h0, h | ⟨g, cap, cur, rfl, hg, hh, hn, hm, hs, ht⟩⟩ := id h1
  · obtain ⟨rfl, hn⟩ := h
    exact ⟨none, 0, by rw [← h2, hn], by omega, fun i hi => by omega⟩
  · refine ⟨_, cap, by rw [h2], by omega, fun i hi => ⟨g, 0, us[i]'(by omega), rfl, ?_, ?_⟩⟩
    · have := World.ownsRow.cellAt h1 i (by omega)
      rw [Nat.zero_add, this]; simp
    · exact OwnI.ints (h3 i (by omega) hi).1 (h3 i (by omega) hi).2
theorem OwnRows.push {B : Nat} {w w' : World} {v' u : Value} {xss : List (List Int)} {xs : List Int} {us : List Value} (h1 : us.length = xss.length)
    (h2 : ∀ i, (h1 : i < us.length) → (h2 : i < xss.length) → OwnI B w us[i] xss[i] ∧ xss[i].length ≤ 17592186044416) (hu : OwnI B w u xs) (hx : xs.length ≤ 17592186044416)
    (hrow : w'.ownsRow B 25 1 v' (us.length + 1) (us ++ [u])) (hkeep : ∀ z zs, OwnI B w z zs → OwnI B w' z zs) : OwnRows B w' v' (xss ++ [xs]) := by
  refine ⟨us ++ [u], by rw [List.length_append]; exact hrow, by simp [h1], fun i a b => ?_⟩
  by_cases hi : i < us.length
  · rw [List.getElem_append_left hi]
    simp only [List.getElem_append_left (show i < xss.length by omega)]
    have := h2 i hi (by omega)
    exact ⟨hkeep _ _ this.1, this.2⟩
  · have e : i = us.length := by simp at a; omega
    subst e
    simp only [List.getElem_append_right (Nat.le_refl _), Nat.sub_self, List.getElem_cons_zero]
    have : (xss ++ [xs])[us.length]'b = xs := by simp [h1]
    rw [this]
    exact ⟨hkeep _ _ hu, hx⟩
/-- A row of ints stays what it is when another kind of row is appended to. -/
theorem ownI_grown {B : Nat} {w w' : World} {v z : Value} {us : List Value} {n : Nat} {o : Obj} {zs : List Int} (hrow : w.ownsRow B 25 1 v n us) (hg : (w.alloc o).grownBy w' v.ownBlock) (h : OwnI B w z zs) : OwnI B w' z zs := by
  have h' : OwnI B (w.alloc o) z zs := World.ownsRow.alloc h o
  refine World.ownsRow.kept h' hg ?_
  obtain ⟨-, ha | ⟨g, cap, cur, rfl, hgB, hh, r⟩⟩ := h
  · left; rw [ha.1]; rfl
  · right
    obtain ⟨-, hb | ⟨g', cap', cur', rfl, hgB', hh', r'⟩⟩ := hrow
    · rw [hb.1]; simp [Value.ownBlock]
    · simp only [Value.ownBlock, ne_eq, Option.some.injEq]
      rintro rfl
      rw [hh] at hh'; simp at hh'
theorem OwnRows.shape {B : Nat} {w : World} {v : Value} {xss : List (List Int)} (h : OwnRows B w v xss) : ∃ a n c, v = .slice a n c := by
  obtain ⟨us, ⟨-, ⟨h, -⟩ | ⟨g, cap, cur, h, -⟩⟩, -⟩ := h <;> exact ⟨_, _, _, h⟩
theorem own_shape {B e sz n : Nat} {w : World} {v : Value} {xs : List Value} (h : w.ownsRow B e sz v n xs) : ∃ a n c, v = .slice a n c := by
  obtain ⟨-, ⟨h, -⟩ | ⟨g, cap, cur, h, -⟩⟩ := h <;> exact ⟨_, _, _, h⟩
theorem Box3.free {w : World} {b : Nat} {t : TypeId} {v0 v1 v2 : Value} (h : Box3 w b t v0 v1 v2) (i : Nat) : w.frozen? ⟨b, i, none⟩ = false := by
  have h' : w.heap[b]? = some (.cells #[v0, v1, v2] t (0, 0)) := h
  simp [World.frozen?, h']
theorem frozen_ext {w w' : World} {a : Addr} {u : Value} (e : Ext w w') (hc : w.cell? a = some u) (hf : w.frozen? a = false) : w'.frozen? a = false := by
  rw [e.frozen (World.block_lt_of_cell? _ _ hc)]; exact hf
theorem OwnRows.setBelow {B : Nat} {w : World} {v : Value} {xss : List (List Int)} (h : OwnRows B w v xss) {b : Nat} (hb : b < B) (i : Nat) (u : Value) : OwnRows B (w.setCell ⟨b, i, none⟩ u) v xss := by
  obtain ⟨us, h1, h2, h3⟩ := h
  exact ⟨us, ownsRow_setCell_below h1 (a := ⟨b, i, none⟩) hb u, h2, fun j a c => ⟨ownsRow_setCell_below (h3 j a c).1 (a := ⟨b, i, none⟩) hb u, (h3 j a c).2⟩⟩
theorem OwnRows.lt {B : Nat} {w : World} {v : Value} {xss : List (List Int)} (h : OwnRows B w v xss) : ∀ k, v.ownBlock = some k → B ≤ k ∧ k < w.heap.size := by
  obtain ⟨us, h1, -⟩ := h
  exact h1.lt
/-- One row of a slice of slices of the call's own is turned. -/
theorem OwnRows.set {B : Nat} {w : World} {g n cap : Nat} {u : Value} {xss : List (List Int)} {l : List Int} (h : OwnRows B w (.slice (some ⟨g, 0, none⟩) n cap) xss) {x : Nat} (hx : x < xss.length) (hu : OwnI B w u l) (hl : l.length ≤ 17592186044416) :
    OwnRows B (w.setCell ⟨g, x, none⟩ u) (.slice (some ⟨g, 0, none⟩) n cap) (xss.set x l) ∧ (∃ v, w.cell? ⟨g, x, none⟩ = some v) ∧ w.frozen? ⟨g, x, none⟩ = false ∧ n = xss.length := by
  obtain ⟨us, h1, h2, h3⟩ := h
  have hn : n = us.length := by
    obtain ⟨-, ⟨h, -⟩ | ⟨g', cap', cur, h, -⟩⟩ := id h1 <;> simp at h
    exact h.2.1
  subst hn
  have keep : ∀ z zs, OwnI B w z zs → OwnI B (w.setCell ⟨g, x, none⟩ u) z zs := by
    intro z zs hz
    refine ownsRow_setCell_other hz (a := ⟨g, x, none⟩) ?_ u
    obtain ⟨-, ha | ⟨g1, cap1, cur1, rfl, -, hh1, -⟩⟩ := hz
    · rw [ha.1]; simp [Value.ownBlock]
    · obtain ⟨-, hb | ⟨g2, cap2, cur2, hv, -, hh2, -⟩⟩ := h1
      · simp at hb
      · simp only [Value.slice.injEq, Option.some.injEq, Addr.mk.injEq, and_true, true_and] at hv
        obtain ⟨rfl, rfl⟩ := hv
        simp only [Value.ownBlock, ne_eq, Option.some.injEq]
        rintro rfl
        rw [hh1] at hh2; simp at hh2
  have hst := (World.ownsRow.stored h1 x u).1
  have hcell := World.ownsRow.cellAt h1 x (by omega)
  refine ⟨⟨us.set x u, by rw [List.length_set]; exact hst, by rw [List.length_set, List.length_set]; exact h2, fun i a b => ?_⟩, ⟨_, hcell.trans (List.getElem?_eq_getElem (by omega))⟩, World.ownsRow.frozenAt h1 x, h2⟩
  rw [List.getElem_set, List.getElem_set]
  split
  · exact ⟨keep _ _ hu, hl⟩
  · have := h3 i (by simpa using a) (by simpa using b)
    exact ⟨keep _ _ this.1, this.2⟩
theorem OwnRows.head {B : Nat} {w : World} {v : Value} {xss : List (List Int)} (h : OwnRows B w v xss) (hne : 0 < xss.length) : ∃ g cap, v = .slice (some ⟨g, 0, none⟩) xss.length cap ∧ B ≤ g ∧ g < w.heap.size := by
  obtain ⟨us, h1, h2, h3⟩ := h
  obtain ⟨-, ⟨-, hn⟩ | ⟨g, cap, cur, hv, hg, hh, -⟩⟩ := h1
  · omega
  · exact ⟨g, cap, by rw [hv, h2], hg, lt_of_block hh⟩
theorem own_len {B e sz n : Nat} {w : World} {v : Value} {xs : List Value} (h : w.ownsRow B e sz v n xs) : ∃ a c, v = .slice a n c := by
  obtain ⟨-, ⟨h, hn⟩ | ⟨g, cap, cur, h, -⟩⟩ := h
  · exact ⟨_, _, by rw [hn]; exact h⟩
  · exact ⟨_, _, h⟩
theorem rows_one_cell {B : Nat} {w : World} {us : List Value} {xss : List (List Int)} (h : ∀ i, (h1 : i < us.length) → (h2 : i < xss.length) → OwnI B w us[i] xss[i] ∧ xss[i].length ≤ 17592186044416) (hl : us.length = xss.length) : ∀ u ∈ us, u.oneCell' = true := by
  intro u hu
  obtain ⟨i, hi, rfl⟩ := List.getElem_of_mem hu
  obtain ⟨a, n, c, e⟩ := own_shape (h i hi (by omega)).1
  rw [e]; rfl
theorem ownI_grown0 {B B' : Nat} {w w' : World} {v z : Value} {us : List Value} {n : Nat} {zs : List Int} (hrow : w.ownsRow B 25 1 v n us) (hg : w.grownBy w' v.ownBlock) (h : OwnI B' w z zs) : OwnI B' w' z zs := by
  refine World.ownsRow.kept h hg ?_
  obtain ⟨-, ha | ⟨g, cap, cur, rfl, hgB, hh, r⟩⟩ := h
  · left; rw [ha.1]; rfl
  · right
    obtain ⟨-, hb | ⟨g', cap', cur', rfl, hgB', hh', r'⟩⟩ := hrow
    · rw [hb.1]; simp [Value.ownBlock]
    · simp only [Value.ownBlock, ne_eq, Option.some.injEq]
      rintro rfl
      rw [hh] at hh'; simp at hh'

end Go.Proofs.YtkbkgkmogbkabaaDoor

/-
  Maps: what a slice of roads reads as; roads of the call's own.
-/
namespace Go.Proofs.YtkbkgkmogbkabaaDoor
open Go.RowKit

/-- A road, as data. -/
structure RoadD where
  a : Int
  b : Int
  cost : Int
deriving DecidableEq
/-- A map, as data. -/
structure MapD where
  n : Int
  roads : List RoadD

def RoadD.cells (r : RoadD) : List Value := [.int .i64 r.a, .int .i64 r.b, .int .i64 r.cost]
def RoadD.val (r : RoadD) : Value := .agg #[.int .i64 r.a, .int .i64 r.b, .int .i64 r.cost]
def rcells (rs : List RoadD) : List Value := rs.flatMap RoadD.cells
theorem rcells_len (rs : List RoadD) : (rcells rs).length = rs.length * 3 := by
  induction rs with
  | nil => rfl
  | cons q rs ih =>
    have e : rcells (q :: rs) = .int .i64 q.a :: .int .i64 q.b :: .int .i64 q.cost :: rcells rs := rfl
    rw [e, List.length_cons, List.length_cons, List.length_cons, ih, List.length_cons]; omega
theorem rcells_get : ∀ (rs : List RoadD) (i : Nat) (h : i < rs.length), (rcells rs)[i * 3]? = some (.int .i64 rs[i].a) ∧ (rcells rs)[i * 3 + 1]? = some (.int .i64 rs[i].b) ∧ (rcells rs)[i * 3 + 2]? = some (.int .i64 rs[i].cost)
  | [], i, h => by simp at h
  | q :: rs, 0, h => ⟨rfl, rfl, rfl⟩
  | q :: rs, i + 1, h => by
    have ih := rcells_get rs i (by simpa using h)
    have e : rcells (q :: rs) = .int .i64 q.a :: .int .i64 q.b :: .int .i64 q.cost :: rcells rs := rfl
    rw [e, show (i + 1) * 3 = i * 3 + 1 + 1 + 1 from by omega]
    exact ih
theorem rcells_one (rs : List RoadD) : ∀ u ∈ rcells rs, u.oneCell' = true := by
  intro u hu
  obtain ⟨r, -, hr⟩ := List.mem_flatMap.1 hu
  simp [RoadD.cells] at hr
  rcases hr with rfl | rfl | rfl <;> rfl
theorem rcells_app (xs ys : List RoadD) : rcells (xs ++ ys) = rcells xs ++ rcells ys := by unfold rcells; rw [List.flatMap_append]

/-- The slice v reads as roads. -/
def Roads (w : World) (v : Value) (rs : List RoadD) : Prop :=
  rs.length ≤ 5864062014805 ∧ ∃ ao cap, v = .slice ao rs.length cap ∧ rs.length ≤ cap ∧
    ∀ i, (h : i < rs.length) → ∃ b off, ao = some ⟨b, off, none⟩ ∧ w.cell? ⟨b, off + i * 3, none⟩ = some (.int .i64 rs[i].a) ∧ w.cell? ⟨b, off + i * 3 + 1, none⟩ = some (.int .i64 rs[i].b) ∧ w.cell? ⟨b, off + i * 3 + 2, none⟩ = some (.int .i64 rs[i].cost)
theorem Roads.ext {w w' : World} {v : Value} {rs : List RoadD} (h : Roads w v rs) (e : Ext w w') : Roads w' v rs := by
  obtain ⟨hl, ao, cap, rfl, hcap, hc⟩ := h
  refine ⟨hl, ao, cap, rfl, hcap, fun i hi => ?_⟩
  obtain ⟨b, off, ha, h1, h2, h3⟩ := hc i hi
  exact ⟨b, off, ha, e.cell h1, e.cell h2, e.cell h3⟩
def roadAt (rs : List RoadD) (i : Nat) : RoadD := rs.getD i ⟨0, 0, 0⟩
theorem roadAt_get {rs : List RoadD} {i : Nat} (h : i < rs.length) : roadAt rs i = rs[i] := by
  unfold roadAt; rw [List.getD_eq_getElem?_getD, List.getElem?_eq_getElem h]; rfl
theorem roadAt_mem {rs : List RoadD} {i : Nat} (h : i < rs.length) : roadAt rs i ∈ rs := by rw [roadAt_get h]; exact List.getElem_mem h
theorem Roads.get {w : World} {ao : Option Addr} {n cap : Nat} {rs : List RoadD} (h : Roads w (.slice ao n cap) rs) (i : Nat) (hi : i < rs.length) :
    ∃ b off, ao = some ⟨b, off, none⟩ ∧ b < w.heap.size ∧ (∀ w', Ext w w' → w'.cell? ⟨b, off + i * 3, none⟩ = some (.int .i64 (roadAt rs i).a) ∧ w'.cell? ⟨b, off + i * 3 + 1, none⟩ = some (.int .i64 (roadAt rs i).b) ∧ w'.cell? ⟨b, off + i * 3 + 2, none⟩ = some (.int .i64 (roadAt rs i).cost)) := by
  obtain ⟨hl, ao', cap', he, hcap, hc⟩ := h
  simp only [Value.slice.injEq] at he
  obtain ⟨rfl, rfl, rfl⟩ := he
  obtain ⟨b, off, ha, h1, h2, h3⟩ := hc i hi
  rw [roadAt_get hi]
  exact ⟨b, off, ha, World.block_lt_of_cell? _ _ h1, fun w' e => ⟨e.cell h1, e.cell h2, e.cell h3⟩⟩
theorem Roads.shape {w : World} {v : Value} {rs : List RoadD} (h : Roads w v rs) : ∃ ao cap, v = .slice ao rs.length cap := by
  obtain ⟨-, ao, cap, rfl, -⟩ := h; exact ⟨_, _, rfl⟩
theorem Roads.some {w : World} {ao : Option Addr} {n cap : Nat} {rs : List RoadD} (h : Roads w (.slice ao n cap) rs) : (rs = [] ∨ ∃ b off, ao = some ⟨b, off, none⟩) := by
  by_cases e : 0 < rs.length
  · obtain ⟨b, off, ha, -⟩ := h.get 0 e
    exact .inr ⟨b, off, ha⟩
  · exact .inl (List.eq_nil_of_length_eq_zero (by omega))

/-- A map that is handed over: a number and roads. -/
def MapR (w : World) (vr : Value) (m : MapD) : Prop := Roads w vr m.roads
theorem MapR.ext {w w' : World} {vr : Value} {m : MapD} (h : MapR w vr m) (e : Ext w w') : MapR w' vr m := Roads.ext h e

/-- Roads of the call's own. -/
abbrev OwnRd (B : Nat) (w : World) (v : Value) (rs : List RoadD) : Prop := w.ownsRow B 55 3 v rs.length (rcells rs)
theorem OwnRd.roads {B : Nat} {w : World} {v : Value} {rs : List RoadD} (h : OwnRd B w v rs) (hl : rs.length ≤ 5864062014805) : Roads w v rs := by
  refine ⟨hl, ?_⟩
  have h0 := h
  obtain ⟨hlen, h | ⟨g, cap, cur, rfl, hg, hh, hn, hm, hs, ht⟩⟩ := h
  · obtain ⟨rfl, hn⟩ := h
    exact ⟨none, 0, by rw [hn], by omega, fun i hi => by omega⟩
  · refine ⟨_, cap, rfl, hn, fun i hi => ⟨g, 0, rfl, ?_, ?_, ?_⟩⟩
    · have h2 := World.ownsRow.cells h0 rfl (i * 3) _ (rcells_get rs i hi).1
      rw [Addr.add_lit] at h2; exact h2
    · have h2 := World.ownsRow.cells h0 rfl (i * 3 + 1) _ (rcells_get rs i hi).2.1
      rw [Addr.add_lit] at h2; exact h2
    · have h2 := World.ownsRow.cells h0 rfl (i * 3 + 2) _ (rcells_get rs i hi).2.2
      rw [Addr.add_lit] at h2; exact h2
theorem OwnRd.push {B : Nat} {w' : World} {v' : Value} {rs : List RoadD} {r : RoadD} {n : Nat} (hn : n = rs.length + 1) (h : w'.ownsRow B 55 3 v' n (rcells rs ++ r.cells)) : OwnRd B w' v' (rs ++ [r]) := by
  subst hn
  show w'.ownsRow B _ 3 v' (rs ++ [r]).length (rcells (rs ++ [r]))
  rw [List.length_append, rcells_app]
  have e : rcells [r] = r.cells := by simp [rcells]
  rw [e]; exact h
theorem info_road : (Tryd.prog.info? 55).map (fun i => (i.zero, i.size, i.bytes)) = some (some (.agg #[.int .i64 0, .int .i64 0, .int .i64 0]), 3, 24) := by kernel_rfl
theorem cell_three_new (w : World) (t : TypeId) (x y z : Value) : ∀ (j : Nat) (u : Value), [x, y, z][j]? = some u → (w.alloc (.cells #[x, y, z] t)).cell? ((⟨w.heap.size, 0, none⟩ : Addr).add j) = some u := by
  intro j u hj
  obtain ⟨c0, c1, c2⟩ := (Box3.alloc w t x y z).cells
  rw [Addr.add_lit]
  match j, hj with
  | 0, hj => simp at hj; subst hj; exact c0
  | 1, hj => simp at hj; subst hj; exact c1
  | 2, hj => simp at hj; subst hj; exact c2

/-- A block of two cells: a map in memory of the call's own. -/
def Box2 (w : World) (b : Nat) (t : TypeId) (v0 v1 : Value) : Prop := w.heap[b]? = some (.cells #[v0, v1] t (0, 0))
theorem Box2.cells {w : World} {b : Nat} {t : TypeId} {v0 v1 : Value} (h : Box2 w b t v0 v1) : w.cell? ⟨b, 0, none⟩ = some v0 ∧ w.cell? ⟨b, 1, none⟩ = some v1 :=
  ⟨cell_of_row w b 0 _ _ _ h, cell_of_row w b 1 _ _ _ h⟩
theorem Box2.ext {w w' : World} {b : Nat} {t : TypeId} {v0 v1 : Value} (h : Box2 w b t v0 v1) (e : Ext w w') : Box2 w' b t v0 v1 := heap_ext h e
theorem Box2.other {w : World} {b : Nat} {t : TypeId} {v0 v1 : Value} (h : Box2 w b t v0 v1) {g' : Nat} (hg : g' ≠ b) (i : Nat) (v : Value) : Box2 (w.setCell ⟨g', i, none⟩ v) b t v0 v1 := by
  show (w.setCell ⟨g', i, none⟩ v).heap[b]? = _
  rw [Below.heap_setCell _ _ _ _ (fun e => hg e.symm)]; exact h
theorem Box2.alloc (w : World) (t : TypeId) (v0 v1 : Value) : Box2 (w.alloc (.cells #[v0, v1] t)) w.heap.size t v0 v1 := heap_alloc_new w _
theorem Box2.free {w : World} {b : Nat} {t : TypeId} {v0 v1 : Value} (h : Box2 w b t v0 v1) (i : Nat) : w.frozen? ⟨b, i, none⟩ = false := by
  have h' : w.heap[b]? = some (.cells #[v0, v1] t (0, 0)) := h
  simp [World.frozen?, h']
theorem Box2.set1 {w : World} {b : Nat} {t : TypeId} {v0 v1 : Value} (h : Box2 w b t v0 v1) (v : Value) : Box2 (w.setCell ⟨b, 1, none⟩ v) b t v0 v := by
  have h' : w.heap[b]? = some (.cells #[v0, v1] t (0, 0)) := h
  show (w.setCell ⟨b, 1, none⟩ v).heap[b]? = _
  simp only [World.setCell, Array.getElem?_modify, if_true, h', Option.map_some]
  simp

end Go.Proofs.YtkbkgkmogbkabaaDoor
