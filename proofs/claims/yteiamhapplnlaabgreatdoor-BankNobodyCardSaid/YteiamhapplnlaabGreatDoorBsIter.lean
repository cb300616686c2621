/-
  Ranging over the map of pantries; storing into it.
-/
import Derived.Test.YteiamhapplnlaabGreatDoorBsClone
import Derived.Maps.RangeWalk
import Derived.Sort.MapsRangeIn
import Derived.StringKeys
namespace Go.Proofs.YteiamhapplnlaabGreatDoor
open Go.RowKit
open Go.Maps (Keyed)

theorem kstr : Keyed Tryz.prog 9 := Go.Maps.string_keyed Tryz.underlying9
theorem tpan : Tryz.prog.underlying 80 = some (.map 9 111) := Tryz.underlying80
theorem tint : Tryz.prog.underlying 109 = some (.map 9 3) := Tryz.underlying109
theorem key_str {t : Bs} (h : t.length ≤ 1000000) : keyOf Tryz.prog 9 (.string (strB t)) = some (.string t) := Go.WideMaps.keyOf_string_mk Tryz.underlying9 (by show (strB t).size ≤ maxLen; rw [strB_size]; unfold maxLen; omega)
theorem key_inv {key : Value} {kl : Lit} (h : keyOf Tryz.prog 9 key = some kl) : ∃ t : Bs, key = .string (strB t) ∧ kl = .string t := by
  obtain ⟨x, hx, rfl, -⟩ := Go.Maps.keyOf_str Tryz.underlying9 h
  exact ⟨x, hx, rfl⟩

/-- A step of the range over the pantries: some pantry whose turn had not come. -/
theorem ranges_pan {w : World} {es : List (Bs × Value)} {ps : List PanD} {bm r n : Nat} {left : Lit → Bool} {cnt : Nat} (h : w.ranges Tryz.prog 9 rawV bm r n (mapD .held es) left cnt) (hP : Pan2 w es ps) (ty : TypeId) :
    (cnt = 0 ∧ (∀ kl, left kl = false) ∧ (Instr.next (.pointer (some ⟨r, 0, none⟩)) false ty).run Tryz.prog w = .ok (.tuple #[.bool false]) w) ∨
    ∃ p b0 w' cnt', p ∈ ps ∧ left (.string p.name) = true ∧ WorthM w b0 p.worth ∧ getS es p.name = some (.agg #[.int .i64 p.stop, .map (some b0)]) ∧ (Instr.next (.pointer (some ⟨r, 0, none⟩)) false ty).run Tryz.prog w = .ok (.tuple #[.bool true, .string (strB p.name), .agg #[.int .i64 p.stop, .map (some b0)]]) w' ∧
      w'.ranges Tryz.prog 9 rawV bm r n (mapD .held es) (fun x => left x && !x.sameKey (.string p.name)) cnt' ∧ cnt' < cnt ∧ w.grownBy w' (some r) ∧ w'.heap.size = w.heap.size ∧
      (Instr.entry (.pointer (some ⟨r, 0, none⟩))).run Tryz.prog w' = .ok (.tuple #[.string (strB p.name), .agg #[.int .i64 p.stop, .map (some b0)]]) w' := by
  rcases h.next kstr ty with h0 | ⟨key, v, kl, y, w', cnt', hk, hl, hv, hat, hrun, hr', hlt, hg, hs, hen⟩
  · exact .inl h0
  · obtain ⟨t, rfl, rfl⟩ := key_inv hk
    unfold rawV at hv
    cases hv
    have h1 : getS es t = some v := by
      have a1 := hat (.lit (.bool true))
      have a2 := hat (.lit (.bool false))
      rw [mapD_at] at a1 a2
      cases hgs : getS es t with
      | none => rw [hgs] at a1 a2; simp at a1
      | some u =>
        rw [hgs] at a1
        simp only [DataW.held.injEq] at a1
        rw [a1]
    rcases hP.at (n := t) with ⟨-, hno⟩ | ⟨p, u, b0, hp1, hp2, rfl, hw, hm, rfl⟩
    · rw [hno] at h1; cases h1
    · rw [hp2] at h1
      cases h1
      exact .inr ⟨p, b0, w', cnt', hm, hl, hw, hp2, hrun, hr', hlt, hg, hs, hen⟩

theorem wpl_next_pan {w : World} {ops : Array Oper} {rest : List Oper} {o : Oper} {a : Act} {Q : Exit → Act → World → Prop} (hg : o.guard = none) (it : Operand) (hop : o.op = Op.next it false)
    {es : List (Bs × Value)} {ps : List PanD} {bm r n : Nat} {left : Lit → Bool} {cnt : Nat} (hit : a.eval it = .pointer (some ⟨r, 0, none⟩)) (h : w.ranges Tryz.prog 9 rawV bm r n (mapD .held es) left cnt) (hP : Pan2 w es ps)
    (hDone : Hid (∀ kl, left kl = false) → wpList Tryz.prog ops Q rest (a.put o.dst (.tuple #[.bool false])) w)
    (hMore : ∀ p b0 w' cnt', Hid (p ∈ ps) → Hid (left (.string p.name) = true) → Hid (WorthM w b0 p.worth) → Hid (w'.ranges Tryz.prog 9 rawV bm r n (mapD .held es) (fun x => left x && !x.sameKey (.string p.name)) cnt') → Hid (cnt' < cnt) → Hid (w.grownBy w' (some r)) → Hid (w'.heap.size = w.heap.size) →
      (Instr.entry (.pointer (some ⟨r, 0, none⟩))).run Tryz.prog w' = .ok (.tuple #[.string (strB p.name), .agg #[.int .i64 p.stop, .map (some b0)]]) w' →
      wpList Tryz.prog ops Q rest (a.put o.dst (.tuple #[.bool true, .string (strB p.name), .agg #[.int .i64 p.stop, .map (some b0)]])) w') : wpList Tryz.prog ops Q (o :: rest) a w := by
  refine wpList_plain hg fun K' hK' => ?_
  unfold Oper.wp
  rcases ranges_pan h hP o.type with ⟨-, hl, hrun⟩ | ⟨p, b0, w', cnt', h1, h2, h3, h4, hrun, h5, h6, h7, h8, h9⟩
  · simp [execOp, hop, hit, hrun, Result.andThen]
    exact hK' _ _ (hDone hl)
  · simp [execOp, hop, hit, hrun, Result.andThen]
    exact hK' _ _ (hMore p b0 w' cnt' h1 h2 h3 h5 h6 h7 h8 h9)

/-- A store into a map of the call's own. -/
theorem wp_mapUpdate {H : Type} {P : Program} {w : World} {o : Oper} {a : Act} {K : Act → World → Prop} {Q : Exit → Act → World → Prop} (m x v : Operand) (t : TypeId) (hop : o.op = Op.mapUpdate t m x v)
    (k e : TypeId) (KK : Keyed P k) (ht : P.underlying t = some (.map k e)) (R : Value → Option (DataW H × List MemPlace)) (b n : Nat) (D : DataW H)
    (hm : a.eval m = .map (some b)) (hown : w.ownsMap P k R b n D) (hn : n < maxLen) (key val : Value) (kl : Lit) (hx : a.eval x = key) (hv : a.eval v = val) (hkey : keyOf P k key = some kl)
    (d : DataW H) (ps : List MemPlace) (hval : R val = some (d, ps))
    (hK : ∀ w', w'.ownsMap P k R b (n + 1) (D.put kl d) → Moved (fun j => j = b) w w' → K (a.put o.dst undef) w') : o.wp P a w K Q := by
  obtain ⟨w', hrun, r1, r2⟩ := hown.update KK ht hn hkey hval
  unfold Oper.wp
  simp [execOp, hop, hm, hx, hv, hrun, Result.andThen]
  exact hK w' r1 ⟨r2.os, r2.tape, r2.output, r2.size, fun j hj hne => r2.block j hj (fun e => hne (by cases e; rfl))⟩

theorem ownsMap_moved {H : Type} {F : Nat → Prop} {P : Program} {k b n : Nat} {R : Value → Option (DataW H × List MemPlace)} {D : DataW H} {w w' : World} (h : w.ownsMap P k R b n D) (m : Moved F w w') (hf : ¬ F b) : w'.ownsMap P k R b n D := by
  have hlt := h.lt
  obtain ⟨es, clock, hb, F', hs, hD⟩ := h
  exact ⟨es, clock, (m.block b hlt hf).trans hb, F', hs, hD⟩
theorem ranges_moved {H : Type} {F : Nat → Prop} {P : Program} {k b r n cnt : Nat} {R : Value → Option (DataW H × List MemPlace)} {D : DataW H} {left : Lit → Bool} {w w' : World} (h : w.ranges P k R b r n D left cnt) (m : Moved F w w') (hf : ¬ F b) (hr : ¬ F r) : w'.ranges P k R b r n D left cnt := by
  have h1 := h.owns.lt
  have h2 := h.lt
  obtain ⟨es, clock, since, seen, c0, hb, F', hs, hD, hr', rest⟩ := h
  exact ⟨es, clock, since, seen, c0, (m.block b h1 hf).trans hb, F', hs, hD, (m.block r h2 hr).trans hr', rest⟩
theorem ranges_ext {H : Type} {P : Program} {k b r n cnt : Nat} {R : Value → Option (DataW H × List MemPlace)} {D : DataW H} {left : Lit → Bool} {w w' : World} (h : w.ranges P k R b r n D left cnt) (e : Ext w w') : w'.ranges P k R b r n D left cnt :=
  ranges_moved h (e.moved (fun _ => False)) (fun h => h) (fun h => h)
theorem pan2_moved {F : Nat → Prop} {w w' : World} : ∀ {es : List (Bs × Value)} {ps : List PanD}, Pan2 w es ps → Moved F w w' → (∀ k ∈ wblocks es, ¬ F k) → Pan2 w' es ps
  | [], [], _, _, _ => trivial
  | e :: es, p :: ps, h, m, hf => by
    obtain ⟨⟨h1, b, h2, n, hn, h3⟩, h4⟩ := h
    have hw : wblocks (e :: es) = b :: wblocks es := by
      show (e :: es).filterMap _ = _
      rw [List.filterMap_cons, h2]; rfl
    rw [hw] at hf
    exact ⟨⟨h1, b, h2, n, hn, ownsMap_moved h3 m (hf b (by simp))⟩, pan2_moved h4 m (fun k hk => hf k (by simp [hk]))⟩
  | [], _ :: _, h, _, _ => h.elim
  | _ :: _, [], h, _, _ => h.elim
/-- A pantry put among those that were met. -/
theorem wblocks_cons (x : Bs) (s : Int) (b : Nat) (es : List (Bs × Value)) : wblocks ((x, .agg #[.int .i64 s, .map (some b)]) :: es) = b :: wblocks es := rfl
theorem wblocks_set {x : Bs} {s : Int} {b : Nat} : ∀ {es : List (Bs × Value)}, (∀ e ∈ es, e.1 ≠ x) → (wblocks (setS es x (.agg #[.int .i64 s, .map (some b)]))).Perm (b :: wblocks es)
  | [], _ => List.Perm.refl _
  | e :: es, h => by
    unfold setS
    rw [if_neg (h e (by simp))]
    split
    · exact List.Perm.refl _
    · have ih := wblocks_set (x := x) (s := s) (b := b) (es := es) (fun y hy => h y (by simp [hy]))
      have e1 : ∀ l, wblocks (e :: l) = (wblocks [e]) ++ wblocks l := by
        intro l
        show wblocks ([e] ++ l) = _
        unfold wblocks
        rw [List.filterMap_append]
      rw [e1 (setS es x _), e1 es]
      exact (ih.append_left _).trans (List.perm_middle)
theorem pan2_put {w : World} {p : PanD} {v : Value} {q : PanD → Bool} (hv : PanE w (p.name, v) p) : ∀ {ps : List PanD} {es : List (Bs × Value)}, ps.Pairwise (fun a b => bsLt a.name b.name = true) → p ∈ ps → q p = false → Pan2 w es (ps.filter q) →
    Pan2 w (setS es p.name v) (ps.filter fun z => q z || (z.name == p.name))
  | [], es, _, hm, _, _ => by simp at hm
  | a :: ps, es, hs, hm, hq, h => by
    obtain ⟨h1, h2⟩ := List.pairwise_cons.1 hs
    rcases List.mem_cons.1 hm with rfl | hm'
    · have hrest : ps.filter (fun z => q z || (z.name == p.name)) = ps.filter q := by
        apply List.filter_congr
        intro z hz
        have : z.name ≠ p.name := (bs_ne (h1 z hz)).symm
        simp [this]
      rw [List.filter_cons_of_neg (by simp [hq])] at h
      rw [List.filter_cons_of_pos (by simp), hrest]
      have hks := h.keys
      cases es with
      | nil => exact ⟨hv, h⟩
      | cons e es =>
        unfold setS
        have hlt : bsLt p.name e.1 = true := by
          have : e.1 ∈ (ps.filter q).map (·.name) := by rw [← hks]; simp
          obtain ⟨z, hz, e2⟩ := List.mem_map.1 this
          rw [← e2]
          exact h1 z (List.mem_filter.1 hz).1
        rw [if_neg (bs_ne hlt).symm, if_pos hlt]
        exact ⟨hv, h⟩
    · have hlt := h1 p hm'
      by_cases ha : q a = true
      · rw [List.filter_cons_of_pos ha] at h
        rw [List.filter_cons_of_pos (by simp [ha])]
        cases es with
        | nil => exact h.elim
        | cons e es =>
          obtain ⟨he, h⟩ := h
          have hen : e.1 = a.name := he.1
          unfold setS
          rw [if_neg (by rw [hen]; exact bs_ne hlt), if_neg (by rw [hen, bs_asymm hlt]; simp)]
          exact ⟨he, pan2_put hv h2 hm' hq h⟩
      · have hne : (a.name == p.name) = false := by simpa using bs_ne hlt
        rw [List.filter_cons_of_neg ha] at h
        rw [List.filter_cons_of_neg (by simp [hne]; simpa using ha)]
        exact pan2_put hv h2 hm' hq h

end Go.Proofs.YteiamhapplnlaabGreatDoor
