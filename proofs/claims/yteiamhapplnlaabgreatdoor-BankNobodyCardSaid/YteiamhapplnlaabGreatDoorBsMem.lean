/-
  The bank's state in memory: to be read, and as a copy of the call's own; the library's variables.
-/
import Derived.Test.YteiamhapplnlaabGreatDoorBsMap
import Derived.Test.YteiamhapplnlaabGreatDoorBkMem
import Derived.Lib.LaidTab
namespace Go.Proofs.YteiamhapplnlaabGreatDoor
open Go.RowKit

/-- The library's variables that the walks read. -/
structure Env (w : World) : Prop where
  ml : ∃ m, w.cell? ⟨0, 0, none⟩ = some (.int .i64 m)
  tab : Lib.TabIs Tryz.prog w "internal/strconv.uint64pow10" .u64 Lib.pow10Tab
  syn : ∃ ev, w.cell? ⟨2, 0, none⟩ = some ev ∧ (ev = .nilIface ∨ ∃ te pe, ev = .iface te pe)
  rng : ∃ ev, w.cell? ⟨3, 0, none⟩ = some ev ∧ (ev = .nilIface ∨ ∃ te pe, ev = .iface te pe)
theorem var_ext {w w' : World} {n : String} {cs : Array Value} (h : w.var? Tryz.prog n = some cs) (e : Ext w w') : w'.var? Tryz.prog n = some cs := by
  unfold World.var? at h ⊢
  obtain ⟨g, hg, h⟩ := Option.bind_eq_some_iff.1 h
  rw [hg, Option.bind_some]
  cases hc : w.heap[g]? with
  | none => rw [hc] at h; cases h
  | some o => rw [e.block g (lt_of_block hc)]; exact h
theorem Env.ext {w w' : World} (h : Env w) (e : Ext w w') : Env w' :=
  ⟨h.ml.imp fun _ k => e.cell k, var_ext h.tab e, h.syn.imp fun _ k => ⟨e.cell k.1, k.2⟩, h.rng.imp fun _ k => ⟨e.cell k.1, k.2⟩⟩

/-- A slice of strings. -/
def StrsR (w : World) (v : Value) (xs : List Bs) : Prop :=
  xs.length ≤ 17592186044416 ∧ ∃ ao cap, v = .slice ao xs.length cap ∧ xs.length ≤ cap ∧ ∀ i, (h : i < xs.length) → ∃ b off, ao = some ⟨b, off, none⟩ ∧ w.cell? ⟨b, off + i, none⟩ = some (strV xs[i])
theorem StrsR.ext {w w' : World} {v : Value} {xs : List Bs} (h : StrsR w v xs) (e : Ext w w') : StrsR w' v xs := by
  obtain ⟨hl, ao, cap, rfl, hcap, hc⟩ := h
  refine ⟨hl, ao, cap, rfl, hcap, fun i hi => ?_⟩
  obtain ⟨b, off, ha, hcell⟩ := hc i hi
  exact ⟨b, off, ha, e.cell hcell⟩
theorem StrsR.nil (w : World) (ao : Option Addr) (cap : Nat) : StrsR w (.slice ao 0 cap) [] := ⟨by simp, ao, cap, rfl, by simp, fun i hi => by simp at hi⟩

/-- A row of elements of type e that is nil just where it is empty. -/
def RowR (w : World) (e : Nat) (v : Value) (n : Nat) (xs : List Value) : Prop :=
  (v = .slice none 0 0 ∧ n = 0 ∧ xs = []) ∨ ∃ b cap cur, v = .slice (some ⟨b, 0, none⟩) n cap ∧ 0 < n ∧ n ≤ cap ∧ w.heap[b]? = some (.cells cur e (0, 0)) ∧ ∀ j u, xs[j]? = some u → w.cell? ⟨b, j, none⟩ = some u
theorem RowR.moved {F : Nat → Prop} {w w' : World} {e : Nat} {v : Value} {n : Nat} {xs : List Value} (h : RowR w e v n xs) (m : Moved F w w') (hf : ∀ j cur, w.heap[j]? = some (.cells cur e (0, 0)) → ¬ F j) : RowR w' e v n xs := by
  rcases h with h | ⟨b, cap, cur, rfl, h1, h2, h4, h3⟩
  · exact .inl h
  · exact .inr ⟨b, cap, cur, rfl, h1, h2, m.heap (hf b cur h4) h4, fun j u hj => m.cell (hf b cur h4) (h3 j u hj)⟩
theorem RowR.ext {w w' : World} {e : Nat} {v : Value} {n : Nat} {xs : List Value} (h : RowR w e v n xs) (x : Ext w w') : RowR w' e v n xs := h.moved (x.moved (fun _ => False)) (fun _ _ _ h => h)
/-- A row of the call's own that is nil just where it is empty. -/
def OwnN (B e size : Nat) (w : World) (v : Value) (n : Nat) (xs : List Value) : Prop := w.ownsRow B e size v n xs ∧ (n = 0 → v = .slice none 0 0)
theorem OwnN.row {B e size : Nat} {w : World} {v : Value} {n : Nat} {xs : List Value} (h : OwnN B e size w v n xs) : RowR w e v n xs := by
  obtain ⟨⟨hl, h⟩, hz⟩ := h
  by_cases h0 : n = 0
  · subst h0
    exact .inl ⟨hz rfl, rfl, List.eq_nil_of_length_eq_zero (by omega)⟩
  · rcases h with ⟨-, h⟩ | ⟨g, cap, cur, rfl, hg, hh, h1, h2, h3, h4⟩
    · exact absurd h h0
    · refine .inr ⟨g, cap, cur, rfl, by omega, h1, hh, fun j u hj => ?_⟩
      have hj2 : j < n * size := by
        have := (List.getElem?_eq_some_iff.1 hj).1
        omega
      rw [← h4, List.getElem?_take, if_pos hj2] at hj
      unfold World.cell?
      rw [hh]
      simpa using hj

theorem OwnN.ext {B e size : Nat} {w w' : World} {v : Value} {n : Nat} {xs : List Value} (h : OwnN B e size w v n xs) (x : Ext w w') : OwnN B e size w' v n xs := ⟨ownsRow_ext h.1 x, h.2⟩
theorem OwnN.moved {F : Nat → Prop} {B e size n : Nat} {w w' : World} {v : Value} {xs : List Value} (h : OwnN B e size w v n xs) (m : Moved F w w') (hf : ∀ k, v.ownBlock = some k → ¬ F k) : OwnN B e size w' v n xs := ⟨ownsRow_moved h.1 m hf, h.2⟩
def LotD.cells (l : LotD) : List Value := [strV l.food, strV l.owner, .int .i64 l.units, .int .i64 l.date, .bool l.gone]
def lcells (ls : List LotD) : List Value := ls.flatMap LotD.cells
def hcells : List HandD → List Value → List Value
  | h :: hs, u :: us => strV h.name :: u :: hcells hs us
  | _, _ => []

/-- How an element of the map of pantries reads: as it is. -/
def rawV (v : Value) : Option (DataW Value × List MemPlace) := some (.held v, [])
def WorthM (w : World) (b : Nat) (l : List (Bs × Int)) : Prop := ∃ n, n ≤ 1000000 ∧ w.ownsMap Tryz.prog 9 (plainElem (H := Value) Tryz.prog 3) b n (mapD (fun v => .lit (.int .i64 v)) l)
def PanE (w : World) (e : Bs × Value) (p : PanD) : Prop := e.1 = p.name ∧ ∃ b, e.2 = .agg #[.int .i64 p.stop, .map (some b)] ∧ WorthM w b p.worth
def Pan2 (w : World) : List (Bs × Value) → List PanD → Prop
  | [], [] => True
  | e :: es, p :: ps => PanE w e p ∧ Pan2 w es ps
  | _, _ => False
def PansM (w : World) (b : Nat) (es : List (Bs × Value)) : Prop := ∃ n, n ≤ 1000000 ∧ w.ownsMap Tryz.prog 9 rawV b n (mapD .held es)
theorem ownsMap_ext {H : Type} {P : Program} {k b n : Nat} {R : Value → Option (DataW H × List MemPlace)} {D : DataW H} {w w' : World} (h : w.ownsMap P k R b n D) (e : Ext w w') : w'.ownsMap P k R b n D := by
  have hlt := h.lt
  obtain ⟨es, clock, hb, F, hs, hD⟩ := h
  exact ⟨es, clock, (e.block b hlt).trans hb, F, hs, hD⟩
theorem WorthM.ext {w w' : World} {b : Nat} {l : List (Bs × Int)} (h : WorthM w b l) (e : Ext w w') : WorthM w' b l := h.imp fun _ k => ⟨k.1, ownsMap_ext k.2 e⟩
theorem PansM.ext {w w' : World} {b : Nat} {es : List (Bs × Value)} (h : PansM w b es) (e : Ext w w') : PansM w' b es := h.imp fun _ k => ⟨k.1, ownsMap_ext k.2 e⟩
theorem PanE.ext {w w' : World} {x : Bs × Value} {p : PanD} (h : PanE w x p) (e : Ext w w') : PanE w' x p := ⟨h.1, h.2.imp fun _ k => ⟨k.1, k.2.ext e⟩⟩
theorem Pan2.ext {w w' : World} : ∀ {es : List (Bs × Value)} {ps : List PanD}, Pan2 w es ps → Ext w w' → Pan2 w' es ps
  | [], [], _, _ => trivial
  | _ :: _, _ :: _, h, e => ⟨h.1.ext e, Pan2.ext h.2 e⟩
  | [], _ :: _, h, _ => h.elim
  | _ :: _, [], h, _ => h.elim
theorem Pan2.keys {w : World} : ∀ {es : List (Bs × Value)} {ps : List PanD}, Pan2 w es ps → es.map (·.1) = ps.map (·.name)
  | [], [], _ => rfl
  | _ :: _, _ :: _, h => by rw [List.map_cons, List.map_cons, h.1.1, Pan2.keys h.2]
  | [], _ :: _, h => h.elim
  | _ :: _, [], h => h.elim
theorem Pan2.len {w : World} {es : List (Bs × Value)} {ps : List PanD} (h : Pan2 w es ps) : es.length = ps.length := by
  have := congrArg List.length h.keys
  simpa using this
theorem Pan2.ris {w : World} {es : List (Bs × Value)} {ps : List PanD} (h : Pan2 w es ps) (hs : ps.Pairwise (fun p q => bsLt p.name q.name = true)) : RisS es := by
  have h1 : (ps.map (·.name)).Pairwise (fun a b => bsLt a b = true) := List.pairwise_map.2 hs
  rw [← h.keys] at h1
  exact List.pairwise_map.1 h1
/-- What stands at a name. -/
theorem Pan2.at {w : World} {n : Bs} : ∀ {es : List (Bs × Value)} {ps : List PanD}, Pan2 w es ps → (panAt ps n = none ∧ getS es n = none) ∨ ∃ p v b, panAt ps n = some p ∧ getS es n = some v ∧ v = .agg #[.int .i64 p.stop, .map (some b)] ∧ WorthM w b p.worth ∧ p ∈ ps ∧ p.name = n
  | [], [], _ => .inl ⟨rfl, rfl⟩
  | e :: es, p :: ps, h => by
    obtain ⟨⟨h1, b, h2, h3⟩, h4⟩ := h
    by_cases he : p.name = n
    · refine .inr ⟨p, e.2, b, ?_, ?_, h2, h3, by simp, he⟩
      · unfold panAt; rw [List.find?_cons_of_pos (by simpa using he)]
      · unfold getS; rw [List.find?_cons_of_pos (by simp [h1, he])]; rfl
    · have e1 : panAt (p :: ps) n = panAt ps n := by unfold panAt; rw [List.find?_cons_of_neg (by simpa using he)]
      have e2 : getS (e :: es) n = getS es n := by unfold getS; rw [List.find?_cons_of_neg (by simp [h1, he])]
      rw [e1, e2]
      rcases Pan2.at (n := n) h4 with g | ⟨q, v, b', g1, g2, g3, g4, g5, g6⟩
      · exact .inl g
      · exact .inr ⟨q, v, b', g1, g2, g3, g4, by simp [g5], g6⟩
  | [], _ :: _, h => h.elim
  | _ :: _, [], h => h.elim

/-- The inner slices of the volunteers, of the ballots. -/
def HandsI (w : World) (hs : List HandD) (us : List Value) : Prop := us.length = hs.length ∧ ∀ (i : Nat) (h : HandD) (u : Value), hs[i]? = some h → us[i]? = some u → OwnN 0 3 1 w u h.turns.length (h.turns.map (Value.int .i64))
def BallI (w : World) (bs : List (List Int)) (us : List Value) : Prop := us.length = bs.length ∧ ∀ (i : Nat) (b : List Int) (u : Value), bs[i]? = some b → us[i]? = some u → OwnN 0 3 1 w u b.length (b.map (Value.int .i64))
theorem HandsI.ext {w w' : World} {hs : List HandD} {us : List Value} (h : HandsI w hs us) (e : Ext w w') : HandsI w' hs us := ⟨h.1, fun i a u x y => (h.2 i a u x y).ext e⟩
theorem BallI.ext {w w' : World} {bs : List (List Int)} {us : List Value} (h : BallI w bs us) (e : Ext w w') : BallI w' bs us := ⟨h.1, fun i a u x y => (h.2 i a u x y).ext e⟩
/-- The parts of a state that is to be read. -/
structure StParts (w : World) (b : Nat) (s : SD) (bm : Nat) (vl vh vb : Value) (es : List (Bs × Value)) (us bs : List Value) : Prop where
  box : Box5 w b 84 (.int .i64 s.day) (.map (some bm)) vl vh vb
  pans : PansM w bm es
  pan2 : Pan2 w es s.pans
  lots : RowR w 115 vl s.lots.length (lcells s.lots)
  hands : RowR w 118 vh s.hands.length (hcells s.hands us)
  handsI : HandsI w s.hands us
  balls : RowR w 79 vb s.ballots.length bs
  ballsI : BallI w s.ballots bs
/-- A state that is to be read. -/
def StR (w : World) (b : Nat) (s : SD) : Prop := SOk s ∧ ∃ bm vl vh vb es us bs, StParts w b s bm vl vh vb es us bs
theorem StParts.ext {w w' : World} {b : Nat} {s : SD} {bm : Nat} {vl vh vb : Value} {es : List (Bs × Value)} {us bs : List Value} (h : StParts w b s bm vl vh vb es us bs) (e : Ext w w') : StParts w' b s bm vl vh vb es us bs :=
  ⟨h.box.ext e, h.pans.ext e, h.pan2.ext e, h.lots.ext e, h.hands.ext e, h.handsI.ext e, h.balls.ext e, h.ballsI.ext e⟩
theorem StR.ext {w w' : World} {b : Nat} {s : SD} (h : StR w b s) (e : Ext w w') : StR w' b s := by
  obtain ⟨ok, bm, vl, vh, vb, es, us, bs, p⟩ := h
  exact ⟨ok, bm, vl, vh, vb, es, us, bs, p.ext e⟩

/-- The blocks of the maps of worths. -/
def wblockOf : Value → Option Nat
  | .agg cs => match cs.toList with
    | [_, .map r] => r
    | _ => none
  | _ => none
def wblocks (es : List (Bs × Value)) : List Nat := es.filterMap fun e => wblockOf e.2
/-- A state of the call's own, since the world w0: the parts. -/
structure StOwn (w0 w : World) (b : Nat) (s : SD) (bm : Nat) (vl vh vb : Value) (es : List (Bs × Value)) (us bs : List Value) : Prop where
  ext : Ext w0 w
  lob : w0.heap.size ≤ b
  box : Box5 w b 84 (.int .i64 s.day) (.map (some bm)) vl vh vb
  lom : w0.heap.size ≤ bm
  pans : PansM w bm es
  pan2 : Pan2 w es s.pans
  low : ∀ k ∈ wblocks es, w0.heap.size ≤ k ∧ k ≠ bm
  apart : (wblocks es).Nodup
  lots : OwnN w0.heap.size 115 5 w vl s.lots.length (lcells s.lots)
  hands : OwnN w0.heap.size 118 2 w vh s.hands.length (hcells s.hands us)
  handsI : HandsI w0 s.hands us
  balls : OwnN w0.heap.size 79 1 w vb s.ballots.length bs
  ballsI : BallI w0 s.ballots bs
def StO (w0 w : World) (b : Nat) (s : SD) : Prop := SOk s ∧ ∃ bm vl vh vb es us bs, StOwn w0 w b s bm vl vh vb es us bs
theorem StOwn.grow {w0 w w' : World} {b : Nat} {s : SD} {bm : Nat} {vl vh vb : Value} {es : List (Bs × Value)} {us bs : List Value} (h : StOwn w0 w b s bm vl vh vb es us bs) (e : Ext w w') : StOwn w0 w' b s bm vl vh vb es us bs :=
  ⟨h.ext.trans e, h.lob, h.box.ext e, h.lom, h.pans.ext e, h.pan2.ext e, h.low, h.apart, h.lots.ext e, h.hands.ext e, h.handsI, h.balls.ext e, h.ballsI⟩
theorem StO.grow {w0 w w' : World} {b : Nat} {s : SD} (h : StO w0 w b s) (e : Ext w w') : StO w0 w' b s := by
  obtain ⟨ok, bm, vl, vh, vb, es, us, bs, p⟩ := h
  exact ⟨ok, bm, vl, vh, vb, es, us, bs, p.grow e⟩
theorem StOwn.parts {w0 w : World} {b : Nat} {s : SD} {bm : Nat} {vl vh vb : Value} {es : List (Bs × Value)} {us bs : List Value} (h : StOwn w0 w b s bm vl vh vb es us bs) : StParts w b s bm vl vh vb es us bs :=
  ⟨h.box, h.pans, h.pan2, h.lots.row, h.hands.row, h.handsI.ext h.ext, h.balls.row, h.ballsI.ext h.ext⟩
theorem StO.read {w0 w : World} {b : Nat} {s : SD} (h : StO w0 w b s) : StR w b s := by
  obtain ⟨ok, bm, vl, vh, vb, es, us, bs, p⟩ := h
  exact ⟨ok, bm, vl, vh, vb, es, us, bs, p.parts⟩

end Go.Proofs.YteiamhapplnlaabGreatDoor
