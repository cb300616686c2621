/-
  A bank in memory; what Do makes of it and of its disk.
-/
import Derived.Test.YteiamhapplnlaabGreatDoorBsChange
namespace Go.Proofs.YteiamhapplnlaabGreatDoor
open Go.RowKit

/-- The types of a state's blocks. -/
def stTy (t : Nat) : Prop := t = 84 ∨ t = 115 ∨ t = 118 ∨ t = 79 ∨ t = 3
/-- Blocks that hold nothing of a state. -/
def Aloof (F : Nat → Prop) (w : World) : Prop := ∀ j, F j → ∀ o, w.heap[j]? = some o → ∃ c t fr, o = .cells c t fr ∧ ¬ stTy t
theorem Aloof.row {F : Nat → Prop} {w : World} (h : Aloof F w) {t : Nat} (ht : stTy t) {j : Nat} {cur : Array Value} {fr : Nat × Nat} (hj : w.heap[j]? = some (.cells cur t fr)) : ¬ F j := by
  intro hf
  obtain ⟨c, t', fr', e, hn⟩ := h j hf _ hj
  cases e
  exact hn ht
theorem Aloof.map {F : Nat → Prop} {w : World} (h : Aloof F w) {j : Nat} {es : Array MapEntry} {c : Nat} (hj : w.heap[j]? = some (.map es c)) : ¬ F j := by
  intro hf
  obtain ⟨c, t', fr', e, hn⟩ := h j hf _ hj
  cases e
theorem Pan2.aloof {F : Nat → Prop} {w w' : World} (hF : Aloof F w) (m : Moved F w w') : ∀ {es : List (Bs × Value)} {ps : List PanD}, Pan2 w es ps → Pan2 w' es ps
  | [], [], _ => trivial
  | e :: es, p :: ps, h => by
    obtain ⟨⟨h1, b, h2, n, hn, h3⟩, h4⟩ := h
    exact ⟨⟨h1, b, h2, n, hn, ownsMap_moved h3 m (by obtain ⟨es', c, hb, -⟩ := h3; exact hF.map hb)⟩, h4.aloof hF m⟩
  | [], _ :: _, h => h.elim
  | _ :: _, [], h => h.elim
theorem StR.moved {F : Nat → Prop} {w w' : World} {b : Nat} {s : SD} (h : StR w b s) (m : Moved F w w') (hF : Aloof F w) : StR w' b s := by
  obtain ⟨ok, bm, vl, vh, vb, es, us, bs, p⟩ := h
  refine ⟨ok, bm, vl, vh, vb, es, us, bs, ⟨p.box.moved m (hF.row (.inl rfl) p.box), ?_, p.pan2.aloof hF m, p.lots.moved m (fun j cur hj => hF.row (.inr (.inl rfl)) hj), p.hands.moved m (fun j cur hj => hF.row (.inr (.inr (.inl rfl))) hj), ⟨p.handsI.1, fun i a u h1 h2 => ?_⟩, p.balls.moved m (fun j cur hj => hF.row (.inr (.inr (.inr (.inl rfl)))) hj), ⟨p.ballsI.1, fun i a u h1 h2 => ?_⟩⟩⟩
  · obtain ⟨n, hn, h3⟩ := p.pans
    exact ⟨n, hn, ownsMap_moved h3 m (by obtain ⟨es', c, hb, -⟩ := h3; exact hF.map hb)⟩
  · have ho := p.handsI.2 i a u h1 h2
    exact ho.moved m (fun k hk => by obtain ⟨cur, hc⟩ := ho.block hk; exact hF.row (.inr (.inr (.inr (.inr rfl)))) hc)
  · have ho := p.ballsI.2 i a u h1 h2
    exact ho.moved m (fun k hk => by obtain ⟨cur, hc⟩ := ho.block hk; exact hF.row (.inr (.inr (.inr (.inr rfl)))) hc)

/-- A bank as data. -/
structure BankS where
  st : SD
  done : List Bs
  safe : Nat
  lost : Bool
  roads : List RoadD
def byts (t : Bs) : List Int := t.map fun c => (c.toNat : Int)
/-- What Do answers, and makes of the disk and the bank. -/
def doF (d : DD) (x : BankS) (t : Bs) : (Bs × Int) × DD × BankS :=
  if x.lost = true then (([], 5), d, x) else
  if (x.st.chg t).1 ≠ 0 then (([], (x.st.chg t).1), d, x) else
  if roomB d (t.length + 2) = false then (([], 7), d, x) else
  if (d.app (byts (t ++ [10]))).2 ≠ 0 then (([], (d.app (byts (t ++ [10]))).2), (d.app (byts (t ++ [10]))).1, { x with lost := (d.app (byts (t ++ [10]))).2 == 8 }) else
  (((x.st.chg t).2.1, 0), (d.app (byts (t ++ [10]))).1, { x with st := (x.st.chg t).2.2, done := x.done ++ [t], lost := false })

/-- Seven fields in a block: a bank. -/
def Box7 (w : World) (b : Nat) (v0 v1 v2 v3 v4 v5 v6 : Value) : Prop := w.heap[b]? = some (.cells #[v0, v1, v2, v3, v4, v5, v6] 47 (0, 0))
theorem Box7.cells {w : World} {b : Nat} {v0 v1 v2 v3 v4 v5 v6 : Value} (h : Box7 w b v0 v1 v2 v3 v4 v5 v6) : w.cell? ⟨b, 0, none⟩ = some v0 ∧ w.cell? ⟨b, 1, none⟩ = some v1 ∧ w.cell? ⟨b, 2, none⟩ = some v2 ∧ w.cell? ⟨b, 3, none⟩ = some v3 ∧ w.cell? ⟨b, 4, none⟩ = some v4 ∧ w.cell? ⟨b, 5, none⟩ = some v5 ∧ w.cell? ⟨b, 6, none⟩ = some v6 :=
  ⟨cell_of_row w b 0 _ _ _ h, cell_of_row w b 1 _ _ _ h, cell_of_row w b 2 _ _ _ h, cell_of_row w b 3 _ _ _ h, cell_of_row w b 4 _ _ _ h, cell_of_row w b 5 _ _ _ h, cell_of_row w b 6 _ _ _ h⟩
theorem Box7.free {w : World} {b : Nat} {v0 v1 v2 v3 v4 v5 v6 : Value} (h : Box7 w b v0 v1 v2 v3 v4 v5 v6) (i : Nat) : w.frozen? ⟨b, i, none⟩ = false := by
  have h' : w.heap[b]? = some (.cells #[v0, v1, v2, v3, v4, v5, v6] 47 (0, 0)) := h
  simp [World.frozen?, h']
theorem Box7.moved {F : Nat → Prop} {w w' : World} {b : Nat} {v0 v1 v2 v3 v4 v5 v6 : Value} (h : Box7 w b v0 v1 v2 v3 v4 v5 v6) (m : Moved F w w') (hf : ¬ F b) : Box7 w' b v0 v1 v2 v3 v4 v5 v6 := m.heap hf h
theorem Box7.ext {w w' : World} {b : Nat} {v0 v1 v2 v3 v4 v5 v6 : Value} (h : Box7 w b v0 v1 v2 v3 v4 v5 v6) (e : Ext w w') : Box7 w' b v0 v1 v2 v3 v4 v5 v6 := h.moved (e.moved (fun _ => False)) (fun h => h)
theorem Box7.lt {w : World} {b : Nat} {v0 v1 v2 v3 v4 v5 v6 : Value} (h : Box7 w b v0 v1 v2 v3 v4 v5 v6) : b < w.heap.size := lt_of_block h
theorem Box7.set3 {w : World} {b : Nat} {v0 v1 v2 v3 v4 v5 v6 : Value} (h : Box7 w b v0 v1 v2 v3 v4 v5 v6) (v : Value) : Box7 (w.setCell ⟨b, 3, none⟩ v) b v0 v1 v2 v v4 v5 v6 := by
  have h' : w.heap[b]? = some (.cells #[v0, v1, v2, v3, v4, v5, v6] 47 (0, 0)) := h
  show (w.setCell _ _).heap[b]? = _
  simp only [World.setCell, Array.getElem?_modify, if_true, h', Option.map_some]; simp
theorem Box7.set4 {w : World} {b : Nat} {v0 v1 v2 v3 v4 v5 v6 : Value} (h : Box7 w b v0 v1 v2 v3 v4 v5 v6) (v : Value) : Box7 (w.setCell ⟨b, 4, none⟩ v) b v0 v1 v2 v3 v v5 v6 := by
  have h' : w.heap[b]? = some (.cells #[v0, v1, v2, v3, v4, v5, v6] 47 (0, 0)) := h
  show (w.setCell _ _).heap[b]? = _
  simp only [World.setCell, Array.getElem?_modify, if_true, h', Option.map_some]; simp
theorem Box7.set5 {w : World} {b : Nat} {v0 v1 v2 v3 v4 v5 v6 : Value} (h : Box7 w b v0 v1 v2 v3 v4 v5 v6) (v : Value) : Box7 (w.setCell ⟨b, 5, none⟩ v) b v0 v1 v2 v3 v4 v v6 := by
  have h' : w.heap[b]? = some (.cells #[v0, v1, v2, v3, v4, v5, v6] 47 (0, 0)) := h
  show (w.setCell _ _).heap[b]? = _
  simp only [World.setCell, Array.getElem?_modify, if_true, h', Option.map_some]; simp
theorem Box7.set6 {w : World} {b : Nat} {v0 v1 v2 v3 v4 v5 v6 : Value} (h : Box7 w b v0 v1 v2 v3 v4 v5 v6) (v : Value) : Box7 (w.setCell ⟨b, 6, none⟩ v) b v0 v1 v2 v3 v4 v5 v := by
  have h' : w.heap[b]? = some (.cells #[v0, v1, v2, v3, v4, v5, v6] 47 (0, 0)) := h
  show (w.setCell _ _).heap[b]? = _
  simp only [World.setCell, Array.getElem?_modify, if_true, h', Option.map_some]; simp

/-- A bank over the disk at db: its map's number of stops and roads, where its state is, its journal. -/
structure BankP (B : Nat) (w : World) (bb db : Nat) (n : Int) (vr : Value) (sp : Nat) (vd : Value) (x : BankS) : Prop where
  lo : B ≤ bb
  box : Box7 w bb (.pointer (some ⟨db, 0, none⟩)) (.int .i64 n) vr (.pointer (some ⟨sp, 0, none⟩)) vd (.int .i64 x.safe) (.bool x.lost)
  done : OwnN B 9 1 w vd x.done.length (x.done.map strV)
  st : StR w sp x.st
  rd : w.ownsRow B 64 3 vr x.roads.length (rcells x.roads)
  le : x.safe ≤ x.done.length
  few : x.done.length ≤ 1000000
theorem BankP.ext {B : Nat} {w w' : World} {bb db : Nat} {n : Int} {vr : Value} {sp : Nat} {vd : Value} {x : BankS} (h : BankP B w bb db n vr sp vd x) (e : Ext w w') : BankP B w' bb db n vr sp vd x := ⟨h.lo, h.box.ext e, h.done.ext e, h.st.ext e, ownsRow_ext h.rd e, h.le, h.few⟩
/-- The blocks that a bank writes beside its disk's. -/
def fpB (bb : Nat) (vd : Value) (k : Nat) : Prop := k = bb ∨ vd.ownBlock = some k

set_option maxHeartbeats 1000000 in
theorem Bnone_any {B : Nat} {bb db : Nat} {n : Int} {vr : Value} {sp : Nat} {vd : Value} {x : BankS} (w : World) (h : BankP B w bb db n vr sp vd x) :
    Calls Tryz.prog 31 #[.pointer (some ⟨bb, 0, none⟩)] w fun e w' => e = .returned (.bool false) ∧ w = w' := by
  obtain ⟨-, -, -, c3, -, -, -⟩ := h.box.cells
  clear h
  go_enter Tryz.func31, Tryz.ntmps31
  go_wp2
  go_ret
  exact ⟨rfl, rfl⟩

/-- Why a call cannot be done. -/
def readyE (x : BankS) : Int := if x.lost = true then 5 else 0
set_option maxHeartbeats 1000000 in
theorem ready_any {B : Nat} {bb db : Nat} {n : Int} {vr : Value} {sp : Nat} {vd : Value} {x : BankS} (w : World) (h : BankP B w bb db n vr sp vd x) :
    Calls Tryz.prog 28 #[.pointer (some ⟨bb, 0, none⟩)] w fun e w' => e = .returned (.int .i64 (readyE x)) ∧ w = w' := by
  obtain ⟨-, -, -, -, -, -, c6⟩ := h.box.cells
  have H := hid h
  clear h
  cases hl : x.lost with
  | true =>
    have HL : Hid (readyE x = 5) := by show _ = _; unfold readyE; rw [hl]; rfl
    rw [hl] at c6
    clear hl
    go_enter Tryz.func28, Tryz.ntmps28
    go_wp2_with (fail)
    refine (Bnone_any w H.out).mono ?_
    rintro e w' ⟨rfl, rfl⟩
    go_wp2
    go_ret
    exact ⟨ret_int HL.out.symm, rfl⟩
  | false =>
    have HL : Hid (readyE x = 0) := by show _ = _; unfold readyE; rw [hl]; rfl
    rw [hl] at c6
    clear hl
    go_enter Tryz.func28, Tryz.ntmps28
    go_wp2_with (fail)
    refine (Bnone_any w H.out).mono ?_
    rintro e w' ⟨rfl, rfl⟩
    go_wp2
    go_ret
    exact ⟨ret_int HL.out.symm, rfl⟩

end Go.Proofs.YteiamhapplnlaabGreatDoor
