/-
  Texts of this claim, part 2: RtFrame.
-/
import Derived.Test.YteiamhapplnlaabGreatDoorRtMap
import Derived.ProofKit
import Derived.Lib.SmallJoins
import Derived.Deep.Slices
import Derived.Deep.Strs
import Derived.SizedLaws
import Derived.Test.YteiamhapplnlaabGreatDoorBankNobodyP1
/-
  How the arguments of the statements are opened: a map, a slice of ints.
-/
namespace Go.Proofs.YteiamhapplnlaabGreatDoor
open Go.ChangeShapes Go.WideShapes Go.ChangeAt Go.RowKit Go.Joins Go.Deep

theorem own : ownKnob Tryz.prog.godebug = none := by kernel_rfl
theorem laidOut : laidOutB Tryz.prog = true := by kernel_rfl
theorem cells_int : Tryz.prog.cellsOf 3 = 1 := by kernel_rfl
theorem cells_road : Tryz.prog.cellsOf 65 = 3 := by kernel_rfl
theorem cells_map : Tryz.prog.cellsOf 24 = 2 := by kernel_rfl
theorem bytes_int : Tryz.prog.bytesOf 3 = 8 := by kernel_rfl
theorem bytes_road : Tryz.prog.bytesOf 65 = 24 := by kernel_rfl

theorem plain_addr {w : World} {a : Addr} {v : Value} (h : w.cell? (a.add 0) = some v) : ∃ b off, a = ⟨b, off, none⟩ := by
  obtain ⟨b, off, spot⟩ := a
  have hspot : spot = none := by simpa [Addr.add] using World.cell?_spot h
  subst hspot
  exact ⟨b, off, rfl⟩

section
variable {H : Type} {enc : TypeId × Value → H} {W : World}

set_option maxRecDepth 100000 in
theorem ints_of_trod {fuel : Nat} {c : Value} {y : DataW H × List MemPlace} (h : DataW.trod enc Tryz.prog W 0 (fun _ => true) true fuel 79 [c] = some y)
    (hw : ∀ n ∈ DataW.weights Tryz.prog 79 y.1, n ≤ reachBytes) : ∃ xs, Ints W c xs := by
  rcases open_ints Tryz.underlying79 Tryz.underlying3 cells_int h with ⟨hcs, _⟩ | ⟨a, len, cap, zs, hcs, _, hl, hm, hz, hx, hcell, _⟩
  · simp only [List.cons.injEq, and_true] at hcs
    subst hcs
    exact ⟨[], Ints.nil _ _ _⟩
  · simp only [List.cons.injEq, and_true] at hcs
    subst hcs
    simp only [if_true] at hz
    subst hx
    have hb := hw ((zs.take len).length * 8 + (zs.drop len).length * 8) (by
      simp only [DataW.weights, Tryz.underlying79, List.mem_cons]
      left
      rw [bytes_int, Nat.add_mul]; simp [lits])
    simp only [reachBytes, List.length_take, List.length_drop] at hb
    have hlen : (zs.take len).length = len := by simp; omega
    refine ⟨zs.take len, by omega, some a, cap, by rw [hlen], by omega, fun i hi => ?_⟩
    obtain ⟨b, off, rfl⟩ := plain_addr (hcell 0 (by omega))
    refine ⟨b, off, rfl, ?_⟩
    have := hcell i (by omega)
    rw [Addr.add_lit] at this
    rw [this]
    simp [List.getD, List.getElem?_eq_getElem (show i < zs.length by omega)]

instance : Inhabited RoadD := ⟨⟨0, 0, 0⟩⟩
set_option maxRecDepth 100000 in
/-- A road's three cells. -/
theorem road_of_trod {fuel : Nat} {cs : List Value} {y : DataW H × List MemPlace} (h : DataW.trod enc Tryz.prog W 0 (fun _ => true) true fuel 65 cs = some y) :
    ∃ r : RoadD, cs = r.cells := by
  obtain ⟨y0, y1, y2, n, -, hl, h0, h1, h2⟩ := trod_struct3 Tryz.underlying65 h
  rw [cells_road] at hl
  match cs, hl with
  | [c0, c1, c2], _ =>
    have g0 : DataW.trod enc Tryz.prog W 0 (fun _ => true) true n 3 [c0] = some y0 := h0
    have g1 : DataW.trod enc Tryz.prog W 0 (fun _ => true) true n 3 [c1] = some y1 := h1
    have g2 : DataW.trod enc Tryz.prog W 0 (fun _ => true) true n 3 [c2] = some y2 := h2
    obtain ⟨a, ha, -⟩ := DataW.trod_int Tryz.underlying3 g0
    obtain ⟨b, hb, -⟩ := DataW.trod_int Tryz.underlying3 g1
    obtain ⟨c, hc, -⟩ := DataW.trod_int Tryz.underlying3 g2
    simp only [List.cons.injEq, and_true] at ha hb hc
    exact ⟨⟨a, b, c⟩, by rw [ha, hb, hc]; rfl⟩

set_option maxRecDepth 100000 in
theorem roads_of_trod {fuel : Nat} {c : Value} {y : DataW H × List MemPlace} (h : DataW.trod enc Tryz.prog W 0 (fun _ => true) true fuel 22 [c] = some y)
    (hw : ∀ n ∈ DataW.weights Tryz.prog 22 y.1, n ≤ reachBytes) : ∃ rs, Roads W c rs := by
  rcases open_slice Tryz.underlying22 h with ⟨hcs, _⟩ | ⟨a, len, cap, m, n, D, Pl, hcs, _, hl, hm, hmm, hx, hel⟩
  · simp only [List.cons.injEq, and_true] at hcs
    subst hcs
    exact ⟨[], by simp, none, 0, rfl, by simp, fun i hi => by simp at hi⟩
  · simp only [List.cons.injEq, and_true] at hcs
    subst hcs
    simp only [if_true] at hmm
    subst hmm
    subst hx
    have hb := hw (len * 24 + (m - len) * 24) (by
      simp only [DataW.weights, Tryz.underlying22, List.mem_cons]
      left
      rw [bytes_road, Nat.add_mul]; simp)
    simp only [reachBytes] at hb
    have each : ∀ i, i < len → ∃ r : RoadD, W.cells? 0 (a.add (i * 3)) 3 = some r.cells := fun i hi => by
      obtain ⟨cs', h1, h2⟩ := hel i (by omega)
      obtain ⟨r, rfl⟩ := road_of_trod h2
      rw [cells_road] at h1
      exact ⟨r, h1⟩
    obtain ⟨X, hX⟩ := choose_lt (α := RoadD) (p := fun i r => W.cells? 0 (a.add (i * 3)) 3 = some r.cells) each
    refine ⟨(List.range len).map X, by simp; omega, some a, m, by simp, by simp; omega, fun i hi => ?_⟩
    have hi' : i < len := by simpa using hi
    have hc0 := (World.cells?_some (hX 0 (by omega))).2.2 0 (by omega)
    rw [add_add, Nat.zero_mul, Nat.add_zero] at hc0
    obtain ⟨b, off, rfl⟩ := plain_addr hc0
    have hc := (World.cells?_some (hX i hi')).2.2
    have c0 := hc 0 (by omega)
    have c1 := hc 1 (by omega)
    have c2 := hc 2 (by omega)
    rw [add_add, Addr.add_lit] at c0 c1 c2
    simp only [List.getElem_map, List.getElem_range]
    exact ⟨b, off, rfl, c0, c1, c2⟩

set_option maxRecDepth 100000 in
theorem map_of_trod {r : Reach} {b0 : Nat} {v : Value} {d : DataW H} {ps : List MemPlace} (hv : Value.okWide Tryz.prog W r b0 24 v)
    (h : DataW.Trod enc Tryz.prog W 0 (fun _ => true) true 24 v d ps) (hw : ∀ n ∈ DataW.weights Tryz.prog 24 d, n ≤ reachBytes) :
    ∃ vr m, v = .agg #[.int .i64 m.n, vr] ∧ MapR W vr m := by
  obtain ⟨c0, c1, y0, y1, n, rfl, rfl, rfl, hy0, hy1⟩ := open_agg2 Tryz.underlying24 (by kernel_rfl) cells_map hv h
  have key : ∀ n, n ∈ DataW.weights Tryz.prog 22 y1.1 → n ≤ reachBytes := by
    intro n hn
    refine hw n ?_
    simp only [DataW.weights, Tryz.underlying24, DataW.weightsEach, List.map_cons, List.map_nil, List.mem_append, List.append_nil]
    exact .inr hn
  obtain ⟨k, hk, -⟩ := DataW.trod_int Tryz.underlying3 hy0
  obtain ⟨rs, h1⟩ := roads_of_trod hy1 key
  simp only [List.cons.injEq, and_true] at hk
  exact ⟨c1, ⟨k, rs⟩, by rw [hk], h1⟩

set_option maxRecDepth 100000 in
theorem ints_of_arg {r : Reach} {b0 : Nat} {v : Value} {d : DataW H} {ps : List MemPlace} (hv : Value.okWide Tryz.prog W r b0 79 v)
    (h : DataW.Trod enc Tryz.prog W 0 (fun _ => true) true 79 v d ps) (hw : ∀ n ∈ DataW.weights Tryz.prog 79 d, n ≤ reachBytes) : ∃ xs, Ints W v xs := by
  obtain ⟨a0, len, cap, rfl⟩ := okWide_slice Tryz.underlying79 hv
  obtain ⟨fuel, hf⟩ := h
  exact ints_of_trod (y := (d, ps)) (by simpa [Value.cells] using hf) hw

theorem weights_at {ts : List TypeId} {ds : List (DataW H)} (hsz : (DataW.weightsEach Tryz.prog ts ds).all (· ≤ reachBytes) = true) {j : Nat} {t : TypeId} {d : DataW H} (ht : ts[j]? = some t) (hd : ds[j]? = some d) :
    ∀ n ∈ DataW.weights Tryz.prog t d, n ≤ reachBytes := fun n hn => by
  have := List.all_eq_true.1 hsz n (DataW.weights_mem_each ht hd n hn)
  simpa using this
end

end Go.Proofs.YteiamhapplnlaabGreatDoor
