/-
  How the arguments of the statements are opened: a slice of moats.
-/
import Derived.Test.YtkbkgkmogbkabaaRtFrame
import Derived.Test.YtkbkgkmogbkabaaRtMoat
import Derived.ChangeSame
namespace Go.Proofs.Ytkbkgkmogbkabaa
open Go.ChangeShapes Go.WideShapes Go.ChangeAt Go.RowKit Go.Joins Go.Deep

theorem cells_moat : Try.prog.cellsOf 73 = 2 := by kernel_rfl
theorem bytes_moat : Try.prog.bytesOf 73 = 16 := by kernel_rfl

section
variable {H : Type} {enc : TypeId × Value → H} {W : World}

theorem moat_of_trod {fuel : Nat} {cs : List Value} {y : DataW H × List MemPlace} (h : DataW.trod enc Try.prog W 0 (fun _ => true) true fuel 73 cs = some y) :
    ∃ r : MoatD, cs = r.cells := by
  obtain ⟨y0, y1, n, -, hl, h0, h1⟩ := trod_struct2 Try.underlying73 h
  rw [cells_moat] at hl
  match cs, hl with
  | [c0, c1], _ =>
    have g0 : DataW.trod enc Try.prog W 0 (fun _ => true) true n 3 [c0] = some y0 := h0
    have g1 : DataW.trod enc Try.prog W 0 (fun _ => true) true n 3 [c1] = some y1 := h1
    obtain ⟨a, ha, -⟩ := DataW.trod_int Try.underlying3 g0
    obtain ⟨b, hb, -⟩ := DataW.trod_int Try.underlying3 g1
    simp only [List.cons.injEq, and_true] at ha hb
    exact ⟨⟨a, b⟩, by rw [ha, hb]; rfl⟩

theorem moats_of_trod {fuel : Nat} {c : Value} {y : DataW H × List MemPlace} (h : DataW.trod enc Try.prog W 0 (fun _ => true) true fuel 46 [c] = some y)
    (hw : ∀ n ∈ DataW.weights Try.prog 46 y.1, n ≤ reachBytes) : ∃ rs, Moats W c rs := by
  rcases open_slice Try.underlying46 h with ⟨hcs, _⟩ | ⟨a, len, cap, m, n, D, Pl, hcs, _, hl, hm, hmm, hx, hel⟩
  · simp only [List.cons.injEq, and_true] at hcs
    subst hcs
    exact ⟨[], by simp, none, 0, rfl, by simp, fun i hi => by simp at hi⟩
  · simp only [List.cons.injEq, and_true] at hcs
    subst hcs
    simp only [if_true] at hmm
    subst hmm
    subst hx
    have hb := hw (len * 16 + (m - len) * 16) (by
      simp only [DataW.weights, Try.underlying46, List.mem_cons]
      left
      rw [bytes_moat, Nat.add_mul]; simp)
    simp only [reachBytes] at hb
    have each : ∀ i, i < len → ∃ r : MoatD, W.cells? 0 (a.add (i * 2)) 2 = some r.cells := fun i hi => by
      obtain ⟨cs', h1, h2⟩ := hel i (by omega)
      obtain ⟨r, rfl⟩ := moat_of_trod h2
      rw [cells_moat] at h1
      exact ⟨r, h1⟩
    obtain ⟨X, hX⟩ := choose_lt (α := MoatD) (p := fun i r => W.cells? 0 (a.add (i * 2)) 2 = some r.cells) each
    refine ⟨(List.range len).map X, by simp; omega, some a, m, by simp, by simp; omega, fun i hi => ?_⟩
    have hi' : i < len := by simpa using hi
    have hc0 := (World.cells?_some (hX 0 (by omega))).2.2 0 (by omega)
    rw [add_add, Nat.zero_mul, Nat.add_zero] at hc0
    obtain ⟨b, off, rfl⟩ := plain_addr hc0
    have hc := (World.cells?_some (hX i hi')).2.2
    have c0 := hc 0 (by omega)
    have c1 := hc 1 (by omega)
    rw [add_add, Addr.add_lit] at c0 c1
    simp only [List.getElem_map, List.getElem_range]
    exact ⟨b, off, rfl, c0, c1⟩

set_option maxRecDepth 100000 in
theorem moats_of_arg {r : Reach} {b0 : Nat} {v : Value} {d : DataW H} {ps : List MemPlace} (hv : Value.okWide Try.prog W r b0 46 v)
    (h : DataW.Trod enc Try.prog W 0 (fun _ => true) true 46 v d ps) (hw : ∀ n ∈ DataW.weights Try.prog 46 d, n ≤ reachBytes) : ∃ xs, Moats W v xs := by
  obtain ⟨a0, len, cap, rfl⟩ := okWide_slice Try.underlying46 hv
  obtain ⟨fuel, hf⟩ := h
  exact moats_of_trod (y := (d, ps)) (by simpa [Value.cells] using hf) hw
end

end Go.Proofs.Ytkbkgkmogbkabaa
