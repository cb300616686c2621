/-
  How the arguments of the statements are opened: a plan, a slice of ints.
-/
import Derived.Test.YtkdfbbkonbgfmaaBase
import Derived.ProofKit
import Derived.Lib.SmallJoins
import Derived.Deep.Slices
import Derived.SizedLaws
namespace Go.Proofs.Ytkdfbbkonbgfmaa
open Go.ChangeShapes Go.WideShapes Go.ChangeAt Go.RowKit Go.Joins Go.Deep

theorem own : ownKnob Try.prog.godebug = none := by kernel_rfl
theorem laidOut : laidOutB Try.prog = true := by kernel_rfl
theorem cells_int : Try.prog.cellsOf 3 = 1 := by kernel_rfl
theorem cells_ints : Try.prog.cellsOf 23 = 1 := by kernel_rfl
theorem cells_plan : Try.prog.cellsOf 25 = 3 := by kernel_rfl
theorem bytes_int : Try.prog.bytesOf 3 = 8 := by kernel_rfl
theorem bytes_ints : Try.prog.bytesOf 23 = 24 := by kernel_rfl

theorem plain_addr {w : World} {a : Addr} {v : Value} (h : w.cell? (a.add 0) = some v) : ∃ b off, a = ⟨b, off, none⟩ := by
  obtain ⟨b, off, spot⟩ := a
  have hspot : spot = none := by simpa [Addr.add] using World.cell?_spot h
  subst hspot
  exact ⟨b, off, rfl⟩

section
variable {H : Type} {enc : TypeId × Value → H} {W : World}

theorem ints_of_trod {fuel : Nat} {c : Value} {y : DataW H × List MemPlace} (h : DataW.trod enc Try.prog W 0 (fun _ => true) true fuel 23 [c] = some y)
    (hw : ∀ n ∈ DataW.weights Try.prog 23 y.1, n ≤ reachBytes) : ∃ xs, Ints W c xs := by
  rcases open_ints Try.underlying23 Try.underlying3 cells_int h with ⟨hcs, _⟩ | ⟨a, len, cap, zs, hcs, _, hl, hm, hz, hx, hcell, _⟩
  · simp only [List.cons.injEq, and_true] at hcs
    subst hcs
    exact ⟨[], Ints.nil _ _ _⟩
  · simp only [List.cons.injEq, and_true] at hcs
    subst hcs
    simp only [if_true] at hz
    subst hx
    have hb := hw ((zs.take len).length * 8 + (zs.drop len).length * 8) (by
      simp only [DataW.weights, Try.underlying23, List.mem_cons]
      left
      rw [bytes_int, Nat.add_mul]; simp [lits])
    simp only [reachBytes, List.length_take, List.length_drop] at hb
    have hlen : (zs.take len).length = len := by simp; omega
    refine ⟨zs.take len, by omega, some a, cap, by rw [hlen], by omega, fun i hi => ?_⟩
    obtain ⟨b, off, rfl⟩ := plain_addr (hcell 0 (by omega))
    refine ⟨b, off, rfl, ?_⟩
    have := hcell i (by omega)
    rw [Addr.add_lit] at this
    rw [this]
    simp [List.getD, List.getElem?_eq_getElem (show i < zs.length by omega)]

theorem mem_weightsAll {P : Program} {e : TypeId} {d : DataW H} {n : Nat} (hn : n ∈ d.weights P e) : ∀ (l : List (DataW H)), d ∈ l → n ∈ DataW.weightsAll P e l
  | [], h => by simp at h
  | x :: l, h => by
    simp only [DataW.weightsAll, List.mem_append]
    rcases List.mem_cons.1 h with rfl | h
    · exact .inl hn
    · exact .inr (mem_weightsAll hn l h)

theorem rows_of_trod {fuel : Nat} {c : Value} {y : DataW H × List MemPlace} (h : DataW.trod enc Try.prog W 0 (fun _ => true) true fuel 22 [c] = some y)
    (hw : ∀ n ∈ DataW.weights Try.prog 22 y.1, n ≤ reachBytes) : ∃ xss, Rows2 W c xss := by
  rcases open_slice1 Try.underlying22 cells_ints h with ⟨hcs, _⟩ | ⟨a, len, cap, m, n, V, D, Pl, hcs, _, hl, hm, hmm, hx, hel⟩
  · simp only [List.cons.injEq, and_true] at hcs
    subst hcs
    exact ⟨[], by simp, none, 0, rfl, by simp, fun i hi => by simp at hi⟩
  · simp only [List.cons.injEq, and_true] at hcs
    subst hcs
    simp only [if_true] at hmm
    subst hmm
    subst hx
    have hb := hw (len * 24 + (m - len) * 24) (by
      simp only [DataW.weights, Try.underlying22, List.mem_cons]
      left
      rw [bytes_ints, Nat.add_mul]; simp)
    simp only [reachBytes] at hb
    have each : ∀ i, i < len → ∃ xs, Ints W (V i) xs := fun i hi => ints_of_trod (hel i (by omega)).2 (fun n hn => hw n (by
      simp only [DataW.weights, Try.underlying22, List.mem_cons, List.mem_append]
      exact .inr (.inl (mem_weightsAll hn _ (List.mem_map.2 ⟨i, List.mem_range.2 hi, rfl⟩)))))
    obtain ⟨X, hX⟩ := choose_lt (α := List Int) (p := fun i xs => Ints W (V i) xs) each
    refine ⟨(List.range len).map X, by simp; omega, some a, m, by simp, by simp; omega, fun i hi => ?_⟩
    have hi' : i < len := by simpa using hi
    obtain ⟨b, off, rfl⟩ := plain_addr (hel 0 (by omega)).1
    refine ⟨b, off, V i, rfl, ?_, ?_⟩
    · have := (hel i (by omega)).1
      rwa [Addr.add_lit] at this
    · simp only [List.getElem_map, List.getElem_range]
      exact hX i hi'

set_option maxRecDepth 100000 in
theorem plan_of_trod {r : Reach} {b0 : Nat} {v : Value} {d : DataW H} {ps : List MemPlace} (hv : Value.okWide Try.prog W r b0 25 v)
    (h : DataW.Trod enc Try.prog W 0 (fun _ => true) true 25 v d ps) (hw : ∀ n ∈ DataW.weights Try.prog 25 d, n ≤ reachBytes) :
    ∃ vh vs vp p, v = .agg #[vh, vs, vp] ∧ PlanR W vh vs vp p := by
  obtain ⟨c0, c1, c2, y0, y1, y2, m, rfl, rfl, rfl, hy0, hy1, hy2⟩ := open_agg3 Try.underlying25 (by kernel_rfl) cells_plan hv h
  have key : ∀ n, n ∈ DataW.weights Try.prog 22 y0.1 ∨ n ∈ DataW.weights Try.prog 22 y1.1 ∨ n ∈ DataW.weights Try.prog 23 y2.1 → n ≤ reachBytes := by
    intro n hn
    refine hw n ?_
    simp only [DataW.weights, Try.underlying25, DataW.weightsEach, List.map_cons, List.map_nil, List.mem_append, List.append_nil]
    exact hn
  obtain ⟨hs, h0⟩ := rows_of_trod hy0 (fun n hn => key n (.inl hn))
  obtain ⟨ss, h1⟩ := rows_of_trod hy1 (fun n hn => key n (.inr (.inl hn)))
  obtain ⟨pl, h2⟩ := ints_of_trod hy2 (fun n hn => key n (.inr (.inr hn)))
  exact ⟨c0, c1, c2, ⟨hs, ss, pl⟩, rfl, h0, h1, h2⟩

set_option maxRecDepth 100000 in
theorem ints_of_arg {r : Reach} {b0 : Nat} {v : Value} {d : DataW H} {ps : List MemPlace} (hv : Value.okWide Try.prog W r b0 23 v)
    (h : DataW.Trod enc Try.prog W 0 (fun _ => true) true 23 v d ps) (hw : ∀ n ∈ DataW.weights Try.prog 23 d, n ≤ reachBytes) : ∃ xs, Ints W v xs := by
  obtain ⟨a0, len, cap, rfl⟩ := okWide_slice Try.underlying23 hv
  obtain ⟨fuel, hf⟩ := h
  exact ints_of_trod (y := (d, ps)) (by simpa [Value.cells] using hf) hw

theorem weights_at {ts : List TypeId} {ds : List (DataW H)} (hsz : (DataW.weightsEach Try.prog ts ds).all (· ≤ reachBytes) = true) {j : Nat} {t : TypeId} {d : DataW H} (ht : ts[j]? = some t) (hd : ds[j]? = some d) :
    ∀ n ∈ DataW.weights Try.prog t d, n ≤ reachBytes := fun n hn => by
  have := List.all_eq_true.1 hsz n (DataW.weights_mem_each ht hd n hn)
  simpa using this
end

end Go.Proofs.Ytkdfbbkonbgfmaa
