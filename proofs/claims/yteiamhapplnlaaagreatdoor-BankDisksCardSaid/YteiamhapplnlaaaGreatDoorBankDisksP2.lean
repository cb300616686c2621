/-
  Texts of this claim, part 2: BkFrame.
-/
import Derived.Test.YteiamhapplnlaaaGreatDoorRtFrame
import Derived.ChangeSame
import Derived.Test.YteiamhapplnlaaaGreatDoorBankDisksP1
/-
  How the arguments of the bank's statements are opened: a slice of acts.
-/
namespace Go.Proofs.YteiamhapplnlaaaGreatDoor
open Go.ChangeShapes Go.WideShapes Go.ChangeAt Go.RowKit Go.Joins Go.Deep

theorem cells_act : Tryz.prog.cellsOf 29 = 3 := by kernel_rfl
theorem bytes_act : Tryz.prog.bytesOf 29 = 32 := by kernel_rfl
theorem i64_wf {n : Int} (h : (Lit.int .i64 n).wf = true) : -9223372036854775808 ≤ n ∧ n ≤ 9223372036854775807 := by
  unfold Lit.wf at h
  rw [Bool.and_eq_true, decide_eq_true_iff, decide_eq_true_iff] at h
  exact h

section
variable {H : Type} {enc : TypeId × Value → H} {W : World}

set_option maxRecDepth 100000 in
theorem act_of_trod {fuel : Nat} {cs : List Value} {y : DataW H × List MemPlace} (h : DataW.trod enc Tryz.prog W 0 (fun _ => true) true fuel 29 cs = some y)
    (hw : ∀ n ∈ DataW.weights Tryz.prog 29 y.1, n ≤ reachBytes) :
    ∃ r : ActD, cs = r.cells ∧ r.Ok := by
  obtain ⟨y0, y1, y2, n, rfl, hl, h0, h1, h2⟩ := trod_struct3 Tryz.underlying29 h
  rw [cells_act] at hl
  match cs, hl with
  | [c0, c1, c2], _ =>
    have g0 : DataW.trod enc Tryz.prog W 0 (fun _ => true) true n 3 [c0] = some y0 := h0
    have g1 : DataW.trod enc Tryz.prog W 0 (fun _ => true) true n 3 [c1] = some y1 := h1
    have g2 : DataW.trod enc Tryz.prog W 0 (fun _ => true) true n 9 [c2] = some y2 := h2
    obtain ⟨a, ha, -, wa⟩ := DataW.trod_int Tryz.underlying3 g0
    obtain ⟨b, hb, -, wb⟩ := DataW.trod_int Tryz.underlying3 g1
    obtain ⟨c, hc, e2, -⟩ := DataW.trod_string Tryz.underlying9 g2
    simp only [List.cons.injEq, and_true] at ha hb hc
    have hs := hw c.data.toList.length (by
      simp only [DataW.weights, Tryz.underlying29, DataW.weightsEach, List.map_cons, List.map_nil, List.mem_append, List.append_nil, e2]
      exact .inr (.inr (List.mem_singleton.2 rfl)))
    simp only [reachBytes, Array.length_toList] at hs
    exact ⟨⟨a, b, c⟩, by rw [ha, hb, hc]; rfl, ⟨(i64_wf wa).1, (i64_wf wa).2, (i64_wf wb).1, (i64_wf wb).2, hs⟩⟩

theorem weightsAll_mem {P : Program} {e : TypeId} : ∀ {l : List (DataW H)} {d : DataW H}, d ∈ l → ∀ n ∈ DataW.weights P e d, n ∈ DataW.weightsAll P e l
  | [], _, h, _, _ => by cases h
  | x :: r, d, h, n, hn => by
    unfold DataW.weightsAll
    rcases List.mem_cons.1 h with rfl | h
    · exact List.mem_append_left _ hn
    · exact List.mem_append_right _ (weightsAll_mem h n hn)

set_option maxRecDepth 100000 in
theorem acts_of_trod {fuel : Nat} {c : Value} {y : DataW H × List MemPlace} (h : DataW.trod enc Tryz.prog W 0 (fun _ => true) true fuel 22 [c] = some y)
    (hw : ∀ n ∈ DataW.weights Tryz.prog 22 y.1, n ≤ reachBytes) : ∃ rs, Acts W c rs := by
  rcases open_slice Tryz.underlying22 h with ⟨hcs, _⟩ | ⟨a, len, cap, m, n, D, Pl, hcs, _, hl, hm, hmm, hx, hel⟩
  · simp only [List.cons.injEq, and_true] at hcs
    subst hcs
    exact ⟨[], by simp, none, 0, rfl, by simp, fun i hi => by simp at hi⟩
  · simp only [List.cons.injEq, and_true] at hcs
    subst hcs
    simp only [if_true] at hmm
    subst hmm
    subst hx
    have hb := hw (len * 32 + (m - len) * 32) (by
      simp only [DataW.weights, Tryz.underlying22, List.mem_cons]
      left
      rw [bytes_act, Nat.add_mul]; simp)
    simp only [reachBytes] at hb
    have each : ∀ i, i < len → ∃ r : ActD, W.cells? 0 (a.add (i * 3)) 3 = some r.cells ∧ r.Ok := fun i hi => by
      obtain ⟨cs', h1, h2⟩ := hel i (by omega)
      obtain ⟨r, rfl, ho⟩ := act_of_trod h2 (fun n hn => hw n (by
        simp only [DataW.weights, Tryz.underlying22, List.mem_cons, List.mem_append]
        exact .inr (.inl (weightsAll_mem (List.mem_map_of_mem (List.mem_range.2 hi)) n hn))))
      rw [cells_act] at h1
      exact ⟨r, h1, ho⟩
    obtain ⟨X, hX⟩ := choose_lt (α := ActD) (p := fun i r => W.cells? 0 (a.add (i * 3)) 3 = some r.cells ∧ r.Ok) each
    refine ⟨(List.range len).map X, by simp; omega, some a, m, by simp, by simp; omega, fun i hi => ?_⟩
    have hi' : i < len := by simpa using hi
    have hc0 := (World.cells?_some (hX 0 (by omega)).1).2.2 0 (by omega)
    rw [add_add, Nat.zero_mul, Nat.add_zero] at hc0
    obtain ⟨b, off, rfl⟩ := plain_addr hc0
    have hc := (World.cells?_some (hX i hi').1).2.2
    have c0 := hc 0 (by omega)
    have c1 := hc 1 (by omega)
    have c2 := hc 2 (by omega)
    rw [add_add, Addr.add_lit] at c0 c1 c2
    simp only [List.getElem_map, List.getElem_range]
    exact ⟨(hX i hi').2, b, off, rfl, c0, c1, c2⟩

set_option maxRecDepth 100000 in
theorem acts_of_arg {r : Reach} {b0 : Nat} {v : Value} {d : DataW H} {ps : List MemPlace} (hv : Value.okWide Tryz.prog W r b0 22 v)
    (h : DataW.Trod enc Tryz.prog W 0 (fun _ => true) true 22 v d ps) (hw : ∀ n ∈ DataW.weights Tryz.prog 22 d, n ≤ reachBytes) : ∃ xs, Acts W v xs := by
  obtain ⟨a0, len, cap, rfl⟩ := okWide_slice Tryz.underlying22 hv
  obtain ⟨fuel, hf⟩ := h
  exact acts_of_trod (y := (d, ps)) (by simpa [Value.cells] using hf) hw
end

end Go.Proofs.YteiamhapplnlaaaGreatDoor
