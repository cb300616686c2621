/-
  RouteBounds: the bound of moats that fit is at most the cost of every tree for the stops; Moats bound at least half of the cost of Tree. Conditions: those of the card.
-/
import Derived.Test.YtkbkgkmogbkabaaDoorK5
import Derived.Test.YtkbkgkmogbkabaaDoorK9
import Derived.ChangeSame
import Derived.Test.YtkbkgkmogbkabaaDoorK14
import Derived.Test.YtkbkgkmogbkabaaDoorCards
import Derived.Test.YtkbkgkmogbkabaaDoorTie
import Derived.Test.YtkbkgkmogbkabaaDoorBoundsLaw2
/-
  How the arguments of the statements are opened: a slice of moats.
-/
namespace Go.Proofs.YtkbkgkmogbkabaaDoor
open Go.ChangeShapes Go.WideShapes Go.ChangeAt Go.RowKit Go.Joins Go.Deep

theorem cells_moat : Tryd.prog.cellsOf 76 = 2 := by kernel_rfl
theorem bytes_moat : Tryd.prog.bytesOf 76 = 16 := by kernel_rfl

section
variable {H : Type} {enc : TypeId × Value → H} {W : World}

set_option maxRecDepth 100000 in
theorem moat_of_trod {fuel : Nat} {cs : List Value} {y : DataW H × List MemPlace} (h : DataW.trod enc Tryd.prog W 0 (fun _ => true) true fuel 76 cs = some y) :
    ∃ r : MoatD, cs = r.cells := by
  obtain ⟨y0, y1, n, -, hl, h0, h1⟩ := trod_struct2 Tryd.underlying76 h
  rw [cells_moat] at hl
  match cs, hl with
  | [c0, c1], _ =>
    have g0 : DataW.trod enc Tryd.prog W 0 (fun _ => true) true n 3 [c0] = some y0 := h0
    have g1 : DataW.trod enc Tryd.prog W 0 (fun _ => true) true n 3 [c1] = some y1 := h1
    obtain ⟨a, ha, -⟩ := DataW.trod_int Tryd.underlying3 g0
    obtain ⟨b, hb, -⟩ := DataW.trod_int Tryd.underlying3 g1
    simp only [List.cons.injEq, and_true] at ha hb
    exact ⟨⟨a, b⟩, by rw [ha, hb]; rfl⟩

set_option maxRecDepth 100000 in
theorem moats_of_trod {fuel : Nat} {c : Value} {y : DataW H × List MemPlace} (h : DataW.trod enc Tryd.prog W 0 (fun _ => true) true fuel 46 [c] = some y)
    (hw : ∀ n ∈ DataW.weights Tryd.prog 46 y.1, n ≤ reachBytes) : ∃ rs, Moats W c rs := by
  rcases open_slice Tryd.underlying46 h with ⟨hcs, _⟩ | ⟨a, len, cap, m, n, D, Pl, hcs, _, hl, hm, hmm, hx, hel⟩
  · simp only [List.cons.injEq, and_true] at hcs
    subst hcs
    exact ⟨[], by simp, none, 0, rfl, by simp, fun i hi => by simp at hi⟩
  · simp only [List.cons.injEq, and_true] at hcs
    subst hcs
    simp only [if_true] at hmm
    subst hmm
    subst hx
    have hb := hw (len * 16 + (m - len) * 16) (by
      simp only [DataW.weights, Tryd.underlying46, List.mem_cons]
      left
      rw [bytes_moat, Nat.add_mul]; simp)
    simp only [reachBytes] at hb
    have each : ∀ i, i < len → ∃ r : MoatD, W.cells? 0 (a.add (i * 2)) 2 = some r.cells := fun i hi => by
      obtain ⟨cs', h1, h2⟩ := hel i (by omega)
      obtain ⟨r, rfl⟩ := moat_of_trod h2
      rw [cells_moat] at h1
      exact ⟨r, h1⟩
    obtain ⟨X, hX⟩ := choose_lt (α := MoatD) (p := fun i r => W.cells? 0 (a.add (i * 2)) 2 = some r.cells) each
    refine ⟨(List.range len).map X, by simp; omega, some a, m, by simp, by simp; omega, fun i hi => ?_⟩
    have hi' : i < len := by simpa using hi
    have hc0 := (World.cells?_some (hX 0 (by omega))).2.2 0 (by omega)
    rw [add_add, Nat.zero_mul, Nat.add_zero] at hc0
    obtain ⟨b, off, rfl⟩ := plain_addr hc0
    have hc := (World.cells?_some (hX i hi')).2.2
    have c0 := hc 0 (by omega)
    have c1 := hc 1 (by omega)
    rw [add_add, Addr.add_lit] at c0 c1
    simp only [List.getElem_map, List.getElem_range]
    exact ⟨b, off, rfl, c0, c1⟩

set_option maxRecDepth 100000 in
set_option maxRecDepth 100000 in
theorem moats_of_arg {r : Reach} {b0 : Nat} {v : Value} {d : DataW H} {ps : List MemPlace} (hv : Value.okWide Tryd.prog W r b0 46 v)
    (h : DataW.Trod enc Tryd.prog W 0 (fun _ => true) true 46 v d ps) (hw : ∀ n ∈ DataW.weights Tryd.prog 46 d, n ≤ reachBytes) : ∃ xs, Moats W v xs := by
  obtain ⟨a0, len, cap, rfl⟩ := okWide_slice Tryd.underlying46 hv
  obtain ⟨fuel, hf⟩ := h
  exact moats_of_trod (y := (d, ps)) (by simpa [Value.cells] using hf) hw
end

end Go.Proofs.YtkbkgkmogbkabaaDoor

/-
  RouteBounds: the bound of moats that fit is at most the cost of every tree for the stops; Moats bound at least half of the cost of Tree. Conditions: those of the card.
-/
namespace Go.Proofs.YtkbkgkmogbkabaaDoor
open Go.ChangeShapes Go.WideShapes Go.ChangeAt Go.RowKit

set_option maxRecDepth 100000 in
theorem routeBounds_lifted (os : Os) (started : os.Started) (H : Type) (enc : TypeId × Value → H) :
    ReturnsInHanded {} Tryd.checked os 7 .any (fun w args => (Rows.routeBoundsSpec.pre enc Tryd.prog Tryd.f7 [] false w args ∧ laidMetH Tryd.prog laid2 w) ∧ sizedMet enc Tryd.prog Tryd.f7 (OpenSpec.ofChange Rows.routeBoundsSpec) false w args) (Rows.routeBoundsSpec.post enc Tryd.prog Tryd.f7 false true false false) := by
  refine returnsInHanded_of_change_and (C := Tryd.checked) (X := fun w _ => laidMetH Tryd.prog laid2 w) (fun _ _ _ hh h => h.of_heap hh) own started (by kernel_rfl) Tryd.func7
    (ChangeSpec.witness_shaped (enc := enc) (C := Tryd.checked) (os := os) (X := fun w _ => laidMetH Tryd.prog laid2 w) false (World.doorLaid Tryd.prog 400 os) #[.agg #[.int .i64 0, .slice none 0 0], .int .i64 0, .slice none 0 0, .slice none 0 0] 8 rfl (World.shaped_of_RefB (by kernel_rfl) (by kernel_rfl)) (by kernel_rfl) (by kernel_rfl) (by kernel_rfl) (door_met os _)) ?_
  intro W base args ds gs before hval0 hW _ hsz0 hLd _
  have hTZ := TZ.of (tab_of_laid hLd)
  have hsz : (DataW.weightsEach Tryd.prog (Tryd.f7.params.toList ++ Rows.routeBoundsSpec.plain.varTypes Tryd.prog) (ds ++ gs)).all (· ≤ reachBytes) = true := hsz0
  clear hsz0
  have hval : ∀ (j : Nat) t v, Tryd.f7.params[j]? = some t → args[j]? = some v → Value.okWide Tryd.prog W .any base t v := hval0
  have hW' := hW
  obtain ⟨p, q, hA0, hV, rfl, _, _⟩ := hW
  have hA : DataW.TrodAll enc Tryd.prog W 0 (fun _ => true) true Tryd.f7.params.toList args.toList ds p := hA0
  rw [Tryd.params7] at hA hval hsz
  obtain ⟨v0, vs0, d0, ds0, p0, q0, hargs, rfl, rfl, h0, r0⟩ := trodAll_cons hA
  obtain ⟨v1, vs1, d1, ds1, p1, q1, rfl, rfl, rfl, h1, r1⟩ := trodAll_cons r0
  obtain ⟨v2, vs2, d2, ds2, p2, q2, rfl, rfl, rfl, h2, r2⟩ := trodAll_cons r1
  obtain ⟨v3, vs3, d3, ds3, p3, q3, rfl, rfl, rfl, h3, r3⟩ := trodAll_cons r2
  obtain ⟨rfl, rfl, rfl⟩ := trodAll_nil r3
  obtain rfl : args = #[v0, v1, v2, v3] := by cases args; simp_all
  obtain ⟨rfl, rfl⟩ := trodVars_none hV
  have k0 := h0
  have lt0 : ∀ x ∈ p0, x.block < W.heap.size := by obtain ⟨m, hm⟩ := k0; exact DataW.trod_lt m _ _ _ hm
  have k2 := h2
  have lt2 : ∀ x ∈ p2, x.block < W.heap.size := by obtain ⟨m, hm⟩ := k2; exact DataW.trod_lt m _ _ _ hm
  have k3 := h3
  have lt3 : ∀ x ∈ p3, x.block < W.heap.size := by obtain ⟨m, hm⟩ := k3; exact DataW.trod_lt m _ _ _ hm
  obtain ⟨vr, mp, rfl, hm⟩ := map_of_trod (hval 0 _ v0 rfl rfl) h0 (weights_at hsz (j := 0) rfl rfl)
  obtain ⟨a1, rfl, rfl, rfl, w1⟩ := open_int Tryd.underlying3 (hval 1 _ v1 rfl rfl) h1
  obtain ⟨ms2, hl2⟩ := moats_of_arg (hval 2 _ v2 rfl rfl) h2 (weights_at hsz (j := 2) rfl rfl)
  obtain ⟨xs3, hl3⟩ := ints_of_arg (hval 3 _ v3 rfl rfl) h3 (weights_at hsz (j := 3) rfl rfl)
  clear hA0 hval0
  refine (RouteBounds_any vr v2 v3 mp a1 ms2 xs3 W hm hl2 hl3 hTZ).mono fun e W' ⟨he, bel⟩ => ?_
  subst he
  exact ⟨_, rfl, _, _, _, [], _, [], hW', trodAll_mk1 (shut_bool Tryd.underlying4 _),
    (trodAll_cons_mk (Below.trod laidOut (by kernel_rfl) (of_decide_eq_true (by kernel_rfl)) k0 bel lt0) (trodAll_cons_mk (shut_int Tryd.underlying3 w1) (trodAll_cons_mk (Below.trod laidOut (by kernel_rfl) (of_decide_eq_true (by kernel_rfl)) k2 bel lt2) (trodAll_cons_mk (Below.trod laidOut (by kernel_rfl) (of_decide_eq_true (by kernel_rfl)) k3 bel lt3) trodAll_mk0)))), rfl, bel.frame _, fun h => by cases h⟩

theorem routeBounds_row : Rows.RouteBoundsSaid :=
  OpenClaim.holds_of_wide 7 Tryd.f7 rfl rfl rfl rfl rfl rfl rfl ⟨rfl, rfl, rfl, rfl, rfl⟩ rfl rfl rfl rfl rfl (by kernel_rfl) Tryd.func7 (by kernel_rfl)
    (of_decide_eq_true (by kernel_rfl)) (by unfold Func.isWrapper; first | (rw [if_pos (by decide +kernel)]; kernel_rfl) | (rw [if_neg (by decide +kernel)]; exact ⟨rfl, rfl⟩))
    (fun os started H enc _ => routeBounds_lifted os started H enc)

theorem routeBounds_holds : Rows.RouteBoundsCardSaid :=
  Claim7.holds_tied_plain_at .later [] [.data, .data] true (true, "21947a5a87ddc905c2c0e4241b411cf4012465f53c335e9effae5daa1c3095b2") false
    routeBounds_row (fun _ h => by cases h) (by kernel_rfl) (fun _ h => by cases h) routeBounds_row_tie rfl ⟨rfl, rfl⟩ (by kernel_rfl) rfl
    (fun f fn hf hfn => by
      obtain rfl : f = 7 := Option.some.inj ((show Tryd.prog.funcNamed "corrody/corrodylaw05.RouteBounds" = some 7 by kernel_rfl).symm.trans hf) |>.symm
      obtain rfl : fn = Tryd.f7 := (Option.some.inj (Tryd.func7.symm.trans hfn)).symm
      exact ⟨by kernel_rfl, fun j t ht => by
        rw [Tryd.params7] at ht
        have hm : t ∈ [24, 3, 46, 25] := by simpa using Array.mem_of_getElem? ht
        have hall : ([24, 3, 46, 25].all fun u => !Tryd.prog.wantsStandIn u) = true := by kernel_rfl
        exact (show Tryd.prog.wantsStandIn t = false by simpa using List.all_eq_true.1 hall t hm)⟩)
    (by kernel_rfl)

end Go.Proofs.YtkbkgkmogbkabaaDoor

#print axioms Go.Proofs.YtkbkgkmogbkabaaDoor.routeBounds_holds
