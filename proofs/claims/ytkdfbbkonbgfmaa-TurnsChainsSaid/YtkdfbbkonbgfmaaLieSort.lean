/-
  Contracts of slices.Sorted over slices.Values, and of slices.Clone of rows.
-/
import Derived.Test.YtkdfbbkonbgfmaaLieIter
import Derived.Test.YtkdfbbkonbgfmaaLawA
namespace Go.Proofs.Ytkdfbbkonbgfmaa
open Go.RowKit

set_option maxHeartbeats 1000000 in
theorem Sorted_vals (Bs cap : Nat) (ao : Option Addr) (zs : List Int) (hlen : zs.length ≤ 100) (w : World) (hBs : Bs < w.heap.size)
    (hc : w.cell? ⟨Bs, 0, none⟩ = some (.slice ao zs.length cap)) (hI : IntsB w.heap.size w ao zs) :
    Calls Try.prog 84 #[.func (.func 117) #[] #[.pointer (some ⟨Bs, 0, none⟩)]] w fun e W' => ∃ v, e = .returned v ∧ OwnI w.heap.size W' v (srt zs) ∧ Ext w W' := by
  have HC := hid hc
  have HI := hid hI
  have HB := hid hBs
  clear hc hI hBs
  go_enter Try.func84, Try.ntmps84
  go_wp2_with (fail)
  refine (Collect_vals Bs cap ao zs hlen _ HB.out HC.out HI.out).mono ?_
  rintro e w1 ⟨v, rfl, ho, he⟩
  have HO := hid ho
  have HE := hid he
  obtain ⟨a1, c1, rfl⟩ := own_len ho
  clear ho he
  go_wp2_with (fail)
  refine (Sort_own w.heap.size _ zs _ HO.out (by omega)).mono ?_
  rintro e w2 ⟨rfl, ho2, hg2⟩
  have HO2 := hid ho2
  have HE2 := hid (ext_grown HE.out hg2 (fun k hk => (HO.out.lt k hk).1))
  clear ho2 hg2
  go_wp2
  go_ret
  exact ⟨_, rfl, HO2.out, HE2.out⟩

theorem rowAt_nat' {xss : List (List Int)} {i : Nat} (hi : i < xss.length) : rowAt xss (i : Int) = xss[i] := by unfold rowAt; simp [hi]
set_option maxHeartbeats 1000000 in
theorem Clone2_any (w0 : World) (v : Value) (xss : List (List Int)) (w : World) (hv : Rows2 w0 v xss) (e0 : Ext w0 w) (h1 : 0 < xss.length) (h4 : xss.length ≤ 100) :
    Calls Try.prog 83 #[v] w fun e w' => ∃ g c, e = .returned (.slice (some ⟨g, 0, none⟩) xss.length c) ∧ w.heap.size ≤ g ∧ g < w'.heap.size ∧ xss.length ≤ c ∧ Ext w w' ∧ ∀ j, j < xss.length → ∃ u, w'.cell? ⟨g, j, none⟩ = some u ∧ w'.frozen? ⟨g, j, none⟩ = false ∧ Ints w0 u (rowAt xss j) := by
  obtain ⟨hl, ao, cap, rfl, hcap, hc⟩ := hv
  have qT : ∀ (w : World) (a : Option Addr) (n c n' c' : Nat), (binOp .eql 22 (.slice a n c) (.slice none n' c')).run Try.prog w = .ok (.bool a.isNone) w :=
    fun w a n c n' c' => Lib.run_eql_slice_nil w _ _ a n c n' c' Try.underlying22
  obtain ⟨i0, hi, hz0, hz1, hz2⟩ := info_parts info_ints
  obtain ⟨b, off, u0, rfl, -, -⟩ := hc 0 h1
  obtain ⟨us, hus⟩ : ∃ us : List Value, us = (List.range xss.length).map (fun i => (w0.cell? ⟨b, off + i, none⟩).getD (.slice none 0 0)) := ⟨_, rfl⟩
  have hul : us.length = xss.length := by rw [hus]; simp
  have hcell : ∀ i (h : i < xss.length), w0.cell? ⟨b, off + i, none⟩ = some (us[i]'(by omega)) ∧ Ints w0 (us[i]'(by omega)) xss[i] := by
    intro i h
    obtain ⟨b', off', u, e, h2, h3⟩ := hc i h
    simp only [Option.some.injEq, Addr.mk.injEq, and_true] at e
    obtain ⟨rfl, rfl⟩ := e
    have : us[i]'(by omega) = u := by
      simp only [hus, List.getElem_map, List.getElem_range]
      rw [h2]; rfl
    rw [this]
    exact ⟨h2, h3⟩
  have hone : ∀ u ∈ us, u.oneCell' = true := by
    intro u hu
    obtain ⟨i, hi2, rfl⟩ := List.getElem_of_mem hu
    obtain ⟨-, a, c, e, -⟩ := (hcell i (by omega)).2
    rw [e]; rfl
  have hcells : ∀ j u, us[j]? = some u → (w.alloc (.cells #[] 23)).cell? ((⟨b, off, none⟩ : Addr).add j) = some u := by
    intro j u hj
    obtain ⟨hjl, rfl⟩ := List.getElem?_eq_some_iff.1 hj
    have h2 := e0.cell (hcell j (by omega)).1
    rw [Addr.add_lit, World.cell?_alloc_lt (h := World.block_lt_of_cell? _ _ h2)]; exact h2
  have hown0 : (w.alloc (.cells #[] 23)).ownsRow w.heap.size 23 1 (.slice (some ⟨w.heap.size, 0, none⟩) 0 0) 0 [] := World.ownsRow_lit w #[] 0 (Nat.le_refl _) (by decide) rfl
  have Hcells := hid hcells
  have Hown0 := hid hown0
  have HC := hid hcell
  have HU := hid hul
  clear hc hcells hown0 hcell hus
  go_enter Try.func83, Try.ntmps83
  go_wp2_with (at_builtin; go_must (refine wpList_append_own _ rfl _ _ 22 rfl w.heap.size 23 i0 (.slice none 0 0) 1 24 Try.underlying22 hi hz0 hz1 hz2 rfl (by decide) _ _ _ rfl Hown0.out ⟨b, off, none⟩ xss.length cap us rfl ?c1 Hcells.out hone ?c3 ?c4 ?c5 ?_))
  case c3 => unfold maxLen; omega
  case c4 => omega
  intro v' w' hown' hg _
  have HE : Hid (Ext w w') := Below.grown (Ext.ofAlloc w _) hg (by simp) (by simp [Value.ownBlock])
  have HOW := hid hown'
  obtain ⟨g, c, hv, hgB, hgs, hcp⟩ : ∃ g c, v' = .slice (some ⟨g, 0, none⟩) xss.length c ∧ w.heap.size ≤ g ∧ g < w'.heap.size ∧ xss.length ≤ c := by
    have h := hown'
    obtain ⟨-, ⟨-, h⟩ | ⟨g, cp, cur, h, hB, hh, hcp, -⟩⟩ := h
    · omega
    · exact ⟨g, cp, by rw [h], hB, lt_of_block hh, by omega⟩
  subst hv
  clear hown' hg
  go_wp2
  go_ret
  refine ⟨g, c, rfl, hgB, hgs, hcp, HE.out, fun j hj => ?_⟩
  have hjl : j < us.length := by have := HU.out; omega
  refine ⟨us[j], ?_, World.ownsRow.frozenAt HOW.out j, by rw [rowAt_nat' hj]; exact (HC.out j hj).2⟩
  have := World.ownsRow.cellAt HOW.out j (by omega)
  rw [this]
  simp [hjl]

end Go.Proofs.Ytkdfbbkonbgfmaa
