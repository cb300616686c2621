/-
  Contract of clone: a state of the call's own that reads alike.
-/
import Derived.Test.YteiamhapplnlaabGreatDoorBsForm
import Derived.Maps.RangeWalk
namespace Go.Proofs.YteiamhapplnlaabGreatDoor
open Go.RowKit

theorem cloneLot_any (v : Value) (n : Nat) (xs : List Value) (w : World) (hv : RowR w 115 v n xs) (hl : xs.length = n * 5) (hn : n ≤ 1000000) (h1 : ∀ u ∈ xs, u.oneCell' = true) :
    Calls Tryz.prog 73 #[v] w fun e w' => ∃ v', e = .returned v' ∧ OwnN w.heap.size 115 5 w' v' n xs ∧ Ext w w' := by
  rcases hv with ⟨rfl, rfl, rfl⟩ | ⟨b, cap, cur, rfl, h0, hc, -, hcell⟩
  · refine (AnyE.slices_Clone_nil (ρ := Tryz.cloneLot_ren) Tryz.cloneLot 0 0 w).mono ?_
    rintro e w' ⟨rfl, rfl⟩
    exact ⟨_, rfl, OwnN.empty _ _ _ _, Ext.refl _⟩
  · obtain ⟨i0, hi, hz0, hz1, hz2⟩ := info_parts et_lot.info
    refine (AnyE.slices_Clone (ρ := Tryz.cloneLot_ren) Tryz.cloneLot i0 _ 5 56 hi hz0 hz1 hz2 et_lot.zs et_lot.pos (fun w => Tryz.sizeOf115 w) b 0 n cap xs w hl (by unfold maxLen; omega) (by omega) (fun j u hj => by rw [Nat.zero_add]; exact hcell j u hj) h1).mono ?_
    rintro e w' ⟨v', rfl, hown, -, hb⟩
    exact ⟨v', rfl, ⟨hown, fun h => by omega⟩, hb⟩

theorem cloneVol_any (v : Value) (n : Nat) (xs : List Value) (w : World) (hv : RowR w 118 v n xs) (hl : xs.length = n * 2) (hn : n ≤ 1000000) (h1 : ∀ u ∈ xs, u.oneCell' = true) :
    Calls Tryz.prog 74 #[v] w fun e w' => ∃ v', e = .returned v' ∧ OwnN w.heap.size 118 2 w' v' n xs ∧ Ext w w' := by
  rcases hv with ⟨rfl, rfl, rfl⟩ | ⟨b, cap, cur, rfl, h0, hc, -, hcell⟩
  · refine (AnyE.slices_Clone_nil (ρ := Tryz.cloneVol_ren) Tryz.cloneVol 0 0 w).mono ?_
    rintro e w' ⟨rfl, rfl⟩
    exact ⟨_, rfl, OwnN.empty _ _ _ _, Ext.refl _⟩
  · obtain ⟨i0, hi, hz0, hz1, hz2⟩ := info_parts et_vol.info
    refine (AnyE.slices_Clone (ρ := Tryz.cloneVol_ren) Tryz.cloneVol i0 _ 2 40 hi hz0 hz1 hz2 et_vol.zs et_vol.pos (fun w => Tryz.sizeOf118 w) b 0 n cap xs w hl (by unfold maxLen; omega) (by omega) (fun j u hj => by rw [Nat.zero_add]; exact hcell j u hj) h1).mono ?_
    rintro e w' ⟨v', rfl, hown, -, hb⟩
    exact ⟨v', rfl, ⟨hown, fun h => by omega⟩, hb⟩

theorem cloneRows_any (v : Value) (n : Nat) (xs : List Value) (w : World) (hv : RowR w 79 v n xs) (hl : xs.length = n * 1) (hn : n ≤ 1000000) (h1 : ∀ u ∈ xs, u.oneCell' = true) :
    Calls Tryz.prog 75 #[v] w fun e w' => ∃ v', e = .returned v' ∧ OwnN w.heap.size 79 1 w' v' n xs ∧ Ext w w' := by
  rcases hv with ⟨rfl, rfl, rfl⟩ | ⟨b, cap, cur, rfl, h0, hc, -, hcell⟩
  · refine (AnyE.slices_Clone_nil (ρ := Tryz.cloneRows_ren) Tryz.cloneRows 0 0 w).mono ?_
    rintro e w' ⟨rfl, rfl⟩
    exact ⟨_, rfl, OwnN.empty _ _ _ _, Ext.refl _⟩
  · obtain ⟨i0, hi, hz0, hz1, hz2⟩ := info_parts et_rows.info
    refine (AnyE.slices_Clone (ρ := Tryz.cloneRows_ren) Tryz.cloneRows i0 _ 1 24 hi hz0 hz1 hz2 et_rows.zs et_rows.pos (fun w => Tryz.sizeOf79 w) b 0 n cap xs w hl (by unfold maxLen; omega) (by omega) (fun j u hj => by rw [Nat.zero_add]; exact hcell j u hj) h1).mono ?_
    rintro e w' ⟨v', rfl, hown, -, hb⟩
    exact ⟨v', rfl, ⟨hown, fun h => by omega⟩, hb⟩

theorem RowR.shape {w : World} {e : Nat} {v : Value} {n : Nat} {xs : List Value} (h : RowR w e v n xs) : ∃ a c, v = .slice a n c := by
  rcases h with ⟨rfl, rfl, -⟩ | ⟨b, cap, cur, rfl, -⟩
  · exact ⟨_, _, rfl⟩
  · exact ⟨_, _, rfl⟩
theorem cloneMap_any (b : Nat) (l : List (Bs × Int)) (w : World) (h : WorthM w b l) :
    Calls Tryz.prog 72 #[.map (some b)] w fun e w' => e = .returned (.map (some w.heap.size)) ∧ WorthM w' w.heap.size l ∧ Ext w w' ∧ w.heap.size < w'.heap.size := by
  obtain ⟨n, hn, h⟩ := h
  refine (AnyW.maps_Clone_owns (ρ := Tryz.cloneMap_ren) Tryz.cloneMap _ _ b n _ w h).mono ?_
  rintro e w' ⟨rfl, h1, -, hb⟩
  exact ⟨rfl, ⟨n, hn, h1⟩, hb, h1.lt⟩
theorem lcells_len (ls : List LotD) : (lcells ls).length = ls.length * 5 := by
  unfold lcells
  induction ls with
  | nil => rfl
  | cons a r ih => rw [List.flatMap_cons, List.length_append, ih, List.length_cons]; show 5 + _ = _; omega
theorem lcells_one (ls : List LotD) : ∀ u ∈ lcells ls, u.oneCell' = true := by
  intro u hu
  unfold lcells at hu
  obtain ⟨l, -, hl⟩ := List.mem_flatMap.1 hu
  simp only [LotD.cells, List.mem_cons, List.not_mem_nil, or_false] at hl
  rcases hl with rfl | rfl | rfl | rfl | rfl <;> rfl
theorem hcells_len : ∀ (hs : List HandD) (us : List Value), us.length = hs.length → (hcells hs us).length = hs.length * 2
  | [], _, _ => by simp [hcells]
  | h :: hs, u :: us, e => by simp only [hcells, List.length_cons]; rw [hcells_len hs us (by simpa using e)]; omega
  | _ :: _, [], e => by simp at e
theorem hcells_one : ∀ (hs : List HandD) (us : List Value), (∀ u ∈ us, u.oneCell' = true) → ∀ u ∈ hcells hs us, u.oneCell' = true
  | [], _, _, u, hu => by simp [hcells] at hu
  | _ :: _, [], _, u, hu => by simp [hcells] at hu
  | h :: hs, x :: us, e, u, hu => by
    simp only [hcells, List.mem_cons] at hu
    rcases hu with rfl | rfl | hu
    · rfl
    · exact e _ (by simp)
    · exact hcells_one hs us (fun y hy => e y (by simp [hy])) u hu
theorem HandsI.one {w : World} {hs : List HandD} {us : List Value} (h : HandsI w hs us) : ∀ u ∈ us, u.oneCell' = true := by
  intro u hu
  obtain ⟨i, hi, rfl⟩ := List.getElem_of_mem hu
  obtain ⟨a, c, e⟩ := (h.2 i _ _ (List.getElem?_eq_getElem (by rw [← h.1]; exact hi)) (List.getElem?_eq_getElem hi)).shape
  rw [e]; rfl
theorem BallI.one {w : World} {hs : List (List Int)} {us : List Value} (h : BallI w hs us) : ∀ u ∈ us, u.oneCell' = true := by
  intro u hu
  obtain ⟨i, hi, rfl⟩ := List.getElem_of_mem hu
  obtain ⟨a, c, e⟩ := (h.2 i _ _ (List.getElem?_eq_getElem (by rw [← h.1]; exact hi)) (List.getElem?_eq_getElem hi)).shape
  rw [e]; rfl

end Go.Proofs.YteiamhapplnlaabGreatDoor
