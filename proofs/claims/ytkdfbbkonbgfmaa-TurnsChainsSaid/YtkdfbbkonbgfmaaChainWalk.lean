/-
  For TurnsChains: a row of bools of the call's own; a list among them; a shift's list put into a plan of the call's own.
-/
import Derived.Test.YtkdfbbkonbgfmaaChainPlain
import Derived.Test.YtkdfbbkonbgfmaaPairs
import Derived.Test.YtkdfbbkonbgfmaaLieTop
namespace Go.Proofs.Ytkdfbbkonbgfmaa
open Go.RowKit

theorem info_bool : (Try.prog.info? 4).map (fun i => (i.zero, i.size, i.bytes)) = some (some (.bool false), 1, 1) := by kernel_rfl
/-- The block g holds these bools. -/
def BBlock (w : World) (g : Nat) (bs : List Bool) : Prop := w.heap[g]? = some (.cells (bs.map Value.bool).toArray 4 (0, 0))
theorem BBlock.ext {w w' : World} {g : Nat} {bs : List Bool} (h : BBlock w g bs) (e : Ext w w') : BBlock w' g bs := heap_ext h e
theorem BBlock.cell {w : World} {g : Nat} {bs : List Bool} (h : BBlock w g bs) {i : Nat} (hi : i < bs.length) : w.cell? ⟨g, i, none⟩ = some (.bool bs[i]) := by
  exact cell_of_row w g i _ _ _ h |>.trans (by simp [hi]) 
theorem BBlock.free {w : World} {g : Nat} {bs : List Bool} (h : BBlock w g bs) (i : Nat) : w.frozen? ⟨g, i, none⟩ = false := by
  have h' : w.heap[g]? = some (.cells (bs.map Value.bool).toArray 4 (0, 0)) := h
  simp [World.frozen?, h']
theorem BBlock.set {w : World} {g : Nat} {bs : List Bool} (h : BBlock w g bs) (i : Nat) (b : Bool) : BBlock (w.setCell ⟨g, i, none⟩ (.bool b)) g (bs.set i b) := by
  have h' : w.heap[g]? = some (.cells (bs.map Value.bool).toArray 4 (0, 0)) := h
  show (w.setCell _ _).heap[g]? = _
  simp only [World.setCell, Array.getElem?_modify, if_true, h', Option.map_some]
  simp [List.map_set]
theorem BBlock.lt {w : World} {g : Nat} {bs : List Bool} (h : BBlock w g bs) : g < w.heap.size := lt_of_block h

set_option maxHeartbeats 400000 in
theorem ContainsB_any (g n c : Nat) (bs : List Bool) (w : World) (hv : BBlock w g bs) (hn : n = bs.length) (hl : n ≤ 15625) (hall : ∀ b ∈ bs, b = true) :
    Calls Try.prog 51 #[.slice (some ⟨g, 0, none⟩) n c, .bool false] w fun e w' => e = .returned (.bool false) ∧ w = w' := by
  have HV := hid hv
  have HA := hid hall
  have HN := hid hn
  clear hv hall hn
  have HI : Hid (Calls Try.prog 95 #[.slice (some ⟨g, 0, none⟩) n c, .bool false] w fun e w' => e = .returned (.int .i64 (-1)) ∧ w = w') := by
    go_enter Try.func95, Try.ntmps95
    go_wp2
    go_loopg [8] n (fun g i wr => ∃ k : Nat, k + g = n ∧ i = .int .i64 k ∧ w = wr)
    case atStart => exact ⟨0, by omega, rfl, rfl⟩
    case round =>
      obtain ⟨k, hk, rfl, rfl⟩ := hrel
      have Hk := hid hk
      have hkn : k ≤ n := by omega
      clear hk
      by_cases hlt : k < n
      · have hki : (k : Int) < n := by omega
        have dk := HV.out.cell (i := k) (by have := HN.out; omega)
        have hb := HA.out (bs[k]'(by have := HN.out; omega)) (List.getElem_mem _)
        rw [hb] at dk
        clear hb
        go_wp2
        go_roundg (gk - 1)
        case rel => exact ⟨k + 1, by have := Hk.out; omega, by go_num, rfl⟩
        case measure => have := Hk.out; omega
      · have hki : ¬ ((k : Int) < n) := by omega
        go_wp2
        go_ret
        exact ⟨rfl, rfl⟩
  go_enter Try.func51, Try.ntmps51
  go_wp2_with (fail)
  refine HI.out.mono ?_
  rintro e w' ⟨rfl, rfl⟩
  go_wp2
  go_ret
  exact ⟨rfl, rfl⟩

theorem keep_int {B B2 : Nat} {w : World} {g n cap : Nat} {xss : List (List Int)} (h : OwnRows B w (.slice (some ⟨g, 0, none⟩) n cap) xss) (x : Nat) (u : Value) {z : Value} {zs : List Int} (hz : OwnI B2 w z zs) : OwnI B2 (w.setCell ⟨g, x, none⟩ u) z zs := by
  obtain ⟨us, h1, -, -⟩ := h
  refine ownsRow_setCell_other hz (a := ⟨g, x, none⟩) ?_ u
  obtain ⟨-, ha | ⟨g1, cap1, cur1, rfl, -, hh1, -⟩⟩ := hz
  · rw [ha.1]; simp [Value.ownBlock]
  · obtain ⟨-, hb | ⟨g2, cap2, cur2, hv, -, hh2, -⟩⟩ := h1
    · simp at hb
    · simp only [Value.slice.injEq, Option.some.injEq, Addr.mk.injEq, and_true] at hv
      obtain ⟨rfl, -, -⟩ := hv
      simp only [Value.ownBlock, ne_eq, Option.some.injEq]
      rintro rfl
      rw [hh1] at hh2; simp at hh2
theorem OwnRows.apart {B B2 : Nat} {w : World} {v : Value} {g n cap : Nat} {xss yss : List (List Int)} (h : OwnRows B w v xss) (h2 : OwnRows B2 w (.slice (some ⟨g, 0, none⟩) n cap) yss) (hne : ∀ k, v.ownBlock = some k → k ≠ g) (x : Nat) (u : Value) : OwnRows B (w.setCell ⟨g, x, none⟩ u) v xss := by
  obtain ⟨us, g1, g2, g3⟩ := h
  refine ⟨us, ownsRow_setCell_other g1 (a := ⟨g, x, none⟩) (fun e => hne g e rfl) u, g2, fun i a b => ⟨keep_int h2 x u (g3 i a b).1, (g3 i a b).2⟩⟩
theorem OwnRows.setRows {B : Nat} {w : World} {g n cap : Nat} {u : Value} {xss : List (List Int)} {l : List Int} (h : OwnRows B w (.slice (some ⟨g, 0, none⟩) n cap) xss) (hl : xss.length ≤ 5864062014805) {x : Nat} (hx : x < xss.length) (hu : Ints (w.setCell ⟨g, x, none⟩ u) u l) :
    Rows2 (w.setCell ⟨g, x, none⟩ u) (.slice (some ⟨g, 0, none⟩) n cap) (xss.set x l) ∧ (∃ v, w.cell? ⟨g, x, none⟩ = some v) ∧ w.frozen? ⟨g, x, none⟩ = false ∧ n = xss.length ∧ B ≤ g := by
  have h0 := h
  obtain ⟨us, h1, h2, h3⟩ := h
  have hn : n = us.length ∧ B ≤ g ∧ n ≤ cap := by
    obtain ⟨-, ⟨h, -⟩ | ⟨g', cap', cur, h, hg, -, hc, -⟩⟩ := id h1 <;> simp at h
    obtain ⟨rfl, h5, rfl⟩ := h
    exact ⟨h5, hg, by omega⟩
  obtain ⟨hn, hB, hcap⟩ := hn
  subst hn
  have hst := (World.ownsRow.stored h1 x u).1
  have hcell := World.ownsRow.cellAt h1 x (by omega)
  refine ⟨⟨by rw [List.length_set]; exact hl, some ⟨g, 0, none⟩, cap, by rw [List.length_set, h2], by rw [List.length_set]; omega, fun i hi => ?_⟩, ⟨_, hcell.trans (List.getElem?_eq_getElem (by omega))⟩, World.ownsRow.frozenAt h1 x, h2, hB⟩
  rw [List.length_set] at hi
  have hc2 := World.ownsRow.cellAt hst i (by omega)
  rw [List.getElem?_eq_getElem (by rw [List.length_set]; omega), List.getElem_set] at hc2
  rw [List.getElem_set]
  by_cases e : x = i
  · subst e
    rw [if_pos rfl] at hc2 ⊢
    exact ⟨g, 0, u, rfl, by rw [Nat.zero_add]; exact hc2, hu⟩
  · rw [if_neg e] at hc2 ⊢
    have := h3 i (by omega) hi
    exact ⟨g, 0, _, rfl, by rw [Nat.zero_add]; exact hc2, OwnI.ints (keep_int h0 x u this.1) this.2⟩

theorem Pairs.get {w : World} {ao : Option Addr} {n cap : Nat} {ps : List (Int × Int)} (h : Pairs w (.slice ao n cap) ps) {i : Nat} (hi : i < ps.length) :
    ∃ b off, ao = some ⟨b, off, none⟩ ∧ ∀ w', Ext w w' → w'.cell? ⟨b, off + i * 2, none⟩ = some (.int .i64 ps[i].1) ∧ w'.cell? ⟨b, off + i * 2 + 1, none⟩ = some (.int .i64 ps[i].2) := by
  obtain ⟨hl, ao', cap', he, hc⟩ := h
  simp only [Value.slice.injEq] at he
  obtain ⟨rfl, -, rfl⟩ := he
  obtain ⟨b, off, ha, h1, h2⟩ := hc i hi
  exact ⟨b, off, ha, fun w' e => ⟨e.cell h1, e.cell h2⟩⟩

end Go.Proofs.Ytkdfbbkonbgfmaa
