/-
  Contract of Potentials.
-/
import Derived.Test.YtkbkgkmogbkabaaRtAwake
namespace Go.Proofs.Ytkbkgkmogbkabaa
open Go.RowKit

theorem foldl_max_ge : ∀ (l : List Int) (a : Int), a ≤ l.foldl max a ∧ ∀ x ∈ l, x ≤ l.foldl max a
  | [], a => ⟨Int.le_refl _, fun x h => by simp at h⟩
  | y :: l, a => by
    obtain ⟨h1, h2⟩ := foldl_max_ge l (max a y)
    show a ≤ l.foldl max (max a y) ∧ ∀ x ∈ y :: l, x ≤ l.foldl max (max a y)
    refine ⟨by omega, fun x hx => ?_⟩
    rcases List.mem_cons.1 hx with rfl | hx
    · omega
    · exact h2 x hx
theorem foldl_max_in : ∀ (l : List Int) (a : Int), l.foldl max a = a ∨ l.foldl max a ∈ l
  | [], a => .inl rfl
  | y :: l, a => by
    show l.foldl max (max a y) = a ∨ l.foldl max (max a y) ∈ y :: l
    rcases foldl_max_in l (max a y) with h | h
    · rw [h]
      by_cases e : a ≤ y
      · right; rw [Int.max_eq_right e]; exact List.mem_cons_self ..
      · left; omega
    · exact .inr (List.mem_cons_of_mem _ h)
theorem maxI_ge {l : List Int} {x : Int} (hx : x ∈ l) : x ≤ maxI l := by
  cases l with
  | nil => simp at hx
  | cons y l =>
    show x ≤ l.foldl max y
    obtain ⟨h1, h2⟩ := foldl_max_ge l y
    rcases List.mem_cons.1 hx with rfl | hx
    · exact h1
    · exact h2 x hx
theorem maxI_in {l : List Int} (h : 0 < l.length) : maxI l ∈ l := by
  cases l with
  | nil => simp at h
  | cons y l =>
    show l.foldl max y ∈ y :: l
    rcases foldl_max_in l y with e | e
    · rw [e]; exact List.mem_cons_self ..
    · exact List.mem_cons_of_mem _ e

/-- Whether some stop cannot be reached. -/
def lone (F : Nat → Nat → Int) (N a : Nat) : Prop := ∃ j, j < N ∧ far ≤ F a j
theorem mem_rowL {n : Nat} {f : Nat → Int} {x : Int} : x ∈ rowL n f ↔ ∃ j, j < n ∧ f j = x := by
  unfold rowL
  simp [List.mem_map, List.mem_range]
theorem lone_max {F : Nat → Nat → Int} {N a : Nat} (hN : 1 ≤ N) : far ≤ maxI (rowL N (F a)) ↔ lone F N a := by
  constructor
  · intro h
    obtain ⟨j, hj, e⟩ := mem_rowL.1 (maxI_in (l := rowL N (F a)) (by rw [rowL_len]; omega))
    exact ⟨j, hj, by omega⟩
  · rintro ⟨j, hj, h⟩
    have := maxI_ge (mem_rowL.2 ⟨j, hj, rfl⟩ : F a j ∈ rowL N (F a))
    omega

set_option maxRecDepth 20000 in
set_option maxHeartbeats 4000000 in
theorem Potentials_bad (vr : Value) (m : MapD) (a : Int) (w : World) (hm : MapR w vr m) (hb : (mapOk m && stopB m.n a) = false) :
    Calls Try.prog 12 #[.agg #[.int .i64 m.n, vr], .int .i64 a] w fun e w' => e = .returned (.tuple #[.slice none 0 0, .int .i64 2]) ∧ Ext w w' := by
  obtain ⟨ao, cap, rfl⟩ := hm.shape
  have HV := hid hm
  have HB := hid hb
  have X0 := hid (Box2.alloc w 31 (.int .i64 m.n) (.slice ao m.roads.length cap))
  clear hm hb
  go_enter Try.func12, Try.ntmps12
  go_wp2_with (fail)
  refine (valid_any _ m _ (MapR.ext HV.out (Ext.ofAlloc _ _))).mono ?_
  rintro e w1 ⟨rfl, he⟩
  have HE := hid ((Ext.ofAlloc w _).trans he)
  obtain ⟨c0, c1⟩ := (X0.out.ext he).cells
  clear he
  cases h1 : mapOk m
  · clear HB
    go_wp2
    go_ret2
    exact ⟨rfl, HE.out⟩
  · have HB1 := HB.out
    rw [h1, Bool.true_and] at HB1
    clear HB h1
    go_wp2_with (fail)
    refine (stop_any _ m a _ (MapR.ext HV.out HE.out)).mono ?_
    rw [HB1]
    rintro e w2 ⟨rfl, he⟩
    replace HE := hid (HE.out.trans he)
    clear he HB1 c0 c1
    go_wp2
    go_ret2
    exact ⟨rfl, HE.out⟩

set_option maxRecDepth 20000 in
set_option maxHeartbeats 4000000 in
theorem Potentials_ok (vr : Value) (N : Nat) (rs : List RoadD) (a : Nat) (w : World) (hv : Roads w vr rs) (hok : mapOk ⟨N, rs⟩ = true) (ha : a < N) :
    Calls Try.prog 12 #[.agg #[.int .i64 N, vr], .int .i64 a] w fun e w' => ∃ v x, e = .returned (.tuple #[v, .int .i64 x]) ∧ Ext w w' ∧
      ((lone (fw (costTo rs) N) N a ∧ v = .slice none 0 0 ∧ x = 4) ∨ (¬ lone (fw (costTo rs) N) N a ∧ Ints w' v (rowL N (fw (costTo rs) N a)) ∧ x = 0)) := by
  obtain ⟨ao, cap, rfl⟩ := hv.shape
  have HV := hid hv
  have hok2 := hok
  unfold mapOk at hok2
  rw [Bool.and_eq_true, decide_eq_true_iff, List.all_eq_true] at hok2
  obtain ⟨⟨h1, h8, h16⟩, hall⟩ := hok2
  dsimp only at h1 h8 h16 hall
  have hN1 : 1 ≤ N := by omega
  have hN8 : N ≤ 8 := by omega
  have HAll := hid hall
  have HOk := hid hok
  have TAB := hid (costs_tab HAll.out)
  have HSA : Hid (stopB N a = true) := by show _ = _; unfold stopB; rw [decide_eq_true_iff]; omega
  have X0 := hid (Box2.alloc w 31 (.int .i64 N) (.slice ao rs.length cap))
  clear hv hok hall
  go_enter Try.func12, Try.ntmps12
  go_wp2_with (fail)
  refine (valid_any _ ⟨N, rs⟩ _ (Roads.ext HV.out (Ext.ofAlloc _ _))).mono ?_
  rw [HOk.out]
  rintro e w1 ⟨rfl, he⟩
  have HE := hid ((Ext.ofAlloc w _).trans he)
  obtain ⟨c0, c1⟩ := (X0.out.ext he).cells
  clear he
  go_wp2_with (fail)
  refine (stop_any _ ⟨N, rs⟩ a _ (Roads.ext HV.out HE.out)).mono ?_
  rw [HSA.out]
  rintro e w2 ⟨rfl, he⟩
  replace HE := hid (HE.out.trans he)
  replace c0 := he.cell c0
  replace c1 := he.cell c1
  clear he
  go_wp2_with (fail)
  refine (distances_any _ N rs _ (Roads.ext HV.out HE.out) hN1 hN8 h16 HAll.out (TAB.out.good (by decide))).mono ?_
  rintro e w3 ⟨v, rfl, hm, he⟩
  obtain ⟨F, hF⟩ : ∃ F, F = fw (costTo rs) N := ⟨_, rfl⟩
  rw [← hF] at hm
  have HFE := hid hF
  obtain ⟨gb, kb, rfl, -⟩ := hm.head (by omega)
  obtain ⟨ga, ca, ia, -⟩ := hm.row ha
  have ca' : w3.cell? ⟨gb, a, none⟩ = some (.slice (some ⟨ga, 0, none⟩) N N) := ca
  have hi : Ints w3 (.slice (some ⟨ga, 0, none⟩) N N) (rowL N (F a)) := ia.ints (by rw [rowL_len]) (by rw [rowL_len]; omega)
  have HI := hid hi
  replace HE := hid (HE.out.trans he)
  clear he hm ca ia hi c0 c1 hF
  go_wp2_with (fail)
  refine (Max_any _ (rowL N (F a)) _ HI.out (by rw [rowL_len]; omega)).mono ?_
  rintro e w4 ⟨rfl, rfl⟩
  by_cases hl : far ≤ maxI (rowL N (F a))
  · have hl2 : 1048576 ≤ maxI (rowL N (F a)) := hl
    have HL := hid ((lone_max hN1).1 hl)
    clear hl ca'
    go_wp2
    go_ret2
    exact ⟨_, _, rfl, HE.out, .inl ⟨by rw [← HFE.out]; exact HL.out, rfl, rfl⟩⟩
  · have hl2 : ¬ 1048576 ≤ maxI (rowL N (F a)) := hl
    have HL := hid (fun h => hl ((lone_max hN1).2 h))
    clear hl ca'
    go_wp2
    go_ret2
    exact ⟨_, _, rfl, HE.out, .inr ⟨by rw [← HFE.out]; exact HL.out, by rw [← HFE.out]; exact HI.out, rfl⟩⟩

end Go.Proofs.Ytkbkgkmogbkabaa
