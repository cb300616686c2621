/-
  Contract of CheckTree.
-/
import Derived.Test.YtkbkgkmogbkabaaDoorTrTree
namespace Go.Proofs.YtkbkgkmogbkabaaDoor
open Go.RowKit

/-- The two values that a list of roads has. -/
def TreeVal (rs : List RoadD) (s : Nat) (l : List Int) (c : Int) (b : Bool) : Prop := (treeP rs s l ∧ c = costL rs l ∧ b = true) ∨ (¬ treeP rs s l ∧ c = 0 ∧ b = false)
theorem TreeVal.ex (rs : List RoadD) (s : Nat) (l : List Int) : ∃ c b, TreeVal rs s l c b := by
  by_cases h : treeP rs s l
  · exact ⟨_, _, .inl ⟨h, rfl, rfl⟩⟩
  · exact ⟨_, _, .inr ⟨h, rfl, rfl⟩⟩
theorem TreeVal.ans {rs : List RoadD} {s : Nat} {l : List Int} {c : Int} {b : Bool} (h : TreeVal rs s l c b) {e : Ending} (ha : TreeAns rs s l e) : e = .returned (.tuple #[.int .i64 c, .bool b]) := by
  rcases h with ⟨h, rfl, rfl⟩ | ⟨h, rfl, rfl⟩ <;> rcases ha with ⟨g, rfl⟩ | ⟨g, rfl⟩
  · rfl
  · exact absurd h g
  · exact absurd g h
  · rfl
theorem incr_lo {rs : List RoadD} {l : List Int} {n : Nat} (h : ∀ k, k < n → okAt rs l k) : ∀ k, k < n → (k : Int) ≤ fn l k := by
  intro k
  induction k with
  | zero => intro hk; exact (h 0 hk).1.1
  | succ k ih =>
    intro hk
    have h1 := ih (by omega)
    have h2 := (h (k + 1) hk).1.2.2 (by omega)
    rw [Nat.add_sub_cancel] at h2
    omega
theorem treeP_len {rs : List RoadD} {s : Nat} {l : List Int} (h : treeP rs s l) : l.length ≤ rs.length := by
  rcases Nat.eq_zero_or_pos l.length with e | e
  · omega
  · have h1 := incr_lo h.1 (l.length - 1) (by omega)
    have h2 := (h.1 (l.length - 1) (by omega)).1.2.1
    omega
theorem treeP_cut {rs : List RoadD} {s : Nat} {l : List Int} (hr : rs.length ≤ 16) {c : Int} {b : Bool} (h : TreeVal rs s l c b) : TreeVal rs s (l.take 18) c b := by
  by_cases hl : l.length ≤ 18
  · rw [List.take_of_length_le hl]; exact h
  · rcases h with ⟨h, -⟩ | ⟨h, r⟩
    · have := treeP_len h; omega
    · refine .inr ⟨fun g => ?_, r⟩
      have := treeP_len g
      rw [List.length_take] at this
      omega

set_option maxRecDepth 20000 in
set_option maxHeartbeats 4000000 in
theorem CheckTree_bad (vr v : Value) (m : MapD) (s : Int) (l : List Int) (w : World) (hm : MapR w vr m) (hl : Ints w v l) (hb : mapOk m = false ∨ (mapOk m = true ∧ stopsB m.n s = false)) :
    Calls Tryd.prog 11 #[.agg #[.int .i64 m.n, vr], .int .i64 s, v] w fun e w' => e = .returned (.tuple #[.int .i64 0, .bool false, .int .i64 2]) ∧ Ext w w' := by
  obtain ⟨ao, cap, rfl⟩ := hm.shape
  obtain ⟨-, am, cm, rfl, -⟩ := hl
  have HV := hid hm
  have X0 := hid (Box2.alloc w 31 (.int .i64 m.n) (.slice ao m.roads.length cap))
  clear hm
  go_enter Tryd.func11, Tryd.ntmps11
  go_wp2_with (fail)
  refine (valid_any _ m _ (MapR.ext HV.out (Ext.ofAlloc _ _))).mono ?_
  rintro e w1 ⟨rfl, he⟩
  have HE := hid ((Ext.ofAlloc w _).trans he)
  obtain ⟨c0, c1⟩ := (X0.out.ext he).cells
  clear he
  rcases hb with h1 | ⟨h1, h2⟩
  · rw [h1]
    clear h1
    go_wp2
    refine bodyPost_ret (v := .tuple #[.int .i64 0, .bool false, .int .i64 2]) (by simp [results, Tryd.results11, go_sem]) rfl ?_
    exact ⟨rfl, HE.out⟩
  · have hok2 := h1
    unfold mapOk at hok2
    rw [Bool.and_eq_true, decide_eq_true_iff] at hok2
    obtain ⟨⟨k1, k8, -⟩, -⟩ := hok2
    rw [h1]
    clear h1
    have HS := hid h2
    clear h2
    go_wp2_with (fail)
    refine (stops_any _ m s _ (MapR.ext HV.out HE.out) (by omega) k8).mono ?_
    rw [HS.out]
    rintro e w2 ⟨rfl, he⟩
    replace HE := hid (HE.out.trans he)
    clear he c0 c1
    go_wp2
    refine bodyPost_ret (v := .tuple #[.int .i64 0, .bool false, .int .i64 2]) (by simp [results, Tryd.results11, go_sem]) rfl ?_
    exact ⟨rfl, HE.out⟩

set_option maxRecDepth 20000 in
set_option maxHeartbeats 4000000 in
theorem CheckTree_ok (vr v : Value) (N : Nat) (rs : List RoadD) (s : Nat) (l : List Int) (w : World) (hv : Roads w vr rs) (hl : Ints w v l) (hok : mapOk ⟨N, rs⟩ = true) (hs : stopsB N s = true) (hTZ : TZ w) {c : Int} {b : Bool} (hcb : TreeVal rs s l c b) :
    Calls Tryd.prog 11 #[.agg #[.int .i64 N, vr], .int .i64 s, v] w fun e w' => e = .returned (.tuple #[.int .i64 c, .bool b, .int .i64 0]) ∧ Ext w w' := by
  obtain ⟨ao, cap, rfl⟩ := hv.shape
  have HL := hid hl
  have HTZ := hid hTZ
  have HCB := hid hcb
  obtain ⟨-, am, cm, rfl, -⟩ := hl
  have HV := hid hv
  have HOk := hid hok
  have HS := hid hs
  have hok2 := hok
  unfold mapOk at hok2
  rw [Bool.and_eq_true, decide_eq_true_iff, List.all_eq_true] at hok2
  obtain ⟨⟨h1, h8, h16⟩, hall⟩ := hok2
  dsimp only at h1 h8 h16 hall
  have HAll := hid hall
  have hs2 := hs
  unfold stopsB at hs2
  rw [decide_eq_true_iff] at hs2
  obtain ⟨s0, sN⟩ := hs2
  have hs0 : 0 < s := by omega
  have hsN : s < 2 ^ N := by
    rw [Int.toNat_natCast] at sN
    exact_mod_cast sN
  have HsN := hid hsN
  have X0 := hid (Box2.alloc w 31 (.int .i64 N) (.slice ao rs.length cap))
  clear hv hok hs hall sN hsN hTZ hcb
  go_enter Tryd.func11, Tryd.ntmps11
  go_wp2_with (fail)
  refine (valid_any _ ⟨N, rs⟩ _ (Roads.ext HV.out (Ext.ofAlloc _ _))).mono ?_
  rw [HOk.out]
  rintro e w1 ⟨rfl, he⟩
  have HE := hid ((Ext.ofAlloc w _).trans he)
  obtain ⟨c0, c1⟩ := (X0.out.ext he).cells
  clear he
  go_wp2_with (fail)
  refine (stops_any _ ⟨N, rs⟩ s _ (Roads.ext HV.out HE.out) (by show (0 : Int) ≤ N; omega) (by show (N : Int) ≤ 8; omega)).mono ?_
  rw [HS.out]
  rintro e w2 ⟨rfl, he⟩
  replace HE := hid (HE.out.trans he)
  replace c0 := he.cell c0
  replace c1 := he.cell c1
  clear he
  go_wp2_with (fail)
  refine (tree_any _ _ N rs l s _ (Roads.ext HV.out HE.out) (HL.out.ext HE.out) HAll.out (by omega) (by omega) hs0 HsN.out (HTZ.out.ext HE.out)).mono ?_
  rintro e w3 ⟨ha, he⟩
  obtain rfl := HCB.out.ans ha
  replace HE := hid (HE.out.trans he)
  clear he c0 c1 ha
  go_wp2
  refine bodyPost_ret (v := .tuple #[.int .i64 c, .bool b, .int .i64 0]) (by simp [results, Tryd.results11, go_sem]) rfl ?_
  exact ⟨rfl, HE.out⟩

end Go.Proofs.YtkbkgkmogbkabaaDoor
