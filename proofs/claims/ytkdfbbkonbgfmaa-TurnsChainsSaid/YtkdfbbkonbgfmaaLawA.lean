/-
  Contracts of the small functions of the statements' own package: list, lists, at.
-/
import Derived.Test.YtkdfbbkonbgfmaaFirst
import Derived.Test.YtkdfbbkonbgfmaaHonest
import Derived.Deep.RegionHeld3
namespace Go.Proofs.Ytkdfbbkonbgfmaa
open Go.RowKit

/-- A slice of slices of the call's own, its rows too. -/
def OwnRows (B : Nat) (w : World) (v : Value) (xss : List (List Int)) : Prop :=
  ∃ us : List Value, w.ownsRow B 23 1 v us.length us ∧ us.length = xss.length ∧ ∀ i, (h1 : i < us.length) → (h2 : i < xss.length) → OwnI B w us[i] xss[i] ∧ xss[i].length ≤ 17592186044416

theorem OwnRows.ext {B : Nat} {w w' : World} {v : Value} {xss : List (List Int)} (h : OwnRows B w v xss) (e : Ext w w') : OwnRows B w' v xss := by
  obtain ⟨us, h1, h2, h3⟩ := h
  exact ⟨us, ownsRow_ext h1 e, h2, fun i a b => ⟨ownsRow_ext (h3 i a b).1 e, (h3 i a b).2⟩⟩
theorem OwnRows.base {B B' : Nat} {w : World} {v : Value} {xss : List (List Int)} (h : OwnRows B w v xss) (hb : B' ≤ B) : OwnRows B' w v xss := by
  obtain ⟨us, h1, h2, h3⟩ := h
  exact ⟨us, ownsRow_base h1 hb, h2, fun i a b => ⟨ownsRow_base (h3 i a b).1 hb, (h3 i a b).2⟩⟩
theorem OwnRows.nil (B : Nat) (w : World) : OwnRows B w (.slice none 0 0) [] := ⟨[], World.ownsRow_nil _ _ _ _, rfl, fun i h _ => by simp at h⟩
theorem OwnRows.rows2 {B : Nat} {w : World} {v : Value} {xss : List (List Int)} (h : OwnRows B w v xss) (hl : xss.length ≤ 5864062014805) : Rows2 w v xss := by
  obtain ⟨us, h1, h2, h3⟩ := h
  refine ⟨hl, ?_⟩
  obtain ⟨h0, h | ⟨g, cap, cur, rfl, hg, hh, hn, hm, hs, ht⟩⟩ := id h1
  · obtain ⟨rfl, hn⟩ := h
    exact ⟨none, 0, by rw [← h2, hn], by omega, fun i hi => by omega⟩
  · refine ⟨_, cap, by rw [h2], by omega, fun i hi => ⟨g, 0, us[i]'(by omega), rfl, ?_, ?_⟩⟩
    · have := World.ownsRow.cellAt h1 i (by omega)
      rw [Nat.zero_add, this]; simp
    · exact OwnI.ints (h3 i (by omega) hi).1 (h3 i (by omega) hi).2
theorem OwnRows.push {B : Nat} {w w' : World} {v' u : Value} {xss : List (List Int)} {xs : List Int} {us : List Value} (h1 : us.length = xss.length)
    (h2 : ∀ i, (h1 : i < us.length) → (h2 : i < xss.length) → OwnI B w us[i] xss[i] ∧ xss[i].length ≤ 17592186044416) (hu : OwnI B w u xs) (hx : xs.length ≤ 17592186044416)
    (hrow : w'.ownsRow B 23 1 v' (us.length + 1) (us ++ [u])) (hkeep : ∀ z zs, OwnI B w z zs → OwnI B w' z zs) : OwnRows B w' v' (xss ++ [xs]) := by
  refine ⟨us ++ [u], by rw [List.length_append]; exact hrow, by simp [h1], fun i a b => ?_⟩
  by_cases hi : i < us.length
  · rw [List.getElem_append_left hi]
    simp only [List.getElem_append_left (show i < xss.length by omega)]
    have := h2 i hi (by omega)
    exact ⟨hkeep _ _ this.1, this.2⟩
  · have e : i = us.length := by simp at a; omega
    subst e
    simp only [List.getElem_append_right (Nat.le_refl _), Nat.sub_self, List.getElem_cons_zero]
    have : (xss ++ [xs])[us.length]'b = xs := by simp [h1]
    rw [this]
    exact ⟨hkeep _ _ hu, hx⟩

/-- A row of ints stays what it is when another kind of row is appended to. -/
theorem ownI_grown {B : Nat} {w w' : World} {v z : Value} {us : List Value} {n : Nat} {o : Obj} {zs : List Int} (hrow : w.ownsRow B 23 1 v n us) (hg : (w.alloc o).grownBy w' v.ownBlock) (h : OwnI B w z zs) : OwnI B w' z zs := by
  have h' : OwnI B (w.alloc o) z zs := World.ownsRow.alloc h o
  refine World.ownsRow.kept h' hg ?_
  obtain ⟨-, ha | ⟨g, cap, cur, rfl, hgB, hh, r⟩⟩ := h
  · left; rw [ha.1]; rfl
  · right
    obtain ⟨-, hb | ⟨g', cap', cur', rfl, hgB', hh', r'⟩⟩ := hrow
    · rw [hb.1]; simp [Value.ownBlock]
    · simp only [Value.ownBlock, ne_eq, Option.some.injEq]
      rintro rfl
      rw [hh] at hh'; simp at hh'


set_option maxHeartbeats 1000000 in
theorem list_any (v : Value) (xs : List Int) (w : World) (hv : Ints w v xs) :
    Calls Try.prog 20 #[v] w fun e w' => ∃ u, e = .returned u ∧ OwnI w.heap.size w' u (xs.take 9) ∧ Ext w w' := by
  obtain ⟨hl, ao, cap, rfl, hcap, hc⟩ := id hv
  have Hv := hid hv
  cases hao : ao with
  | none =>
    have hn : xs = [] := by
      cases xs with
      | nil => rfl
      | cons x xs => obtain ⟨b, off, h, -⟩ := hc 0 (by simp); rw [hao] at h; simp at h
    subst hn
    subst hao
    clear hv hc
    go_enter Try.func20, Try.ntmps20
    go_wp2_with (fail)
    refine (Clone_any _ [] _ (Ints.nil _ _ _)).mono ?_
    rintro e w' ⟨u, rfl, hu, he⟩
    go_wp2
    go_ret
    exact ⟨_, rfl, hu, he⟩
  | some ad =>
    subst hao
    clear hv hc
    by_cases h9 : xs.length ≤ 9
    · have h9' : ¬ (9 : Int) < xs.length := by omega
      have ht : xs.take 9 = xs := List.take_of_length_le h9
      have Ht := hid ht
      have Hv' := hid (Hv.out.take (Nat.le_refl _))
      rw [List.take_of_length_le (Nat.le_refl _)] at Hv'
      clear ht
      go_enter Try.func20, Try.ntmps20
      go_wp2_with (fail)
      refine (Clone_any _ xs _ Hv'.out).mono ?_
      rintro e w' ⟨u, rfl, hu, he⟩
      go_wp2
      go_ret
      exact ⟨_, rfl, by rw [Ht.out]; exact hu, he⟩
    · have h9' : (9 : Int) < xs.length := by omega
      have Hv' := hid (Hv.out.take (k := 9) (by omega))
      have hc9 : 9 ≤ cap := by omega
      go_enter Try.func20, Try.ntmps20
      go_wp2_with (fail)
      refine (Clone_any _ (xs.take 9) _ Hv'.out).mono ?_
      rintro e w' ⟨u, rfl, hu, he⟩
      go_wp2
      go_ret
      exact ⟨_, rfl, hu, he⟩

/-- The place of x in l, 99: it is not there. -/
def atI (l : List Int) (x : Int) : Int := if x ∈ l then (l.idxOf x : Int) else 99
theorem atI_yes {l : List Int} {x : Int} (h : 0 ≤ rankI l x) : atI l x = rankI l x := by unfold atI rankI at *; split <;> simp_all
theorem atI_no {l : List Int} {x : Int} (h : ¬ 0 ≤ rankI l x) : atI l x = 99 := by
  unfold atI rankI at *
  by_cases hx : x ∈ l <;> simp_all

set_option maxHeartbeats 400000 in
theorem at_any (v : Value) (l : List Int) (x : Int) (w : World) (hv : Ints w v l) :
    Calls Try.prog 21 #[v, .int .i64 x] w fun e w' => e = .returned (.int .i64 (atI l x)) ∧ w = w' := by
  obtain ⟨hl, ao, cap, rfl, hcap, hc⟩ := id hv
  have Hv := hid hv
  clear hv hc
  by_cases h : 0 ≤ rankI l x
  · have Hr := hid (atI_yes h)
    go_enter Try.func21, Try.ntmps21
    go_wp2_with (go_at_call 56; refine (Index_any _ l x _ Hv.out).mono ?_; rintro e w' ⟨rfl, rfl⟩)
    go_ret
    exact ⟨ret_int Hr.out.symm, rfl⟩
  · have Hr := hid (atI_no h)
    go_enter Try.func21, Try.ntmps21
    go_wp2_with (go_at_call 56; refine (Index_any _ l x _ Hv.out).mono ?_; rintro e w' ⟨rfl, rfl⟩)
    go_ret
    exact ⟨ret_int Hr.out.symm, rfl⟩

theorem clip_step {xss : List (List Int)} {k : Nat} (hk : k < xss.length) (h8 : k < 8) : cut8 (xss.take (k + 1)) = cut8 (xss.take k) ++ [xss[k].take 9] := by
  unfold cut8
  rw [List.take_of_length_le (l := xss.take (k + 1)) (by simp; omega), List.take_of_length_le (l := xss.take k) (by simp; omega), List.take_succ_eq_append_getElem hk, List.map_append]; rfl
theorem clip_over {xss : List (List Int)} {k : Nat} (h8 : 8 ≤ k) : cut8 (xss.take (k + 1)) = cut8 (xss.take k) := by
  unfold cut8
  rw [List.take_take, List.take_take, Nat.min_eq_left (by omega), Nat.min_eq_left (by omega)]
theorem clip_len (xss : List (List Int)) : (cut8 xss).length ≤ 8 := by unfold cut8; simp; omega

set_option maxHeartbeats 2000000 in
theorem ofLists_any (v : Value) (xss : List (List Int)) (w : World) (hv : Rows2 w v xss) :
    Calls Try.prog 54 #[v] w fun e w' => ∃ u, e = .returned u ∧ OwnRows w.heap.size w' u (cut8 xss) ∧ Ext w w' := by
  obtain ⟨hl, ao, cap, rfl, hcap, hc⟩ := hv
  obtain ⟨i0, hi, hz0, hz1, hz2⟩ := info_parts info_ints
  go_enter Try.func54, Try.ntmps54
  go_wp2
  go_loopg [8, 3] xss.length (fun g i v wr => ∃ k : Nat, k + g = xss.length ∧ i = .int .i64 k ∧ Hid (OwnRows w.heap.size wr v (cut8 (xss.take k))) ∧ Hid (Ext w wr))
  case atStart => exact ⟨0, by omega, rfl, OwnRows.nil _ _, Ext.refl _⟩
  case round =>
    obtain ⟨k, hk, rfl, hown, hex⟩ := hrel
    have hkl : k ≤ xss.length := by omega
    have Hk := hid hk
    clear hk
    by_cases hlt : k < xss.length
    · obtain ⟨b, off, x, rfl, hcell, hx⟩ := hc k hlt
      have hcell' := hex.out.cell hcell
      obtain ⟨hlr, ar, cr, rfl, hcr, -⟩ := id hx
      have Hx := hid hx
      have hsz := hex.out.size
      clear hx
      by_cases h8 : k < 8
      · have h8' : (k : Int) < 8 := by omega
        go_wp2_with (fail)
        refine (list_any _ _ _ (Hx.out.ext hex.out)).mono ?_
        rintro e w1 ⟨u1, rfl, hu1, he1⟩
        have hsz1 := he1.size
        obtain ⟨us, h1, h2, h3⟩ := hown.out.ext he1
        have H1 := hid h1
        have H3 := hid h3
        have Hu1 := hid (ownsRow_base hu1 hsz : OwnI w.heap.size w1 u1 _)
        have He1 := hid he1
        have hcl := clip_len (xss.take k)
        have Hs := hid (clip_step hlt h8)
        obtain ⟨ua, un, uc, rfl⟩ : ∃ a n c, u1 = .slice a n c := by
          obtain ⟨-, ⟨h, -⟩ | ⟨g, cap, cur, h, -⟩⟩ := hu1 <;> exact ⟨_, _, _, h⟩
        clear h1 h3 hu1 he1
        go_wp2_with (at_builtin; refine wpList_append_own _ rfl _ _ 22 rfl w.heap.size 23 i0 (.slice none 0 0) 1 24 Try.underlying22 hi hz0 hz1 hz2 rfl (by decide) _ _ _ rfl (H1.out.alloc _) ⟨w1.heap.size, 0, none⟩ 1 1 [.slice ua un uc] rfl rfl ?c1 ?c2 ?c3 ?c4 ?c5 ?_)
        case c1 => exact cell_one_new _ _ _
        case c2 => intro u hu; simp at hu; subst hu; rfl
        case c3 => unfold maxLen; omega
        case c4 => omega
        case c5 => simp; omega
        intro v' w' hown' hg _
        have hE := Ext.push (hex.out.trans He1.out) H1.out (Nat.le_refl _) hg
        rw [← h2] at hown'
        have hR := OwnRows.push (xs := xss[k].take 9) h2 H3.out Hu1.out (by simp; omega) hown' (fun z zs h => ownI_grown H1.out hg h)
        rw [← Hs.out] at hR
        have HR := hid hR
        have HE := hid hE
        clear hown' hg hR hE
        go_wp2
        go_roundg (gk - 1)
        case rel => exact ⟨k + 1, by have := Hk.out; omega, by go_num, HR, HE⟩
        case measure => have := Hk.out; omega
      · have h8' : ¬ (k : Int) < 8 := by omega
        have Hs := hid (clip_over (xss := xss) (show 8 ≤ k by omega))
        go_wp2
        go_roundg (gk - 1)
        case rel => exact ⟨k + 1, by have := Hk.out; omega, by go_num, by rw [Hs.out]; exact hown, hex⟩
        case measure => have := Hk.out; omega
    · have Hs := hid (show cut8 (xss.take k) = cut8 xss by rw [List.take_of_length_le (by omega)])
      go_wp2
      go_ret
      exact ⟨_, rfl, by rw [← Hs.out]; exact hown.out, hex.out⟩

theorem OwnRows.shape {B : Nat} {w : World} {v : Value} {xss : List (List Int)} (h : OwnRows B w v xss) : ∃ a n c, v = .slice a n c := by
  obtain ⟨us, ⟨-, ⟨h, -⟩ | ⟨g, cap, cur, h, -⟩⟩, -⟩ := h <;> exact ⟨_, _, _, h⟩
theorem own_shape {B e sz n : Nat} {w : World} {v : Value} {xs : List Value} (h : w.ownsRow B e sz v n xs) : ∃ a n c, v = .slice a n c := by
  obtain ⟨-, ⟨h, -⟩ | ⟨g, cap, cur, h, -⟩⟩ := h <;> exact ⟨_, _, _, h⟩
theorem Box3.free {w : World} {b : Nat} {t : TypeId} {v0 v1 v2 : Value} (h : Box3 w b t v0 v1 v2) (i : Nat) : w.frozen? ⟨b, i, none⟩ = false := by
  have h' : w.heap[b]? = some (.cells #[v0, v1, v2] t (0, 0)) := h
  simp [World.frozen?, h']
theorem frozen_ext {w w' : World} {a : Addr} {u : Value} (e : Ext w w') (hc : w.cell? a = some u) (hf : w.frozen? a = false) : w'.frozen? a = false := by
  rw [e.frozen (World.block_lt_of_cell? _ _ hc)]; exact hf

theorem OwnRows.setBelow {B : Nat} {w : World} {v : Value} {xss : List (List Int)} (h : OwnRows B w v xss) {b : Nat} (hb : b < B) (i : Nat) (u : Value) : OwnRows B (w.setCell ⟨b, i, none⟩ u) v xss := by
  obtain ⟨us, h1, h2, h3⟩ := h
  exact ⟨us, ownsRow_setCell_below h1 (a := ⟨b, i, none⟩) hb u, h2, fun j a c => ⟨ownsRow_setCell_below (h3 j a c).1 (a := ⟨b, i, none⟩) hb u, (h3 j a c).2⟩⟩
theorem OwnRows.lt {B : Nat} {w : World} {v : Value} {xss : List (List Int)} (h : OwnRows B w v xss) : ∀ k, v.ownBlock = some k → B ≤ k ∧ k < w.heap.size := by
  obtain ⟨us, h1, -⟩ := h
  exact h1.lt

/-- A plan in memory of the call's own; what its hands lie in is apart from the rest. -/
def OwnPlan (B : Nat) (w : World) (uh us up : Value) (p : PlanD) : Prop :=
  OwnRows B w uh p.hands ∧ ∃ C, B ≤ C ∧ (∀ k, uh.ownBlock = some k → k < C) ∧ OwnRows C w us p.shifts ∧ OwnI C w up p.places
theorem OwnPlan.planR {B : Nat} {w : World} {uh us up : Value} {p : PlanD} (h : OwnPlan B w uh us up (cutP p)) : PlanR w uh us up (cutP p) := by
  obtain ⟨h1, C, -, -, h2, h3⟩ := h
  exact ⟨h1.rows2 (by have := clip_len p.hands; show (cut8 p.hands).length ≤ _; omega), h2.rows2 (by have := clip_len p.shifts; show (cut8 p.shifts).length ≤ _; omega), OwnI.ints h3 (by show (p.places.take 9).length ≤ _; simp; omega)⟩
theorem OwnPlan.setBelow {B : Nat} {w : World} {uh us up : Value} {p : PlanD} (h : OwnPlan B w uh us up p) {b : Nat} (hb : b < B) (i : Nat) (u : Value) : OwnPlan B (w.setCell ⟨b, i, none⟩ u) uh us up p := by
  obtain ⟨h1, C, hC, hk, h2, h3⟩ := h
  exact ⟨h1.setBelow hb i u, C, hC, hk, h2.setBelow (by omega) i u, ownsRow_setCell_below h3 (a := ⟨b, i, none⟩) (by show b < C; omega) u⟩
theorem OwnPlan.base {B B' : Nat} {w : World} {uh us up : Value} {p : PlanD} (h : OwnPlan B w uh us up p) (hb : B' ≤ B) : OwnPlan B' w uh us up p := by
  obtain ⟨h1, C, hC, hk, h2⟩ := h
  exact ⟨h1.base hb, C, by omega, hk, h2⟩
theorem OwnPlan.ext {B : Nat} {w w' : World} {uh us up : Value} {p : PlanD} (h : OwnPlan B w uh us up p) (e : Ext w w') : OwnPlan B w' uh us up p := by
  obtain ⟨h1, C, hC, hk, h2, h3⟩ := h
  exact ⟨h1.ext e, C, hC, hk, h2.ext e, ownsRow_ext h3 e⟩

/-- One row of a slice of slices of the call's own is turned. -/
theorem OwnRows.set {B : Nat} {w : World} {g n cap : Nat} {u : Value} {xss : List (List Int)} {l : List Int} (h : OwnRows B w (.slice (some ⟨g, 0, none⟩) n cap) xss) {x : Nat} (hx : x < xss.length) (hu : OwnI B w u l) (hl : l.length ≤ 17592186044416) :
    OwnRows B (w.setCell ⟨g, x, none⟩ u) (.slice (some ⟨g, 0, none⟩) n cap) (xss.set x l) ∧ (∃ v, w.cell? ⟨g, x, none⟩ = some v) ∧ w.frozen? ⟨g, x, none⟩ = false ∧ n = xss.length := by
  obtain ⟨us, h1, h2, h3⟩ := h
  have hn : n = us.length := by
    obtain ⟨-, ⟨h, -⟩ | ⟨g', cap', cur, h, -⟩⟩ := id h1 <;> simp at h
    exact h.2.1
  subst hn
  have keep : ∀ z zs, OwnI B w z zs → OwnI B (w.setCell ⟨g, x, none⟩ u) z zs := by
    intro z zs hz
    refine ownsRow_setCell_other hz (a := ⟨g, x, none⟩) ?_ u
    obtain ⟨-, ha | ⟨g1, cap1, cur1, rfl, -, hh1, -⟩⟩ := hz
    · rw [ha.1]; simp [Value.ownBlock]
    · obtain ⟨-, hb | ⟨g2, cap2, cur2, hv, -, hh2, -⟩⟩ := h1
      · simp at hb
      · simp only [Value.slice.injEq, Option.some.injEq, Addr.mk.injEq, and_true, true_and] at hv
        obtain ⟨rfl, rfl⟩ := hv
        simp only [Value.ownBlock, ne_eq, Option.some.injEq]
        rintro rfl
        rw [hh1] at hh2; simp at hh2
  have hst := (World.ownsRow.stored h1 x u).1
  have hcell := World.ownsRow.cellAt h1 x (by omega)
  refine ⟨⟨us.set x u, by rw [List.length_set]; exact hst, by rw [List.length_set, List.length_set]; exact h2, fun i a b => ?_⟩, ⟨_, hcell.trans (List.getElem?_eq_getElem (by omega))⟩, World.ownsRow.frozenAt h1 x, h2⟩
  rw [List.getElem_set, List.getElem_set]
  split
  · exact ⟨keep _ _ hu, hl⟩
  · have := h3 i (by simpa using a) (by simpa using b)
    exact ⟨keep _ _ this.1, this.2⟩
theorem OwnRows.head {B : Nat} {w : World} {v : Value} {xss : List (List Int)} (h : OwnRows B w v xss) (hne : 0 < xss.length) : ∃ g cap, v = .slice (some ⟨g, 0, none⟩) xss.length cap ∧ B ≤ g ∧ g < w.heap.size := by
  obtain ⟨us, h1, h2, h3⟩ := h
  obtain ⟨-, ⟨-, hn⟩ | ⟨g, cap, cur, hv, hg, hh, -⟩⟩ := h1
  · omega
  · exact ⟨g, cap, by rw [hv, h2], hg, lt_of_block hh⟩

end Go.Proofs.Ytkdfbbkonbgfmaa
