/-
  The statement TurnsPlaces: its walk.
-/
import Derived.Test.YtkdfbbkonbgfmaaStableTop
namespace Go.Proofs.Ytkdfbbkonbgfmaa
open Go.RowKit
open Mkt (upd cnt Stable)

theorem join_comm_on {M : Mkt.Mk} {μ ν : Nat → Int} (hμ : Stable M μ) (hν : Stable M ν) {h : Nat} (hh : h < M.n) : Mkt.join M μ ν h = Mkt.join M ν μ h := by
  rcases Mkt.join_cases (M := M) μ ν h with ⟨e, a⟩ | ⟨e, a⟩ <;> rcases Mkt.join_cases (M := M) ν μ h with ⟨e', b⟩ | ⟨e', b⟩ <;> rw [e, e']
  · exact Mkt.Matching.inj hμ.m.ok hν.m.ok hh (by omega)
  · omega
theorem join_in {M : Mkt.Mk} {μ ν : Nat → Int} (hμ : Stable M μ) (hν : Stable M ν) {s : Int} (h0 : 0 ≤ s) (hfree : cnt M μ s < M.q s) {x : Nat} (hx : x < M.n) (e : Mkt.join M μ ν x = s) : μ x = s := by
  rcases Mkt.join_cases (M := M) μ ν x with ⟨a, -⟩ | ⟨a, b⟩
  · rw [← a]; exact e
  · rw [a] at e
    have ps : M.pos x s := by
      rcases hν.m.ok x hx with c | c
      · omega
      · rw [e] at c; exact c
    rw [e] at b
    have := hμ.full x hx s ps b
    omega
theorem same_hands {M : Mkt.Mk} {μ ν : Nat → Int} (hμ : Stable M μ) (hν : Stable M ν) {s : Int} (h0 : 0 ≤ s) (h1 : s < M.S) (hfree : cnt M μ s < M.q s) {x : Nat} (hx : x < M.n) (e : μ x = s) : ν x = s := by
  have hc := Mkt.cnt_all hμ hν s h0 h1
  have hj := Mkt.cnt_all (Mkt.join_stable hμ hν) hμ s h0 h1
  have := Mkt.cnt_back (M := M) (μ := Mkt.join M μ ν) (ν := μ) (s := s) (t := s) (fun y hy ey => join_in hμ hν h0 hfree hy ey) (by omega) x hx e
  rw [join_comm_on hμ hν hx] at this
  exact join_in hν hμ h0 (by omega) hx this

/-- So far the same hands. -/
def aliTo (a b : List Int) (s : Int) (k : Nat) : Bool := (List.range k).all (fun h => (fn a h == s) == (fn b h == s))
theorem aliTo_succ (a b : List Int) (s : Int) (k : Nat) : aliTo a b s (k + 1) = (aliTo a b s k && ((fn a k == s) == (fn b k == s))) := by
  unfold aliTo; rw [List.range_succ, List.all_append]; simp
theorem cntTo_b {m : List Int} {k : Nat} {s : Int} {b : Bool} (e : (fn m k == s) = b) : cntTo m (k + 1) s = cntTo m k s + b.toNat := by
  rw [cntTo_succ]
  cases b
  · rw [if_neg (by simpa using e)]; rfl
  · rw [if_pos (by simpa using e)]; rfl
theorem st_none {p : PlanD} {hp : PlanOk p} {a b : List Int} (ha : StL p hp a) (hb : StL p hp b) {h : Nat} (hh : h < p.hands.length) : fn a h < 0 ↔ fn b h < 0 := by
  have key : ∀ {a b : List Int}, StL p hp a → StL p hp b → fn a h < 0 → fn b h < 0 := by
    intro a b ha hb hl
    have e : fn a h = -1 := by
      rcases ha.2.m.ok h hh with c | c
      · exact c
      · have := (mkt p hp).pos_lo _ _ c; omega
    rw [Mkt.none_all ha.2 hb.2 hh e]; omega
  exact ⟨key ha hb, key hb ha⟩
theorem st_cnt {p : PlanD} {hp : PlanOk p} {a b : List Int} (ha : StL p hp a) (hb : StL p hp b) {s : Nat} (hs : s < p.shifts.length) : cntTo a p.hands.length s = cntTo b p.hands.length s := by
  rw [cntTo_all (hp := hp), cntTo_all (hp := hp)]
  exact Mkt.cnt_all ha.2 hb.2 s (by omega) (show (s : Int) < p.shifts.length by omega)
theorem st_alike {p : PlanD} {hp : PlanOk p} {a b : List Int} (ha : StL p hp a) (hb : StL p hp b) {s : Nat} (hs : s < p.shifts.length) (hfree : ((cntTo a p.hands.length s : Nat) : Int) < intAt p.places s) : aliTo a b s p.hands.length = true := by
  have hc := st_cnt ha hb hs
  have hq : (mkt p hp).q s = (intAt p.places s).toNat := rfl
  have hs1 : (s : Int) < p.shifts.length := by omega
  have f1 : cnt (mkt p hp) (fn a) s < (mkt p hp).q s := by rw [← cntTo_all]; omega
  have f2 : cnt (mkt p hp) (fn b) s < (mkt p hp).q s := by rw [← cntTo_all]; omega
  unfold aliTo
  rw [List.all_eq_true]
  intro x hx
  have hx' : x < p.hands.length := List.mem_range.1 hx
  have h1 := same_hands ha.2 hb.2 (s := s) (by omega) hs1 f1 (x := x) hx'
  have h2 := same_hands hb.2 ha.2 (s := s) (by omega) hs1 f2 (x := x) hx'
  by_cases e : fn a x = s
  · have e2 := h1 e
    rw [e, e2]; simp
  · have e1 : (fn a x == (s : Int)) = false := by simpa using e
    have e2 : (fn b x == (s : Int)) = false := by simpa using fun e' => e (h2 e')
    rw [e1, e2]; rfl

set_option maxRecDepth 20000 in
set_option maxHeartbeats 4000000 in
theorem TurnsPlaces_any (vh vs vp : Value) (p : PlanD) (w : World) (hp : PlanR w vh vs vp p) :
    Calls Try.prog 8 #[.agg #[vh, vs, vp]] w fun e w' => e = .returned (.bool true) ∧ Ext w w' := by
  obtain ⟨aoh, caph, aos, caps, aop, capp, rfl, rfl, rfl⟩ := planR_shape hp
  have HP := hid hp
  cases hb : planOk (cutP p)
  · clear hp
    go_enter Try.func8, Try.ntmps8
    go_wp2_with (fail)
    refine (Of_any _ _ _ p _ (HP.out.ext (Ext.ofAlloc _ _))).mono ?_
    rintro e w1 ⟨uh, us, up, rfl, hu, he1⟩
    have Hu := hid hu
    have He1 := hid ((Ext.ofAlloc w _).trans he1)
    clear hu he1
    go_wp2_with (fail)
    refine (Stable_bad _ _ _ _ _ Hu.out.planR hb).mono ?_
    rintro e w2 ⟨rfl, he2⟩
    have He2 := hid (He1.out.trans he2)
    clear he2
    go_wp2_with (fail)
    refine (awake_any _).mono ?_
    rintro e w3 ⟨rfl, he3⟩
    have He3 := hid (He2.out.trans he3)
    clear he3
    go_wp2
    go_ret
    exact ⟨rfl, He3.out⟩
  · have hok := planOk_iff.1 hb
    have hcut := cutP_id hok
    rw [hcut] at hok hb
    have Hok := hid hok
    have Hcut := hid hcut
    have hn1 := hok.h1
    have hn6 := hok.h6
    have hs1 := hok.s1
    have hs4 := hok.s4
    have Hpl := hid hok.pl
    obtain ⟨bp, op, rfl, -⟩ := hp.2.2.at 0 (by omega) (by have := hok.pl; omega)
    clear hp
    clear hok hcut
    go_enter Try.func8, Try.ntmps8
    go_wp2_with (fail)
    refine (Of_any _ _ _ p _ (HP.out.ext (Ext.ofAlloc _ _))).mono ?_
    rintro e w1 ⟨uh, us, up, rfl, hu, he1⟩
    have hb25 := (Box3.alloc w 25 (.slice aoh p.hands.length caph) (.slice aos p.shifts.length caps) (.slice (some ⟨bp, op, none⟩) p.places.length capp)).ext he1
    have Hu := hid hu.planR
    rw [Hcut.out] at Hu
    have He1 := hid ((Ext.ofAlloc w _).trans he1)
    clear hu he1
    go_wp2_with (fail)
    refine (Stable_ok _ _ _ p _ Hu.out Hok.out).mono ?_
    rintro e w2 ⟨ul, rfl, hul, he2⟩
    have hX2 := hb25.ext he2
    have He2 := hid (He1.out.trans he2)
    obtain ⟨L, hL⟩ : ∃ L, L = stAll p Hok.out := ⟨_, rfl⟩
    rw [← hL] at hul
    have hL1 : 0 < L.length := by rw [hL]; exact stAll_pos
    have hL2 : L.length ≤ 15625 := by rw [hL]; exact stAll_le
    have hLm : Hid (∀ k : Nat, k < L.length → StL p Hok.out (rowAt L k)) := fun k hk => mem_stAll.1 (by rw [← hL]; exact rowAt_mem (Int.natCast_nonneg k) (by exact_mod_cast hk))
    have hr := hul.rows2 (by omega)
    obtain ⟨-, aol, capl, rfl, -⟩ := id hr
    obtain ⟨bl, ol, -, -, rfl, -, -⟩ := hr.at 0 (by omega) (by omega)
    have HR := hid hr
    have HX2 := hid hX2
    obtain ⟨c0, c1, c2⟩ := hX2.cells
    have hlz : ((L.length : Int) == 0) = false := beq_eq_false_iff_ne.2 (by omega)
    have Hb := hid hb
    have HL := hid hL
    clear hb25 he2 hul hr hX2 hb hL
    go_wp2_with (fail)
    refine (RValid_any _ _ _ p _ (HP.out.ext He2.out)).mono ?_
    rw [Hb.out]
    rintro e w2v ⟨rfl, he2v⟩
    have HX := hid (HX2.out.ext he2v)
    have HE := hid (He2.out.trans he2v)
    have HRv := hid (HR.out.ext he2v)
    clear he2v c0 c1 c2
    go_wp2
    go_loopg [40] L.length (fun g i wr => ∃ k : Nat, k + g = L.length ∧ i = .int .i64 k ∧ Hid (Ext w2v wr))
    case atStart => exact ⟨0, by omega, rfl, Ext.refl _⟩
    case round =>
      obtain ⟨k, hk, rfl, E0⟩ := hrel
      have hkl : k ≤ L.length := by omega
      have Hk := hid hk
      clear hk
      by_cases hlt : k < L.length
      · obtain ⟨m, hm⟩ : ∃ m, m = rowAt L k := ⟨_, rfl⟩
        obtain ⟨m0, hm0⟩ : ∃ m, m = rowAt L (0 : Nat) := ⟨_, rfl⟩
        have Sm : Hid (StL p Hok.out m) := by rw [hm]; exact hLm.out k hlt
        have Sm0 : Hid (StL p Hok.out m0) := by rw [hm0]; exact hLm.out 0 hL1
        obtain ⟨-, ar, cr, hrow, hri⟩ := HRv.out.row k hlt
        obtain ⟨-, ar0, cr0, hrow0, hri0⟩ := HRv.out.row 0 hL1
        rw [← hm] at hrow hri
        rw [← hm0] at hrow0 hri0
        have hml := Sm.out.1
        have hml0 := Sm0.out.1
        rw [hml] at hrow hri
        rw [hml0] at hrow0 hri0
        rw [Nat.add_zero] at hrow0
        obtain ⟨b, o, rfl, -⟩ := hri.get 0 (by omega)
        obtain ⟨b0, o0, rfl, -⟩ := hri0.get 0 (by omega)
        have dr := hrow _ E0.out
        have dr0 := hrow0 _ E0.out
        obtain ⟨c0, c1, c2⟩ := (HX.out.ext E0.out).cells
        have Hri := hid hri
        have Hri0 := hid hri0
        have Hrow := hid hrow
        have Hrow0 := hid hrow0
        have Hml := hid hml
        have Hml0 := hid hml0
        clear hm hm0 hrow hri hrow0 hri0 hml hml0
        go_wp2
        go_loopg [52] p.hands.length (fun g i wj => ∃ j : Nat, j + g = p.hands.length ∧ i = .int .i64 j ∧ wr = wj)
        case atStart => exact ⟨0, by omega, rfl, rfl⟩
        case round =>
          obtain ⟨j, hj, rfl, rfl⟩ := hrel
          have hjl : j ≤ p.hands.length := by omega
          have Hj := hid hj
          clear hj
          by_cases hjlt : j < p.hands.length
          · have dm := (Hri.out.get' j (by have := Hml.out; omega)).2 _ E0.out
            have dm0 := (Hri0.out.get' j (by have := Hml0.out; omega)).2 _ E0.out
            have hneg := st_none Sm.out Sm0.out hjlt
            have hj1 : (j : Int) < p.hands.length := by omega
            have hL3 : (0 : Int) < L.length := by omega
            by_cases h1 : fn m j < 0
            · have h2 : fn m0 j < 0 := hneg.1 h1
              clear hneg
              go_wp2
              go_roundg (gk - 1)
              case rel => exact ⟨j + 1, by have := Hj.out; omega, by go_num, rfl⟩
              case measure => have := Hj.out; omega
            · have h2 : ¬ fn m0 j < 0 := fun h => h1 (hneg.2 h)
              clear hneg
              go_wp2
              go_roundg (gk - 1)
              case rel => exact ⟨j + 1, by have := Hj.out; omega, by go_num, rfl⟩
              case measure => have := Hj.out; omega
          · go_wp2
            clear hjl Hj hjlt
            go_loopg [71] p.places.length (fun g i wj => ∃ s : Nat, s + g = p.places.length ∧ i = .int .i64 s ∧ Hid (Ext w2v wj))
            case atStart => exact ⟨0, by omega, rfl, E0⟩
            case round =>
              clear dr dr0 c0 c1 c2
              obtain ⟨s, hs, rfl, E1⟩ := hrel
              have hsl : s ≤ p.places.length := by omega
              have Hs := hid hs
              clear hs
              by_cases hslt : s < p.places.length
              · have hs2 : s < p.shifts.length := by have := Hpl.out; omega
                obtain ⟨bp', op', hpe, hpc⟩ := HP.out.2.2.at s (by omega) (by omega)
                simp only [Option.some.injEq, Addr.mk.injEq, and_true] at hpe
                obtain ⟨rfl, rfl⟩ := hpe
                have dp := hpc _ (HE.out.trans E1.out)
                rw [Int.toNat_natCast] at dp
                clear hpc
                go_wp2
                go_loopg [78, 11, 12, 13] p.hands.length (fun g i n1 n2 al wj => ∃ j : Nat, j + g = p.hands.length ∧ i = .int .i64 j ∧ n1 = .int .i64 (cntTo m j s) ∧ n2 = .int .i64 (cntTo m0 j s) ∧ al = .bool (aliTo m m0 s j) ∧ Hid (Ext w2v wj))
                case atStart => exact ⟨0, by omega, rfl, rfl, rfl, rfl, E1⟩
                case round =>
                  clear dp
                  obtain ⟨j, hj, rfl, rfl, rfl, rfl, E2⟩ := hrel
                  have hjl : j ≤ p.hands.length := by omega
                  have Hj := hid hj
                  clear hj
                  by_cases hjlt : j < p.hands.length
                  · have dm := (Hri.out.get' j (by have := Hml.out; omega)).2 _ E2.out
                    have dm0 := (Hri0.out.get' j (by have := Hml0.out; omega)).2 _ E2.out
                    have dr0 := Hrow0.out _ E2.out
                    have hj0 : (0 : Int) ≤ (j : Int) := by omega
                    have hj1 : (j : Int) < p.hands.length := by omega
                    have hL3 : (0 : Int) < L.length := by omega
                    have b1 := cntTo_le m j s
                    have b2 := cntTo_le m0 j s
                    cases e1 : (fn m j == (s : Int)) <;> cases e2 : (fn m0 j == (s : Int)) <;> cases ha : aliTo m m0 s j
                    all_goals
                      have R1 := hid (cntTo_b e1)
                      have R2 := hid (cntTo_b e2)
                      have R3 := hid (aliTo_succ m m0 s j)
                      rw [e1, e2, ha] at R3
                      go_wp2
                      go_quiet (fail)
                      go_wp2
                      go_roundg (gk - 1)
                      case rel => exact ⟨j + 1, by have := Hj.out; omega, by go_num, by rw [R1.out]; simp, by rw [R2.out]; simp, by rw [R3.out]; rfl, E2.out.drewN _⟩
                      case measure => have := Hj.out; omega
                  · obtain rfl : j = p.hands.length := by omega
                    have hcnt := st_cnt Sm.out Sm0.out hs2
                    have Hcnt := hid hcnt
                    rw [← hcnt]
                    clear hcnt
                    have hne : (((cntTo m p.hands.length s : Nat) : Int) != ((cntTo m p.hands.length s : Nat) : Int)) = false := by simp
                    by_cases hfree : ((cntTo m p.hands.length s : Nat) : Int) < intAt p.places s
                    · have hal := st_alike Sm.out Sm0.out hs2 hfree
                      rw [hal]
                      go_wp2
                      go_roundg (p.places.length - (s + 1))
                      case rel => exact ⟨s + 1, by omega, by go_num, E2⟩
                      case measure => have := Hs.out; omega
                    · go_wp2
                      go_roundg (p.places.length - (s + 1))
                      case rel => exact ⟨s + 1, by omega, by go_num, E2⟩
                      case measure => have := Hs.out; omega
              · go_wp2
                go_roundg (L.length - (k + 1))
                case rel => exact ⟨k + 1, by omega, by go_num, E1⟩
                case measure => have := Hk.out; omega
      · go_wp2_with (fail)
        refine (awake_any _).mono ?_
        rintro e w7 ⟨rfl, he7⟩
        have He7 := hid ((HE.out.trans E0.out).trans he7)
        clear he7
        go_wp2
        go_ret
        exact ⟨rfl, He7.out⟩

end Go.Proofs.Ytkdfbbkonbgfmaa
