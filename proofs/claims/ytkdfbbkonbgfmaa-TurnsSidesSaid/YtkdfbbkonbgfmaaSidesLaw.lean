/-
  The statement TurnsSides: its walk.
-/
import Derived.Test.YtkdfbbkonbgfmaaGood
import Derived.Test.YtkdfbbkonbgfmaaSort
import Derived.Maps.AppendAt
namespace Go.Proofs.Ytkdfbbkonbgfmaa
open Go.RowKit

/-- Two rows of the call's own lie apart. -/
def Apart (v u : Value) : Prop := ∀ g, v.ownBlock = some g → u.ownBlock ≠ some g
theorem Apart.symm {v u : Value} (h : Apart v u) : Apart u v := fun g hu hv => h g hv hu
theorem kept_apart {B e sz n : Nat} {w w' : World} {v u : Value} {xs : List Value} (h : w.ownsRow B e sz u n xs) (ha : Apart v u) (hg : w.grownBy w' v.ownBlock) : w'.ownsRow B e sz u n xs := by
  refine World.ownsRow.kept h hg ?_
  cases hu : u.ownBlock with
  | none => exact .inl rfl
  | some g => exact .inr (fun e => ha g e.symm hu)
theorem apart_push {B e sz n : Nat} {w : World} {v v' u : Value} {xs : List Value} (h : w.ownsRow B e sz u n xs) (ha : Apart v u) (hat : v'.ownBlock = v.ownBlock ∨ v'.ownBlock = some (w.heap.size + 1)) : Apart v' u := by
  intro g hv hu
  rcases hat with e | e
  · exact ha g (e ▸ hv) hu
  · rw [e] at hv
    have := (h.lt g hu).2
    simp only [Option.some.injEq] at hv
    omega
theorem at_rank {p : PlanD} {hp : PlanOk p} {m : List Int} (hm : StL p hp m) {k s : Nat} (hk : k < p.hands.length) (e : fn m k = s) : atI (rowAt p.shifts s) k = rankP (rowAt p.shifts s) k := by
  have hmem : (k : Int) ∈ rowAt p.shifts s := by
    rcases hm.2.m.ok k hk with c | c
    · omega
    · rw [e] at c; exact (possB_iff.1 c).2
  rw [rankP_mem hmem]; unfold atI; rw [if_pos hmem]
theorem ranksTo_all {p : PlanD} {m : List Int} {s : Int} {k : Nat} : (ranksTo p m s k).length ≤ k := ranksTo_len

set_option maxRecDepth 20000 in
set_option maxHeartbeats 4000000 in
theorem TurnsSides_any (vh vs vp : Value) (p : PlanD) (w : World) (hp : PlanR w vh vs vp p) :
    Calls Try.prog 12 #[.agg #[vh, vs, vp]] w fun e w' => e = .returned (.bool true) ∧ Ext w w' := by
  obtain ⟨aoh, caph, aos, caps, aop, capp, rfl, rfl, rfl⟩ := planR_shape hp
  have HP := hid hp
  have X0 := Box3.alloc w 25 (.slice aoh p.hands.length caph) (.slice aos p.shifts.length caps) (.slice aop p.places.length capp)
  clear hp
  cases hb : planOk (cutP p)
  · have hbp : planOk p = false := by rw [← planOk_cut]; exact hb
    go_enter Try.func12, Try.ntmps12
    go_wp2_with (fail)
    refine (Of_any _ _ _ p _ (HP.out.ext (Ext.ofAlloc w _))).mono ?_
    rintro e w1 ⟨uh, us, up, rfl, hu, he1⟩
    have X1 := hid (X0.ext he1)
    have E1 := hid ((Ext.ofAlloc w _).trans he1)
    clear he1
    obtain ⟨c0, c1, c2⟩ := X1.out.cells
    have HU := hid hu
    clear hu
    go_wp2_with (fail)
    refine (Stable_bad _ _ _ _ _ HU.out.planR hb).mono ?_
    rintro e w2 ⟨rfl, he2⟩
    clear c0 c1 c2
    have X2 := hid (X1.out.ext he2)
    have E2 := hid (E1.out.trans he2)
    clear he2
    obtain ⟨c0, c1, c2⟩ := X2.out.cells
    go_wp2_with (fail)
    refine (awake_any _).mono ?_
    rintro e w3 ⟨rfl, he3⟩
    clear c0 c1 c2
    have E3 := hid (E2.out.trans he3)
    clear he3
    go_wp2
    go_ret
    exact ⟨rfl, E3.out⟩
  · have hok := planOk_iff.1 hb
    have hcut := cutP_id hok
    rw [hcut] at hok hb
    have Hok := hid hok
    have Hcut := hid hcut
    have Hb := hid hb
    have hn1 := hok.h1
    have hn6 := hok.h6
    have hs1 := hok.s1
    have hs4 := hok.s4
    clear hok hcut hb
    obtain ⟨bs, os, -, -, rfl, -, -⟩ := HP.out.2.1.at 0 (by omega) (by omega)
    obtain ⟨i0, hi, hz0, hz1, hz2⟩ := info_parts info_int
    go_enter Try.func12, Try.ntmps12
    go_wp2_with (fail)
    refine (Of_any _ _ _ p _ (HP.out.ext (Ext.ofAlloc w _))).mono ?_
    rintro e w1 ⟨uh, us, up, rfl, hu, he1⟩
    have X1 := hid (X0.ext he1)
    have E1 := hid ((Ext.ofAlloc w _).trans he1)
    clear he1
    obtain ⟨c0, c1, c2⟩ := X1.out.cells
    have HU := hid hu.planR
    rw [Hcut.out] at HU
    clear hu
    go_wp2_with (fail)
    refine (Stable_ok _ _ _ p _ HU.out Hok.out).mono ?_
    rintro e w2 ⟨ul, rfl, hul, he2⟩
    obtain ⟨L, hL⟩ : ∃ L, L = stAll p Hok.out := ⟨_, rfl⟩
    rw [← hL] at hul
    have hL1 : 0 < L.length := by rw [hL]; exact stAll_pos
    have hL2 : L.length ≤ 15625 := by rw [hL]; exact stAll_le
    have hLs : Hid (∀ k : Nat, k < L.length → StL p Hok.out (rowAt L k)) := fun k hk => mem_stAll.1 (show rowAt L k ∈ stAll p Hok.out by rw [← hL]; exact rowAt_mem (Int.natCast_nonneg k) (by exact_mod_cast hk))
    have hr := hul.rows2 (by omega)
    obtain ⟨-, aol, capl, rfl, -⟩ := id hr
    obtain ⟨bL, oL, -, -, rfl, -, -⟩ := hr.at 0 (by omega) (by omega)
    clear hul hL
    clear c0 c1 c2
    have X2 := hid (X1.out.ext he2)
    have E2 := hid (E1.out.trans he2)
    clear he2
    obtain ⟨c0, c1, c2⟩ := X2.out.cells
    have R_2 := hid (hr)
    clear hr
    go_wp2_with (fail)
    refine (RValid_any _ _ _ p _ (HP.out.ext E2.out)).mono ?_
    rw [Hb.out]
    rintro e W ⟨rfl, he3⟩
    clear c0 c1 c2
    have X3 := hid (X2.out.ext he3)
    have R_3 := hid (R_2.out.ext he3)
    have E3 := hid (E2.out.trans he3)
    clear he3
    obtain ⟨c0, c1, c2⟩ := X3.out.cells
    have HXW := hid X3.out
    have HRW := hid R_3.out
    have HEW := hid E3.out
    clear c0 c1 c2
    go_wp2
    go_loopg [34] L.length (fun g i wr => ∃ k : Nat, k + g = L.length ∧ i = .int .i64 k ∧ Hid (Ext W wr))
    case atStart => exact ⟨0, by omega, rfl, Ext.refl _⟩
    case round =>
      obtain ⟨i, hk, rfl, E⟩ := hrel
      have hkl : i ≤ L.length := by omega
      have Hk := hid hk
      clear hk
      by_cases hlt : i < L.length
      · obtain ⟨-, ari, cri, hrowi, hrii⟩ := HRW.out.row i hlt
        have di := hrowi _ E.out
        obtain ⟨a, ha⟩ : ∃ a, a = rowAt L i := ⟨_, rfl⟩
        have Sa : Hid (StL p Hok.out a) := by rw [ha]; exact hLs.out i hlt
        rw [← ha] at di hrii
        have hla := Sa.out.1
        rw [hla] at di hrii
        have HA := hid hrii
        obtain ⟨ba, oa, rfl, -⟩ := hrii.get 0 (by omega)
        have Hla := hid hla
        clear hrowi hrii ha hla
        go_wp2
        clear di
        go_loopg [40] L.length (fun g i2 wr => ∃ j : Nat, j + g = L.length ∧ i2 = .int .i64 j ∧ Hid (Ext W wr))
        case atStart => exact ⟨0, by omega, rfl, E⟩
        case round =>
          clear E
          obtain ⟨j, hj, rfl, E⟩ := hrel
          have hjl : j ≤ L.length := by omega
          have Hj := hid hj
          clear hj
          by_cases hjlt : j < L.length
          · obtain ⟨-, arj, crj, hrowj, hrij⟩ := HRW.out.row j hjlt
            have dj := hrowj _ E.out
            obtain ⟨b, hb⟩ : ∃ b, b = rowAt L j := ⟨_, rfl⟩
            have Sb : Hid (StL p Hok.out b) := by rw [hb]; exact hLs.out j hjlt
            rw [← hb] at dj hrij
            have hlb := Sb.out.1
            rw [hlb] at dj hrij
            have HB := hid hrij
            obtain ⟨bb, ob, rfl, -⟩ := hrij.get 0 (by omega)
            have Hlb := hid hlb
            obtain ⟨c0, c1, c2⟩ := (HXW.out.ext E.out).cells
            have hnn : ((p.hands.length : Int) != (p.hands.length : Int)) = false := by simp
            clear hrowj hrij hb hlb
            go_wp2_with (fail)
            refine (good_any _ _ _ _ _ p Hok.out a b _ (HP.out.ext (HEW.out.trans E.out)) (HA.out.ext E.out) (HB.out.ext E.out) Hla.out Hlb.out).mono ?_
            cases hle : leB p a b
            · rintro e w5 ⟨rfl, he5⟩
              have E5 := hid (E.out.trans he5)
              clear he5 dj c0 c1 c2
              go_wp2
              go_roundg (gk - 1)
              case rel => exact ⟨j + 1, by have := Hj.out; omega, by go_num, E5⟩
              case measure => have := Hj.out; omega
            · rintro e w5 ⟨rfl, he5⟩
              have E5 := hid (E.out.trans he5)
              have Hle := hid (leB_iff.1 hle)
              clear he5 dj c0 c1 c2
              obtain ⟨c0, c1, c2⟩ := (HXW.out.ext E5.out).cells
              go_wp2
              clear c0 c1 c2
              go_loopg [65] p.shifts.length (fun g i3 wr => ∃ s : Nat, s + g = p.shifts.length ∧ i3 = .int .i64 s ∧ Hid (Ext W wr))
              case atStart => exact ⟨0, by omega, rfl, E5⟩
              case round =>
                obtain ⟨s, hs, rfl, E6⟩ := hrel
                have hsl : s ≤ p.shifts.length := by omega
                have Hs := hid hs
                clear hs
                by_cases hslt : s < p.shifts.length
                · obtain ⟨-, ars, crs, hrows, hris⟩ := HP.out.2.1.row s hslt
                  have HRs := hid hris
                  have HRows := hid hrows
                  clear hrows hris
                  go_wp2
                  go_loopg [70, 10, 11] p.hands.length (fun g i4 vx vy wr => ∃ h : Nat, h + g = p.hands.length ∧ i4 = .int .i64 h ∧ Hid (OwnI W.heap.size wr vx (ranksTo p a s h)) ∧ Hid (OwnI W.heap.size wr vy (ranksTo p b s h)) ∧ Hid (Apart vx vy) ∧ Hid (Ext W wr))
                  case atStart => exact ⟨0, by omega, rfl, World.ownsRow_nil _ _ _ _, World.ownsRow_nil _ _ _ _, fun g h => by simp [Value.ownBlock] at h, E6⟩
                  case round =>
                    obtain ⟨h, hh, rfl, OX, OY, AP, E7⟩ := hrel
                    have hhl : h ≤ p.hands.length := by omega
                    have Hh := hid hh
                    clear hh
                    by_cases hhlt : h < p.hands.length
                    · have da := (HA.out.get' h (by have := Hla.out; omega)).2 _ E7.out
                      have db := (HB.out.get' h (by have := Hlb.out; omega)).2 _ E7.out
                      have ds := HRows.out _ (HEW.out.trans E7.out)
                      obtain ⟨c0, c1, c2⟩ := (HXW.out.ext E7.out).cells
                      have hsz := E7.out.size
                      have hs1 : (s : Int) < p.shifts.length := by omega
                      have hrx := ranksTo_all (p := p) (m := a) (s := (s : Int)) (k := h)
                      have hry := ranksTo_all (p := p) (m := b) (s := (s : Int)) (k := h)
                      cases e1 : (fn a h == (s : Int))
                      · have Rx := hid (ranksTo_no (p := p) (m := a) (s := (s : Int)) (k := h) (by simpa using e1))
                        cases e2 : (fn b h == (s : Int))
                        · have Ry := hid (ranksTo_no (p := p) (m := b) (s := (s : Int)) (k := h) (by simpa using e2))
                          go_wp2
                          go_roundg (gk - 1)
                          case rel => exact ⟨h + 1, by have := Hh.out; omega, by go_num, by rw [Rx.out]; exact OX.out, by rw [Ry.out]; exact OY.out, AP, E7⟩
                          case measure => have := Hh.out; omega
                        · skip
                          have Q := hid AP.out.symm
                          have hRy := ranksTo_yes (p := p) (m := b) (s := (s : Int)) (k := h) (by simpa using e2)
                          have hAy := at_rank Sb.out (k := h) (s := s) hhlt (by simpa using e2)
                          go_wp2_with (fail)
                          refine (at_any _ _ _ _ (HRs.out.ext (HEW.out.trans E7.out))).mono ?_
                          rw [hAy]
                          rintro e w' ⟨rfl, rfl⟩
                          go_wp2_with (at_builtin; go_must (refine wpList_append_own_at _ rfl _ _ 23 rfl W.heap.size 3 i0 (.int .i64 0) 1 8 Try.underlying23 hi hz0 hz1 hz2 rfl (by decide) _ _ _ rfl (OY.out.alloc _) ⟨wr.heap.size, 0, none⟩ 1 1 [.int .i64 (rankP (rowAt p.shifts s) h)] rfl rfl (cell_one_new _ _ _) (by intro u hu; simp at hu; subst hu; rfl) (by unfold maxLen; omega) (by omega) (by simp; omega) ?_))
                          intro vy wy hown' hg _ hat
                          have hN := OwnI.push rfl hown'
                          rw [← hRy] at hN
                          have hE := Ext.push E7.out OY.out (Nat.le_refl _) hg
                          have hK := kept_apart (World.ownsRow.alloc OX.out (.cells #[.int .i64 (rankP (rowAt p.shifts s) h)] 3)) Q.out hg
                          have hP := apart_push OX.out Q.out hat
                          have Ny := hid hN
                          have Ey := hid hE
                          have Ky := hid hK
                          have Py := hid hP
                          clear hown' hg hat hN hE hK hP hAy hRy
                          clear da db ds c0 c1 c2
                          go_wp2
                          go_roundg (gk - 1)
                          case rel => exact ⟨h + 1, by have := Hh.out; omega, by go_num, by rw [Rx.out]; exact Ky.out, Ny.out, hid (Py.out.symm), Ey⟩
                          case measure => have := Hh.out; omega
                      · skip
                        have hRx := ranksTo_yes (p := p) (m := a) (s := (s : Int)) (k := h) (by simpa using e1)
                        have hAx := at_rank Sa.out (k := h) (s := s) hhlt (by simpa using e1)
                        go_wp2_with (fail)
                        refine (at_any _ _ _ _ (HRs.out.ext (HEW.out.trans E7.out))).mono ?_
                        rw [hAx]
                        rintro e w' ⟨rfl, rfl⟩
                        go_wp2_with (at_builtin; go_must (refine wpList_append_own_at _ rfl _ _ 23 rfl W.heap.size 3 i0 (.int .i64 0) 1 8 Try.underlying23 hi hz0 hz1 hz2 rfl (by decide) _ _ _ rfl (OX.out.alloc _) ⟨wr.heap.size, 0, none⟩ 1 1 [.int .i64 (rankP (rowAt p.shifts s) h)] rfl rfl (cell_one_new _ _ _) (by intro u hu; simp at hu; subst hu; rfl) (by unfold maxLen; omega) (by omega) (by simp; omega) ?_))
                        intro vx wx hown' hg _ hat
                        have hN := OwnI.push rfl hown'
                        rw [← hRx] at hN
                        have hE := Ext.push E7.out OX.out (Nat.le_refl _) hg
                        have hK := kept_apart (World.ownsRow.alloc OY.out (.cells #[.int .i64 (rankP (rowAt p.shifts s) h)] 3)) AP.out hg
                        have hP := apart_push OY.out AP.out hat
                        have Nx := hid hN
                        have Ex := hid hE
                        have Kx := hid hK
                        have Px := hid hP
                        clear hown' hg hat hN hE hK hP hAx hRx
                        clear da db ds c0 c1 c2
                        have db := (HB.out.get' h (by have := Hlb.out; omega)).2 _ Ex.out
                        have ds := HRows.out _ (HEW.out.trans Ex.out)
                        obtain ⟨c0, c1, c2⟩ := (HXW.out.ext Ex.out).cells
                        have hszx := Ex.out.size
                        cases e2 : (fn b h == (s : Int))
                        · have Ry := hid (ranksTo_no (p := p) (m := b) (s := (s : Int)) (k := h) (by simpa using e2))
                          go_wp2
                          go_roundg (gk - 1)
                          case rel => exact ⟨h + 1, by have := Hh.out; omega, by go_num, Nx.out, by rw [Ry.out]; exact Kx.out, Px, Ex⟩
                          case measure => have := Hh.out; omega
                        · skip
                          have Qx := hid Px.out.symm
                          have hRy := ranksTo_yes (p := p) (m := b) (s := (s : Int)) (k := h) (by simpa using e2)
                          have hAy := at_rank Sb.out (k := h) (s := s) hhlt (by simpa using e2)
                          go_wp2_with (fail)
                          refine (at_any _ _ _ _ (HRs.out.ext (HEW.out.trans Ex.out))).mono ?_
                          rw [hAy]
                          rintro e w' ⟨rfl, rfl⟩
                          go_wp2_with (at_builtin; go_must (refine wpList_append_own_at _ rfl _ _ 23 rfl W.heap.size 3 i0 (.int .i64 0) 1 8 Try.underlying23 hi hz0 hz1 hz2 rfl (by decide) _ _ _ rfl (Kx.out.alloc _) ⟨wx.heap.size, 0, none⟩ 1 1 [.int .i64 (rankP (rowAt p.shifts s) h)] rfl rfl (cell_one_new _ _ _) (by intro u hu; simp at hu; subst hu; rfl) (by unfold maxLen; omega) (by omega) (by simp; omega) ?_))
                          intro vy wy hown' hg _ hat
                          have hN := OwnI.push rfl hown'
                          rw [← hRy] at hN
                          have hE := Ext.push Ex.out Kx.out (Nat.le_refl _) hg
                          have hK := kept_apart (World.ownsRow.alloc Nx.out (.cells #[.int .i64 (rankP (rowAt p.shifts s) h)] 3)) Qx.out hg
                          have hP := apart_push Nx.out Qx.out hat
                          have Ny := hid hN
                          have Ey := hid hE
                          have Ky := hid hK
                          have Py := hid hP
                          clear hown' hg hat hN hE hK hP hAy hRy
                          clear db ds c0 c1 c2
                          go_wp2
                          go_roundg (gk - 1)
                          case rel => exact ⟨h + 1, by have := Hh.out; omega, by go_num, Ky.out, Ny.out, hid (Py.out.symm), Ey⟩
                          case measure => have := Hh.out; omega
                    · obtain rfl : h = p.hands.length := by omega
                      have hsd := sides Sa.out Sb.out Hle.out hslt
                      have HSD := hid hsd
                      have hl6 := ranksTo_all (p := p) (m := a) (s := (s : Int)) (k := p.hands.length)
                      have hl7 := ranksTo_all (p := p) (m := b) (s := (s : Int)) (k := p.hands.length)
                      clear hsd
                      go_wp2_with (fail)
                      refine (Sort_own W.heap.size u10 _ _ OX.out (by omega)).mono ?_
                      rintro e w8 ⟨rfl, hx8, hg8⟩
                      have hy8 := kept_apart OY.out AP.out hg8
                      have e8 : Ext W w8 := Below.grown E7.out hg8 E7.out.size (fun k hk => (OX.out.lt k hk).1)
                      have X8 := hid hx8
                      have Y8 := hid hy8
                      have E8 := hid e8
                      clear hx8 hg8 hy8 e8
                      go_wp2_with (fail)
                      refine (Sort_own W.heap.size u11 _ _ Y8.out (by omega)).mono ?_
                      rintro e w9 ⟨rfl, hy9, hg9⟩
                      have hx9 : OwnI W.heap.size w9 u10 (srt (ranksTo p a s p.hands.length)) := kept_apart X8.out AP.out.symm hg9
                      have e9 : Ext W w9 := Below.grown E8.out hg9 E8.out.size (fun k hk => (Y8.out.lt k hk).1)
                      have E9 := hid e9
                      have hlx : (srt (ranksTo p a s p.hands.length)).length ≤ 6 := by rw [srt_len]; omega
                      have hly : (srt (ranksTo p b s p.hands.length)).length ≤ 6 := by rw [srt_len]; omega
                      have hxi := hx9.ints (by omega)
                      have hyi := hy9.ints (by omega)
                      have hll : (srt (ranksTo p a s p.hands.length)).length = (srt (ranksTo p b s p.hands.length)).length := by rw [srt_len, srt_len]; exact HSD.out.1
                      have HN : Hid (∀ i, i < (srt (ranksTo p a s p.hands.length)).length → ¬ fn (srt (ranksTo p a s p.hands.length)) i < fn (srt (ranksTo p b s p.hands.length)) i) := fun i hi => by
                        have h1 := HSD.out.2 i (by rw [srt_len] at hi; exact hi)
                        rw [fn_get hi, fn_get (by omega)]
                        rw [nth_get (by omega), nth_get hi] at h1
                        omega
                      clear hy9 hg9 hx9 e9 HSD hl6 hl7
                      generalize srt (ranksTo p a s p.hands.length) = RA at *
                      generalize srt (ranksTo p b s p.hands.length) = RB at *
                      have hne : ((RA.length : Int) != (RB.length : Int)) = false := by rw [hll]; simp
                      have Hll := hid hll
                      obtain ⟨-, aox, cpx, rfl, -⟩ := id hxi
                      obtain ⟨-, aoy, cpy, rfl, -⟩ := id hyi
                      have HX := hid hxi
                      have HY := hid hyi
                      clear hll hxi hyi
                      go_wp2
                      go_loopg [117] RA.length (fun g i5 wr => ∃ j : Nat, j + g = RA.length ∧ i5 = .int .i64 j ∧ Hid (Ext w9 wr))
                      case atStart => exact ⟨0, by omega, rfl, Ext.refl _⟩
                      case round =>
                        obtain ⟨q, hq, rfl, Eq⟩ := hrel
                        have hql : q ≤ RA.length := by omega
                        have Hq := hid hq
                        clear hq
                        by_cases hqlt : q < RA.length
                        · obtain ⟨b1, o1, hb1, -, hc1⟩ := HX.out.get q hqlt
                          subst hb1
                          obtain ⟨b2, o2, hb2, -, hc2⟩ := HY.out.get q (by have := Hll.out; omega)
                          subst hb2
                          have d1 := hc1 _ Eq.out
                          have d2 := hc2 _ Eq.out
                          have hnl := HN.out q hqlt
                          have hq0 : (0 : Int) ≤ (q : Int) := by omega
                          have hq1 : (q : Int) < RA.length := by omega
                          have hq2 : (q : Int) < RB.length := by have := Hll.out; omega
                          clear hc1 hc2
                          go_wp2
                          go_quiet (fail)
                          go_wp2
                          go_roundg (gk - 1)
                          case rel => exact ⟨q + 1, by have := Hq.out; omega, by go_num, Eq.out.drewN _⟩
                          case measure => have := Hq.out; omega
                        · go_wp2
                          go_roundg (p.shifts.length - (s + 1))
                          case rel => exact ⟨s + 1, by omega, by go_num, E9.out.trans Eq.out⟩
                          case measure => have := Hs.out; omega
                · go_wp2
                  go_roundg (L.length - (j + 1))
                  case rel => exact ⟨j + 1, by omega, by go_num, E6⟩
                  case measure => have := Hj.out; omega
          · go_wp2
            go_roundg (L.length - (i + 1))
            case rel => exact ⟨i + 1, by omega, by go_num, E⟩
            case measure => have := Hk.out; omega
      · go_wp2_with (fail)
        refine (awake_any _).mono ?_
        rintro e w7 ⟨rfl, he7⟩
        have He7 := hid ((HEW.out.trans E.out).trans he7)
        clear he7
        go_wp2
        go_ret
        exact ⟨rfl, He7.out⟩

end Go.Proofs.Ytkdfbbkonbgfmaa
