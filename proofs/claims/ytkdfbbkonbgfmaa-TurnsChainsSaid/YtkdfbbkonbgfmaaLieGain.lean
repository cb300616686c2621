/-
  Contract of the closure gains of Lie.
-/
import Derived.Test.YtkdfbbkonbgfmaaLieX
import Derived.Test.YtkdfbbkonbgfmaaSkips
namespace Go.Proofs.Ytkdfbbkonbgfmaa
open Go.RowKit

def gainPtrs (C : LieC) : Array Value := #[.pointer (some ⟨C.bq, 0, none⟩), .pointer (some ⟨C.bs, 0, none⟩), .pointer (some ⟨C.bo, 0, none⟩), .pointer (some ⟨C.bp, 0, none⟩), .pointer (some ⟨C.bw, 0, none⟩)]
theorem hands_short {own l m : List Int} {s : Int} (h : SubL own l) (h6 : own.length ≤ 6) : (handsI l m s).length ≤ 100 := by
  have h1 := h.len
  have h2 := List.length_filter_le (fun h => intAt m h == s) l
  unfold handsI
  omega
theorem gains_iff {C : LieC} {hok : PlanOk C.p} (hs : C.s < C.p.shifts.length) (hF0 : IsFirst C.p hok C.m0) {l m : List Int} (hsub : SubL (rowAt C.p.shifts C.s) l) {hq : PlanOk (setS C.p C.s l)} (hm : IsFirst _ hq m) :
    GainsBy C.p C.s C.m0 l ↔ (∀ i, i < (intAt C.p.places C.s).toNat → fn (padL (rowAt C.p.shifts C.s) m C.s (intAt C.p.places C.s).toNat) i ≤ fn (padL (rowAt C.p.shifts C.s) C.m0 C.s (intAt C.p.places C.s).toNat) i) ∧ padL (rowAt C.p.shifts C.s) m C.s (intAt C.p.places C.s).toNat ≠ padL (rowAt C.p.shifts C.s) C.m0 C.s (intAt C.p.places C.s).toNat := by
  rw [GainsBy.of hq hm]
  exact gain_pad (by have := (SubL.self hok (s := C.s)).len; have := hok.h6; have := rowOk_short (rowAt_ok hok.ss (i := C.s) (by omega)); omega) (ranksI_first hok hs hsub hq hm).2 (ranksI_was hok hs hF0).2

set_option maxRecDepth 20000 in
set_option maxHeartbeats 4000000 in
theorem gains_any (C : LieC) (hok : PlanOk C.p) (hs : C.s < C.p.shifts.length) (hF0 : IsFirst C.p hok C.m0) (W : World) (hL : LieOn C W) (hR : LieRows C W) (l : List Int) (v : Value) (hl : Stays C.bS C.bF W v l) (hsub : SubL (rowAt C.p.shifts C.s) l) :
    Calls Try.prog 86 #[v, .pointer (some ⟨C.bq, 0, none⟩), .pointer (some ⟨C.bs, 0, none⟩), .pointer (some ⟨C.bo, 0, none⟩), .pointer (some ⟨C.bp, 0, none⟩), .pointer (some ⟨C.bw, 0, none⟩)] W fun e w' => ∃ b : Bool, e = .returned (.bool b) ∧ (b = true ↔ GainsBy C.p C.s C.m0 l) ∧ KeptX C W w' ∧ LieRows C w' ∧ ∀ o, W.heap[C.bF]? = some o → w'.heap[C.bF]? = some o := by
  have HL := hid hL
  have A := hL.at (ExtX.refl _ _ _)
  obtain ⟨-, av, cv, rfl, -⟩ := id hl.now
  have hpl := hok.pl
  have hpr := hok.pr
  have hs4 := hok.s4
  have hh6 := hok.h6
  obtain ⟨pb, po, hap, -⟩ := A.places.get C.s (by omega)
  have hq3 : 0 ≤ intAt C.p.places C.s ∧ intAt C.p.places C.s ≤ 3 := by
    have h1 : intAt C.p.places C.s ∈ C.p.places := by
      unfold intAt
      rw [Int.toNat_natCast, List.getD_eq_getElem?_getD, List.getElem?_eq_getElem (by omega), Option.getD_some]
      exact List.getElem_mem _
    have := hpr _ h1
    omega
  obtain ⟨q, hq⟩ : ∃ q, q = (intAt C.p.places C.s).toNat := ⟨_, rfl⟩
  have hqi : intAt C.p.places C.s = (q : Int) := by omega
  have HPO := hid (hsub.ok hok)
  have HIF := hid (fun hq m (hm : IsFirst (setS C.p C.s l) hq m) => gains_iff hs hF0 hsub hm)
  have HRF := hid (fun hq m (hm : IsFirst (setS C.p C.s l) hq m) => ranksI_first hok hs hsub hq hm)
  have HRW := hid (ranksI_was hok hs hF0).2
  have HSHORT := hid (show (rowAt C.p.shifts C.s).length ≤ 6 by have := rowOk_short (rowAt_ok hok.ss (i := C.s) (by omega)); omega)
  have HCOL := hid (hok.col (s := C.s) (by omega))
  rw [← hq] at HIF HRF HRW
  obtain ⟨u0, cS0, fS0, -⟩ := hR C.s hs
  have HK1 : Hid (KeptX C W (W.setCell ⟨C.bS, C.s, none⟩ (.slice av l.length cv))) := (ExtX.refl _ _ _).setA _ _
  have A1 := hL.at HK1.out
  have HBK : Hid (∀ o, W.heap[C.bF]? = some o → (W.setCell ⟨C.bS, C.s, none⟩ (.slice av l.length cv)).heap[C.bF]? = some o) := fun o ho => by rw [Below.heap_setCell _ _ _ _ A.ne]; exact ho
  have HPR : Hid (PlanR (W.setCell ⟨C.bS, C.s, none⟩ (.slice av l.length cv)) _ _ _ (setS C.p C.s l)) := ⟨A1.hands, hR.rows2 hs hl hs4 A.cS, A1.places⟩
  have HR1 : Hid (LieRows C _) := hR.set (.slice av l.length cv)
  have HSR := hid (setS_row hs l)
  have HSL := hid (show (setS C.p C.s l).shifts.length = C.p.shifts.length by unfold setS; simp)
  have HSS := hid hsub
  have HS := hid hs
  obtain ⟨q0, q1, q2⟩ := A.q.cells
  have cs := A.s
  have hsi : (C.s : Int) < C.p.shifts.length := by omega
  obtain ⟨n, hn⟩ : ∃ n, n = C.p.shifts.length := ⟨_, rfl⟩
  clear hL hR hl hsub hpl hpr
  go_enter Try.func86, Try.ntmps86
  go_wp2
  clear q0 q1 q2 cs cS0 fS0 A
  obtain ⟨p0, p1, p2⟩ := A1.q.cells
  have cs := A1.s
  have co := A1.o
  have cp2 := A1.p.cells.2.2
  rw [hap] at cp2
  have dpl := A1.places
  rw [hap] at dpl
  have dp := (dpl.get' C.s (by have := A1.places; have := hok.pl; omega)).2 _ (Ext.refl _)
  rw [show fn C.p.places C.s = (q : Int) by unfold fn; exact hqi] at dp
  have hpi : (C.s : Int) < C.p.places.length := by have := hok.pl; omega
  have HA1 := hid A1
  have HL1 := hid (HL.out.later HK1.out)
  have hq3n : q ≤ 3 := by omega
  have hq1 : 1 ≤ q := by have := planPlaces hok (s := C.s) (by omega) (by omega); omega
  have HQI := hid hqi
  have HQN := hid hq
  clear A1 dpl hqi hq hn hq3 hap
  generalize W.setCell ⟨C.bS, C.s, none⟩ (.slice av l.length cv) = W1 at *
  refine wp_region_held_drew (S := (fun w' => w'.cell? ⟨C.bq, 0, none⟩ = some (.slice C.ah C.p.hands.length C.ch) ∧ w'.cell? ⟨C.bq, 1, none⟩ = some (.slice (some ⟨C.bS, 0, none⟩) C.p.shifts.length C.cS) ∧ w'.cell? ⟨C.bq, 2, none⟩ = some (.slice C.ap C.p.places.length C.cp) ∧ w'.cell? ⟨C.bs, 0, none⟩ = some (.int .i64 C.s) ∧ w'.cell? ⟨C.bo, 0, none⟩ = some (.slice C.ao (rowAt C.p.shifts C.s).length C.co) ∧ w'.cell? ⟨C.bp, 2, none⟩ = some (.slice (some ⟨pb, po, none⟩) C.p.places.length C.cp) ∧ w'.cell? ⟨pb, po + C.s, none⟩ = some (.int .i64 (q : Int)))) (by kernel_rfl) ?hSa0 (fun hHeld => ?_)
  case hSa0 => (first | (exact ⟨p0, p1, p2, cs, co, cp2, dp⟩) | ((try dsimp only); exact ⟨p0, p1, p2, cs, co, cp2, dp⟩))
  refine wpAnyH_tk 0 (v := ?va0) rfl (by kernel_rfl) (by kernel_rfl) (by kernel_rfl) (fun _ _ _ h => h) (by rfl) ?hya0 (by assumption) ?_
  case hya0 => (intro w hSw; (try dsimp only at hSw); go_simp <;> with_reducible rfl)
  (try simp only [Act.put, List.setIfInBounds_toArray, List.set_cons_zero, List.set_cons_succ])
  refine wpAnyH_tk 1 (v := ?va1) rfl (by kernel_rfl) (by kernel_rfl) (by kernel_rfl) (fun _ _ _ h => h) (by rfl) ?hya1 (by assumption) ?_
  case hya1 => (intro w hSw; (try dsimp only at hSw); go_simp <;> with_reducible rfl)
  (try simp only [Act.put, List.setIfInBounds_toArray, List.set_cons_zero, List.set_cons_succ])
  refine wpAnyH_tk 2 (v := ?va2) rfl (by kernel_rfl) (by kernel_rfl) (by kernel_rfl) (fun _ _ _ h => h) (by rfl) ?hya2 (by assumption) ?_
  case hya2 => (intro w hSw; (try dsimp only at hSw); go_simp <;> with_reducible rfl)
  (try simp only [Act.put, List.setIfInBounds_toArray, List.set_cons_zero, List.set_cons_succ])
  refine wpAnyH_tk 4 (v := ?va4) rfl (by kernel_rfl) (by kernel_rfl) (by kernel_rfl) (fun _ _ _ h => h) (by rfl) ?hya4 (by assumption) ?_
  case hya4 => (intro w hSw; (try dsimp only at hSw); go_simp <;> with_reducible rfl)
  (try simp only [Act.put, List.setIfInBounds_toArray, List.set_cons_zero, List.set_cons_succ])
  refine wpAnyH_tk 6 (v := ?va6) rfl (by kernel_rfl) (by kernel_rfl) (by kernel_rfl) (fun _ _ _ h => h) (by rfl) ?hya6 (by assumption) ?_
  case hya6 => (intro w hSw; (try dsimp only at hSw); go_simp <;> with_reducible rfl)
  (try simp only [Act.put, List.setIfInBounds_toArray, List.set_cons_zero, List.set_cons_succ])
  refine wpAnyH_tk 7 (v := ?va7) rfl (by kernel_rfl) (by kernel_rfl) (by kernel_rfl) (fun _ _ _ h => h) (by rfl) ?hya7 (by assumption) ?_
  case hya7 => (intro w hSw; (try dsimp only at hSw); go_simp <;> with_reducible rfl)
  (try simp only [Act.put, List.setIfInBounds_toArray, List.set_cons_zero, List.set_cons_succ])
  refine wpAnyH_tk 8 (v := ?va8) rfl (by kernel_rfl) (by kernel_rfl) (by kernel_rfl) (fun _ _ _ h => h) (by rfl) ?hya8 (by assumption) ?_
  case hya8 => (intro w hSw; (try dsimp only at hSw); go_simp <;> with_reducible rfl)
  (try simp only [Act.put, List.setIfInBounds_toArray, List.set_cons_zero, List.set_cons_succ])
  refine wpAnyH_tk 9 (v := ?va9) rfl (by kernel_rfl) (by kernel_rfl) (by kernel_rfl) (fun _ _ _ h => h) (by rfl) ?hya9 (by assumption) ?_
  case hya9 => (intro w hSw; (try dsimp only at hSw); go_simp <;> with_reducible rfl)
  (try simp only [Act.put, List.setIfInBounds_toArray, List.set_cons_zero, List.set_cons_succ])
  refine wpAnyH_tk 10 (v := ?va10) rfl (by kernel_rfl) (by kernel_rfl) (by kernel_rfl) (fun _ _ _ h => h) (by rfl) ?hya10 (by assumption) ?_
  case hya10 => (intro w hSw; (try dsimp only at hSw); go_simp <;> with_reducible rfl)
  (try simp only [Act.put, List.setIfInBounds_toArray, List.set_cons_zero, List.set_cons_succ])
  refine wpAnyH_one 3 rfl (by kernel_rfl) (by rfl) (fun K hK => ?_)
  go_simp
  (refine (first_any _ _ _ (setS C.p C.s l) HPO.out _ (HPR.out.ext (Ext.refl _).drew)).mono ?_; rintro e w3 ⟨u3, rfl, m, hO3, hm3, he3⟩; have HM3 := hid hm3; have HZI := hid (HIF.out HPO.out m hm3); have hzq := padL_len (HRF.out HPO.out m hm3).2; have HZQ := hid hzq; clear hzq; have HO3 := hid hO3; have HML : Hid (m.length = C.p.hands.length) := hm3.len; obtain ⟨a3, c3, rfl⟩ := own_len hO3; clear hm3 hO3)
  refine hK.out _ _ ?hSa4 (fun hHeld => ?_)
  case hSa4 => (first | (exact ⟨he3.cell p0, he3.cell p1, he3.cell p2, he3.cell cs, he3.cell co, he3.cell cp2, he3.cell dp⟩) | ((try dsimp only); exact ⟨he3.cell p0, he3.cell p1, he3.cell p2, he3.cell cs, he3.cell co, he3.cell cp2, he3.cell dp⟩))
  clear hK K
  (try simp only [Act.put, List.setIfInBounds_toArray, List.set_cons_zero, List.set_cons_succ])
  refine wpAnyH_one 5 rfl (by kernel_rfl) (by rfl) (fun K hK => ?_)
  go_simp
  (have h4p := (HPR.out.ext (Ext.refl _).drew).ext he3; have h4m := OwnI.ints HO3.out (show m.length ≤ _ by have := HML.out; omega); have h4s : (C.s : Int) < (setS C.p C.s l).shifts.length := (by rw [HSL.out]; omega); have h4r : ∀ x ∈ rowAt (setS C.p C.s l).shifts C.s, 0 ≤ x ∧ x < m.length := (by rw [HSR.out]; intro x hx; have := HCOL.out.1 x (HSS.out.2 x hx); have := HML.out; omega); refine (hands_any _ _ _ _ (setS C.p C.s l) m C.s _ h4p h4m (by omega) h4s h4r).mono ?_; clear h4p h4m h4s h4r; rintro e w4 ⟨u4, rfl, hO4, he4⟩; rw [HSR.out] at hO4; have HO4 := hid hO4; obtain ⟨a4, c4, rfl⟩ := own_len hO4; clear hO4)
  refine hK.out _ _ ?hSa6 (fun hHeld => ?_)
  case hSa6 => (first | (exact ⟨(he3.trans he4).cell p0, (he3.trans he4).cell p1, (he3.trans he4).cell p2, (he3.trans he4).cell cs, (he3.trans he4).cell co, (he3.trans he4).cell cp2, (he3.trans he4).cell dp⟩) | ((try dsimp only); exact ⟨(he3.trans he4).cell p0, (he3.trans he4).cell p1, (he3.trans he4).cell p2, (he3.trans he4).cell cs, (he3.trans he4).cell co, (he3.trans he4).cell cp2, (he3.trans he4).cell dp⟩))
  clear hK K
  (try simp only [Act.put, List.setIfInBounds_toArray, List.set_cons_zero, List.set_cons_succ])
  refine wpAnyH_one 11 rfl (by kernel_rfl) (by rfl) (fun K hK => ?_)
  go_simp
  (have hhl : (handsI l m C.s).length ≤ 100 := hands_short HSS.out HSHORT.out; refine (ranks_any _ _ (rowAt C.p.shifts C.s) _ q _ ((HA1.out.own.ext (Ext.refl _).drew).ext (he3.trans he4)) (OwnI.ints HO4.out (show (handsI l m C.s).length ≤ _ by omega)) (by have := HSHORT.out; omega) hhl (by omega)).mono ?_; rintro e w5 ⟨u5, rfl, hO5, he5⟩; rw [(HRF.out HPO.out m HM3.out).1] at hO5; have HO5 := hid hO5; obtain ⟨a5, c5, hu5⟩ := own_len hO5; rw [HZQ.out] at hu5; subst hu5; clear hO5)
  refine hK.out _ _ ?hSa12 (fun hHeld => ?_)
  case hSa12 => (first | (exact ⟨((he3.trans he4).trans he5).cell p0, ((he3.trans he4).trans he5).cell p1, ((he3.trans he4).trans he5).cell p2, ((he3.trans he4).trans he5).cell cs, ((he3.trans he4).trans he5).cell co, ((he3.trans he4).trans he5).cell cp2, ((he3.trans he4).trans he5).cell dp⟩) | ((try dsimp only); exact ⟨((he3.trans he4).trans he5).cell p0, ((he3.trans he4).trans he5).cell p1, ((he3.trans he4).trans he5).cell p2, ((he3.trans he4).trans he5).cell cs, ((he3.trans he4).trans he5).cell co, ((he3.trans he4).trans he5).cell cp2, ((he3.trans he4).trans he5).cell dp⟩))
  clear hK K
  (try simp only [Act.put, List.setIfInBounds_toArray, List.set_cons_zero, List.set_cons_succ])
  refine wpAnyH_tk 12 (v := ?va12) rfl (by kernel_rfl) (by kernel_rfl) (by kernel_rfl) (fun _ _ _ h => h) (by rfl) ?hya12 (by assumption) ?_
  case hya12 => (intro w hSw; (try dsimp only at hSw); go_simp <;> with_reducible rfl)
  (try simp only [Act.put, List.setIfInBounds_toArray, List.set_cons_zero, List.set_cons_succ])
  refine wpAnyH_done (by kernel_rfl) ?_ _
  clear p0 p1 p2 cs co cp2 dp hHeld
  have HE5 : Hid (Ext W1 w5) := ((Ext.refl W1).drew.trans he3).trans (he4.trans he5)
  clear he3 he4 he5 HO3 HO4
  obtain ⟨zs, hzs⟩ : ∃ zs, zs = padL (rowAt C.p.shifts C.s) m C.s q := ⟨_, rfl⟩
  obtain ⟨ws, hws⟩ : ∃ ws, ws = padL (rowAt C.p.shifts C.s) C.m0 C.s q := ⟨_, rfl⟩
  have hzl := HZQ.out
  have hwl := padL_len HRW.out
  have hzi := HZI.out
  have ho5 := HO5.out
  rw [← hzs] at hzl hzi ho5
  rw [← hws] at hwl hzi
  have HZI2 := hid hzi
  have hi5 := OwnI.ints ho5 (show zs.length ≤ _ by omega)
  have HI5 := hid hi5
  obtain ⟨b5, o5, rfl, -, -⟩ := hi5.get 0 (by omega)
  have HZL := hid hzl
  have HWL := hid hwl
  have AW := HA1.out.was
  rw [← HQN.out, ← hws] at AW
  obtain ⟨wb, wo, haw, -, -⟩ := AW.get 0 (by omega)
  rw [haw] at AW
  have HAW := hid AW
  have acw := HA1.out.w
  rw [← HQN.out, haw] at acw
  have HACW := hid acw
  clear hzs hws hzl hwl hzi ho5 hi5 AW acw haw
  go_wp2
  go_loopg [29] q (fun g i wr => ∃ k : Nat, k + g = q ∧ i = .int .i64 k ∧ Hid (∀ j, j < k → fn zs j ≤ fn ws j) ∧ Hid (Ext w5 wr))
  case atStart => exact ⟨0, by omega, rfl, fun j hj => by omega, Ext.refl _⟩
  case round =>
    obtain ⟨k, hk, rfl, LE, E⟩ := hrel
    have hkq : k ≤ q := by omega
    have Hk := hid hk
    clear hk
    by_cases hlt : k < q
    · have hki : (k : Int) < q := by omega
      have dz := (HI5.out.get' k (by have := HZL.out; omega)).2 _ E.out
      have dw := (HAW.out.get' k (by have := HWL.out; omega)).2 _ (HE5.out.trans E.out)
      have dc := (HE5.out.trans E.out).cell HACW.out
      obtain ⟨x, hx⟩ : ∃ x, x = fn zs k := ⟨_, rfl⟩
      obtain ⟨y, hy⟩ : ∃ y, y = fn ws k := ⟨_, rfl⟩
      rw [← hx] at dz
      rw [← hy] at dw
      have HX := hid hx
      have HY := hid hy
      clear hx hy
      go_wp2
      by_cases hc : y < x
      · have HN : Hid (¬ GainsBy C.p C.s C.m0 l) := fun h => by
          have h1 := (HZI2.out.1 h).1 k hlt
          have h2 := HX.out
          have h3 := HY.out
          omega
        have HEE := hid (HE5.out.trans E.out.drew)
        refine wp_region_held_drew (S := (fun w' => w'.cell? ⟨b5, o5 + k, none⟩ = some (.int .i64 x) ∧ w'.cell? ⟨C.bw, 0, none⟩ = some (.slice (some ⟨wb, wo, none⟩) q C.cw) ∧ w'.cell? ⟨wb, wo + k, none⟩ = some (.int .i64 y))) (by kernel_rfl) ?hSb0 (fun hHeld => ?_)
        case hSb0 => (first | (exact ⟨dz, dc, dw⟩) | ((try dsimp only); exact ⟨dz, dc, dw⟩))
        refine wpAnyH_tk 0 (v := ?vb0) rfl (by kernel_rfl) (by kernel_rfl) (by kernel_rfl) (fun _ _ _ h => h) (by rfl) ?hyb0 (by assumption) ?_
        case hyb0 => (intro w hSw; (try dsimp only at hSw); go_simp <;> with_reducible rfl)
        (try simp only [Act.put, List.setIfInBounds_toArray, List.set_cons_zero, List.set_cons_succ])
        refine wpAnyH_tk 1 (v := ?vb1) rfl (by kernel_rfl) (by kernel_rfl) (by kernel_rfl) (fun _ _ _ h => h) (by rfl) ?hyb1 (by assumption) ?_
        case hyb1 => (intro w hSw; (try dsimp only at hSw); go_simp <;> with_reducible rfl)
        (try simp only [Act.put, List.setIfInBounds_toArray, List.set_cons_zero, List.set_cons_succ])
        refine wpAnyH_tk 2 (v := ?vb2) rfl (by kernel_rfl) (by kernel_rfl) (by kernel_rfl) (fun _ _ _ h => h) (by rfl) ?hyb2 (by assumption) ?_
        case hyb2 => (intro w hSw; (try dsimp only at hSw); go_simp <;> with_reducible rfl)
        (try simp only [Act.put, List.setIfInBounds_toArray, List.set_cons_zero, List.set_cons_succ])
        refine wpAnyH_tk 3 (v := ?vb3) rfl (by kernel_rfl) (by kernel_rfl) (by kernel_rfl) (fun _ _ _ h => h) (by rfl) ?hyb3 (by assumption) ?_
        case hyb3 => (intro w hSw; (try dsimp only at hSw); go_simp <;> with_reducible rfl)
        (try simp only [Act.put, List.setIfInBounds_toArray, List.set_cons_zero, List.set_cons_succ])
        refine wpAnyH_tk 4 (v := ?vb4) rfl (by kernel_rfl) (by kernel_rfl) (by kernel_rfl) (fun _ _ _ h => h) (by rfl) ?hyb4 (by assumption) ?_
        case hyb4 => (intro w hSw; (try dsimp only at hSw); go_simp <;> with_reducible rfl)
        (try simp only [Act.put, List.setIfInBounds_toArray, List.set_cons_zero, List.set_cons_succ])
        refine wpAnyH_tk 5 (v := ?vb5) rfl (by kernel_rfl) (by kernel_rfl) (by kernel_rfl) (fun _ _ _ h => h) (by rfl) ?hyb5 (by assumption) ?_
        case hyb5 => (intro w hSw; (try dsimp only at hSw); go_simp <;> with_reducible rfl)
        (try simp only [Act.put, List.setIfInBounds_toArray, List.set_cons_zero, List.set_cons_succ])
        refine wpAnyH_tk 6 (v := ?vb6) rfl (by kernel_rfl) (by kernel_rfl) (by kernel_rfl) (fun _ _ _ h => h) (by rfl) ?hyb6 (by assumption) ?_
        case hyb6 => (intro w hSw; (try dsimp only at hSw); go_simp <;> with_reducible rfl)
        (try simp only [Act.put, List.setIfInBounds_toArray, List.set_cons_zero, List.set_cons_succ])
        refine wpAnyH_tk 7 (v := ?vb7) rfl (by kernel_rfl) (by kernel_rfl) (by kernel_rfl) (fun _ _ _ h => h) (by rfl) ?hyb7 (by assumption) ?_
        case hyb7 => (intro w hSw; (try dsimp only at hSw); go_simp <;> with_reducible rfl)
        (try simp only [Act.put, List.setIfInBounds_toArray, List.set_cons_zero, List.set_cons_succ])
        refine wpAnyH_tk 8 (v := ?vb8) rfl (by kernel_rfl) (by kernel_rfl) (by kernel_rfl) (fun _ _ _ h => h) (by rfl) ?hyb8 (by assumption) ?_
        case hyb8 => (intro w hSw; (try dsimp only at hSw); go_simp <;> with_reducible rfl)
        (try simp only [Act.put, List.setIfInBounds_toArray, List.set_cons_zero, List.set_cons_succ])
        refine wpAnyH_done (by kernel_rfl) ?_ _
        clear dz dw dc hHeld
        go_wp2
        go_ret
        exact ⟨false, rfl, ⟨fun h => by simp at h, fun h => absurd h HN.out⟩, HK1.out.trans (HEE.out.x _ _), HR1.out.ext HEE.out, fun o ho => heap_ext (HBK.out o ho) HEE.out⟩
      · have LE2 : Hid (∀ j, j < k + 1 → fn zs j ≤ fn ws j) := fun j hj => by
          by_cases e : j = k
          · subst e
            have h2 := HX.out
            have h3 := HY.out
            omega
          · exact LE.out j (by omega)
        have HEE := hid E.out.drew
        refine wp_region_held_drew (S := (fun w' => w'.cell? ⟨b5, o5 + k, none⟩ = some (.int .i64 x) ∧ w'.cell? ⟨C.bw, 0, none⟩ = some (.slice (some ⟨wb, wo, none⟩) q C.cw) ∧ w'.cell? ⟨wb, wo + k, none⟩ = some (.int .i64 y))) (by kernel_rfl) ?hSc0 (fun hHeld => ?_)
        case hSc0 => (first | (exact ⟨dz, dc, dw⟩) | ((try dsimp only); exact ⟨dz, dc, dw⟩))
        refine wpAnyH_tk 0 (v := ?vc0) rfl (by kernel_rfl) (by kernel_rfl) (by kernel_rfl) (fun _ _ _ h => h) (by rfl) ?hyc0 (by assumption) ?_
        case hyc0 => (intro w hSw; (try dsimp only at hSw); go_simp <;> with_reducible rfl)
        (try simp only [Act.put, List.setIfInBounds_toArray, List.set_cons_zero, List.set_cons_succ])
        refine wpAnyH_tk 1 (v := ?vc1) rfl (by kernel_rfl) (by kernel_rfl) (by kernel_rfl) (fun _ _ _ h => h) (by rfl) ?hyc1 (by assumption) ?_
        case hyc1 => (intro w hSw; (try dsimp only at hSw); go_simp <;> with_reducible rfl)
        (try simp only [Act.put, List.setIfInBounds_toArray, List.set_cons_zero, List.set_cons_succ])
        refine wpAnyH_tk 2 (v := ?vc2) rfl (by kernel_rfl) (by kernel_rfl) (by kernel_rfl) (fun _ _ _ h => h) (by rfl) ?hyc2 (by assumption) ?_
        case hyc2 => (intro w hSw; (try dsimp only at hSw); go_simp <;> with_reducible rfl)
        (try simp only [Act.put, List.setIfInBounds_toArray, List.set_cons_zero, List.set_cons_succ])
        refine wpAnyH_tk 3 (v := ?vc3) rfl (by kernel_rfl) (by kernel_rfl) (by kernel_rfl) (fun _ _ _ h => h) (by rfl) ?hyc3 (by assumption) ?_
        case hyc3 => (intro w hSw; (try dsimp only at hSw); go_simp <;> with_reducible rfl)
        (try simp only [Act.put, List.setIfInBounds_toArray, List.set_cons_zero, List.set_cons_succ])
        refine wpAnyH_tk 4 (v := ?vc4) rfl (by kernel_rfl) (by kernel_rfl) (by kernel_rfl) (fun _ _ _ h => h) (by rfl) ?hyc4 (by assumption) ?_
        case hyc4 => (intro w hSw; (try dsimp only at hSw); go_simp <;> with_reducible rfl)
        (try simp only [Act.put, List.setIfInBounds_toArray, List.set_cons_zero, List.set_cons_succ])
        refine wpAnyH_tk 5 (v := ?vc5) rfl (by kernel_rfl) (by kernel_rfl) (by kernel_rfl) (fun _ _ _ h => h) (by rfl) ?hyc5 (by assumption) ?_
        case hyc5 => (intro w hSw; (try dsimp only at hSw); go_simp <;> with_reducible rfl)
        (try simp only [Act.put, List.setIfInBounds_toArray, List.set_cons_zero, List.set_cons_succ])
        refine wpAnyH_tk 6 (v := ?vc6) rfl (by kernel_rfl) (by kernel_rfl) (by kernel_rfl) (fun _ _ _ h => h) (by rfl) ?hyc6 (by assumption) ?_
        case hyc6 => (intro w hSw; (try dsimp only at hSw); go_simp <;> with_reducible rfl)
        (try simp only [Act.put, List.setIfInBounds_toArray, List.set_cons_zero, List.set_cons_succ])
        refine wpAnyH_tk 7 (v := ?vc7) rfl (by kernel_rfl) (by kernel_rfl) (by kernel_rfl) (fun _ _ _ h => h) (by rfl) ?hyc7 (by assumption) ?_
        case hyc7 => (intro w hSw; (try dsimp only at hSw); go_simp <;> with_reducible rfl)
        (try simp only [Act.put, List.setIfInBounds_toArray, List.set_cons_zero, List.set_cons_succ])
        refine wpAnyH_tk 8 (v := ?vc8) rfl (by kernel_rfl) (by kernel_rfl) (by kernel_rfl) (fun _ _ _ h => h) (by rfl) ?hyc8 (by assumption) ?_
        case hyc8 => (intro w hSw; (try dsimp only at hSw); go_simp <;> with_reducible rfl)
        (try simp only [Act.put, List.setIfInBounds_toArray, List.set_cons_zero, List.set_cons_succ])
        refine wpAnyH_done (by kernel_rfl) ?_ _
        clear dz dw dc hHeld
        go_wp2
        go_roundg (gk - 1)
        case rel => exact ⟨k + 1, by have := Hk.out; omega, by go_num, LE2, HEE⟩
        case measure => have := Hk.out; omega
    · have hki : ¬ ((k : Int) < q) := by omega
      have ek : k = q := by omega
      have LEQ : Hid (∀ j, j < q → fn zs j ≤ fn ws j) := by rw [← ek]; exact LE.out
      have dc := (HE5.out.trans E.out).cell HACW.out
      clear ek
      go_wp2_with (fail)
      refine (Equal_any _ _ zs ws _ (HI5.out.ext E.out) (HAW.out.ext (HE5.out.trans E.out))).mono ?_
      rintro e w6 ⟨rfl, n6, rfl⟩
      have HEE := hid ((HE5.out.trans E.out).drewN n6)
      clear dc
      go_wp2
      go_ret
      refine ⟨_, rfl, ?_, HK1.out.trans (HEE.out.x _ _), HR1.out.ext HEE.out, fun o ho => heap_ext (HBK.out o ho) HEE.out⟩
      rw [HZI2.out]
      unfold eqI
      constructor
      · intro h
        refine ⟨LEQ.out, fun e => ?_⟩
        rw [e] at h
        simp at h
      · rintro ⟨-, h⟩
        simp [h]

end Go.Proofs.Ytkdfbbkonbgfmaa
