/-
  Contract of turns.Plan.first: it returns the stable matching that is best for the hands.
-/
import Derived.Test.YtkdfbbkonbgfmaaBlock
namespace Go.Proofs.Ytkdfbbkonbgfmaa
open Go.RowKit

theorem slice_get {v : Value} {ao : Option Addr} {n cap : Nat} {w : World} {xs : List Int} (h : Ints w v xs) (hv : v = .slice ao n cap) : n = xs.length := by
  obtain ⟨-, ao', cap', he, -⟩ := h
  rw [hv] at he; simp at he; exact he.2.1

set_option maxRecDepth 20000 in
set_option maxHeartbeats 4000000 in
theorem first_any (vh vs vp : Value) (p : PlanD) (hok : PlanOk p) (w : World) (hp : PlanR w vh vs vp p) :
    Calls Try.prog 53 #[.agg #[vh, vs, vp]] w fun e w' => ∃ u, e = .returned u ∧ ∃ m, OwnI w.heap.size w' u m ∧ IsFirst p hok m ∧ Ext w w' := by
  obtain ⟨hh, hs, hpp⟩ := hp
  obtain ⟨hlh, aoh, caph, rfl, hch, hhc⟩ := id hh
  obtain ⟨hls, aos, caps, rfl, hcs, hsc⟩ := id hs
  obtain ⟨hlp, aop, capp, rfl, hcp, hpc⟩ := id hpp
  obtain ⟨bh, oh, -, rfl, -, -⟩ := hhc 0 (by have := hok.h1; omega)
  obtain ⟨bs, os, -, rfl, -, -⟩ := hsc 0 (by have := hok.s1; omega)
  obtain ⟨bp, op, rfl, -⟩ := hpc 0 (by have := hok.pl; have := hok.s1; omega)
  clear hhc hsc hpc hch hcs hcp
  have Hh := hid hh
  have Hs' := hid hs
  have Hp := hid hpp
  have Hok := hid hok
  have hn1 := hok.h1
  have hn6 := hok.h6
  clear hh hs hpp
  have hmk := run_make_row' (P := Try.prog) 23 3 (.int .i64 0) 8 Try.underlying23 info_int rfl .i64 .i64 p.hands.length (by omega) (by omega)
  go_enter Try.func53, Try.ntmps53
  go_wp2_with (fail)
  refine (Repeat_any _ (-1) p.hands.length _ ?hi (by omega)).mono ?_
  case hi =>
    have h1 := heap_alloc_new (w.alloc (.cells #[.slice (some ⟨bh, oh, none⟩) p.hands.length caph, .slice (some ⟨bs, os, none⟩) p.shifts.length caps, .slice (some ⟨bp, op, none⟩) p.places.length capp] 29)) (.cells #[.int .i64 (-1)] 3)
    rw [World.size_alloc] at h1
    exact IntBlock.ints (xs := [-1]) h1 rfl (by decide)
  rintro e w1 ⟨g1, rfl, hg1, hb1, he1⟩
  have hbx := ((Box3.alloc w 29 (.slice (some ⟨bh, oh, none⟩) p.hands.length caph) (.slice (some ⟨bs, os, none⟩) p.shifts.length caps) (.slice (some ⟨bp, op, none⟩) p.places.length capp)).ext (Ext.ofAlloc _ (.cells #[.int .i64 (-1)] 3))).ext he1
  obtain ⟨c0, c1, c2⟩ := hbx.cells
  have hsz1 := he1.size
  have hew := (((Ext.refl w).alloc _).alloc _).trans he1
  simp only [World.size_alloc] at hg1 hsz1
  have Hbx := hid hbx
  have Hb1 := hid hb1
  have Hew := hid hew
  have hg1s := hb1.lt
  clear hbx hb1 he1 hew
  go_wp2
  have hmade : madeCells #[Value.int .i64 0] p.hands.length = ((List.replicate p.hands.length (0 : Int)).map (Value.int .i64)).toArray := by
    apply Array.ext'
    rw [toList_madeCells_one]; simp
  rw [hmade]
  have hb2 : IntBlock (w1.alloc (.cells ((List.replicate p.hands.length (0 : Int)).map (Value.int .i64)).toArray 3)) w1.heap.size (List.replicate p.hands.length 0) := heap_alloc_new w1 _
  have Hb2 := hid hb2
  have hea := Ext.ofAlloc w1 (.cells ((List.replicate p.hands.length (0 : Int)).map (Value.int .i64)).toArray 3)
  have Hea := hid hea
  clear hb2 hmk hmade c0 c1 c2 hea
  go_loopg [5] (rho p (List.replicate p.hands.length 0) + 1) (fun g ag wr => ∃ (m a : List Int) (b : Bool), ag = .bool b ∧ Hid (FS p hok m a) ∧ Hid (IntBlock wr g1 m) ∧ Hid (IntBlock wr w1.heap.size a) ∧ Hid (Box3 wr w.heap.size 29 (.slice (some ⟨bh, oh, none⟩) p.hands.length caph) (.slice (some ⟨bs, os, none⟩) p.shifts.length caps) (.slice (some ⟨bp, op, none⟩) p.places.length capp)) ∧ Hid (Ext w wr) ∧ (b = true → rho p a < g) ∧ (b = false → Hid (∀ h, h < p.hands.length → fn m h ≠ -1 ∨ fn a h = (rowAt p.hands h).length)))
  case atStart => exact ⟨_, _, true, rfl, FS.start, Hb1.out.ext Hea.out, Hb2.out, Hbx.out.ext Hea.out, Hew.out.trans Hea.out, fun _ => by omega, fun h => by simp at h⟩
  case round =>
    obtain ⟨m0, a0, b, rfl, F0, M0, A0, X0, E0, hrho, hend⟩ := hrel
    cases b
    · have hd := hend rfl
      clear hend hrho
      go_wp2
      go_ret
      exact ⟨_, rfl, m0, IntBlock.own M0.out (by omega) F0.out.lm.symm (by have := F0.out.lm; omega), F0.out.first hd.out, E0.out⟩
    · have hr0 := hrho rfl
      clear hrho hend
      obtain ⟨c0, c1, c2⟩ := X0.out.cells
      go_wp2
      clear c0 c1 c2
      go_loopg [23, 5] p.hands.length (fun g i ag wr => ∃ (k : Nat) (m a : List Int) (b : Bool), k + g = p.hands.length ∧ i = .int .i64 k ∧ ag = .bool b ∧ Hid (FS p hok m a) ∧ Hid (IntBlock wr g1 m) ∧ Hid (IntBlock wr w1.heap.size a) ∧ Hid (Box3 wr w.heap.size 29 (.slice (some ⟨bh, oh, none⟩) p.hands.length caph) (.slice (some ⟨bs, os, none⟩) p.shifts.length caps) (.slice (some ⟨bp, op, none⟩) p.places.length capp)) ∧ Hid (Ext w wr) ∧ Hid (b = true → rho p a < rho p a0) ∧ Hid (b = false → rho p a = rho p a0 ∧ ∀ h, h < k → fn m h ≠ -1 ∨ fn a h = (rowAt p.hands h).length))
      case atStart => exact ⟨0, m0, a0, false, by omega, rfl, rfl, F0, M0, A0, X0, E0, fun h => by simp at h, fun _ => ⟨rfl, fun h hh => by omega⟩⟩
      case round =>
        obtain ⟨k, m, a, b, hk, rfl, rfl, F, M, A, X, E, hT, hF⟩ := hrel
        have hkl : k ≤ p.hands.length := by omega
        have Hk := hid hk
        clear hk
        by_cases hlt : k < p.hands.length
        · have hlm := F.out.lm
          have hla := F.out.la
          have hmk' := M.out.cell (i := k) (by omega)
          have hak' := A.out.cell (i := k) (by omega)
          obtain ⟨hbh, ar, cr, hrow, hri⟩ := Hh.out.row k hlt
          have hrow' := hrow _ E.out
          have Hri := hid hri
          obtain ⟨c0, c1, c2⟩ := X.out.cells
          have hlo := F.out.lo k hlt
          have hrl := Hri.out.1
          have hbs' := E.out.size
          clear hrow hri
          by_cases hm1 : fn m k = -1
          · by_cases ha1 : fn a k = (rowAt p.hands k).length
            · -- nobody left to ask
              have hm1' : (fn m k != -1) = false := by rw [hm1]; rfl
              have ha1' : (fn a k == ((rowAt p.hands k).length : Int)) = true := by simpa using ha1
              have Hm1 := hid hm1
              have Ha1 := hid ha1
              clear hm1 ha1
              go_wp2
              go_roundg (gk - 1)
              case rel => exact ⟨k + 1, m, a, b, by have := Hk.out; omega, by go_num, rfl, F, M, A, X, E, hT, fun h => ⟨(hF.out h).1, fun x hx => by
                rcases Nat.lt_or_ge x k with h' | h'
                · exact (hF.out h).2 x h'
                · obtain rfl : x = k := by omega
                  exact .inr Ha1.out⟩⟩
              case measure => have := Hk.out; omega
            · -- an offer
              have hm1' : (fn m k != -1) = false := by rw [hm1]; rfl
              have ha1' : (fn a k == ((rowAt p.hands k).length : Int)) = false := by simpa using ha1
              have hal : fn a k < (rowAt p.hands k).length := by omega
              have ha0 := hlo.1
              obtain ⟨s, hs⟩ : ∃ s, s = nextS p a k := ⟨_, rfl⟩
              have hsr := nextS_range Hok.out ha0 hal
              have hsg := nextS_get ha0 hal
              rw [← hs] at hsr hsg
              have hs0 := hsr.1
              have hs1 := hsr.2
              obtain ⟨br, orr, rfl, hbr, hcr⟩ := Hri.out.get (fn a k).toNat (by omega)
              have hcr' := hcr _ E.out
              have hfs : fn (rowAt p.hands k) (fn a k).toNat = s := by rw [fn_get (h := (fn a k).toNat) (by omega)]; exact hsg.symm
              rw [hfs] at hcr'
              have hfree := A.out.free k
              have hrs := rho_step (p := p) hlt hla hal
              have Hrs := hid hrs
              have Hm1 := hid hm1
              have Hs := hid hs
              have Hal := hid hal
              -- behind the count's store
              have Aa := hid (A.out.set k (fn a k + 1))
              have Ma := hid (M.out.other (g' := w1.heap.size) (by omega) k (.int .i64 (fn a k + 1)))
              have Xa := hid (X.out.other (g' := w1.heap.size) (by omega) k (.int .i64 (fn a k + 1)))
              have Ea := hid (E.out.setCell (g := w1.heap.size) (by omega) k (.int .i64 (fn a k + 1)))
              obtain ⟨d0, d1, d2⟩ := Xa.out.cells
              clear hm1 ha1 hs hsg hsr hcr hrs hfs
              have hT' : Hid (∀ m', FS p hok m' (a.set k (fn a k + 1)) → (true = true → rho p (a.set k (fn a k + 1)) < rho p a0)) := by
                intro m' _ _
                have h1 := Hrs.out
                cases b
                · have := (hF.out rfl).1; omega
                · have := hT.out rfl; omega
              cases hps : possB p k s
              · have Fn := hid (F.out.skip hlt Hm1.out Hal.out (by rw [← Hs.out]; exact hps))
                go_wp2_with (fail)
                refine (possible_any _ _ _ p k s _ ⟨Hh.out.ext Ea.out, Hs'.out.ext Ea.out, Hp.out.ext Ea.out⟩ (by omega) (by omega) hs0 hs1).mono ?_
                rintro e w2 ⟨rfl, he2⟩
                have He2 := hid he2
                clear he2
                go_wp2
                go_roundg (gk - 1)
                case rel => exact ⟨k + 1, m, _, true, by have := Hk.out; omega, by go_num, rfl, Fn, Ma.out.ext He2.out, Aa.out.ext He2.out, Xa.out.ext He2.out, Ea.out.trans He2.out, fun _ => hT'.out m Fn.out trivial, fun h => by simp at h⟩
                case measure => have := Hk.out; omega
              · go_wp2_with (fail)
                refine (possible_any _ _ _ p k s _ ⟨Hh.out.ext Ea.out, Hs'.out.ext Ea.out, Hp.out.ext Ea.out⟩ (by omega) (by omega) hs0 hs1).mono ?_
                rintro e w2 ⟨rfl, he2⟩
                have M2 := hid (Ma.out.ext he2)
                have A2 := hid (Aa.out.ext he2)
                have X2 := hid (Xa.out.ext he2)
                have E2 := hid (Ea.out.trans he2)
                clear he2 d0 d1 d2
                have hm2 := M2.out.cell (i := k) (by omega)
                have hf2 := M2.out.free k
                have M3 := hid (M2.out.set k s)
                have A3 := hid (A2.out.other (g' := g1) (by omega) k (.int .i64 s))
                have X3 := hid (X2.out.other (g' := g1) (by omega) k (.int .i64 s))
                have E3 := hid (E2.out.setCell (g := g1) (by omega) k (.int .i64 s))
                obtain ⟨d0, d1, d2⟩ := X3.out.cells
                have hlen := (show (m.set k s).length = p.hands.length by rw [List.length_set]; exact hlm)
                have Hlen := hid hlen
                clear hlen
                go_wp2_with (fail)
                refine (hands_any _ _ _ _ p (m.set k s) s _ ⟨Hh.out.ext E3.out, Hs'.out.ext E3.out, Hp.out.ext E3.out⟩ (M3.out.ints Hlen.out.symm (by rw [Hlen.out]; omega)) hs0 hs1 (by rw [Hlen.out]; exact (Hok.out.col hs0).1)).mono ?_
                rintro e w3 ⟨u, rfl, hu, he3⟩
                obtain ⟨kept, hkept⟩ : ∃ kept, kept = handsI (rowAt p.shifts s) (m.set k s) s := ⟨_, rfl⟩
                rw [← hkept] at hu
                have hkl2 := F.out.kept hlt Hm1.out hs0 hps
                rw [← hkept] at hkl2
                have hkn : kept.length ≤ 17592186044416 := by
                  have h1 := List.countP_le_length (p := fun h => decide (fn m h = s)) (l := List.range p.hands.length)
                  rw [List.length_range] at h1
                  have h2 : Mkt.cnt (mkt p hok) (fn m) s = (List.range p.hands.length).countP (fun h => decide (fn m h = s)) := rfl
                  omega
                have hui := hu.ints hkn
                have Hkept := hid hkept
                have M4 := hid (M3.out.ext he3)
                have A4 := hid (A3.out.ext he3)
                have X4 := hid (X3.out.ext he3)
                have E4 := hid (E3.out.trans he3)
                obtain ⟨-, ao3, cap3, rfl, hcap3, -⟩ := id hui
                obtain ⟨b3, o3, rfl, hb3, hc3⟩ := hui.get (kept.length - 1) (by omega)
                have hc3' := hc3 _ (Ext.refl _)
                obtain ⟨f0, f1, f2⟩ := X4.out.cells
                have hpl := Hok.out.pl
                obtain ⟨bp', op', hpe, hpc⟩ := Hp.out.at s hs0 (by rw [hpl]; exact hs1)
                simp only [Option.some.injEq, Addr.mk.injEq, and_true] at hpe
                obtain ⟨rfl, rfl⟩ := hpe
                have hpc' := hpc _ E4.out
                have hk1 : 1 ≤ kept.length := by omega
                have hpl1 : s < p.places.length := by rw [hpl]; exact hs1
                have hm4 := hT'.out
                clear hu he3 hui hc3 hpc d0 d1 d2 hkept hkl2 hpl hm4
                by_cases hfull : intAt p.places s < kept.length
                · obtain ⟨w0, hw0⟩ : ∃ w0, w0 = fn kept (kept.length - 1) := ⟨_, rfl⟩
                  rw [← hw0] at hc3'
                  have hsw := F.out.swap hlt Hm1.out Hal.out (by rw [← Hs.out]; exact hps) (kept := kept) (w := w0) (by rw [← Hs.out]; exact Hkept.out) (by rw [← Hs.out]; exact hfull) (by rw [hw0]; unfold fn intAt; rfl)
                  rw [← Hs.out] at hsw
                  have hw00 := hsw.1
                  have hw01 := hsw.2.1
                  have Fn := hid hsw.2.2
                  have Hlen' := Hlen.out
                  have hm5 := M4.out.cell (i := w0.toNat) (by omega)
                  have hf5 := M4.out.free w0.toNat
                  have M5 := hid (M4.out.set w0.toNat (-1))
                  have A5 := hid (A4.out.other (g' := g1) (by omega) w0.toNat (.int .i64 (-1)))
                  have X5 := hid (X4.out.other (g' := g1) (by omega) w0.toNat (.int .i64 (-1)))
                  have E5 := hid (E4.out.setCell (g := g1) (by omega) w0.toNat (.int .i64 (-1)))
                  clear hw0 hsw Hlen'
                  go_wp2
                  go_roundg (gk - 1)
                  case rel => exact ⟨k + 1, _, _, true, by have := Hk.out; omega, by go_num, rfl, Fn, M5, A5, X5, E5, fun _ => hT'.out _ Fn.out trivial, fun h => by simp at h⟩
                  case measure => have := Hk.out; omega
                · have Fn := hid (F.out.take hlt Hm1.out Hal.out (by rw [← Hs.out]; exact hps) (by rw [← Hs.out, ← Hkept.out]; exact hfull))
                  rw [← Hs.out] at Fn
                  go_wp2
                  go_roundg (gk - 1)
                  case rel => exact ⟨k + 1, _, _, true, by have := Hk.out; omega, by go_num, rfl, Fn, M4, A4, X4, E4, fun _ => hT'.out _ Fn.out trivial, fun h => by simp at h⟩
                  case measure => have := Hk.out; omega
          · have hm1' : (fn m k != -1) = true := by simpa using hm1
            have Hm1 := hid hm1
            clear hm1
            go_wp2
            go_roundg (gk - 1)
            case rel => exact ⟨k + 1, m, a, b, by have := Hk.out; omega, by go_num, rfl, F, M, A, X, E, hT, fun h => ⟨(hF.out h).1, fun x hx => by
              rcases Nat.lt_or_ge x k with h' | h'
              · exact (hF.out h).2 x h'
              · obtain rfl : x = k := by omega
                exact .inl Hm1.out⟩⟩
            case measure => have := Hk.out; omega
        · go_wp2
          cases b
          · go_roundg 0
            case rel => exact ⟨m, a, false, rfl, F, M, A, X, E, fun h => by simp at h, fun _ => show ∀ h, h < p.hands.length → fn m h ≠ -1 ∨ fn a h = (rowAt p.hands h).length from fun h hh => (hF.out rfl).2 h (by omega)⟩
            case measure => omega
          · have := hT.out rfl
            go_roundg (rho p a0)
            case rel => exact ⟨m, a, true, rfl, F, M, A, X, E, fun _ => this, fun h => by simp at h⟩
            case measure => omega

end Go.Proofs.Ytkdfbbkonbgfmaa
