/-
  Contract of Lie.
-/
import Derived.Test.YtkdfbbkonbgfmaaLieTry
import Derived.Test.YtkdfbbkonbgfmaaLieSort
namespace Go.Proofs.Ytkdfbbkonbgfmaa
open Go.RowKit

set_option maxHeartbeats 1000000 in
theorem Lie_bad (vh vs vp : Value) (p : PlanD) (s : Int) (w : World) (hp : PlanR w vh vs vp p) (hb : planOk p = false ∨ s < 0 ∨ (p.shifts.length : Int) ≤ s) :
    Calls Try.prog 48 #[.agg #[vh, vs, vp], .int .i64 s] w fun e w' => e = .returned (.tuple #[.slice none 0 0, .int .i64 2]) ∧ Ext w w' := by
  obtain ⟨aoh, caph, aos, caps, aop, capp, rfl, rfl, rfl⟩ := planR_shape hp
  have HP := hid hp
  have X0 := hid (Box3.alloc w 29 (.slice aoh p.hands.length caph) (.slice aos p.shifts.length caps) (.slice aop p.places.length capp))
  have X1 := hid (X0.out.ext (Ext.ofAlloc _ (.cells #[.int .i64 s] 3)))
  have HE0 := hid ((Ext.ofAlloc w (.cells #[.slice aoh p.hands.length caph, .slice aos p.shifts.length caps, .slice aop p.places.length capp] 29)).alloc (.cells #[.int .i64 s] 3))
  have cS := cell_of_one (heap_alloc_new (w.alloc (.cells #[.slice aoh p.hands.length caph, .slice aos p.shifts.length caps, .slice aop p.places.length capp] 29)) (.cells #[.int .i64 s] 3))
  rw [World.size_alloc] at cS
  obtain ⟨c0, c1, c2⟩ := X1.out.cells
  have CS := hid cS
  have HB := hid hb
  clear hp hb
  cases hok : planOk p with
  | false =>
    go_enter Try.func48, Try.ntmps48
    go_wp2_with (fail)
    refine (valid_any _ _ _ p _ (HP.out.ext HE0.out)).mono ?_
    rw [hok]
    rintro e w1 ⟨rfl, he⟩
    have HE := hid (HE0.out.trans he)
    clear he
    go_wp2
    go_ret2
    exact ⟨rfl, HE.out⟩
  | true =>
    have hb := HB.out
    rw [hok] at hb
    by_cases h0 : s < 0
    · clear hb
      go_enter Try.func48, Try.ntmps48
      go_wp2_with (fail)
      refine (valid_any _ _ _ p _ (HP.out.ext HE0.out)).mono ?_
      rw [hok]
      rintro e w1 ⟨rfl, he⟩
      have HE := hid (HE0.out.trans he)
      have dS := he.cell CS.out
      clear he c0 c1 c2 cS
      go_wp2
      go_ret2
      exact ⟨rfl, HE.out⟩
    · have h1 : (p.shifts.length : Int) ≤ s := by rcases hb with h | h | h <;> simp_all
      clear hb
      go_enter Try.func48, Try.ntmps48
      go_wp2_with (fail)
      refine (valid_any _ _ _ p _ (HP.out.ext HE0.out)).mono ?_
      rw [hok]
      rintro e w1 ⟨rfl, he⟩
      have HE := hid (HE0.out.trans he)
      have dS := he.cell CS.out
      obtain ⟨d0, d1, d2⟩ := (X1.out.ext he).cells
      clear he c0 c1 c2 cS
      go_wp2
      go_ret2
      exact ⟨rfl, HE.out⟩

theorem lie_mid {P : Program} {c : Code} {a : Act} {w : World} {Q : Exit → Act → World → Prop} {A : Nat → Value → Value → Option Addr → Nat → Act} {F : Nat → Option Addr → Nat → World → Prop}
    (h1 : c.wp P (Exit.then (fun a' w' => ∃ b7 u3 u4 a5 c5, a' = A b7 u3 u4 a5 c5 ∧ F b7 a5 c5 w') (fun _ _ _ => False)) a w) (h2 : ∀ b7 u3 u4 a5 c5 w', F b7 a5 c5 w' → Q .normal (A b7 u3 u4 a5 c5) w') : c.wp P Q a w :=
  wp_mono h1 (fun e a' w' h => by
    cases e with
    | normal => obtain ⟨b7, u3, u4, a5, c5, rfl, hf⟩ := h; exact h2 _ _ _ _ _ _ hf
    | _ => exact h.elim)
/-- A box of a slice of ints. -/
def SBox (w : World) (b : Nat) (v : Value) : Prop := w.heap[b]? = some (.cells #[v] 23 (0, 0))
theorem SBox.ext {w w' : World} {b : Nat} {v : Value} (h : SBox w b v) (e : Ext w w') : SBox w' b v := heap_ext h e
theorem SBox.cell {w : World} {b : Nat} {v : Value} (h : SBox w b v) : w.cell? ⟨b, 0, none⟩ = some v := cell_of_row w b 0 _ _ _ h
theorem SBox.free {w : World} {b : Nat} {v : Value} (h : SBox w b v) : w.frozen? ⟨b, 0, none⟩ = false := by
  have h' : w.heap[b]? = some (.cells #[v] 23 (0, 0)) := h
  simp [World.frozen?, h']
theorem SBox.set {w : World} {b : Nat} {u : Value} (h : SBox w b u) (v : Value) : SBox (w.setCell ⟨b, 0, none⟩ v) b v := by
  have h' : w.heap[b]? = some (.cells #[u] 23 (0, 0)) := h
  show (w.setCell _ _).heap[b]? = _
  simp only [World.setCell, Array.getElem?_modify, if_true, h', Option.map_some]
  simp
theorem OwnI.setS {B : Nat} {w : World} {b : Nat} {u v z : Value} {xs : List Int} (h : OwnI B w z xs) (hb : SBox w b u) : OwnI B (w.setCell ⟨b, 0, none⟩ v) z xs := by
  refine ownsRow_setCell_other h (a := ⟨b, 0, none⟩) ?_ v
  obtain ⟨-, g | ⟨g, cap, cur, rfl, -, hg, -⟩⟩ := h
  · rw [g.1]; simp [Value.ownBlock]
  · intro e
    simp only [Value.ownBlock, Option.some.injEq] at e
    have hb' : w.heap[b]? = some (.cells #[u] 23 (0, 0)) := hb
    subst e
    rw [hb'] at hg
    simp only [Option.some.injEq, Obj.cells.injEq] at hg
    exact absurd hg.2.1 (by decide)
theorem ExtX.cellX {a b : Nat} {w w' : World} (h : ExtX a b w w') {p : Addr} {u : Value} (ha : p.block ≠ a) (hb : p.block ≠ b) (hc : w.cell? p = some u) : w'.cell? p = some u := by
  have e := h.block p.block (World.block_lt_of_cell? _ _ hc) ha hb
  unfold World.cell? at *
  rw [e]; exact hc
theorem ExtX.ext {a b : Nat} {w0 w w' : World} (h : ExtX a b w w') (e : Ext w0 w) (ha : w0.heap.size ≤ a) (hb : w0.heap.size ≤ b) : Ext w0 w' := by
  refine ⟨h.os.trans e.os, h.tape.trans e.tape, h.output.trans e.output, Nat.le_trans e.size h.size, fun k hk => ?_⟩
  rw [h.block k (Nat.lt_of_lt_of_le hk e.size) (by omega) (by omega)]
  exact e.block k hk
theorem Stays.own' {a b B : Nat} {w : World} {v : Value} {xs : List Int} (h : OwnI B w v xs) (hl : xs.length ≤ 17592186044416) (hk : ∀ k, v.ownBlock = some k → k ≠ a ∧ k ≠ b) : Stays a b w v xs := by
  intro w' e
  refine OwnI.ints (base := B) ?_ hl
  obtain ⟨hl2, h | ⟨g, cap, cur, rfl, hg, hh, r⟩⟩ := h
  · exact ⟨hl2, .inl h⟩
  · have := hk g rfl
    exact ⟨hl2, .inr ⟨g, cap, cur, rfl, hg, e.heap this.1 this.2 hh, r⟩⟩
theorem Box3.set1 {w : World} {b : Nat} {t : TypeId} {v0 v1 v2 : Value} (h : Box3 w b t v0 v1 v2) (v : Value) : Box3 (w.setCell ⟨b, 1, none⟩ v) b t v0 v v2 := by
  have h' : w.heap[b]? = some (.cells #[v0, v1, v2] t (0, 0)) := h
  show (w.setCell _ _).heap[b]? = _
  simp only [World.setCell, Array.getElem?_modify, if_true, h', Option.map_some]
  simp
/-- Behind the ranks of the honest plan. -/
structure LieMid (p : PlanD) (hok : PlanOk p) (s q : Nat) (W0 : World) (b7 : Nat) (a5 : Option Addr) (c5 : Nat) (w' : World) : Prop where
  e : Ext W0 w'
  b : W0.heap.size ≤ b7
  box : SBox w' b7 (.slice a5 q c5)
  m : ∃ m, IsFirst p hok m ∧ OwnI W0.heap.size w' (.slice a5 q c5) (padL (rowAt p.shifts s) m s q)

set_option maxRecDepth 20000 in
set_option maxHeartbeats 4000000 in
theorem Lie_ok (vh vs vp : Value) (p : PlanD) (hok : PlanOk p) (s : Nat) (w : World) (hp : PlanR w vh vs vp p) (hs : s < p.shifts.length) :
    Calls Try.prog 48 #[.agg #[vh, vs, vp], .int .i64 s] w fun e w' => Ext w w' ∧ ∃ m0, IsFirst p hok m0 ∧ ((∃ (a : Option Addr) (c : Nat) (f : List Int), e = .returned (.tuple #[.slice a f.length c, .int .i64 0]) ∧ Ints w' (.slice a f.length c) f ∧ LeastL (GainsBy p s m0) (rowAt p.shifts s) f) ∨ (e = .returned (.tuple #[.slice none 0 0, .int .i64 4]) ∧ ∀ l, SubL (rowAt p.shifts s) l → ¬ GainsBy p s m0 l)) := by
  obtain ⟨aoh, caph, aos, caps, aop, capp, rfl, rfl, rfl⟩ := planR_shape hp
  have HP := hid hp
  have hokb : planOk p = true := planOk_iff.2 hok
  have hs4 := hok.s4
  have hh6 := hok.h6
  obtain ⟨bS0, oS0, ar, cr, rfl, hrow, hri⟩ := hp.2.1.at s (by omega) (by omega)
  rw [Int.toNat_natCast] at hrow
  have HROW := hid hrow
  have HRI := hid hri
  have X0 := hid (Box3.alloc w 29 (.slice aoh p.hands.length caph) (.slice (some ⟨bS0, oS0, none⟩) p.shifts.length caps) (.slice aop p.places.length capp))
  have X1 := hid (X0.out.ext (Ext.ofAlloc _ (.cells #[.int .i64 (s : Int)] 3)))
  have HE0 := hid ((Ext.ofAlloc w (.cells #[.slice aoh p.hands.length caph, .slice (some ⟨bS0, oS0, none⟩) p.shifts.length caps, .slice aop p.places.length capp] 29)).alloc (.cells #[.int .i64 (s : Int)] 3))
  have cS := cell_of_one (heap_alloc_new (w.alloc (.cells #[.slice aoh p.hands.length caph, .slice (some ⟨bS0, oS0, none⟩) p.shifts.length caps, .slice aop p.places.length capp] 29)) (.cells #[.int .i64 (s : Int)] 3))
  rw [World.size_alloc] at cS
  obtain ⟨c0, c1, c2⟩ := X1.out.cells
  have CS := hid cS
  have hsi : (s : Int) < p.shifts.length := by omega
  have hs0 : ¬ ((s : Int) < 0) := by omega
  have hsg : ¬ ((p.shifts.length : Int) ≤ s) := by omega
  clear hp hrow hri
  go_enter Try.func48, Try.ntmps48
  go_wp2_with (fail)
  refine (valid_any _ _ _ p _ (HP.out.ext HE0.out)).mono ?_
  rw [hokb]
  rintro e w1 ⟨rfl, he⟩
  have HE1 := hid (HE0.out.trans he)
  have dS := he.cell CS.out
  have D := hid (X1.out.ext he)
  have DS := hid dS
  obtain ⟨d0, d1, d2⟩ := D.out.cells
  have dr := HROW.out _ HE1.out
  clear he c0 c1 c2 cS
  obtain ⟨q, hq⟩ : ∃ q, q = (intAt p.places s).toNat := ⟨_, rfl⟩
  have hq13 := planPlaces hok (s := s) (by omega) (by omega)
  have hq1 : 1 ≤ q := by omega
  have hq3 : q ≤ 3 := by omega
  obtain ⟨pb, po, hap, -⟩ := HP.out.2.2.get s (by have := hok.pl; omega)
  subst hap
  have HDP := hid (HP.out.2.2.get' s (by have := hok.pl; omega)).2
  have hqf : fn p.places s = (q : Int) := by
    have : fn p.places s = intAt p.places s := by unfold fn; rfl
    omega
  have hpi : (s : Int) < p.places.length := by have := hok.pl; omega
  have HQF := hid hqf
  have HQN := hid hq
  have HSHORT := hid (show (rowAt p.shifts s).length ≤ 6 by have := rowOk_short (rowAt_ok hok.ss (i := s) (by omega)); omega)
  have HCOL := hid (hok.col (s := s) (by omega))
  have HRF := hid (fun m (hm : IsFirst p hok m) => ranksI_was hok hs hm)
  rw [← hq] at HRF
  clear hq hq13 hqf
  go_wp2
  have HSB : Hid (SBox (w1.alloc (.cells #[.slice ar (rowAt p.shifts s).length cr] 23)) w1.heap.size (.slice ar (rowAt p.shifts s).length cr)) := heap_alloc_new w1 _
  have HE2 := hid (HE1.out.alloc (.cells #[.slice ar (rowAt p.shifts s).length cr] 23))
  have D2 := hid (D.out.ext (Ext.ofAlloc w1 (.cells #[.slice ar (rowAt p.shifts s).length cr] 23)))
  have DS2 := hid ((Ext.ofAlloc w1 (.cells #[.slice ar (rowAt p.shifts s).length cr] 23)).cell DS.out)
  clear dS d0 d1 d2 dr
  obtain ⟨bo, hbo⟩ : ∃ bo, bo = w1.heap.size := ⟨_, rfl⟩
  rw [← hbo] at HSB ⊢
  have hboW : bo + 1 = (w1.alloc (.cells #[.slice ar (rowAt p.shifts s).length cr] 23)).heap.size := by rw [hbo]; simp
  generalize w1.alloc (.cells #[.slice ar (rowAt p.shifts s).length cr] 23) = W0 at *
  clear hbo
  have HKEEP : Hid (∀ w', Ext W0 w' → (w'.cell? ⟨w.heap.size, 0, none⟩ = some (.slice aoh p.hands.length caph) ∧ w'.cell? ⟨w.heap.size, 1, none⟩ = some (.slice (some ⟨bS0, oS0, none⟩) p.shifts.length caps) ∧ w'.cell? ⟨w.heap.size, 2, none⟩ = some (.slice (some ⟨pb, po, none⟩) p.places.length capp) ∧ w'.cell? ⟨w.heap.size + 1, 0, none⟩ = some (.int .i64 (s : Int)) ∧ w'.cell? ⟨bo, 0, none⟩ = some (.slice ar (rowAt p.shifts s).length cr) ∧ w'.cell? ⟨pb, po + s, none⟩ = some (.int .i64 (q : Int)))) := by
    intro w' e
    obtain ⟨d0, d1, d2⟩ := (D2.out.ext e).cells
    have dp := HDP.out _ (HE2.out.trans e)
    rw [HQF.out] at dp
    exact ⟨d0, d1, d2, e.cell DS2.out, (HSB.out.ext e).cell, dp⟩
  have E := hid ((Ext.refl W0).drew)
  apply lie_mid (F := LieMid p hok s q W0)
  case h1 =>
    refine wp_region_held_drew (S := (fun w' => (w'.cell? ⟨w.heap.size, 0, none⟩ = some (.slice aoh p.hands.length caph) ∧ w'.cell? ⟨w.heap.size, 1, none⟩ = some (.slice (some ⟨bS0, oS0, none⟩) p.shifts.length caps) ∧ w'.cell? ⟨w.heap.size, 2, none⟩ = some (.slice (some ⟨pb, po, none⟩) p.places.length capp) ∧ w'.cell? ⟨w.heap.size + 1, 0, none⟩ = some (.int .i64 (s : Int)) ∧ w'.cell? ⟨bo, 0, none⟩ = some (.slice ar (rowAt p.shifts s).length cr) ∧ w'.cell? ⟨pb, po + s, none⟩ = some (.int .i64 (q : Int))))) (by kernel_rfl) ?hSa0 (fun hHeld => ?_)
    case hSa0 => (first | exact HKEEP.out _ E.out | ((try dsimp only); exact HKEEP.out _ E.out))
    refine wpAnyH_tk 0 (v := ?va0x1) rfl (by kernel_rfl) (by kernel_rfl) (by kernel_rfl) (fun _ _ _ h => h) (by rfl) ?hya0x1 (by assumption) ?_
    case hya0x1 => (intro w hSw; (try dsimp only at hSw); go_simp <;> with_reducible rfl)
    (try simp only [Act.put, List.setIfInBounds_toArray, List.set_cons_zero, List.set_cons_succ])
    refine wpAnyH_tk 1 (v := ?va1x2) rfl (by kernel_rfl) (by kernel_rfl) (by kernel_rfl) (fun _ _ _ h => h) (by rfl) ?hya1x2 (by assumption) ?_
    case hya1x2 => (intro w hSw; (try dsimp only at hSw); go_simp <;> with_reducible rfl)
    (try simp only [Act.put, List.setIfInBounds_toArray, List.set_cons_zero, List.set_cons_succ])
    refine wpAnyH_tk 2 (v := ?va2x3) rfl (by kernel_rfl) (by kernel_rfl) (by kernel_rfl) (fun _ _ _ h => h) (by rfl) ?hya2x3 (by assumption) ?_
    case hya2x3 => (intro w hSw; (try dsimp only at hSw); go_simp <;> with_reducible rfl)
    (try simp only [Act.put, List.setIfInBounds_toArray, List.set_cons_zero, List.set_cons_succ])
    refine wpAnyH_tk 4 (v := ?va4x4) rfl (by kernel_rfl) (by kernel_rfl) (by kernel_rfl) (fun _ _ _ h => h) (by rfl) ?hya4x4 (by assumption) ?_
    case hya4x4 => (intro w hSw; (try dsimp only at hSw); go_simp <;> with_reducible rfl)
    (try simp only [Act.put, List.setIfInBounds_toArray, List.set_cons_zero, List.set_cons_succ])
    refine wpAnyH_tk 6 (v := ?va6x5) rfl (by kernel_rfl) (by kernel_rfl) (by kernel_rfl) (fun _ _ _ h => h) (by rfl) ?hya6x5 (by assumption) ?_
    case hya6x5 => (intro w hSw; (try dsimp only at hSw); go_simp <;> with_reducible rfl)
    (try simp only [Act.put, List.setIfInBounds_toArray, List.set_cons_zero, List.set_cons_succ])
    refine wpAnyH_tk 7 (v := ?va7x6) rfl (by kernel_rfl) (by kernel_rfl) (by kernel_rfl) (fun _ _ _ h => h) (by rfl) ?hya7x6 (by assumption) ?_
    case hya7x6 => (intro w hSw; (try dsimp only at hSw); go_simp <;> with_reducible rfl)
    (try simp only [Act.put, List.setIfInBounds_toArray, List.set_cons_zero, List.set_cons_succ])
    refine wpAnyH_tk 8 (v := ?va8x7) rfl (by kernel_rfl) (by kernel_rfl) (by kernel_rfl) (fun _ _ _ h => h) (by rfl) ?hya8x7 (by assumption) ?_
    case hya8x7 => (intro w hSw; (try dsimp only at hSw); go_simp <;> with_reducible rfl)
    (try simp only [Act.put, List.setIfInBounds_toArray, List.set_cons_zero, List.set_cons_succ])
    refine wpAnyH_tk 9 (v := ?va9x8) rfl (by kernel_rfl) (by kernel_rfl) (by kernel_rfl) (fun _ _ _ h => h) (by rfl) ?hya9x8 (by assumption) ?_
    case hya9x8 => (intro w hSw; (try dsimp only at hSw); go_simp <;> with_reducible rfl)
    (try simp only [Act.put, List.setIfInBounds_toArray, List.set_cons_zero, List.set_cons_succ])
    refine wpAnyH_tk 10 (v := ?va10x9) rfl (by kernel_rfl) (by kernel_rfl) (by kernel_rfl) (fun _ _ _ h => h) (by rfl) ?hya10x9 (by assumption) ?_
    case hya10x9 => (intro w hSw; (try dsimp only at hSw); go_simp <;> with_reducible rfl)
    (try simp only [Act.put, List.setIfInBounds_toArray, List.set_cons_zero, List.set_cons_succ])
    refine anyH_two 3 12 rfl rfl (by kernel_rfl) (by rfl) (by rfl) (fun K hK => ?_) (fun K hK => ?_)
    · skip
      go_simp
      refine (first_any _ _ _ p hok _ (HP.out.ext (HE2.out.trans E.out))).mono ?_
      rintro e W1 ⟨u3, rfl, m, ho, hm, he⟩
      have HM := hid hm
      have O3 : Hid (OwnI W0.heap.size W1 u3 m) := ownsRow_base ho E.out.size
      have HML : Hid (m.length = p.hands.length) := hm.len
      replace E := hid (E.out.trans he)
      clear ho hm he
      refine hK.out _ _ ?hSa3x10 (fun hHeld => ?_)
      case hSa3x10 => (first | exact HKEEP.out _ E.out | ((try dsimp only); exact HKEEP.out _ E.out))
      clear hK K
      (try simp only [Act.put, List.setIfInBounds_toArray, List.set_cons_zero, List.set_cons_succ])
      refine anyH_two 5 12 rfl rfl (by kernel_rfl) (by rfl) (by rfl) (fun K hK => ?_) (fun K hK => ?_)
      · skip
        go_simp
        refine (hands_any _ _ _ _ p m s _ (HP.out.ext (HE2.out.trans E.out)) (OwnI.ints O3.out (by have := HML.out; omega)) (by omega) (by omega) (by intro x hx; have := HCOL.out.1 x hx; have := HML.out; omega)).mono ?_
        rintro e W2 ⟨u4, rfl, ho, he⟩
        have O4 : Hid (OwnI W0.heap.size W2 u4 (handsI (rowAt p.shifts s) m s)) := ownsRow_base ho E.out.size
        replace E := hid (E.out.trans he)
        replace O3 := hid (ownsRow_ext O3.out he)
        clear ho he
        refine hK.out _ _ ?hSa5x11 (fun hHeld => ?_)
        case hSa5x11 => (first | exact HKEEP.out _ E.out | ((try dsimp only); exact HKEEP.out _ E.out))
        clear hK K
        (try simp only [Act.put, List.setIfInBounds_toArray, List.set_cons_zero, List.set_cons_succ])
        refine anyH_two 11 12 rfl rfl (by kernel_rfl) (by rfl) (by rfl) (fun K hK => ?_) (fun K hK => ?_)
        · skip
          go_simp
          have hhl : (handsI (rowAt p.shifts s) m s).length ≤ 100 := hands_short (SubL.self hok) HSHORT.out
          refine (ranks_any _ _ (rowAt p.shifts s) _ q _ (HRI.out.ext (HE2.out.trans E.out)) (OwnI.ints O4.out (by omega)) (by have := HSHORT.out; omega) hhl (by omega)).mono ?_
          rintro e W3 ⟨u5, rfl, ho, he⟩
          rw [(HRF.out m HM.out).1] at ho
          obtain ⟨a5, c5, hu5⟩ := own_len ho
          rw [padL_len (HRF.out m HM.out).2] at hu5
          subst hu5
          have O5 : Hid (OwnI W0.heap.size W3 (.slice a5 q c5) (padL (rowAt p.shifts s) m s q)) := ownsRow_base ho E.out.size
          replace E := hid (E.out.trans he)
          replace O3 := hid (ownsRow_ext O3.out he)
          replace O4 := hid (ownsRow_ext O4.out he)
          clear ho he hhl
          refine hK.out _ _ ?hSa11x12 (fun hHeld => ?_)
          case hSa11x12 => (first | exact HKEEP.out _ E.out | ((try dsimp only); exact HKEEP.out _ E.out))
          clear hK K
          (try simp only [Act.put, List.setIfInBounds_toArray, List.set_cons_zero, List.set_cons_succ])
          refine wpAnyH_one 12 rfl (by kernel_rfl) (by rfl) (fun K hK => ?_)
          go_simp
          have he : Ext W3 (W3.alloc (.cells #[Value.slice none 0 0] 23)) := Ext.ofAlloc _ _
          have hx := heap_alloc_new W3 (.cells #[Value.slice none 0 0] 23)
          obtain ⟨b7, hb7⟩ : ∃ b, b = W3.heap.size := ⟨_, rfl⟩
          have S7 : Hid (W0.heap.size ≤ b7) := (by rw [hb7]; exact E.out.size)
          rw [← hb7] at hx ⊢
          generalize W3.alloc (.cells #[Value.slice none 0 0] 23) = W4 at he hx ⊢
          have B7 : Hid (SBox W4 b7 (.slice none 0 0)) := hx
          replace E := hid (E.out.trans he)
          replace O3 := hid (ownsRow_ext O3.out he)
          replace O4 := hid (ownsRow_ext O4.out he)
          replace O5 := hid (ownsRow_ext O5.out he)
          clear hx he hb7
          refine hK.out _ _ ?hSa12x13 (fun hHeld => ?_)
          case hSa12x13 => (first | exact HKEEP.out _ E.out | ((try dsimp only); exact HKEEP.out _ E.out))
          clear hK K
          (try simp only [Act.put, List.setIfInBounds_toArray, List.set_cons_zero, List.set_cons_succ])
          have d8 := B7.out.cell
          have fr8 := B7.out.free
          refine wpAnyH_one 13 rfl (by kernel_rfl) (by rfl) (fun K hK => ?_)
          go_simp
          replace E := hid (Ext.setCell E.out S7.out 0 (.slice a5 q c5))
          replace O5 := hid (OwnI.setS (v := .slice a5 q c5) O5.out B7.out)
          replace B7 := hid (B7.out.set (.slice a5 q c5))
          clear d8 fr8 O3 O4
          generalize W4.setCell ⟨b7, 0, none⟩ (.slice a5 q c5) = W5 at E O5 B7 ⊢
          refine hK.out _ _ ?hSa13x14 (fun hHeld => ?_)
          case hSa13x14 => (first | exact HKEEP.out _ E.out | ((try dsimp only); exact HKEEP.out _ E.out))
          clear hK K
          (try simp only [Act.put, List.setIfInBounds_toArray, List.set_cons_zero, List.set_cons_succ])
          refine wpAnyH_done (by kernel_rfl) ?_ _
          exact ⟨b7, u3, u4, a5, c5, rfl, ⟨E.out, S7.out, B7.out, m, HM.out, O5.out⟩⟩
        · skip
          go_simp
          have he : Ext W2 (W2.alloc (.cells #[Value.slice none 0 0] 23)) := Ext.ofAlloc _ _
          have hx := heap_alloc_new W2 (.cells #[Value.slice none 0 0] 23)
          obtain ⟨b7, hb7⟩ : ∃ b, b = W2.heap.size := ⟨_, rfl⟩
          have S7 : Hid (W0.heap.size ≤ b7) := (by rw [hb7]; exact E.out.size)
          rw [← hb7] at hx ⊢
          generalize W2.alloc (.cells #[Value.slice none 0 0] 23) = W3 at he hx ⊢
          have B7 : Hid (SBox W3 b7 (.slice none 0 0)) := hx
          replace E := hid (E.out.trans he)
          replace O3 := hid (ownsRow_ext O3.out he)
          replace O4 := hid (ownsRow_ext O4.out he)
          clear hx he hb7
          refine hK.out _ _ ?hSa12x15 (fun hHeld => ?_)
          case hSa12x15 => (first | exact HKEEP.out _ E.out | ((try dsimp only); exact HKEEP.out _ E.out))
          clear hK K
          (try simp only [Act.put, List.setIfInBounds_toArray, List.set_cons_zero, List.set_cons_succ])
          refine wpAnyH_one 11 rfl (by kernel_rfl) (by rfl) (fun K hK => ?_)
          go_simp
          have hhl : (handsI (rowAt p.shifts s) m s).length ≤ 100 := hands_short (SubL.self hok) HSHORT.out
          refine (ranks_any _ _ (rowAt p.shifts s) _ q _ (HRI.out.ext (HE2.out.trans E.out)) (OwnI.ints O4.out (by omega)) (by have := HSHORT.out; omega) hhl (by omega)).mono ?_
          rintro e W4 ⟨u5, rfl, ho, he⟩
          rw [(HRF.out m HM.out).1] at ho
          obtain ⟨a5, c5, hu5⟩ := own_len ho
          rw [padL_len (HRF.out m HM.out).2] at hu5
          subst hu5
          have O5 : Hid (OwnI W0.heap.size W4 (.slice a5 q c5) (padL (rowAt p.shifts s) m s q)) := ownsRow_base ho E.out.size
          replace E := hid (E.out.trans he)
          replace O3 := hid (ownsRow_ext O3.out he)
          replace O4 := hid (ownsRow_ext O4.out he)
          replace B7 := hid (B7.out.ext he)
          clear ho he hhl
          refine hK.out _ _ ?hSa11x16 (fun hHeld => ?_)
          case hSa11x16 => (first | exact HKEEP.out _ E.out | ((try dsimp only); exact HKEEP.out _ E.out))
          clear hK K
          (try simp only [Act.put, List.setIfInBounds_toArray, List.set_cons_zero, List.set_cons_succ])
          have d8 := B7.out.cell
          have fr8 := B7.out.free
          refine wpAnyH_one 13 rfl (by kernel_rfl) (by rfl) (fun K hK => ?_)
          go_simp
          replace E := hid (Ext.setCell E.out S7.out 0 (.slice a5 q c5))
          replace O5 := hid (OwnI.setS (v := .slice a5 q c5) O5.out B7.out)
          replace B7 := hid (B7.out.set (.slice a5 q c5))
          clear d8 fr8 O3 O4
          generalize W4.setCell ⟨b7, 0, none⟩ (.slice a5 q c5) = W5 at E O5 B7 ⊢
          refine hK.out _ _ ?hSa13x17 (fun hHeld => ?_)
          case hSa13x17 => (first | exact HKEEP.out _ E.out | ((try dsimp only); exact HKEEP.out _ E.out))
          clear hK K
          (try simp only [Act.put, List.setIfInBounds_toArray, List.set_cons_zero, List.set_cons_succ])
          refine wpAnyH_done (by kernel_rfl) ?_ _
          exact ⟨b7, u3, u4, a5, c5, rfl, ⟨E.out, S7.out, B7.out, m, HM.out, O5.out⟩⟩
      · skip
        go_simp
        have he : Ext W1 (W1.alloc (.cells #[Value.slice none 0 0] 23)) := Ext.ofAlloc _ _
        have hx := heap_alloc_new W1 (.cells #[Value.slice none 0 0] 23)
        obtain ⟨b7, hb7⟩ : ∃ b, b = W1.heap.size := ⟨_, rfl⟩
        have S7 : Hid (W0.heap.size ≤ b7) := (by rw [hb7]; exact E.out.size)
        rw [← hb7] at hx ⊢
        generalize W1.alloc (.cells #[Value.slice none 0 0] 23) = W2 at he hx ⊢
        have B7 : Hid (SBox W2 b7 (.slice none 0 0)) := hx
        replace E := hid (E.out.trans he)
        replace O3 := hid (ownsRow_ext O3.out he)
        clear hx he hb7
        refine hK.out _ _ ?hSa12x18 (fun hHeld => ?_)
        case hSa12x18 => (first | exact HKEEP.out _ E.out | ((try dsimp only); exact HKEEP.out _ E.out))
        clear hK K
        (try simp only [Act.put, List.setIfInBounds_toArray, List.set_cons_zero, List.set_cons_succ])
        refine wpAnyH_one 5 rfl (by kernel_rfl) (by rfl) (fun K hK => ?_)
        go_simp
        refine (hands_any _ _ _ _ p m s _ (HP.out.ext (HE2.out.trans E.out)) (OwnI.ints O3.out (by have := HML.out; omega)) (by omega) (by omega) (by intro x hx; have := HCOL.out.1 x hx; have := HML.out; omega)).mono ?_
        rintro e W3 ⟨u4, rfl, ho, he⟩
        have O4 : Hid (OwnI W0.heap.size W3 u4 (handsI (rowAt p.shifts s) m s)) := ownsRow_base ho E.out.size
        replace E := hid (E.out.trans he)
        replace O3 := hid (ownsRow_ext O3.out he)
        replace B7 := hid (B7.out.ext he)
        clear ho he
        refine hK.out _ _ ?hSa5x19 (fun hHeld => ?_)
        case hSa5x19 => (first | exact HKEEP.out _ E.out | ((try dsimp only); exact HKEEP.out _ E.out))
        clear hK K
        (try simp only [Act.put, List.setIfInBounds_toArray, List.set_cons_zero, List.set_cons_succ])
        refine wpAnyH_one 11 rfl (by kernel_rfl) (by rfl) (fun K hK => ?_)
        go_simp
        have hhl : (handsI (rowAt p.shifts s) m s).length ≤ 100 := hands_short (SubL.self hok) HSHORT.out
        refine (ranks_any _ _ (rowAt p.shifts s) _ q _ (HRI.out.ext (HE2.out.trans E.out)) (OwnI.ints O4.out (by omega)) (by have := HSHORT.out; omega) hhl (by omega)).mono ?_
        rintro e W4 ⟨u5, rfl, ho, he⟩
        rw [(HRF.out m HM.out).1] at ho
        obtain ⟨a5, c5, hu5⟩ := own_len ho
        rw [padL_len (HRF.out m HM.out).2] at hu5
        subst hu5
        have O5 : Hid (OwnI W0.heap.size W4 (.slice a5 q c5) (padL (rowAt p.shifts s) m s q)) := ownsRow_base ho E.out.size
        replace E := hid (E.out.trans he)
        replace O3 := hid (ownsRow_ext O3.out he)
        replace O4 := hid (ownsRow_ext O4.out he)
        replace B7 := hid (B7.out.ext he)
        clear ho he hhl
        refine hK.out _ _ ?hSa11x20 (fun hHeld => ?_)
        case hSa11x20 => (first | exact HKEEP.out _ E.out | ((try dsimp only); exact HKEEP.out _ E.out))
        clear hK K
        (try simp only [Act.put, List.setIfInBounds_toArray, List.set_cons_zero, List.set_cons_succ])
        have d8 := B7.out.cell
        have fr8 := B7.out.free
        refine wpAnyH_one 13 rfl (by kernel_rfl) (by rfl) (fun K hK => ?_)
        go_simp
        replace E := hid (Ext.setCell E.out S7.out 0 (.slice a5 q c5))
        replace O5 := hid (OwnI.setS (v := .slice a5 q c5) O5.out B7.out)
        replace B7 := hid (B7.out.set (.slice a5 q c5))
        clear d8 fr8 O3 O4
        generalize W4.setCell ⟨b7, 0, none⟩ (.slice a5 q c5) = W5 at E O5 B7 ⊢
        refine hK.out _ _ ?hSa13x21 (fun hHeld => ?_)
        case hSa13x21 => (first | exact HKEEP.out _ E.out | ((try dsimp only); exact HKEEP.out _ E.out))
        clear hK K
        (try simp only [Act.put, List.setIfInBounds_toArray, List.set_cons_zero, List.set_cons_succ])
        refine wpAnyH_done (by kernel_rfl) ?_ _
        exact ⟨b7, u3, u4, a5, c5, rfl, ⟨E.out, S7.out, B7.out, m, HM.out, O5.out⟩⟩
    · skip
      go_simp
      have he : Ext W0 (W0.alloc (.cells #[Value.slice none 0 0] 23)).drew := (Ext.ofAlloc _ _).drew
      have hx : (W0.alloc (.cells #[Value.slice none 0 0] 23)).drew.heap[W0.heap.size]? = _ := heap_alloc_new W0 (.cells #[Value.slice none 0 0] 23)
      replace E := hid (Ext.refl W0)
      obtain ⟨b7, hb7⟩ : ∃ b, b = W0.heap.size := ⟨_, rfl⟩
      have S7 : Hid (W0.heap.size ≤ b7) := (by rw [hb7]; exact E.out.size)
      rw [← hb7] at hx ⊢
      generalize (W0.alloc (.cells #[Value.slice none 0 0] 23)).drew = W1 at he hx ⊢
      have B7 : Hid (SBox W1 b7 (.slice none 0 0)) := hx
      replace E := hid (E.out.trans he)
      clear hx he hb7
      refine hK.out _ _ ?hSa12x22 (fun hHeld => ?_)
      case hSa12x22 => (first | exact HKEEP.out _ E.out | ((try dsimp only); exact HKEEP.out _ E.out))
      clear hK K
      (try simp only [Act.put, List.setIfInBounds_toArray, List.set_cons_zero, List.set_cons_succ])
      refine wpAnyH_one 3 rfl (by kernel_rfl) (by rfl) (fun K hK => ?_)
      go_simp
      refine (first_any _ _ _ p hok _ (HP.out.ext (HE2.out.trans E.out))).mono ?_
      rintro e W2 ⟨u3, rfl, m, ho, hm, he⟩
      have HM := hid hm
      have O3 : Hid (OwnI W0.heap.size W2 u3 m) := ownsRow_base ho E.out.size
      have HML : Hid (m.length = p.hands.length) := hm.len
      replace E := hid (E.out.trans he)
      replace B7 := hid (B7.out.ext he)
      clear ho hm he
      refine hK.out _ _ ?hSa3x23 (fun hHeld => ?_)
      case hSa3x23 => (first | exact HKEEP.out _ E.out | ((try dsimp only); exact HKEEP.out _ E.out))
      clear hK K
      (try simp only [Act.put, List.setIfInBounds_toArray, List.set_cons_zero, List.set_cons_succ])
      refine wpAnyH_one 5 rfl (by kernel_rfl) (by rfl) (fun K hK => ?_)
      go_simp
      refine (hands_any _ _ _ _ p m s _ (HP.out.ext (HE2.out.trans E.out)) (OwnI.ints O3.out (by have := HML.out; omega)) (by omega) (by omega) (by intro x hx; have := HCOL.out.1 x hx; have := HML.out; omega)).mono ?_
      rintro e W3 ⟨u4, rfl, ho, he⟩
      have O4 : Hid (OwnI W0.heap.size W3 u4 (handsI (rowAt p.shifts s) m s)) := ownsRow_base ho E.out.size
      replace E := hid (E.out.trans he)
      replace O3 := hid (ownsRow_ext O3.out he)
      replace B7 := hid (B7.out.ext he)
      clear ho he
      refine hK.out _ _ ?hSa5x24 (fun hHeld => ?_)
      case hSa5x24 => (first | exact HKEEP.out _ E.out | ((try dsimp only); exact HKEEP.out _ E.out))
      clear hK K
      (try simp only [Act.put, List.setIfInBounds_toArray, List.set_cons_zero, List.set_cons_succ])
      refine wpAnyH_one 11 rfl (by kernel_rfl) (by rfl) (fun K hK => ?_)
      go_simp
      have hhl : (handsI (rowAt p.shifts s) m s).length ≤ 100 := hands_short (SubL.self hok) HSHORT.out
      refine (ranks_any _ _ (rowAt p.shifts s) _ q _ (HRI.out.ext (HE2.out.trans E.out)) (OwnI.ints O4.out (by omega)) (by have := HSHORT.out; omega) hhl (by omega)).mono ?_
      rintro e W4 ⟨u5, rfl, ho, he⟩
      rw [(HRF.out m HM.out).1] at ho
      obtain ⟨a5, c5, hu5⟩ := own_len ho
      rw [padL_len (HRF.out m HM.out).2] at hu5
      subst hu5
      have O5 : Hid (OwnI W0.heap.size W4 (.slice a5 q c5) (padL (rowAt p.shifts s) m s q)) := ownsRow_base ho E.out.size
      replace E := hid (E.out.trans he)
      replace O3 := hid (ownsRow_ext O3.out he)
      replace O4 := hid (ownsRow_ext O4.out he)
      replace B7 := hid (B7.out.ext he)
      clear ho he hhl
      refine hK.out _ _ ?hSa11x25 (fun hHeld => ?_)
      case hSa11x25 => (first | exact HKEEP.out _ E.out | ((try dsimp only); exact HKEEP.out _ E.out))
      clear hK K
      (try simp only [Act.put, List.setIfInBounds_toArray, List.set_cons_zero, List.set_cons_succ])
      have d8 := B7.out.cell
      have fr8 := B7.out.free
      refine wpAnyH_one 13 rfl (by kernel_rfl) (by rfl) (fun K hK => ?_)
      go_simp
      replace E := hid (Ext.setCell E.out S7.out 0 (.slice a5 q c5))
      replace O5 := hid (OwnI.setS (v := .slice a5 q c5) O5.out B7.out)
      replace B7 := hid (B7.out.set (.slice a5 q c5))
      clear d8 fr8 O3 O4
      generalize W4.setCell ⟨b7, 0, none⟩ (.slice a5 q c5) = W5 at E O5 B7 ⊢
      refine hK.out _ _ ?hSa13x26 (fun hHeld => ?_)
      case hSa13x26 => (first | exact HKEEP.out _ E.out | ((try dsimp only); exact HKEEP.out _ E.out))
      clear hK K
      (try simp only [Act.put, List.setIfInBounds_toArray, List.set_cons_zero, List.set_cons_succ])
      refine wpAnyH_done (by kernel_rfl) ?_ _
      exact ⟨b7, u3, u4, a5, c5, rfl, ⟨E.out, S7.out, B7.out, m, HM.out, O5.out⟩⟩
  case h2 =>
    intro b7 u3 u4 a5 c5 w5 T
    have HT := hid T
    have e5 := T.e
    obtain ⟨d0, d1, d2⟩ := (D2.out.ext e5).cells
    have XQ := hid (Box3.alloc w5 29 (.slice aoh p.hands.length caph) (.slice (some ⟨bS0, oS0, none⟩) p.shifts.length caps) (.slice (some ⟨pb, po, none⟩) p.places.length capp))
    have e51 := e5.alloc (.cells #[.slice aoh p.hands.length caph, .slice (some ⟨bS0, oS0, none⟩) p.shifts.length caps, .slice (some ⟨pb, po, none⟩) p.places.length capp] 29)
    have E51 := hid e51
    have dq1 := (D2.out.ext e51).cells.2.1
    clear T e5 e51
    obtain ⟨bq, hbq⟩ : ∃ b, b = w5.heap.size := ⟨_, rfl⟩
    have hW5 : W0.heap.size ≤ bq := by rw [hbq]; exact HT.out.e.size
    have hb7q : b7 < bq := by rw [hbq]; exact lt_of_block HT.out.box
    go_wp2_with (fail)
    rw [← hbq] at XQ ⊢
    have HBQ := hid hbq
    clear hbq
    refine (Clone2_any w _ p.shifts _ HP.out.2.1 (HE2.out.trans E51.out) (by omega) (by omega)).mono ?_
    rintro e w6 ⟨g, c, rfl, hg1, hg2, hgc, he6, hrows⟩
    have X6 := XQ.out.ext he6
    obtain ⟨x0, x1, x2⟩ := X6.cells
    have f1 := X6.free 1
    have X7 := hid (X6.set1 (.slice (some ⟨g, 0, none⟩) p.shifts.length c))
    have hg1' : bq + 1 ≤ g := by have := HBQ.out; simp at hg1; omega
    have hneg : g ≠ bq := by omega
    have E6 := hid (E51.out.trans he6)
    have db := ((HSB.out.ext E6.out).cell)
    have hneb : ¬ bq = bo := by omega
    have ROWS : Hid (∀ j, j < p.shifts.length → ∃ u, (w6.setCell ⟨bq, 1, none⟩ (.slice (some ⟨g, 0, none⟩) p.shifts.length c)).cell? ⟨g, j, none⟩ = some u ∧ (w6.setCell ⟨bq, 1, none⟩ (.slice (some ⟨g, 0, none⟩) p.shifts.length c)).frozen? ⟨g, j, none⟩ = false ∧ Ints w u (rowAt p.shifts j)) := by
      intro j hj
      obtain ⟨u, h1, h2, h3⟩ := hrows j hj
      exact ⟨u, by rw [World.cell?_setCell_far _ _ _ _ (by exact hneg.symm)]; exact h1, (World.frozen?_setCell _ _ _ _).trans h2, h3⟩
    have E7 : Hid (Ext W0 (w6.setCell ⟨bq, 1, none⟩ (.slice (some ⟨g, 0, none⟩) p.shifts.length c))) := Ext.setCell E6.out hW5 1 _
    have H57 : Hid (Ext w5 (w6.setCell ⟨bq, 1, none⟩ (.slice (some ⟨g, 0, none⟩) p.shifts.length c))) := Ext.setCell ((Ext.ofAlloc w5 _).trans he6) (Nat.le_of_eq HBQ.out.symm) 1 _
    have hg7 : g < (w6.setCell ⟨bq, 1, none⟩ (.slice (some ⟨g, 0, none⟩) p.shifts.length c)).heap.size := by simpa using hg2
    clear d0 d1 d2 dq1 hrows he6 X6 hg1 hg2
    go_wp2_with (fail)
    clear x0 x1 x2 f1 db
    refine (Values_any ar (rowAt p.shifts s).length cr _).mono ?_
    generalize w6.setCell ⟨bq, 1, none⟩ (.slice (some ⟨g, 0, none⟩) p.shifts.length c) = w7 at X7 ROWS E7 H57 hg7 ⊢
    rintro e w8 ⟨rfl, hw8⟩
    have h78 : Ext w7 w8 := by rw [hw8]; exact Ext.ofAlloc _ _
    have hc8 : w8.cell? ⟨w7.heap.size, 0, none⟩ = some (.slice ar (rowAt p.shifts s).length cr) := by rw [hw8]; exact cell_of_one (heap_alloc_new w7 _)
    have hB8 : w7.heap.size < w8.heap.size := by rw [hw8]; simp
    have E8 := hid (E7.out.trans h78)
    have hI8 : IntsB w8.heap.size w8 ar (rowAt p.shifts s) := by
      intro j hj
      obtain ⟨-, ao', c', e', -, hc'⟩ := HRI.out.ext (HE2.out.trans E8.out)
      simp only [Value.slice.injEq, true_and] at e'
      obtain ⟨rfl, rfl⟩ := e'
      obtain ⟨b, off, h1, h2⟩ := hc' j hj
      exact ⟨b, off, h1, World.block_lt_of_cell? _ _ h2, by rw [h2]; simp [hj]⟩
    have X8 := hid (X7.out.ext h78)
    have HB7E := hid hB8
    have HC8 := hid hc8
    have HI8 := hid hI8
    have H78 := hid h78
    clear hw8 h78 hc8 hI8 hB8
    go_wp2_with (fail)
    refine (Sorted_vals w7.heap.size cr ar (rowAt p.shifts s) (by have := HSHORT.out; omega) _ HB7E.out HC8.out HI8.out).mono ?_
    rintro e w9 ⟨v9, rfl, ho9, he9⟩
    have HO9 := hid ho9
    obtain ⟨a9, c9, rfl⟩ := own_len ho9
    have E9 := hid (E8.out.trans he9)
    have H79 := hid (H78.out.trans he9)
    have hmf : ∀ (fn : Fn) (first cap : Array Value) (w : World), (Instr.makeFunc fn first cap).run Try.prog w = .ok (.func fn first cap) w := fun _ _ _ _ => rfl
    clear ho9 he9
    obtain ⟨m, hm, hm5⟩ := HT.out.m
    obtain ⟨n9, hn9⟩ : ∃ n, n = w9.heap.size := ⟨_, rfl⟩
    obtain ⟨C, hC⟩ : ∃ C : LieC, C = { p := p, s := s, m0 := m, names := srt (rowAt p.shifts s), bS := g, bF := n9 + 2, bq := bq, bs := w.heap.size + 1, bo := bo, bp := w.heap.size, bw := b7, bg := n9 + 1, bn := n9, bt := n9 + 3, cS := c, ah := aoh, ch := caph, ap := some ⟨pb, po, none⟩, cp := capp, vs := .slice (some ⟨bS0, oS0, none⟩) p.shifts.length caps, ao := ar, co := cr, aw := a5, cw := c5, an := a9, cn := c9 } := ⟨_, rfl⟩
    have TRY : Hid (∀ Wb, Wb = ((((w9.alloc (.cells #[.slice a9 (srt (rowAt p.shifts s)).length c9] 23)).alloc (.cells #[.func (.func 86) #[] #[.pointer (some ⟨bq, 0, none⟩), .pointer (some ⟨w.heap.size + 1, 0, none⟩), .pointer (some ⟨bo, 0, none⟩), .pointer (some ⟨w.heap.size, 0, none⟩), .pointer (some ⟨b7, 0, none⟩)]] 57)).alloc (.cells #[.slice none 0 0] 23)).alloc (.cells #[.func (.func 87) #[] #[.pointer (some ⟨n9 + 1, 0, none⟩), .pointer (some ⟨n9 + 2, 0, none⟩), .pointer (some ⟨n9, 0, none⟩), .pointer (some ⟨n9 + 3, 0, none⟩)]] 57)) → LieOn C Wb ∧ LieRows C Wb ∧ (∃ a n c, FB C Wb (.slice a n c)) ∧ Ext w9 Wb) := by
      intro Wb hWb
      have eN : Ext w9 Wb := by rw [hWb]; exact (((Ext.ofAlloc _ _).alloc _).alloc _).alloc _
      have b1 : Wb.heap[n9]? = some (.cells #[.slice a9 (srt (rowAt p.shifts s)).length c9] 23 (0, 0)) := by
        rw [hWb, hn9]; exact heap_ext (heap_alloc_new w9 _) (((Ext.ofAlloc _ _).alloc _).alloc _)
      have b2 : Wb.heap[n9 + 1]? = some (.cells #[.func (.func 86) #[] #[.pointer (some ⟨bq, 0, none⟩), .pointer (some ⟨w.heap.size + 1, 0, none⟩), .pointer (some ⟨bo, 0, none⟩), .pointer (some ⟨w.heap.size, 0, none⟩), .pointer (some ⟨b7, 0, none⟩)]] 57 (0, 0)) := by
        rw [hWb, hn9, ← World.size_alloc w9 (.cells #[.slice a9 (srt (rowAt p.shifts s)).length c9] 23)]
        exact heap_ext (heap_alloc_new _ _) ((Ext.ofAlloc _ _).alloc _)
      have b3 : Wb.heap[n9 + 1 + 1]? = some (.cells #[.slice none 0 0] 23 (0, 0)) := by
        rw [hWb]
        have h := heap_alloc_new ((w9.alloc (.cells #[.slice a9 (srt (rowAt p.shifts s)).length c9] 23)).alloc (.cells #[.func (.func 86) #[] #[.pointer (some ⟨bq, 0, none⟩), .pointer (some ⟨w.heap.size + 1, 0, none⟩), .pointer (some ⟨bo, 0, none⟩), .pointer (some ⟨w.heap.size, 0, none⟩), .pointer (some ⟨b7, 0, none⟩)]] 57)) (.cells #[.slice none 0 0] 23)
        rw [World.size_alloc, World.size_alloc, ← hn9] at h
        exact heap_ext h (Ext.ofAlloc _ _)
      have b4 : Wb.heap[n9 + 1 + 1 + 1]? = some (.cells #[.func (.func 87) #[] #[.pointer (some ⟨n9 + 1, 0, none⟩), .pointer (some ⟨n9 + 2, 0, none⟩), .pointer (some ⟨n9, 0, none⟩), .pointer (some ⟨n9 + 3, 0, none⟩)]] 57 (0, 0)) := by
        rw [hWb]
        have h := heap_alloc_new (((w9.alloc (.cells #[.slice a9 (srt (rowAt p.shifts s)).length c9] 23)).alloc (.cells #[.func (.func 86) #[] #[.pointer (some ⟨bq, 0, none⟩), .pointer (some ⟨w.heap.size + 1, 0, none⟩), .pointer (some ⟨bo, 0, none⟩), .pointer (some ⟨w.heap.size, 0, none⟩), .pointer (some ⟨b7, 0, none⟩)]] 57)).alloc (.cells #[.slice none 0 0] 23)) (.cells #[.func (.func 87) #[] #[.pointer (some ⟨n9 + 1, 0, none⟩), .pointer (some ⟨n9 + 2, 0, none⟩), .pointer (some ⟨n9, 0, none⟩), .pointer (some ⟨n9 + 3, 0, none⟩)]] 57)
        rw [World.size_alloc, World.size_alloc, World.size_alloc, ← hn9] at h
        exact h
      have hs79 := H79.out.size
      have hw5s : w5.heap.size = bq := HBQ.out.symm
      have hw0 := E9.out.size
      have hws := HE2.out.size
      have hds : w.heap.size + 1 < W0.heap.size := World.block_lt_of_cell? _ _ DS2.out
      have hs8 : w7.heap.size < w8.heap.size := HB7E.out
      have e7b := H79.out.trans eN
      have ewb := HE2.out.trans (E9.out.trans eN)
      have hq2 := HQN.out
      refine ⟨?_, ?_, ?_, eN⟩
      · intro w' hk
        rw [hC] at hk ⊢
        have te : Ext w w' := hk.ext ewb (by show _ ≤ g; omega) (by show _ ≤ n9 + 2; omega)
        have te5 : Ext w5 w' := hk.ext (H57.out.trans e7b) (by show _ ≤ g; omega) (by show _ ≤ n9 + 2; omega)
        have hst := Stays.own' (a := g) (b := n9 + 2) (ownsRow_ext HO9.out eN) (by rw [srt_len]; have := HSHORT.out; omega) (fun k hk => by have := HO9.out.lt k hk; constructor <;> omega)
        have hcw := (HT.out.box.ext te5).cell
        have hwas := (OwnI.ints hm5 (by rw [padL_len (HRF.out m hm).2]; omega)).ext te5
        rw [hq2] at hcw hwas
        exact {
          q := hk.heap (by show bq ≠ g; omega) (by show bq ≠ n9 + 2; omega) (X7.out.ext e7b)
          p := hk.heap (by show w.heap.size ≠ g; omega) (by show w.heap.size ≠ n9 + 2; omega) (D2.out.ext (E9.out.trans eN))
          cS := hgc
          ne := by show n9 + 2 ≠ g; omega
          s := hk.cellX (by show w.heap.size + 1 ≠ g; omega) (by show w.heap.size + 1 ≠ n9 + 2; omega) ((E9.out.trans eN).cell DS2.out)
          o := hk.cellX (by show bo ≠ g; omega) (by show bo ≠ n9 + 2; omega) ((HSB.out.ext (E9.out.trans eN)).cell)
          own := HRI.out.ext te
          hands := HP.out.1.ext te
          places := HP.out.2.2.ext te
          w := hcw
          was := hwas
          g := cell_of_row w' (n9 + 1) 0 _ _ _ (hk.heap (by show n9 + 1 ≠ g; omega) (by show n9 + 1 ≠ n9 + 2; omega) b2)
          n := cell_of_row w' n9 0 _ _ _ (hk.heap (by show n9 ≠ g; omega) (by show n9 ≠ n9 + 2; omega) b1)
          names := hst w' hk
          t := cell_of_row w' (n9 + 3) 0 _ _ _ (hk.heap (by show n9 + 3 ≠ g; omega) (by show n9 + 3 ≠ n9 + 2; omega) b4) }
      · rw [hC]
        intro j hj
        obtain ⟨u, h1, h2, h3⟩ := ROWS.out j hj
        exact ⟨u, e7b.cell h1, frozen_ext e7b h1 h2, fun _ => Stays.of h3 ewb (by show _ ≤ g; omega) (by show _ ≤ n9 + 2; omega)⟩
      · rw [hC]
        exact ⟨none, 0, 0, b3⟩
    have hnd : (srt (rowAt p.shifts s)).Pairwise (· < ·) := by
      have h1 := srt_sorted (rowAt p.shifts s)
      have h2 : (srt (rowAt p.shifts s)).Nodup := (srt_perm _).nodup_iff.2 HCOL.out.2
      exact List.Pairwise.imp₂ (fun a b g1 g2 => by omega) h1 h2
    obtain ⟨hL, hR, hFb, hE⟩ := TRY.out _ rfl
    have CT := hid (lieTry_any C (by rw [hC]; exact hok) (by rw [hC]; exact hs) (by subst hC; exact hm) (by rw [hC]; exact hnd) (by rw [hC]; exact fun x => (srt_perm _).mem_iff) 100 [] (by rw [hC]; have := HSHORT.out; show (rowAt p.shifts s).length < _; simp; omega) (.slice none 0 0) _ hL hR hFb (fun _ _ => Ints.nil _ _ _) (SubL.nil _))
    have HEW := hid (HE2.out.trans (E9.out.trans hE))
    have hgw : w.heap.size ≤ g := by have := HE2.out.size; omega
    have h9w : w.heap.size ≤ w9.heap.size + 2 := by have := (HE2.out.trans E9.out).size; omega
    have HM := hid hm
    subst hC
    subst hn9
    clear hL hR hFb hE hm hm5 TRY hnd
    go_wp2_with (fail)
    refine CT.out.mono ?_
    rintro e w10 ⟨b, rfl, hk, hy, hn⟩
    have HW10 : Hid (Ext w w10) := hk.k.ext HEW.out hgw h9w
    cases b with
    | true =>
      obtain ⟨a, cc, f, hfb, hif, hle⟩ := hy rfl
      have cf : w10.cell? ⟨w9.heap.size + 1 + 1, 0, none⟩ = some (.slice a f.length cc) := cell_of_row w10 (w9.heap.size + 2) 0 _ _ _ hfb
      have HIF := hid hif
      have HLE := hid hle
      clear hk hy hn hfb hif hle
      go_wp2
      go_ret2
      exact ⟨HW10.out, m, HM.out, .inl ⟨a, cc, f, rfl, HIF.out, HLE.out.top⟩⟩
    | false =>
      have HNO := hid (hn rfl)
      clear hk hy hn
      go_wp2
      go_ret2
      exact ⟨HW10.out, m, HM.out, .inr ⟨rfl, NoneE.top HNO.out⟩⟩

end Go.Proofs.Ytkdfbbkonbgfmaa
