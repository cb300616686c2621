/-
  RouteMoats: Moats returns moats that fit and bound at least half of the least cost, or the documented error. Conditions: those of the card.
-/
import Derived.Test.YtkbkgkmogbkabaaDoorK10
import Derived.Maps.AppendAt
import Derived.Test.YtkbkgkmogbkabaaDoorK6
import Derived.Test.YtkbkgkmogbkabaaDoorK9
import Derived.Test.YtkbkgkmogbkabaaDoorK14
import Derived.Test.YtkbkgkmogbkabaaDoorK5
import Derived.Test.YtkbkgkmogbkabaaDoorCards
import Derived.Test.YtkbkgkmogbkabaaDoorTie
import Derived.Test.YtkbkgkmogbkabaaDoorMoatsLaw1
/-
  Contract of the reference's Best.
-/
namespace Go.Proofs.YtkbkgkmogbkabaaDoor
open Go.RowKit

def FirstAns (a b : List Int) (e : Ending) : Prop := (firstP a b ∧ e = .returned (.bool true)) ∨ (¬ firstP a b ∧ e = .returned (.bool false))
theorem first_lenY {a b : List Int} (h : a.length < b.length) : FirstAns a b (.returned (.bool true)) := .inl ⟨.inl h, rfl⟩
theorem first_lenN {a b : List Int} (h : ¬ a.length < b.length) (hne : a.length ≠ b.length) : FirstAns a b (.returned (.bool false)) := .inr ⟨fun g => by
  rcases g with g | ⟨g, -⟩
  · exact h g
  · exact hne g, rfl⟩
theorem first_atY {a b : List Int} {k : Nat} (hl : a.length = b.length) (hk : k < a.length) (h : ∀ j, j < k → fn a j = fn b j) (hx : fn a k < fn b k) : FirstAns a b (.returned (.bool true)) := .inl ⟨.inr ⟨hl, k, hk, h, hx⟩, rfl⟩
theorem first_atN {a b : List Int} {k : Nat} (hl : a.length = b.length) (hk : k ≤ a.length) (h : ∀ j, j < k → fn a j = fn b j) (hx : k < a.length → fn b k < fn a k) : FirstAns a b (.returned (.bool false)) := .inr ⟨fun g => by
  rcases g with g | ⟨-, m, m1, m2, m3⟩
  · omega
  · rcases Nat.lt_trichotomy m k with e | e | e
    · have := h m e; omega
    · subst e; have := hx m1; omega
    · have h1 := m2 k e
      have h2 := hx (by omega)
      omega, rfl⟩

set_option maxRecDepth 20000 in
set_option maxHeartbeats 4000000 in
theorem rfirst_any (v u : Value) (a b : List Int) (w : World) (ha : Ints w v a) (hb : Ints w u b) :
    Calls Tryd.prog 42 #[v, u] w fun e w' => FirstAns a b e ∧ w' = w := by
  have HA := hid ha
  have HB := hid hb
  obtain ⟨hla, ao, cap, rfl, -⟩ := ha
  obtain ⟨-, bo, cbp, rfl, -⟩ := hb
  by_cases hl : a.length = b.length
  · have HL := hid hl
    have hnb : (((a.length : Nat) : Int) != ((b.length : Nat) : Int)) = false := by simp [hl]
    clear hl
    go_enter Tryd.func42, Tryd.ntmps42
    go_wp2
    go_loop [19] (fun i => ∃ k : Nat, k ≤ a.length ∧ i = .int .i64 k ∧ Hid (∀ j, j < k → fn a j = fn b j)) (fun i => a.length - (intOf i).toNat)
    case atStart => exact ⟨0, Nat.zero_le _, rfl, fun j hj => by omega⟩
    case round =>
      obtain ⟨k, hk, rfl, HE⟩ := hrel
      by_cases hlt : k < a.length
      · obtain ⟨p, o, rfl, -, hc⟩ := HA.out.get k hlt
        obtain ⟨q, r, rfl, -, hd⟩ := HB.out.get k (by have := HL.out; omega)
        have dk := hc w (Ext.refl w)
        have ek := hd w (Ext.refl w)
        have hki : (k : Int) < a.length := by omega
        have hkj : (k : Int) < b.length := by have := HL.out; omega
        obtain ⟨x, hx⟩ : ∃ x, x = fn a k := ⟨_, rfl⟩
        obtain ⟨y, hy⟩ : ∃ y, y = fn b k := ⟨_, rfl⟩
        rw [← hx] at dk
        rw [← hy] at ek
        have HX := hid hx
        have HY := hid hy
        clear hc hd hx hy
        by_cases he : x = y
        · have heb : (x != y) = false := by simp [he]
          have HE2 : Hid (∀ j, j < k + 1 → fn a j = fn b j) := by
            intro j hj
            by_cases e : j = k
            · rw [e, ← HX.out, ← HY.out]; exact he
            · exact HE.out j (by omega)
          clear he
          go_wp2
          go_round
          case rel => exact ⟨k + 1, by omega, by go_num, HE2⟩
          case measure => simp [intOf]; omega
        · have heb : (x != y) = true := bne_iff_ne.2 he
          by_cases h2 : x < y
          · have HR : Hid (FirstAns a b (.returned (.bool true))) := first_atY HL.out hlt HE.out (by rw [← HX.out, ← HY.out]; exact h2)
            clear he
            go_wp2
            go_ret
            exact ⟨HR.out, rfl⟩
          · have HR : Hid (FirstAns a b (.returned (.bool false))) := first_atN HL.out hk HE.out (fun _ => by rw [← HX.out, ← HY.out]; omega)
            have h2b : decide (x < y) = false := decide_eq_false h2
            clear he
            go_wp2
            go_ret
            exact ⟨HR.out, rfl⟩
      · have HR : Hid (FirstAns a b (.returned (.bool false))) := first_atN HL.out hk HE.out (fun h => absurd h hlt)
        have hki : ¬ ((k : Int) < a.length) := by omega
        go_wp2
        go_ret
        exact ⟨HR.out, rfl⟩
  · have hnb : (((a.length : Nat) : Int) != ((b.length : Nat) : Int)) = true := bne_iff_ne.2 (by omega)
    by_cases h2 : a.length < b.length
    · have HR := hid (first_lenY h2)
      have h3 : ((a.length : Nat) : Int) < ((b.length : Nat) : Int) := by omega
      clear hl
      go_enter Tryd.func42, Tryd.ntmps42
      go_wp2
      go_ret
      exact ⟨HR.out, rfl⟩
    · have HR := hid (first_lenN h2 hl)
      have h3 : ¬ (((a.length : Nat) : Int) < ((b.length : Nat) : Int)) := by omega
      clear hl
      go_enter Tryd.func42, Tryd.ntmps42
      go_wp2
      go_ret
      exact ⟨HR.out, rfl⟩

def BestAns (B : Nat) (rs : List RoadD) (s : Nat) (e : Ending) (w' : World) : Prop :=
  (¬ Cn rs s ∧ e = .returned (.tuple #[.slice none 0 0, .int .i64 4])) ∨ (Cn rs s ∧ ∃ v l, e = .returned (.tuple #[v, .int .i64 0]) ∧ OwnI B w' v l ∧ IsBest rs s l)

set_option maxRecDepth 20000 in
set_option maxHeartbeats 8000000 in
theorem Best_any (vr : Value) (N : Nat) (rs : List RoadD) (s : Nat) (w : World) (hv : Roads w vr rs) (hok : mapOk ⟨N, rs⟩ = true) (hs : stopsB N s = true) :
    Calls Tryd.prog 19 #[.agg #[.int .i64 N, vr], .int .i64 s] w fun e w' => BestAns w.heap.size rs s e w' ∧ Ext w w' := by
  obtain ⟨ao, cap, rfl⟩ := hv.shape
  obtain ⟨h1, h8, h16, hall, s0, sN⟩ := ok_parts hok hs
  have HV := hid hv
  have HAll := hid hall
  have HSN := hid sN
  have p16 : (2 : Nat) ^ rs.length ≤ 2 ^ 16 := Nat.pow_le_pow_right (by decide) h16
  have e16 : (2 : Nat) ^ 16 = 65536 := by decide
  obtain ⟨M, hM⟩ : ∃ M, M = 2 ^ rs.length := ⟨_, rfl⟩
  have HMM := hid hM
  have eM : ((2 : Int) ^ rs.length) = (M : Int) := by rw [hM]; simp
  rw [← hM] at p16
  have hw1 : IntKind.i64.wrap (2 ^ rs.length) = (M : Int) := by rw [eM]; exact wraps_i64_62 _ (by omega) (by omega)
  obtain ⟨i0, hi, hz0, hz1, hz2⟩ := info_parts info_int
  have hX := Box2.alloc w 24 (.int .i64 N) (.slice ao rs.length cap)
  have hE0 := Ext.ofAlloc w (.cells #[.int .i64 N, .slice ao rs.length cap] 24)
  obtain ⟨c0, c1⟩ := hX.cells
  clear hv hok hs hall sN hM eM
  go_enter Tryd.func19, Tryd.ntmps19
  go_wp2
  clear c0 c1
  have HX := hid hX
  have HE0 := hid hE0
  generalize w.alloc (.cells #[.int .i64 N, .slice ao rs.length cap] 24) = W at HX HE0 ⊢
  clear hX hE0 hw1
  go_loopg [17, 6, 7] M (fun g i u c wr => ∃ (j : Nat) (z : Value) (cc : Int) (b : List Int), j + g = M ∧ i = .int .i64 j ∧ u = z ∧ c = .int .i64 cc ∧ Hid (BestTo rs N s j cc b) ∧ Hid (OwnI W.heap.size wr z b) ∧ Hid (b.length ≤ 16) ∧ Hid (cc ≤ 1000) ∧ Hid (Ext W wr))
  case atStart => exact ⟨0, _, _, [], by omega, rfl, rfl, rfl, BestTo.start _ _ _, World.ownsRow_nil _ _ _ _, by show (0 : Nat) ≤ 16; omega, by show (-1 : Int) ≤ 1000; omega, Ext.refl _⟩
  case round =>
    obtain ⟨j, uB, cc, b, hj, rfl, huz, rfl, BT, OB, BL, CH, E⟩ := hrel
    have huz2 := huz.symm
    subst huz2
    have hjM : j ≤ M := by omega
    have Hj := hid hj
    clear hj
    by_cases hjt : j < M
    · have hji : (j : Int) < M := by omega
      obtain ⟨WL, hWL⟩ : ∃ x, x = wr := ⟨_, rfl⟩
      have LB := OB
      have LE := E
      rw [← hWL] at LB LE
      have LR : Hid (Ext WL wr) := by show Ext _ _; rw [hWL]; exact Ext.refl _
      obtain ⟨c0, c1⟩ := (HX.out.ext E.out).cells
      clear OB E hWL
      go_wp2
      clear c0 c1
      go_loopg [23, 9] rs.length (fun g i v wr => ∃ (k : Nat) (z : Value), k + g = rs.length ∧ i = .int .i64 k ∧ v = z ∧ Hid (OwnI WL.heap.size wr z (selN k j)) ∧ Hid (Ext WL wr))
      case atStart => exact ⟨0, _, by omega, rfl, rfl, World.ownsRow_nil _ _ _ _, LR⟩
      case round =>
        clear LR
        obtain ⟨k, vA, hk, rfl, hvz, HO, E⟩ := hrel
        have hvz2 := hvz.symm
        subst hvz2
        have hkn : k ≤ rs.length := by omega
        have Hk := hid hk
        clear hk
        by_cases hlt : k < rs.length
        · have hki : (k : Int) < rs.length := by omega
          have hp : (0 : Int) < 2 ^ k := Int.pow_pos (by omega)
          have u0 : 0 ≤ (j : Int) / 2 ^ k := Int.ediv_nonneg (by omega) (Int.le_of_lt hp)
          have u1 : (j : Int) / 2 ^ k ≤ j := Int.ediv_le_self _ (by omega)
          have ub := bits_one _ u0 (by omega)
          rw [bit_zero] at ub
          clear u0 u1 hp
          by_cases hbit : j.testBit k = true
          · rw [if_pos hbit] at ub
            have HY := hid (selN_yes hbit)
            obtain ⟨av, nv, cv, rfl⟩ := own_shape HO.out
            have hsz := E.out.size
            have hrl := selN_hi k j
            clear hbit
            go_wp2_with (at_builtin; go_must (refine wpList_append_own_at _ rfl _ _ 25 rfl WL.heap.size 3 i0 (.int .i64 0) 1 8 Tryd.underlying25 hi hz0 hz1 hz2 rfl (by decide) _ _ _ rfl (HO.out.alloc _) ⟨wr.heap.size, 0, none⟩ 1 1 [.int .i64 k] rfl rfl (cell_one_new _ _ _) (by intro x hx; simp at hx; subst hx; rfl) ?c3 ?c4 ?c5 ?_))
            case c3 => unfold maxLen; omega
            case c4 => omega
            case c5 => simp; omega
            intro v' wA hown' hg _ _
            have hR := OwnI.push (xs := selN k j) rfl hown'
            rw [← HY.out] at hR
            have HR := hid hR
            have HE5 := hid (Ext.push E.out HO.out (Nat.le_refl _) hg)
            clear hown' hg hR hsz hrl
            go_wp2
            go_roundg (gk - 1)
            case rel => exact ⟨k + 1, _, by have := Hk.out; omega, by go_num, rfl, HR, HE5⟩
            case measure => have := Hk.out; omega
          · rw [if_neg hbit] at ub
            have HY := hid (selN_no hbit)
            have HR : Hid (OwnI WL.heap.size wr vA (selN (k + 1) j)) := by show OwnI _ _ _ _; rw [HY.out]; exact HO.out
            clear hbit
            go_wp2
            go_roundg (gk - 1)
            case rel => exact ⟨k + 1, _, by have := Hk.out; omega, by go_num, rfl, HR, E⟩
            case measure => have := Hk.out; omega
        · have ek : k = rs.length := by omega
          have hki : ¬ ((k : Int) < rs.length) := by omega
          have ho := HO.out
          rw [ek] at ho
          obtain ⟨R, hR⟩ : ∃ R, R = selN rs.length j := ⟨_, rfl⟩
          have hRl := selN_hi rs.length j
          rw [← hR] at ho hRl
          have HRR := hid hR
          clear HO
          have HO := hid ho
          obtain ⟨av, cv, rfl⟩ := own_len ho
          have EW := hid (LE.out.trans E.out)
          obtain ⟨c0, c1⟩ := (HX.out.ext EW.out).cells
          have OB2 : Hid (OwnI W.heap.size wr uB b) := ownsRow_ext LB.out E.out
          clear ek ho hR hlt
          by_cases hRN : R.length < N
          · have hgi : ¬ ((N : Int) ≤ R.length) := by omega
            have hgi2 : decide ((R.length : Int) ≥ N) = false := decide_eq_false (by omega)
            go_wp2_with (fail)
            refine (RTree_any _ _ N rs R s _ (Roads.ext HV.out (HE0.out.trans EW.out)) (OwnI.ints HO.out (by omega)) HAll.out h8 h16 s0 HSN.out).mono ?_
            rintro e w2 ⟨hans, he2⟩
            have EW2 := hid (EW.out.trans he2)
            have OB3 : Hid (OwnI W.heap.size w2 uB b) := ownsRow_ext OB2.out he2
            have OR3 : Hid (OwnI W.heap.size w2 (.slice av R.length cv) R) := ownsRow_base (ownsRow_ext HO.out he2) (LE.out.size)
            have HI3 := hid ((OwnI.ints HO.out (by omega)).ext he2)
            clear he2 c0 c1
            have HAN := hid hans
            clear hans
            rcases HAN.out with ⟨ht, rfl⟩ | ⟨hn, rfl⟩
            · obtain ⟨k0, k1⟩ := treeP_cost HAll.out h16 ht
              have HT : Hid (treeP rs s (selN rs.length j)) := by show treeP _ _ _; rw [← HRR.out]; exact ht
              obtain ⟨c', hc'⟩ : ∃ c', c' = costL rs R := ⟨_, rfl⟩
              rw [← hc'] at k0 k1 ⊢
              have HC : Hid (costL rs (selN rs.length j) = c') := by show _ = _; rw [← HRR.out]; exact hc'.symm
              have H16 : Hid (R.length ≤ 16) := by show _ ≤ _; omega
              have HC10 : Hid (c' ≤ 1000) := by show _ ≤ _; omega
              clear ht hc' HAN
              by_cases q1 : 0 ≤ cc
              · have q1b : decide (cc ≥ 0) = true := decide_eq_true q1
                by_cases q2 : cc < c'
                · have q2b : decide (c' > cc) = true := decide_eq_true q2
                  have BT2 : Hid (BestTo rs N s (j + 1) cc b) := BT.out.keep q1 (.inl (by rw [HC.out]; exact q2))
                  go_wp2
                  go_roundg (M - (j + 1))
                  case rel => exact ⟨j + 1, _, cc, b, by omega, by go_num, rfl, rfl, BT2, OB3, BL, CH, EW2⟩
                  case measure => have := Hj.out; omega
                · have q2b : decide (c' > cc) = false := decide_eq_false q2
                  by_cases q3 : c' = cc
                  · have q3b : (c' == cc) = true := beq_iff_eq.2 q3
                    have HQ3 := hid q3
                    clear q3
                    go_wp2_with (fail)
                    refine (rfirst_any _ _ R b _ HI3.out (OwnI.ints OB3.out (by have := BL.out; omega))).mono ?_
                    rintro e w3 ⟨hf, hw3⟩
                    have hw32 := hw3.symm
                    subst hw32
                    have HF := hid hf
                    clear hf hw3
                    rcases HF.out with ⟨hf, rfl⟩ | ⟨hf, rfl⟩
                    · have BT2 : Hid (BestTo rs N s (j + 1) c' R) := by
                        have := BT.out.take HT.out (by rw [HC.out]; exact k0) (.inr (.inr ⟨by rw [HC.out]; exact HQ3.out, by rw [← HRR.out]; exact hf⟩))
                        rwa [HC.out, ← HRR.out] at this
                      clear hf HF
                      go_wp2
                      go_roundg (M - (j + 1))
                      case rel => exact ⟨j + 1, _, c', R, by omega, by go_num, rfl, rfl, BT2, OR3, H16, HC10, EW2⟩
                      case measure => have := Hj.out; omega
                    · have BT2 : Hid (BestTo rs N s (j + 1) cc b) := BT.out.keep q1 (.inr ⟨by rw [HC.out]; exact HQ3.out.symm, by rw [← HRR.out]; exact hf⟩)
                      clear hf HF
                      go_wp2
                      go_roundg (M - (j + 1))
                      case rel => exact ⟨j + 1, _, cc, b, by omega, by go_num, rfl, rfl, BT2, OB3, BL, CH, EW2⟩
                      case measure => have := Hj.out; omega
                  · have q3b : (c' == cc) = false := beq_eq_false_iff_ne.2 q3
                    have BT2 : Hid (BestTo rs N s (j + 1) c' R) := by
                      have := BT.out.take HT.out (by rw [HC.out]; exact k0) (.inr (.inl (by rw [HC.out]; omega)))
                      rwa [HC.out, ← HRR.out] at this
                    clear q3
                    go_wp2
                    go_roundg (M - (j + 1))
                    case rel => exact ⟨j + 1, _, c', R, by omega, by go_num, rfl, rfl, BT2, OR3, H16, HC10, EW2⟩
                    case measure => have := Hj.out; omega
              · have q1b : decide (cc ≥ 0) = false := decide_eq_false q1
                have BT2 : Hid (BestTo rs N s (j + 1) c' R) := by
                  have := BT.out.take HT.out (by rw [HC.out]; exact k0) (.inl (by omega))
                  rwa [HC.out, ← HRR.out] at this
                go_wp2
                go_roundg (M - (j + 1))
                case rel => exact ⟨j + 1, _, c', R, by omega, by go_num, rfl, rfl, BT2, OR3, H16, HC10, EW2⟩
                case measure => have := Hj.out; omega
            · have BT2 : Hid (BestTo rs N s (j + 1) cc b) := BT.out.none (by rw [← HRR.out]; exact fun h => hn h.2)
              clear hn HAN
              go_wp2
              go_roundg (M - (j + 1))
              case rel => exact ⟨j + 1, _, cc, b, by omega, by go_num, rfl, rfl, BT2, OB3, BL, CH, EW2⟩
              case measure => have := Hj.out; omega
          · have hgi : (N : Int) ≤ R.length := by omega
            have hgi2 : decide ((R.length : Int) ≥ N) = true := decide_eq_true (by omega)
            have BT2 : Hid (BestTo rs N s (j + 1) cc b) := BT.out.none (by rw [← HRR.out]; exact fun h => hRN h.1)
            go_wp2
            go_roundg (M - (j + 1))
            case rel => exact ⟨j + 1, _, cc, b, by omega, by go_num, rfl, rfl, BT2, OB2, BL, CH, EW⟩
            case measure => have := Hj.out; omega
    · have ej : j = 2 ^ rs.length := by rw [← HMM.out]; omega
      have hji : ¬ ((j : Int) < M) := by omega
      have bt := BT.out
      rw [ej] at bt
      have hd := bt.done HAll.out h1 s0
      have HD := hid hd
      have HEE := hid (HE0.out.trans E.out)
      have hsz := HE0.out.size
      clear bt hd ej hjt
      rcases HD.out with ⟨rfl, hn⟩ | ⟨q, hbst⟩
      · have HN := hid hn
        clear hn HD
        go_wp2
        go_ret2
        exact ⟨.inl ⟨HN.out, rfl⟩, HEE.out⟩
      · have HBB := hid hbst
        have q1 : ¬ cc < 0 := by omega
        have hcn : Cn rs s := fun x y hx hy => (treeP_cn hbst.1 x y hx hy).mono (treeP_in hbst.1)
        have HCN := hid hcn
        have HSZ := hid hsz
        clear hbst HD hcn hsz
        go_wp2
        go_ret2
        exact ⟨.inr ⟨HCN.out, _, _, rfl, ownsRow_base OB.out HSZ.out, HBB.out⟩, HEE.out⟩

theorem Best_ok (vr : Value) (N : Nat) (rs : List RoadD) (s : Nat) (w : World) (hv : Roads w vr rs) (hok : mapOk ⟨N, rs⟩ = true) (hs : stopsB N s = true) (hn : Cn rs s) :
    Calls Tryd.prog 19 #[.agg #[.int .i64 N, vr], .int .i64 s] w fun e w' => ∃ v l, e = .returned (.tuple #[v, .int .i64 0]) ∧ OwnI w.heap.size w' v l ∧ Hid (IsBest rs s l) ∧ Ext w w' := by
  refine (Best_any vr N rs s w hv hok hs).mono ?_
  rintro e w' ⟨⟨h, -⟩ | ⟨-, v, l, h1, h2, h3⟩, he⟩
  · exact absurd hn h
  · exact ⟨v, l, h1, h2, h3, he⟩
theorem Best_none (vr : Value) (N : Nat) (rs : List RoadD) (s : Nat) (w : World) (hv : Roads w vr rs) (hok : mapOk ⟨N, rs⟩ = true) (hs : stopsB N s = true) (hn : ¬ Cn rs s) :
    Calls Tryd.prog 19 #[.agg #[.int .i64 N, vr], .int .i64 s] w fun e w' => e = .returned (.tuple #[.slice none 0 0, .int .i64 4]) ∧ Ext w w' := by
  refine (Best_any vr N rs s w hv hok hs).mono ?_
  rintro e w' ⟨⟨-, h⟩ | ⟨h, -⟩, he⟩
  · exact ⟨h, he⟩
  · exact absurd h hn

end Go.Proofs.YtkbkgkmogbkabaaDoor

/-
  Contract of the reference's Fit.
-/
namespace Go.Proofs.YtkbkgkmogbkabaaDoor
open Go.RowKit

set_option maxRecDepth 20000 in
set_option maxHeartbeats 16000000 in
theorem Fit_any (vr vm : Value) (N : Nat) (rs : List RoadD) (stops : Int) (ms : List MoatD) (w : World) (hv : Roads w vr rs) (hm : Moats w vm ms) (hok : ∀ r ∈ rs, roadOk N r = true) (hN8 : N ≤ 8) :
    Calls Tryd.prog 20 #[.agg #[.int .i64 N, vr], .int .i64 stops, vm] w fun e w' => e = .returned (.tuple #[.int .i64 (fitV N rs stops ms), .bool (fitB N rs stops ms && decide (ms.length ≤ 200))]) ∧ Ext w w' := by
  obtain ⟨ao, cap, rfl⟩ := hv.shape
  have HV := hid hv
  have HM := hid hm
  have hlen : ms.length ≤ 8796093022208 := hm.1
  have hlr : rs.length ≤ 5864062014805 := hv.1
  obtain ⟨am, cm, rfl⟩ := hm.shape
  have HAll := hid hok
  have X0 := hid (Box2.alloc w 24 (.int .i64 N) (.slice ao rs.length cap))
  have HE0 := hid (Ext.ofAlloc w (.cells #[.int .i64 N, .slice ao rs.length cap] 24))
  obtain ⟨p0, p1⟩ := pow_in (N : Int) (by omega) (by omega)
  rw [Int.toNat_natCast] at p0 p1
  obtain ⟨pw, hpw⟩ : ∃ x : Int, x = 2 ^ N := ⟨_, rfl⟩
  rw [← hpw] at p0 p1
  have hw : wrap64 (2 ^ N) = pw := by rw [← hpw]; exact IntWalk.wrap64_in _ (by omega)
  have hw2 : IntKind.i64.wrap (2 ^ N) = pw := by rw [← hpw, IntKind.wrap_i64]; omega
  have Hpw := hid hpw
  clear hpw hv hm hok
  go_enter Tryd.func20, Tryd.ntmps20
  go_wp2
  generalize w.alloc (.cells #[.int .i64 N, .slice ao rs.length cap] 24) = W at *
  go_loopg [18, 8] ms.length (fun g i v wr => ∃ (k : Nat) (s : Int), k + g = ms.length ∧ i = .int .i64 k ∧ v = .int .i64 s ∧ 0 ≤ s ∧ s ≤ 1000 * (k : Int) ∧ Hid (s = sumW (ms.take k)) ∧ Hid (∀ x ∈ ms.take k, moatP N stops x) ∧ Hid (Ext W wr))
  case atStart => exact ⟨0, 0, by omega, rfl, rfl, by omega, by omega, rfl, fun x hx => by simp at hx, Ext.refl _⟩
  case round =>
    obtain ⟨k, s, hk, rfl, rfl, hs0, hs1, SUM, OKS, E⟩ := hrel
    have hkl : k ≤ ms.length := by omega
    have Hk := hid hk
    clear hk
    by_cases hlt : k < ms.length
    · obtain ⟨bm, om, rfl, hce⟩ := Moats.get HM.out k hlt
      obtain ⟨e0, e1⟩ := hce _ (HE0.out.trans E.out)
      have Hs := hid (sumW_succ hlt)
      have Hxm := hid (moatAt_mem hlt)
      have Htk : Hid (ms.take (k + 1) = ms.take k ++ [moatAt ms k]) := by
        show _ = _
        rw [List.take_succ_eq_append_getElem hlt, moatAt_get hlt]
      generalize moatAt ms k = x at *
      have EA := hid (E.out.alloc (.cells #[.int .i64 x.set, .int .i64 x.width] 76))
      obtain ⟨b0, b1⟩ := (Box2.alloc wr 76 (.int .i64 x.set) (.int .i64 x.width)).cells
      have B1 := hid b1
      have cn := (X0.out.ext EA.out).cells.1
      have EA2 := hid EA.out.drew
      clear hce
      by_cases z0 : x.set < 0
      · have HR := hid (fit_bad (rs := rs) (n := (N : Int)) (stops := stops) Hxm.out (fun h => by obtain ⟨h1, h2, h3, h4, h5, h6⟩ := h; rw [Int.toNat_natCast, ← Hpw.out] at h2; first | omega | exact h3 z0 | exact h4 z0))
        have z0b : decide (x.set < 0) = true := decide_eq_true z0
        clear z0
        go_wp2
        refine wp_region_held_drew (S := (fun w' => w'.cell? ⟨wr.heap.size, 0, none⟩ = some (.int .i64 x.set) ∧ w'.cell? ⟨wr.heap.size, 1, none⟩ = some (.int .i64 x.width) ∧ w'.cell? ⟨w.heap.size, 0, none⟩ = some (.int .i64 N))) (by kernel_rfl) ?hSa0 (fun hHeld => ?_)
        case hSa0 => (first | (exact ⟨b0, b1, cn⟩) | ((try dsimp only); exact ⟨b0, b1, cn⟩))
        refine wpAnyH_tk 0 (v := ?va0) rfl (by kernel_rfl) (by kernel_rfl) (by kernel_rfl) (fun _ _ _ h => h) (by rfl) ?hya0 (by assumption) ?_
        case hya0 => (intro w hSw; (try dsimp only at hSw); go_simp <;> with_reducible rfl)
        (try simp only [Act.put, List.setIfInBounds_toArray, List.set_cons_zero, List.set_cons_succ])
        refine wpAnyH_tk 1 (v := ?va1) rfl (by kernel_rfl) (by kernel_rfl) (by kernel_rfl) (fun _ _ _ h => h) (by rfl) ?hya1 (by assumption) ?_
        case hya1 => (intro w hSw; (try dsimp only at hSw); go_simp <;> with_reducible rfl)
        (try simp only [Act.put, List.setIfInBounds_toArray, List.set_cons_zero, List.set_cons_succ])
        refine wpAnyH_tk 2 (v := ?va2) rfl (by kernel_rfl) (by kernel_rfl) (by kernel_rfl) (fun _ _ _ h => h) (by rfl) ?hya2 (by assumption) ?_
        case hya2 => (intro w hSw; (try dsimp only at hSw); go_simp <;> with_reducible rfl)
        (try simp only [Act.put, List.setIfInBounds_toArray, List.set_cons_zero, List.set_cons_succ])
        refine wpAnyH_tk 3 (v := ?va3) rfl (by kernel_rfl) (by kernel_rfl) (by kernel_rfl) (fun _ _ _ h => h) (by rfl) ?hya3 (by assumption) ?_
        case hya3 => (intro w hSw; (try dsimp only at hSw); go_simp <;> with_reducible rfl)
        (try simp only [Act.put, List.setIfInBounds_toArray, List.set_cons_zero, List.set_cons_succ])
        refine wpAnyH_skips 3 false 25 25 (by kernel_rfl) rfl (fun _ _ _ _ _ h => h) [4, 5, 6, 7, 8, 9] [26, 27, 28, 29, 30, 31] _ _ _ rfl (by kernel_rfl) (by rfl) (by assumption) ?_
        (try simp only [putsAll, List.foldl, Act.put, List.setIfInBounds_toArray, List.set_cons_zero, List.set_cons_succ])
        refine wpAnyH_tk 10 (v := ?va10) rfl (by kernel_rfl) (by kernel_rfl) (by kernel_rfl) (fun _ _ _ h => h) (by rfl) ?hya10 (by assumption) ?_
        case hya10 => (intro w hSw; (try dsimp only at hSw); go_simp <;> with_reducible rfl)
        (try simp only [Act.put, List.setIfInBounds_toArray, List.set_cons_zero, List.set_cons_succ])
        refine wpAnyH_tk 11 (v := ?va11) rfl (by kernel_rfl) (by kernel_rfl) (by kernel_rfl) (fun _ _ _ h => h) (by rfl) ?hya11 (by assumption) ?_
        case hya11 => (intro w hSw; (try dsimp only at hSw); go_simp <;> with_reducible rfl)
        (try simp only [Act.put, List.setIfInBounds_toArray, List.set_cons_zero, List.set_cons_succ])
        refine wpAnyH_skips 11 false 33 18 (by kernel_rfl) rfl (fun _ _ _ _ _ h => h) [12, 13, 14, 15, 16] [34, 35, 36, 37, 38] _ _ _ rfl (by kernel_rfl) (by rfl) (by assumption) ?_
        (try simp only [putsAll, List.foldl, Act.put, List.setIfInBounds_toArray, List.set_cons_zero, List.set_cons_succ])
        refine wpAnyH_tk 17 (v := ?va17) rfl (by kernel_rfl) (by kernel_rfl) (by kernel_rfl) (fun _ _ _ h => h) (by rfl) ?hya17 (by assumption) ?_
        case hya17 => (intro w hSw; (try dsimp only at hSw); go_simp <;> with_reducible rfl)
        (try simp only [Act.put, List.setIfInBounds_toArray, List.set_cons_zero, List.set_cons_succ])
        refine wpAnyH_tk 18 (v := ?va18) rfl (by kernel_rfl) (by kernel_rfl) (by kernel_rfl) (fun _ _ _ h => h) (by rfl) ?hya18 (by assumption) ?_
        case hya18 => (intro w hSw; (try dsimp only at hSw); go_simp <;> with_reducible rfl)
        (try simp only [Act.put, List.setIfInBounds_toArray, List.set_cons_zero, List.set_cons_succ])
        refine wpAnyH_skips 18 false 40 11 (by kernel_rfl) rfl (fun _ _ _ _ _ h => h) [19, 20, 21, 22, 23] [41, 42, 43, 44, 45] _ _ _ rfl (by kernel_rfl) (by rfl) (by assumption) ?_
        (try simp only [putsAll, List.foldl, Act.put, List.setIfInBounds_toArray, List.set_cons_zero, List.set_cons_succ])
        refine wpAnyH_tk 24 (v := ?va24) rfl (by kernel_rfl) (by kernel_rfl) (by kernel_rfl) (fun _ _ _ h => h) (by rfl) ?hya24 (by assumption) ?_
        case hya24 => (intro w hSw; (try dsimp only at hSw); go_simp <;> with_reducible rfl)
        (try simp only [Act.put, List.setIfInBounds_toArray, List.set_cons_zero, List.set_cons_succ])
        refine wpAnyH_tk 25 (v := ?va25) rfl (by kernel_rfl) (by kernel_rfl) (by kernel_rfl) (fun _ _ _ h => h) (by rfl) ?hya25 (by assumption) ?_
        case hya25 => (intro w hSw; (try dsimp only at hSw); go_simp <;> with_reducible rfl)
        (try simp only [Act.put, List.setIfInBounds_toArray, List.set_cons_zero, List.set_cons_succ])
        refine wpAnyH_skips 25 false 47 6 (by kernel_rfl) rfl (fun _ _ _ _ _ h => h) [26, 27, 28] [48, 49, 50] _ _ _ rfl (by kernel_rfl) (by rfl) (by assumption) ?_
        (try simp only [putsAll, List.foldl, Act.put, List.setIfInBounds_toArray, List.set_cons_zero, List.set_cons_succ])
        refine wpAnyH_tk 29 (v := ?va29) rfl (by kernel_rfl) (by kernel_rfl) (by kernel_rfl) (fun _ _ _ h => h) (by rfl) ?hya29 (by assumption) ?_
        case hya29 => (intro w hSw; (try dsimp only at hSw); go_simp <;> with_reducible rfl)
        (try simp only [Act.put, List.setIfInBounds_toArray, List.set_cons_zero, List.set_cons_succ])
        refine wpAnyH_tk 30 (v := ?va30) rfl (by kernel_rfl) (by kernel_rfl) (by kernel_rfl) (fun _ _ _ h => h) (by rfl) ?hya30 (by assumption) ?_
        case hya30 => (intro w hSw; (try dsimp only at hSw); go_simp <;> with_reducible rfl)
        (try simp only [Act.put, List.setIfInBounds_toArray, List.set_cons_zero, List.set_cons_succ])
        refine wpAnyH_skips 30 false 52 1 (by kernel_rfl) rfl (fun _ _ _ _ _ h => h) [31, 32, 33] [53, 54, 55] _ _ _ rfl (by kernel_rfl) (by rfl) (by assumption) ?_
        (try simp only [putsAll, List.foldl, Act.put, List.setIfInBounds_toArray, List.set_cons_zero, List.set_cons_succ])
        refine wpAnyH_tk 34 (v := ?va34) rfl (by kernel_rfl) (by kernel_rfl) (by kernel_rfl) (fun _ _ _ h => h) (by rfl) ?hya34 (by assumption) ?_
        case hya34 => (intro w hSw; (try dsimp only at hSw); go_simp <;> with_reducible rfl)
        (try simp only [Act.put, List.setIfInBounds_toArray, List.set_cons_zero, List.set_cons_succ])
        refine wpAnyH_done (by kernel_rfl) ?_ _
        clear hHeld b0 b1 cn e0 e1
        go_wp2
        go_ret2
        exact ⟨by rw [HR.out.1, HR.out.2, Bool.false_and]; rfl, HE0.out.trans EA2.out⟩
      · have z0b : decide (x.set < 0) = false := decide_eq_false z0
        by_cases z1 : pw ≤ x.set
        · have HR := hid (fit_bad (rs := rs) (n := (N : Int)) (stops := stops) Hxm.out (fun h => by obtain ⟨h1, h2, h3, h4, h5, h6⟩ := h; rw [Int.toNat_natCast, ← Hpw.out] at h2; first | omega | exact h3 z1 | exact h4 z1))
          have z1b : decide (pw ≤ x.set) = true := decide_eq_true z1
          clear z0 z1
          go_wp2
          refine wp_region_held_drew (S := (fun w' => w'.cell? ⟨wr.heap.size, 0, none⟩ = some (.int .i64 x.set) ∧ w'.cell? ⟨wr.heap.size, 1, none⟩ = some (.int .i64 x.width) ∧ w'.cell? ⟨w.heap.size, 0, none⟩ = some (.int .i64 N))) (by kernel_rfl) ?hSb0 (fun hHeld => ?_)
          case hSb0 => (first | (exact ⟨b0, b1, cn⟩) | ((try dsimp only); exact ⟨b0, b1, cn⟩))
          refine wpAnyH_tk 0 (v := ?vb0) rfl (by kernel_rfl) (by kernel_rfl) (by kernel_rfl) (fun _ _ _ h => h) (by rfl) ?hyb0 (by assumption) ?_
          case hyb0 => (intro w hSw; (try dsimp only at hSw); go_simp <;> with_reducible rfl)
          (try simp only [Act.put, List.setIfInBounds_toArray, List.set_cons_zero, List.set_cons_succ])
          refine wpAnyH_tk 1 (v := ?vb1) rfl (by kernel_rfl) (by kernel_rfl) (by kernel_rfl) (fun _ _ _ h => h) (by rfl) ?hyb1 (by assumption) ?_
          case hyb1 => (intro w hSw; (try dsimp only at hSw); go_simp <;> with_reducible rfl)
          (try simp only [Act.put, List.setIfInBounds_toArray, List.set_cons_zero, List.set_cons_succ])
          refine wpAnyH_tk 2 (v := ?vb2) rfl (by kernel_rfl) (by kernel_rfl) (by kernel_rfl) (fun _ _ _ h => h) (by rfl) ?hyb2 (by assumption) ?_
          case hyb2 => (intro w hSw; (try dsimp only at hSw); go_simp <;> with_reducible rfl)
          (try simp only [Act.put, List.setIfInBounds_toArray, List.set_cons_zero, List.set_cons_succ])
          refine wpAnyH_tk 3 (v := ?vb3) rfl (by kernel_rfl) (by kernel_rfl) (by kernel_rfl) (fun _ _ _ h => h) (by rfl) ?hyb3 (by assumption) ?_
          case hyb3 => (intro w hSw; (try dsimp only at hSw); go_simp <;> with_reducible rfl)
          (try simp only [Act.put, List.setIfInBounds_toArray, List.set_cons_zero, List.set_cons_succ])
          refine wpAnyH_tk 4 (v := ?vb4) rfl (by kernel_rfl) (by kernel_rfl) (by kernel_rfl) (fun _ _ _ h => h) (by rfl) ?hyb4 (by assumption) ?_
          case hyb4 => (intro w hSw; (try dsimp only at hSw); go_simp <;> with_reducible rfl)
          (try simp only [Act.put, List.setIfInBounds_toArray, List.set_cons_zero, List.set_cons_succ])
          refine wpAnyH_tk 5 (v := ?vb5) rfl (by kernel_rfl) (by kernel_rfl) (by kernel_rfl) (fun _ _ _ h => h) (by rfl) ?hyb5 (by assumption) ?_
          case hyb5 => (intro w hSw; (try dsimp only at hSw); go_simp <;> with_reducible rfl)
          (try simp only [Act.put, List.setIfInBounds_toArray, List.set_cons_zero, List.set_cons_succ])
          refine wpAnyH_tk 6 (v := ?vb6) rfl (by kernel_rfl) (by kernel_rfl) (by kernel_rfl) (fun _ _ _ h => h) (by rfl) ?hyb6 (by assumption) ?_
          case hyb6 => (intro w hSw; (try dsimp only at hSw); go_simp <;> with_reducible rfl)
          (try simp only [Act.put, List.setIfInBounds_toArray, List.set_cons_zero, List.set_cons_succ])
          refine wpAnyH_tk 7 (v := ?vb7) rfl (by kernel_rfl) (by kernel_rfl) (by kernel_rfl) (fun _ _ _ h => h) (by rfl) ?hyb7 (by assumption) ?_
          case hyb7 => (intro w hSw; (try dsimp only at hSw); go_simp <;> with_reducible rfl)
          (try simp only [Act.put, List.setIfInBounds_toArray, List.set_cons_zero, List.set_cons_succ])
          refine wpAnyH_tk 8 (v := ?vb8) rfl (by kernel_rfl) (by kernel_rfl) (by kernel_rfl) (fun _ _ _ h => h) (by rfl) ?hyb8 (by assumption) ?_
          case hyb8 => (intro w hSw; (try dsimp only at hSw); go_simp <;> with_reducible rfl)
          (try simp only [Act.put, List.setIfInBounds_toArray, List.set_cons_zero, List.set_cons_succ])
          refine wpAnyH_tk 9 (v := ?vb9) rfl (by kernel_rfl) (by kernel_rfl) (by kernel_rfl) (fun _ _ _ h => h) (by rfl) ?hyb9 (by assumption) ?_
          case hyb9 => (intro w hSw; (try dsimp only at hSw); go_simp <;> with_reducible rfl)
          (try simp only [Act.put, List.setIfInBounds_toArray, List.set_cons_zero, List.set_cons_succ])
          refine wpAnyH_tk 10 (v := ?vb10) rfl (by kernel_rfl) (by kernel_rfl) (by kernel_rfl) (fun _ _ _ h => h) (by rfl) ?hyb10 (by assumption) ?_
          case hyb10 => (intro w hSw; (try dsimp only at hSw); go_simp <;> with_reducible rfl)
          (try simp only [Act.put, List.setIfInBounds_toArray, List.set_cons_zero, List.set_cons_succ])
          refine wpAnyH_tk 11 (v := ?vb11) rfl (by kernel_rfl) (by kernel_rfl) (by kernel_rfl) (fun _ _ _ h => h) (by rfl) ?hyb11 (by assumption) ?_
          case hyb11 => (intro w hSw; (try dsimp only at hSw); go_simp <;> with_reducible rfl)
          (try simp only [Act.put, List.setIfInBounds_toArray, List.set_cons_zero, List.set_cons_succ])
          refine wpAnyH_skips 11 false 33 18 (by kernel_rfl) rfl (fun _ _ _ _ _ h => h) [12, 13, 14, 15, 16] [34, 35, 36, 37, 38] _ _ _ rfl (by kernel_rfl) (by rfl) (by assumption) ?_
          (try simp only [putsAll, List.foldl, Act.put, List.setIfInBounds_toArray, List.set_cons_zero, List.set_cons_succ])
          refine wpAnyH_tk 17 (v := ?vb17) rfl (by kernel_rfl) (by kernel_rfl) (by kernel_rfl) (fun _ _ _ h => h) (by rfl) ?hyb17 (by assumption) ?_
          case hyb17 => (intro w hSw; (try dsimp only at hSw); go_simp <;> with_reducible rfl)
          (try simp only [Act.put, List.setIfInBounds_toArray, List.set_cons_zero, List.set_cons_succ])
          refine wpAnyH_tk 18 (v := ?vb18) rfl (by kernel_rfl) (by kernel_rfl) (by kernel_rfl) (fun _ _ _ h => h) (by rfl) ?hyb18 (by assumption) ?_
          case hyb18 => (intro w hSw; (try dsimp only at hSw); go_simp <;> with_reducible rfl)
          (try simp only [Act.put, List.setIfInBounds_toArray, List.set_cons_zero, List.set_cons_succ])
          refine wpAnyH_skips 18 false 40 11 (by kernel_rfl) rfl (fun _ _ _ _ _ h => h) [19, 20, 21, 22, 23] [41, 42, 43, 44, 45] _ _ _ rfl (by kernel_rfl) (by rfl) (by assumption) ?_
          (try simp only [putsAll, List.foldl, Act.put, List.setIfInBounds_toArray, List.set_cons_zero, List.set_cons_succ])
          refine wpAnyH_tk 24 (v := ?vb24) rfl (by kernel_rfl) (by kernel_rfl) (by kernel_rfl) (fun _ _ _ h => h) (by rfl) ?hyb24 (by assumption) ?_
          case hyb24 => (intro w hSw; (try dsimp only at hSw); go_simp <;> with_reducible rfl)
          (try simp only [Act.put, List.setIfInBounds_toArray, List.set_cons_zero, List.set_cons_succ])
          refine wpAnyH_tk 25 (v := ?vb25) rfl (by kernel_rfl) (by kernel_rfl) (by kernel_rfl) (fun _ _ _ h => h) (by rfl) ?hyb25 (by assumption) ?_
          case hyb25 => (intro w hSw; (try dsimp only at hSw); go_simp <;> with_reducible rfl)
          (try simp only [Act.put, List.setIfInBounds_toArray, List.set_cons_zero, List.set_cons_succ])
          refine wpAnyH_skips 25 false 47 6 (by kernel_rfl) rfl (fun _ _ _ _ _ h => h) [26, 27, 28] [48, 49, 50] _ _ _ rfl (by kernel_rfl) (by rfl) (by assumption) ?_
          (try simp only [putsAll, List.foldl, Act.put, List.setIfInBounds_toArray, List.set_cons_zero, List.set_cons_succ])
          refine wpAnyH_tk 29 (v := ?vb29) rfl (by kernel_rfl) (by kernel_rfl) (by kernel_rfl) (fun _ _ _ h => h) (by rfl) ?hyb29 (by assumption) ?_
          case hyb29 => (intro w hSw; (try dsimp only at hSw); go_simp <;> with_reducible rfl)
          (try simp only [Act.put, List.setIfInBounds_toArray, List.set_cons_zero, List.set_cons_succ])
          refine wpAnyH_tk 30 (v := ?vb30) rfl (by kernel_rfl) (by kernel_rfl) (by kernel_rfl) (fun _ _ _ h => h) (by rfl) ?hyb30 (by assumption) ?_
          case hyb30 => (intro w hSw; (try dsimp only at hSw); go_simp <;> with_reducible rfl)
          (try simp only [Act.put, List.setIfInBounds_toArray, List.set_cons_zero, List.set_cons_succ])
          refine wpAnyH_skips 30 false 52 1 (by kernel_rfl) rfl (fun _ _ _ _ _ h => h) [31, 32, 33] [53, 54, 55] _ _ _ rfl (by kernel_rfl) (by rfl) (by assumption) ?_
          (try simp only [putsAll, List.foldl, Act.put, List.setIfInBounds_toArray, List.set_cons_zero, List.set_cons_succ])
          refine wpAnyH_tk 34 (v := ?vb34) rfl (by kernel_rfl) (by kernel_rfl) (by kernel_rfl) (fun _ _ _ h => h) (by rfl) ?hyb34 (by assumption) ?_
          case hyb34 => (intro w hSw; (try dsimp only at hSw); go_simp <;> with_reducible rfl)
          (try simp only [Act.put, List.setIfInBounds_toArray, List.set_cons_zero, List.set_cons_succ])
          refine wpAnyH_done (by kernel_rfl) ?_ _
          clear hHeld b0 b1 cn e0 e1
          go_wp2
          go_ret2
          exact ⟨by rw [HR.out.1, HR.out.2, Bool.false_and]; rfl, HE0.out.trans EA2.out⟩
        · have z1b : decide (pw ≤ x.set) = false := decide_eq_false z1
          by_cases z2 : bits .and .i64 x.set stops = 0
          · have HR := hid (fit_bad (rs := rs) (n := (N : Int)) (stops := stops) Hxm.out (fun h => by obtain ⟨h1, h2, h3, h4, h5, h6⟩ := h; rw [Int.toNat_natCast, ← Hpw.out] at h2; first | omega | exact h3 z2 | exact h4 z2))
            have z2b : (bits .and .i64 x.set stops == 0) = true := beq_iff_eq.2 z2
            clear z0 z1 z2
            go_wp2
            refine wp_region_held_drew (S := (fun w' => w'.cell? ⟨wr.heap.size, 0, none⟩ = some (.int .i64 x.set) ∧ w'.cell? ⟨wr.heap.size, 1, none⟩ = some (.int .i64 x.width) ∧ w'.cell? ⟨w.heap.size, 0, none⟩ = some (.int .i64 N))) (by kernel_rfl) ?hSc0 (fun hHeld => ?_)
            case hSc0 => (first | (exact ⟨b0, b1, cn⟩) | ((try dsimp only); exact ⟨b0, b1, cn⟩))
            refine wpAnyH_tk 0 (v := ?vc0) rfl (by kernel_rfl) (by kernel_rfl) (by kernel_rfl) (fun _ _ _ h => h) (by rfl) ?hyc0 (by assumption) ?_
            case hyc0 => (intro w hSw; (try dsimp only at hSw); go_simp <;> with_reducible rfl)
            (try simp only [Act.put, List.setIfInBounds_toArray, List.set_cons_zero, List.set_cons_succ])
            refine wpAnyH_tk 1 (v := ?vc1) rfl (by kernel_rfl) (by kernel_rfl) (by kernel_rfl) (fun _ _ _ h => h) (by rfl) ?hyc1 (by assumption) ?_
            case hyc1 => (intro w hSw; (try dsimp only at hSw); go_simp <;> with_reducible rfl)
            (try simp only [Act.put, List.setIfInBounds_toArray, List.set_cons_zero, List.set_cons_succ])
            refine wpAnyH_tk 2 (v := ?vc2) rfl (by kernel_rfl) (by kernel_rfl) (by kernel_rfl) (fun _ _ _ h => h) (by rfl) ?hyc2 (by assumption) ?_
            case hyc2 => (intro w hSw; (try dsimp only at hSw); go_simp <;> with_reducible rfl)
            (try simp only [Act.put, List.setIfInBounds_toArray, List.set_cons_zero, List.set_cons_succ])
            refine wpAnyH_tk 3 (v := ?vc3) rfl (by kernel_rfl) (by kernel_rfl) (by kernel_rfl) (fun _ _ _ h => h) (by rfl) ?hyc3 (by assumption) ?_
            case hyc3 => (intro w hSw; (try dsimp only at hSw); go_simp <;> with_reducible rfl)
            (try simp only [Act.put, List.setIfInBounds_toArray, List.set_cons_zero, List.set_cons_succ])
            refine wpAnyH_tk 4 (v := ?vc4) rfl (by kernel_rfl) (by kernel_rfl) (by kernel_rfl) (fun _ _ _ h => h) (by rfl) ?hyc4 (by assumption) ?_
            case hyc4 => (intro w hSw; (try dsimp only at hSw); go_simp <;> with_reducible rfl)
            (try simp only [Act.put, List.setIfInBounds_toArray, List.set_cons_zero, List.set_cons_succ])
            refine wpAnyH_tk 5 (v := ?vc5) rfl (by kernel_rfl) (by kernel_rfl) (by kernel_rfl) (fun _ _ _ h => h) (by rfl) ?hyc5 (by assumption) ?_
            case hyc5 => (intro w hSw; (try dsimp only at hSw); go_simp <;> with_reducible rfl)
            (try simp only [Act.put, List.setIfInBounds_toArray, List.set_cons_zero, List.set_cons_succ])
            refine wpAnyH_tk 6 (v := ?vc6) rfl (by kernel_rfl) (by kernel_rfl) (by kernel_rfl) (fun _ _ _ h => h) (by rfl) ?hyc6 (by assumption) ?_
            case hyc6 => (intro w hSw; (try dsimp only at hSw); go_simp <;> with_reducible rfl)
            (try simp only [Act.put, List.setIfInBounds_toArray, List.set_cons_zero, List.set_cons_succ])
            refine wpAnyH_tk 7 (v := ?vc7) rfl (by kernel_rfl) (by kernel_rfl) (by kernel_rfl) (fun _ _ _ h => h) (by rfl) ?hyc7 (by assumption) ?_
            case hyc7 => (intro w hSw; (try dsimp only at hSw); go_simp <;> with_reducible rfl)
            (try simp only [Act.put, List.setIfInBounds_toArray, List.set_cons_zero, List.set_cons_succ])
            refine wpAnyH_tk 8 (v := ?vc8) rfl (by kernel_rfl) (by kernel_rfl) (by kernel_rfl) (fun _ _ _ h => h) (by rfl) ?hyc8 (by assumption) ?_
            case hyc8 => (intro w hSw; (try dsimp only at hSw); go_simp <;> with_reducible rfl)
            (try simp only [Act.put, List.setIfInBounds_toArray, List.set_cons_zero, List.set_cons_succ])
            refine wpAnyH_tk 9 (v := ?vc9) rfl (by kernel_rfl) (by kernel_rfl) (by kernel_rfl) (fun _ _ _ h => h) (by rfl) ?hyc9 (by assumption) ?_
            case hyc9 => (intro w hSw; (try dsimp only at hSw); go_simp <;> with_reducible rfl)
            (try simp only [Act.put, List.setIfInBounds_toArray, List.set_cons_zero, List.set_cons_succ])
            refine wpAnyH_tk 10 (v := ?vc10) rfl (by kernel_rfl) (by kernel_rfl) (by kernel_rfl) (fun _ _ _ h => h) (by rfl) ?hyc10 (by assumption) ?_
            case hyc10 => (intro w hSw; (try dsimp only at hSw); go_simp <;> with_reducible rfl)
            (try simp only [Act.put, List.setIfInBounds_toArray, List.set_cons_zero, List.set_cons_succ])
            refine wpAnyH_tk 11 (v := ?vc11) rfl (by kernel_rfl) (by kernel_rfl) (by kernel_rfl) (fun _ _ _ h => h) (by rfl) ?hyc11 (by assumption) ?_
            case hyc11 => (intro w hSw; (try dsimp only at hSw); go_simp <;> with_reducible rfl)
            (try simp only [Act.put, List.setIfInBounds_toArray, List.set_cons_zero, List.set_cons_succ])
            refine wpAnyH_tk 12 (v := ?vc12) rfl (by kernel_rfl) (by kernel_rfl) (by kernel_rfl) (fun _ _ _ h => h) (by rfl) ?hyc12 (by assumption) ?_
            case hyc12 => (intro w hSw; (try dsimp only at hSw); go_simp <;> with_reducible rfl)
            (try simp only [Act.put, List.setIfInBounds_toArray, List.set_cons_zero, List.set_cons_succ])
            refine wpAnyH_tk 13 (v := ?vc13) rfl (by kernel_rfl) (by kernel_rfl) (by kernel_rfl) (fun _ _ _ h => h) (by rfl) ?hyc13 (by assumption) ?_
            case hyc13 => (intro w hSw; (try dsimp only at hSw); go_simp <;> with_reducible rfl)
            (try simp only [Act.put, List.setIfInBounds_toArray, List.set_cons_zero, List.set_cons_succ])
            refine wpAnyH_tk 14 (v := ?vc14) rfl (by kernel_rfl) (by kernel_rfl) (by kernel_rfl) (fun _ _ _ h => h) (by rfl) ?hyc14 (by assumption) ?_
            case hyc14 => (intro w hSw; (try dsimp only at hSw); go_simp <;> with_reducible rfl)
            (try simp only [Act.put, List.setIfInBounds_toArray, List.set_cons_zero, List.set_cons_succ])
            refine wpAnyH_tk 15 (v := ?vc15) rfl (by kernel_rfl) (by kernel_rfl) (by kernel_rfl) (fun _ _ _ h => h) (by rfl) ?hyc15 (by assumption) ?_
            case hyc15 => (intro w hSw; (try dsimp only at hSw); go_simp <;> with_reducible rfl)
            (try simp only [Act.put, List.setIfInBounds_toArray, List.set_cons_zero, List.set_cons_succ])
            refine wpAnyH_tk 16 (v := ?vc16) rfl (by kernel_rfl) (by kernel_rfl) (by kernel_rfl) (fun _ _ _ h => h) (by rfl) ?hyc16 (by assumption) ?_
            case hyc16 => (intro w hSw; (try dsimp only at hSw); go_simp <;> with_reducible rfl)
            (try simp only [Act.put, List.setIfInBounds_toArray, List.set_cons_zero, List.set_cons_succ])
            refine wpAnyH_tk 17 (v := ?vc17) rfl (by kernel_rfl) (by kernel_rfl) (by kernel_rfl) (fun _ _ _ h => h) (by rfl) ?hyc17 (by assumption) ?_
            case hyc17 => (intro w hSw; (try dsimp only at hSw); go_simp <;> with_reducible rfl)
            (try simp only [Act.put, List.setIfInBounds_toArray, List.set_cons_zero, List.set_cons_succ])
            refine wpAnyH_tk 18 (v := ?vc18) rfl (by kernel_rfl) (by kernel_rfl) (by kernel_rfl) (fun _ _ _ h => h) (by rfl) ?hyc18 (by assumption) ?_
            case hyc18 => (intro w hSw; (try dsimp only at hSw); go_simp <;> with_reducible rfl)
            (try simp only [Act.put, List.setIfInBounds_toArray, List.set_cons_zero, List.set_cons_succ])
            refine wpAnyH_skips 18 false 40 11 (by kernel_rfl) rfl (fun _ _ _ _ _ h => h) [19, 20, 21, 22, 23] [41, 42, 43, 44, 45] _ _ _ rfl (by kernel_rfl) (by rfl) (by assumption) ?_
            (try simp only [putsAll, List.foldl, Act.put, List.setIfInBounds_toArray, List.set_cons_zero, List.set_cons_succ])
            refine wpAnyH_tk 24 (v := ?vc24) rfl (by kernel_rfl) (by kernel_rfl) (by kernel_rfl) (fun _ _ _ h => h) (by rfl) ?hyc24 (by assumption) ?_
            case hyc24 => (intro w hSw; (try dsimp only at hSw); go_simp <;> with_reducible rfl)
            (try simp only [Act.put, List.setIfInBounds_toArray, List.set_cons_zero, List.set_cons_succ])
            refine wpAnyH_tk 25 (v := ?vc25) rfl (by kernel_rfl) (by kernel_rfl) (by kernel_rfl) (fun _ _ _ h => h) (by rfl) ?hyc25 (by assumption) ?_
            case hyc25 => (intro w hSw; (try dsimp only at hSw); go_simp <;> with_reducible rfl)
            (try simp only [Act.put, List.setIfInBounds_toArray, List.set_cons_zero, List.set_cons_succ])
            refine wpAnyH_skips 25 false 47 6 (by kernel_rfl) rfl (fun _ _ _ _ _ h => h) [26, 27, 28] [48, 49, 50] _ _ _ rfl (by kernel_rfl) (by rfl) (by assumption) ?_
            (try simp only [putsAll, List.foldl, Act.put, List.setIfInBounds_toArray, List.set_cons_zero, List.set_cons_succ])
            refine wpAnyH_tk 29 (v := ?vc29) rfl (by kernel_rfl) (by kernel_rfl) (by kernel_rfl) (fun _ _ _ h => h) (by rfl) ?hyc29 (by assumption) ?_
            case hyc29 => (intro w hSw; (try dsimp only at hSw); go_simp <;> with_reducible rfl)
            (try simp only [Act.put, List.setIfInBounds_toArray, List.set_cons_zero, List.set_cons_succ])
            refine wpAnyH_tk 30 (v := ?vc30) rfl (by kernel_rfl) (by kernel_rfl) (by kernel_rfl) (fun _ _ _ h => h) (by rfl) ?hyc30 (by assumption) ?_
            case hyc30 => (intro w hSw; (try dsimp only at hSw); go_simp <;> with_reducible rfl)
            (try simp only [Act.put, List.setIfInBounds_toArray, List.set_cons_zero, List.set_cons_succ])
            refine wpAnyH_skips 30 false 52 1 (by kernel_rfl) rfl (fun _ _ _ _ _ h => h) [31, 32, 33] [53, 54, 55] _ _ _ rfl (by kernel_rfl) (by rfl) (by assumption) ?_
            (try simp only [putsAll, List.foldl, Act.put, List.setIfInBounds_toArray, List.set_cons_zero, List.set_cons_succ])
            refine wpAnyH_tk 34 (v := ?vc34) rfl (by kernel_rfl) (by kernel_rfl) (by kernel_rfl) (fun _ _ _ h => h) (by rfl) ?hyc34 (by assumption) ?_
            case hyc34 => (intro w hSw; (try dsimp only at hSw); go_simp <;> with_reducible rfl)
            (try simp only [Act.put, List.setIfInBounds_toArray, List.set_cons_zero, List.set_cons_succ])
            refine wpAnyH_done (by kernel_rfl) ?_ _
            clear hHeld b0 b1 cn e0 e1
            go_wp2
            go_ret2
            exact ⟨by rw [HR.out.1, HR.out.2, Bool.false_and]; rfl, HE0.out.trans EA2.out⟩
          · have z2b : (bits .and .i64 x.set stops == 0) = false := beq_eq_false_iff_ne.2 z2
            by_cases z3 : bits .andNot .i64 stops x.set = 0
            · have HR := hid (fit_bad (rs := rs) (n := (N : Int)) (stops := stops) Hxm.out (fun h => by obtain ⟨h1, h2, h3, h4, h5, h6⟩ := h; rw [Int.toNat_natCast, ← Hpw.out] at h2; first | omega | exact h3 z3 | exact h4 z3))
              have z3b : (bits .andNot .i64 stops x.set == 0) = true := beq_iff_eq.2 z3
              clear z0 z1 z2 z3
              go_wp2
              refine wp_region_held_drew (S := (fun w' => w'.cell? ⟨wr.heap.size, 0, none⟩ = some (.int .i64 x.set) ∧ w'.cell? ⟨wr.heap.size, 1, none⟩ = some (.int .i64 x.width) ∧ w'.cell? ⟨w.heap.size, 0, none⟩ = some (.int .i64 N))) (by kernel_rfl) ?hSd0 (fun hHeld => ?_)
              case hSd0 => (first | (exact ⟨b0, b1, cn⟩) | ((try dsimp only); exact ⟨b0, b1, cn⟩))
              refine wpAnyH_tk 0 (v := ?vd0) rfl (by kernel_rfl) (by kernel_rfl) (by kernel_rfl) (fun _ _ _ h => h) (by rfl) ?hyd0 (by assumption) ?_
              case hyd0 => (intro w hSw; (try dsimp only at hSw); go_simp <;> with_reducible rfl)
              (try simp only [Act.put, List.setIfInBounds_toArray, List.set_cons_zero, List.set_cons_succ])
              refine wpAnyH_tk 1 (v := ?vd1) rfl (by kernel_rfl) (by kernel_rfl) (by kernel_rfl) (fun _ _ _ h => h) (by rfl) ?hyd1 (by assumption) ?_
              case hyd1 => (intro w hSw; (try dsimp only at hSw); go_simp <;> with_reducible rfl)
              (try simp only [Act.put, List.setIfInBounds_toArray, List.set_cons_zero, List.set_cons_succ])
              refine wpAnyH_tk 2 (v := ?vd2) rfl (by kernel_rfl) (by kernel_rfl) (by kernel_rfl) (fun _ _ _ h => h) (by rfl) ?hyd2 (by assumption) ?_
              case hyd2 => (intro w hSw; (try dsimp only at hSw); go_simp <;> with_reducible rfl)
              (try simp only [Act.put, List.setIfInBounds_toArray, List.set_cons_zero, List.set_cons_succ])
              refine wpAnyH_tk 3 (v := ?vd3) rfl (by kernel_rfl) (by kernel_rfl) (by kernel_rfl) (fun _ _ _ h => h) (by rfl) ?hyd3 (by assumption) ?_
              case hyd3 => (intro w hSw; (try dsimp only at hSw); go_simp <;> with_reducible rfl)
              (try simp only [Act.put, List.setIfInBounds_toArray, List.set_cons_zero, List.set_cons_succ])
              refine wpAnyH_tk 4 (v := ?vd4) rfl (by kernel_rfl) (by kernel_rfl) (by kernel_rfl) (fun _ _ _ h => h) (by rfl) ?hyd4 (by assumption) ?_
              case hyd4 => (intro w hSw; (try dsimp only at hSw); go_simp <;> with_reducible rfl)
              (try simp only [Act.put, List.setIfInBounds_toArray, List.set_cons_zero, List.set_cons_succ])
              refine wpAnyH_tk 5 (v := ?vd5) rfl (by kernel_rfl) (by kernel_rfl) (by kernel_rfl) (fun _ _ _ h => h) (by rfl) ?hyd5 (by assumption) ?_
              case hyd5 => (intro w hSw; (try dsimp only at hSw); go_simp <;> with_reducible rfl)
              (try simp only [Act.put, List.setIfInBounds_toArray, List.set_cons_zero, List.set_cons_succ])
              refine wpAnyH_tk 6 (v := ?vd6) rfl (by kernel_rfl) (by kernel_rfl) (by kernel_rfl) (fun _ _ _ h => h) (by rfl) ?hyd6 (by assumption) ?_
              case hyd6 => (intro w hSw; (try dsimp only at hSw); go_simp <;> with_reducible rfl)
              (try simp only [Act.put, List.setIfInBounds_toArray, List.set_cons_zero, List.set_cons_succ])
              refine wpAnyH_tk 7 (v := ?vd7) rfl (by kernel_rfl) (by kernel_rfl) (by kernel_rfl) (fun _ _ _ h => h) (by rfl) ?hyd7 (by assumption) ?_
              case hyd7 => (intro w hSw; (try dsimp only at hSw); go_simp <;> with_reducible rfl)
              (try simp only [Act.put, List.setIfInBounds_toArray, List.set_cons_zero, List.set_cons_succ])
              refine wpAnyH_tk 8 (v := ?vd8) rfl (by kernel_rfl) (by kernel_rfl) (by kernel_rfl) (fun _ _ _ h => h) (by rfl) ?hyd8 (by assumption) ?_
              case hyd8 => (intro w hSw; (try dsimp only at hSw); go_simp <;> with_reducible rfl)
              (try simp only [Act.put, List.setIfInBounds_toArray, List.set_cons_zero, List.set_cons_succ])
              refine wpAnyH_tk 9 (v := ?vd9) rfl (by kernel_rfl) (by kernel_rfl) (by kernel_rfl) (fun _ _ _ h => h) (by rfl) ?hyd9 (by assumption) ?_
              case hyd9 => (intro w hSw; (try dsimp only at hSw); go_simp <;> with_reducible rfl)
              (try simp only [Act.put, List.setIfInBounds_toArray, List.set_cons_zero, List.set_cons_succ])
              refine wpAnyH_tk 10 (v := ?vd10) rfl (by kernel_rfl) (by kernel_rfl) (by kernel_rfl) (fun _ _ _ h => h) (by rfl) ?hyd10 (by assumption) ?_
              case hyd10 => (intro w hSw; (try dsimp only at hSw); go_simp <;> with_reducible rfl)
              (try simp only [Act.put, List.setIfInBounds_toArray, List.set_cons_zero, List.set_cons_succ])
              refine wpAnyH_tk 11 (v := ?vd11) rfl (by kernel_rfl) (by kernel_rfl) (by kernel_rfl) (fun _ _ _ h => h) (by rfl) ?hyd11 (by assumption) ?_
              case hyd11 => (intro w hSw; (try dsimp only at hSw); go_simp <;> with_reducible rfl)
              (try simp only [Act.put, List.setIfInBounds_toArray, List.set_cons_zero, List.set_cons_succ])
              refine wpAnyH_tk 12 (v := ?vd12) rfl (by kernel_rfl) (by kernel_rfl) (by kernel_rfl) (fun _ _ _ h => h) (by rfl) ?hyd12 (by assumption) ?_
              case hyd12 => (intro w hSw; (try dsimp only at hSw); go_simp <;> with_reducible rfl)
              (try simp only [Act.put, List.setIfInBounds_toArray, List.set_cons_zero, List.set_cons_succ])
              refine wpAnyH_tk 13 (v := ?vd13) rfl (by kernel_rfl) (by kernel_rfl) (by kernel_rfl) (fun _ _ _ h => h) (by rfl) ?hyd13 (by assumption) ?_
              case hyd13 => (intro w hSw; (try dsimp only at hSw); go_simp <;> with_reducible rfl)
              (try simp only [Act.put, List.setIfInBounds_toArray, List.set_cons_zero, List.set_cons_succ])
              refine wpAnyH_tk 14 (v := ?vd14) rfl (by kernel_rfl) (by kernel_rfl) (by kernel_rfl) (fun _ _ _ h => h) (by rfl) ?hyd14 (by assumption) ?_
              case hyd14 => (intro w hSw; (try dsimp only at hSw); go_simp <;> with_reducible rfl)
              (try simp only [Act.put, List.setIfInBounds_toArray, List.set_cons_zero, List.set_cons_succ])
              refine wpAnyH_tk 15 (v := ?vd15) rfl (by kernel_rfl) (by kernel_rfl) (by kernel_rfl) (fun _ _ _ h => h) (by rfl) ?hyd15 (by assumption) ?_
              case hyd15 => (intro w hSw; (try dsimp only at hSw); go_simp <;> with_reducible rfl)
              (try simp only [Act.put, List.setIfInBounds_toArray, List.set_cons_zero, List.set_cons_succ])
              refine wpAnyH_tk 16 (v := ?vd16) rfl (by kernel_rfl) (by kernel_rfl) (by kernel_rfl) (fun _ _ _ h => h) (by rfl) ?hyd16 (by assumption) ?_
              case hyd16 => (intro w hSw; (try dsimp only at hSw); go_simp <;> with_reducible rfl)
              (try simp only [Act.put, List.setIfInBounds_toArray, List.set_cons_zero, List.set_cons_succ])
              refine wpAnyH_tk 17 (v := ?vd17) rfl (by kernel_rfl) (by kernel_rfl) (by kernel_rfl) (fun _ _ _ h => h) (by rfl) ?hyd17 (by assumption) ?_
              case hyd17 => (intro w hSw; (try dsimp only at hSw); go_simp <;> with_reducible rfl)
              (try simp only [Act.put, List.setIfInBounds_toArray, List.set_cons_zero, List.set_cons_succ])
              refine wpAnyH_tk 18 (v := ?vd18) rfl (by kernel_rfl) (by kernel_rfl) (by kernel_rfl) (fun _ _ _ h => h) (by rfl) ?hyd18 (by assumption) ?_
              case hyd18 => (intro w hSw; (try dsimp only at hSw); go_simp <;> with_reducible rfl)
              (try simp only [Act.put, List.setIfInBounds_toArray, List.set_cons_zero, List.set_cons_succ])
              refine wpAnyH_tk 19 (v := ?vd19) rfl (by kernel_rfl) (by kernel_rfl) (by kernel_rfl) (fun _ _ _ h => h) (by rfl) ?hyd19 (by assumption) ?_
              case hyd19 => (intro w hSw; (try dsimp only at hSw); go_simp <;> with_reducible rfl)
              (try simp only [Act.put, List.setIfInBounds_toArray, List.set_cons_zero, List.set_cons_succ])
              refine wpAnyH_tk 20 (v := ?vd20) rfl (by kernel_rfl) (by kernel_rfl) (by kernel_rfl) (fun _ _ _ h => h) (by rfl) ?hyd20 (by assumption) ?_
              case hyd20 => (intro w hSw; (try dsimp only at hSw); go_simp <;> with_reducible rfl)
              (try simp only [Act.put, List.setIfInBounds_toArray, List.set_cons_zero, List.set_cons_succ])
              refine wpAnyH_tk 21 (v := ?vd21) rfl (by kernel_rfl) (by kernel_rfl) (by kernel_rfl) (fun _ _ _ h => h) (by rfl) ?hyd21 (by assumption) ?_
              case hyd21 => (intro w hSw; (try dsimp only at hSw); go_simp <;> with_reducible rfl)
              (try simp only [Act.put, List.setIfInBounds_toArray, List.set_cons_zero, List.set_cons_succ])
              refine wpAnyH_tk 22 (v := ?vd22) rfl (by kernel_rfl) (by kernel_rfl) (by kernel_rfl) (fun _ _ _ h => h) (by rfl) ?hyd22 (by assumption) ?_
              case hyd22 => (intro w hSw; (try dsimp only at hSw); go_simp <;> with_reducible rfl)
              (try simp only [Act.put, List.setIfInBounds_toArray, List.set_cons_zero, List.set_cons_succ])
              refine wpAnyH_tk 23 (v := ?vd23) rfl (by kernel_rfl) (by kernel_rfl) (by kernel_rfl) (fun _ _ _ h => h) (by rfl) ?hyd23 (by assumption) ?_
              case hyd23 => (intro w hSw; (try dsimp only at hSw); go_simp <;> with_reducible rfl)
              (try simp only [Act.put, List.setIfInBounds_toArray, List.set_cons_zero, List.set_cons_succ])
              refine wpAnyH_tk 24 (v := ?vd24) rfl (by kernel_rfl) (by kernel_rfl) (by kernel_rfl) (fun _ _ _ h => h) (by rfl) ?hyd24 (by assumption) ?_
              case hyd24 => (intro w hSw; (try dsimp only at hSw); go_simp <;> with_reducible rfl)
              (try simp only [Act.put, List.setIfInBounds_toArray, List.set_cons_zero, List.set_cons_succ])
              refine wpAnyH_tk 25 (v := ?vd25) rfl (by kernel_rfl) (by kernel_rfl) (by kernel_rfl) (fun _ _ _ h => h) (by rfl) ?hyd25 (by assumption) ?_
              case hyd25 => (intro w hSw; (try dsimp only at hSw); go_simp <;> with_reducible rfl)
              (try simp only [Act.put, List.setIfInBounds_toArray, List.set_cons_zero, List.set_cons_succ])
              refine wpAnyH_skips 25 false 47 6 (by kernel_rfl) rfl (fun _ _ _ _ _ h => h) [26, 27, 28] [48, 49, 50] _ _ _ rfl (by kernel_rfl) (by rfl) (by assumption) ?_
              (try simp only [putsAll, List.foldl, Act.put, List.setIfInBounds_toArray, List.set_cons_zero, List.set_cons_succ])
              refine wpAnyH_tk 29 (v := ?vd29) rfl (by kernel_rfl) (by kernel_rfl) (by kernel_rfl) (fun _ _ _ h => h) (by rfl) ?hyd29 (by assumption) ?_
              case hyd29 => (intro w hSw; (try dsimp only at hSw); go_simp <;> with_reducible rfl)
              (try simp only [Act.put, List.setIfInBounds_toArray, List.set_cons_zero, List.set_cons_succ])
              refine wpAnyH_tk 30 (v := ?vd30) rfl (by kernel_rfl) (by kernel_rfl) (by kernel_rfl) (fun _ _ _ h => h) (by rfl) ?hyd30 (by assumption) ?_
              case hyd30 => (intro w hSw; (try dsimp only at hSw); go_simp <;> with_reducible rfl)
              (try simp only [Act.put, List.setIfInBounds_toArray, List.set_cons_zero, List.set_cons_succ])
              refine wpAnyH_skips 30 false 52 1 (by kernel_rfl) rfl (fun _ _ _ _ _ h => h) [31, 32, 33] [53, 54, 55] _ _ _ rfl (by kernel_rfl) (by rfl) (by assumption) ?_
              (try simp only [putsAll, List.foldl, Act.put, List.setIfInBounds_toArray, List.set_cons_zero, List.set_cons_succ])
              refine wpAnyH_tk 34 (v := ?vd34) rfl (by kernel_rfl) (by kernel_rfl) (by kernel_rfl) (fun _ _ _ h => h) (by rfl) ?hyd34 (by assumption) ?_
              case hyd34 => (intro w hSw; (try dsimp only at hSw); go_simp <;> with_reducible rfl)
              (try simp only [Act.put, List.setIfInBounds_toArray, List.set_cons_zero, List.set_cons_succ])
              refine wpAnyH_done (by kernel_rfl) ?_ _
              clear hHeld b0 b1 cn e0 e1
              go_wp2
              go_ret2
              exact ⟨by rw [HR.out.1, HR.out.2, Bool.false_and]; rfl, HE0.out.trans EA2.out⟩
            · have z3b : (bits .andNot .i64 stops x.set == 0) = false := beq_eq_false_iff_ne.2 z3
              by_cases z4 : x.width < 1
              · have HR := hid (fit_bad (rs := rs) (n := (N : Int)) (stops := stops) Hxm.out (fun h => by obtain ⟨h1, h2, h3, h4, h5, h6⟩ := h; rw [Int.toNat_natCast, ← Hpw.out] at h2; first | omega | exact h3 z4 | exact h4 z4))
                have z4b : decide (x.width < 1) = true := decide_eq_true z4
                clear z0 z1 z2 z3 z4
                go_wp2
                refine wp_region_held_drew (S := (fun w' => w'.cell? ⟨wr.heap.size, 0, none⟩ = some (.int .i64 x.set) ∧ w'.cell? ⟨wr.heap.size, 1, none⟩ = some (.int .i64 x.width) ∧ w'.cell? ⟨w.heap.size, 0, none⟩ = some (.int .i64 N))) (by kernel_rfl) ?hSe0 (fun hHeld => ?_)
                case hSe0 => (first | (exact ⟨b0, b1, cn⟩) | ((try dsimp only); exact ⟨b0, b1, cn⟩))
                refine wpAnyH_tk 0 (v := ?ve0) rfl (by kernel_rfl) (by kernel_rfl) (by kernel_rfl) (fun _ _ _ h => h) (by rfl) ?hye0 (by assumption) ?_
                case hye0 => (intro w hSw; (try dsimp only at hSw); go_simp <;> with_reducible rfl)
                (try simp only [Act.put, List.setIfInBounds_toArray, List.set_cons_zero, List.set_cons_succ])
                refine wpAnyH_tk 1 (v := ?ve1) rfl (by kernel_rfl) (by kernel_rfl) (by kernel_rfl) (fun _ _ _ h => h) (by rfl) ?hye1 (by assumption) ?_
                case hye1 => (intro w hSw; (try dsimp only at hSw); go_simp <;> with_reducible rfl)
                (try simp only [Act.put, List.setIfInBounds_toArray, List.set_cons_zero, List.set_cons_succ])
                refine wpAnyH_tk 2 (v := ?ve2) rfl (by kernel_rfl) (by kernel_rfl) (by kernel_rfl) (fun _ _ _ h => h) (by rfl) ?hye2 (by assumption) ?_
                case hye2 => (intro w hSw; (try dsimp only at hSw); go_simp <;> with_reducible rfl)
                (try simp only [Act.put, List.setIfInBounds_toArray, List.set_cons_zero, List.set_cons_succ])
                refine wpAnyH_tk 3 (v := ?ve3) rfl (by kernel_rfl) (by kernel_rfl) (by kernel_rfl) (fun _ _ _ h => h) (by rfl) ?hye3 (by assumption) ?_
                case hye3 => (intro w hSw; (try dsimp only at hSw); go_simp <;> with_reducible rfl)
                (try simp only [Act.put, List.setIfInBounds_toArray, List.set_cons_zero, List.set_cons_succ])
                refine wpAnyH_tk 4 (v := ?ve4) rfl (by kernel_rfl) (by kernel_rfl) (by kernel_rfl) (fun _ _ _ h => h) (by rfl) ?hye4 (by assumption) ?_
                case hye4 => (intro w hSw; (try dsimp only at hSw); go_simp <;> with_reducible rfl)
                (try simp only [Act.put, List.setIfInBounds_toArray, List.set_cons_zero, List.set_cons_succ])
                refine wpAnyH_tk 5 (v := ?ve5) rfl (by kernel_rfl) (by kernel_rfl) (by kernel_rfl) (fun _ _ _ h => h) (by rfl) ?hye5 (by assumption) ?_
                case hye5 => (intro w hSw; (try dsimp only at hSw); go_simp <;> with_reducible rfl)
                (try simp only [Act.put, List.setIfInBounds_toArray, List.set_cons_zero, List.set_cons_succ])
                refine wpAnyH_tk 6 (v := ?ve6) rfl (by kernel_rfl) (by kernel_rfl) (by kernel_rfl) (fun _ _ _ h => h) (by rfl) ?hye6 (by assumption) ?_
                case hye6 => (intro w hSw; (try dsimp only at hSw); go_simp <;> with_reducible rfl)
                (try simp only [Act.put, List.setIfInBounds_toArray, List.set_cons_zero, List.set_cons_succ])
                refine wpAnyH_tk 7 (v := ?ve7) rfl (by kernel_rfl) (by kernel_rfl) (by kernel_rfl) (fun _ _ _ h => h) (by rfl) ?hye7 (by assumption) ?_
                case hye7 => (intro w hSw; (try dsimp only at hSw); go_simp <;> with_reducible rfl)
                (try simp only [Act.put, List.setIfInBounds_toArray, List.set_cons_zero, List.set_cons_succ])
                refine wpAnyH_tk 8 (v := ?ve8) rfl (by kernel_rfl) (by kernel_rfl) (by kernel_rfl) (fun _ _ _ h => h) (by rfl) ?hye8 (by assumption) ?_
                case hye8 => (intro w hSw; (try dsimp only at hSw); go_simp <;> with_reducible rfl)
                (try simp only [Act.put, List.setIfInBounds_toArray, List.set_cons_zero, List.set_cons_succ])
                refine wpAnyH_tk 9 (v := ?ve9) rfl (by kernel_rfl) (by kernel_rfl) (by kernel_rfl) (fun _ _ _ h => h) (by rfl) ?hye9 (by assumption) ?_
                case hye9 => (intro w hSw; (try dsimp only at hSw); go_simp <;> with_reducible rfl)
                (try simp only [Act.put, List.setIfInBounds_toArray, List.set_cons_zero, List.set_cons_succ])
                refine wpAnyH_tk 10 (v := ?ve10) rfl (by kernel_rfl) (by kernel_rfl) (by kernel_rfl) (fun _ _ _ h => h) (by rfl) ?hye10 (by assumption) ?_
                case hye10 => (intro w hSw; (try dsimp only at hSw); go_simp <;> with_reducible rfl)
                (try simp only [Act.put, List.setIfInBounds_toArray, List.set_cons_zero, List.set_cons_succ])
                refine wpAnyH_tk 11 (v := ?ve11) rfl (by kernel_rfl) (by kernel_rfl) (by kernel_rfl) (fun _ _ _ h => h) (by rfl) ?hye11 (by assumption) ?_
                case hye11 => (intro w hSw; (try dsimp only at hSw); go_simp <;> with_reducible rfl)
                (try simp only [Act.put, List.setIfInBounds_toArray, List.set_cons_zero, List.set_cons_succ])
                refine wpAnyH_tk 12 (v := ?ve12) rfl (by kernel_rfl) (by kernel_rfl) (by kernel_rfl) (fun _ _ _ h => h) (by rfl) ?hye12 (by assumption) ?_
                case hye12 => (intro w hSw; (try dsimp only at hSw); go_simp <;> with_reducible rfl)
                (try simp only [Act.put, List.setIfInBounds_toArray, List.set_cons_zero, List.set_cons_succ])
                refine wpAnyH_tk 13 (v := ?ve13) rfl (by kernel_rfl) (by kernel_rfl) (by kernel_rfl) (fun _ _ _ h => h) (by rfl) ?hye13 (by assumption) ?_
                case hye13 => (intro w hSw; (try dsimp only at hSw); go_simp <;> with_reducible rfl)
                (try simp only [Act.put, List.setIfInBounds_toArray, List.set_cons_zero, List.set_cons_succ])
                refine wpAnyH_tk 14 (v := ?ve14) rfl (by kernel_rfl) (by kernel_rfl) (by kernel_rfl) (fun _ _ _ h => h) (by rfl) ?hye14 (by assumption) ?_
                case hye14 => (intro w hSw; (try dsimp only at hSw); go_simp <;> with_reducible rfl)
                (try simp only [Act.put, List.setIfInBounds_toArray, List.set_cons_zero, List.set_cons_succ])
                refine wpAnyH_tk 15 (v := ?ve15) rfl (by kernel_rfl) (by kernel_rfl) (by kernel_rfl) (fun _ _ _ h => h) (by rfl) ?hye15 (by assumption) ?_
                case hye15 => (intro w hSw; (try dsimp only at hSw); go_simp <;> with_reducible rfl)
                (try simp only [Act.put, List.setIfInBounds_toArray, List.set_cons_zero, List.set_cons_succ])
                refine wpAnyH_tk 16 (v := ?ve16) rfl (by kernel_rfl) (by kernel_rfl) (by kernel_rfl) (fun _ _ _ h => h) (by rfl) ?hye16 (by assumption) ?_
                case hye16 => (intro w hSw; (try dsimp only at hSw); go_simp <;> with_reducible rfl)
                (try simp only [Act.put, List.setIfInBounds_toArray, List.set_cons_zero, List.set_cons_succ])
                refine wpAnyH_tk 17 (v := ?ve17) rfl (by kernel_rfl) (by kernel_rfl) (by kernel_rfl) (fun _ _ _ h => h) (by rfl) ?hye17 (by assumption) ?_
                case hye17 => (intro w hSw; (try dsimp only at hSw); go_simp <;> with_reducible rfl)
                (try simp only [Act.put, List.setIfInBounds_toArray, List.set_cons_zero, List.set_cons_succ])
                refine wpAnyH_tk 18 (v := ?ve18) rfl (by kernel_rfl) (by kernel_rfl) (by kernel_rfl) (fun _ _ _ h => h) (by rfl) ?hye18 (by assumption) ?_
                case hye18 => (intro w hSw; (try dsimp only at hSw); go_simp <;> with_reducible rfl)
                (try simp only [Act.put, List.setIfInBounds_toArray, List.set_cons_zero, List.set_cons_succ])
                refine wpAnyH_tk 19 (v := ?ve19) rfl (by kernel_rfl) (by kernel_rfl) (by kernel_rfl) (fun _ _ _ h => h) (by rfl) ?hye19 (by assumption) ?_
                case hye19 => (intro w hSw; (try dsimp only at hSw); go_simp <;> with_reducible rfl)
                (try simp only [Act.put, List.setIfInBounds_toArray, List.set_cons_zero, List.set_cons_succ])
                refine wpAnyH_tk 20 (v := ?ve20) rfl (by kernel_rfl) (by kernel_rfl) (by kernel_rfl) (fun _ _ _ h => h) (by rfl) ?hye20 (by assumption) ?_
                case hye20 => (intro w hSw; (try dsimp only at hSw); go_simp <;> with_reducible rfl)
                (try simp only [Act.put, List.setIfInBounds_toArray, List.set_cons_zero, List.set_cons_succ])
                refine wpAnyH_tk 21 (v := ?ve21) rfl (by kernel_rfl) (by kernel_rfl) (by kernel_rfl) (fun _ _ _ h => h) (by rfl) ?hye21 (by assumption) ?_
                case hye21 => (intro w hSw; (try dsimp only at hSw); go_simp <;> with_reducible rfl)
                (try simp only [Act.put, List.setIfInBounds_toArray, List.set_cons_zero, List.set_cons_succ])
                refine wpAnyH_tk 22 (v := ?ve22) rfl (by kernel_rfl) (by kernel_rfl) (by kernel_rfl) (fun _ _ _ h => h) (by rfl) ?hye22 (by assumption) ?_
                case hye22 => (intro w hSw; (try dsimp only at hSw); go_simp <;> with_reducible rfl)
                (try simp only [Act.put, List.setIfInBounds_toArray, List.set_cons_zero, List.set_cons_succ])
                refine wpAnyH_tk 23 (v := ?ve23) rfl (by kernel_rfl) (by kernel_rfl) (by kernel_rfl) (fun _ _ _ h => h) (by rfl) ?hye23 (by assumption) ?_
                case hye23 => (intro w hSw; (try dsimp only at hSw); go_simp <;> with_reducible rfl)
                (try simp only [Act.put, List.setIfInBounds_toArray, List.set_cons_zero, List.set_cons_succ])
                refine wpAnyH_tk 24 (v := ?ve24) rfl (by kernel_rfl) (by kernel_rfl) (by kernel_rfl) (fun _ _ _ h => h) (by rfl) ?hye24 (by assumption) ?_
                case hye24 => (intro w hSw; (try dsimp only at hSw); go_simp <;> with_reducible rfl)
                (try simp only [Act.put, List.setIfInBounds_toArray, List.set_cons_zero, List.set_cons_succ])
                refine wpAnyH_tk 25 (v := ?ve25) rfl (by kernel_rfl) (by kernel_rfl) (by kernel_rfl) (fun _ _ _ h => h) (by rfl) ?hye25 (by assumption) ?_
                case hye25 => (intro w hSw; (try dsimp only at hSw); go_simp <;> with_reducible rfl)
                (try simp only [Act.put, List.setIfInBounds_toArray, List.set_cons_zero, List.set_cons_succ])
                refine wpAnyH_tk 26 (v := ?ve26) rfl (by kernel_rfl) (by kernel_rfl) (by kernel_rfl) (fun _ _ _ h => h) (by rfl) ?hye26 (by assumption) ?_
                case hye26 => (intro w hSw; (try dsimp only at hSw); go_simp <;> with_reducible rfl)
                (try simp only [Act.put, List.setIfInBounds_toArray, List.set_cons_zero, List.set_cons_succ])
                refine wpAnyH_tk 27 (v := ?ve27) rfl (by kernel_rfl) (by kernel_rfl) (by kernel_rfl) (fun _ _ _ h => h) (by rfl) ?hye27 (by assumption) ?_
                case hye27 => (intro w hSw; (try dsimp only at hSw); go_simp <;> with_reducible rfl)
                (try simp only [Act.put, List.setIfInBounds_toArray, List.set_cons_zero, List.set_cons_succ])
                refine wpAnyH_tk 28 (v := ?ve28) rfl (by kernel_rfl) (by kernel_rfl) (by kernel_rfl) (fun _ _ _ h => h) (by rfl) ?hye28 (by assumption) ?_
                case hye28 => (intro w hSw; (try dsimp only at hSw); go_simp <;> with_reducible rfl)
                (try simp only [Act.put, List.setIfInBounds_toArray, List.set_cons_zero, List.set_cons_succ])
                refine wpAnyH_tk 29 (v := ?ve29) rfl (by kernel_rfl) (by kernel_rfl) (by kernel_rfl) (fun _ _ _ h => h) (by rfl) ?hye29 (by assumption) ?_
                case hye29 => (intro w hSw; (try dsimp only at hSw); go_simp <;> with_reducible rfl)
                (try simp only [Act.put, List.setIfInBounds_toArray, List.set_cons_zero, List.set_cons_succ])
                refine wpAnyH_tk 30 (v := ?ve30) rfl (by kernel_rfl) (by kernel_rfl) (by kernel_rfl) (fun _ _ _ h => h) (by rfl) ?hye30 (by assumption) ?_
                case hye30 => (intro w hSw; (try dsimp only at hSw); go_simp <;> with_reducible rfl)
                (try simp only [Act.put, List.setIfInBounds_toArray, List.set_cons_zero, List.set_cons_succ])
                refine wpAnyH_skips 30 false 52 1 (by kernel_rfl) rfl (fun _ _ _ _ _ h => h) [31, 32, 33] [53, 54, 55] _ _ _ rfl (by kernel_rfl) (by rfl) (by assumption) ?_
                (try simp only [putsAll, List.foldl, Act.put, List.setIfInBounds_toArray, List.set_cons_zero, List.set_cons_succ])
                refine wpAnyH_tk 34 (v := ?ve34) rfl (by kernel_rfl) (by kernel_rfl) (by kernel_rfl) (fun _ _ _ h => h) (by rfl) ?hye34 (by assumption) ?_
                case hye34 => (intro w hSw; (try dsimp only at hSw); go_simp <;> with_reducible rfl)
                (try simp only [Act.put, List.setIfInBounds_toArray, List.set_cons_zero, List.set_cons_succ])
                refine wpAnyH_done (by kernel_rfl) ?_ _
                clear hHeld b0 b1 cn e0 e1
                go_wp2
                go_ret2
                exact ⟨by rw [HR.out.1, HR.out.2, Bool.false_and]; rfl, HE0.out.trans EA2.out⟩
              · have z4b : decide (x.width < 1) = false := decide_eq_false z4
                by_cases z5 : 1000 < x.width
                · have HR := hid (fit_bad (rs := rs) (n := (N : Int)) (stops := stops) Hxm.out (fun h => by obtain ⟨h1, h2, h3, h4, h5, h6⟩ := h; rw [Int.toNat_natCast, ← Hpw.out] at h2; first | omega | exact h3 z5 | exact h4 z5))
                  have z5b : decide (1000 < x.width) = true := decide_eq_true z5
                  clear z0 z1 z2 z3 z4 z5
                  go_wp2
                  refine wp_region_held_drew (S := (fun w' => w'.cell? ⟨wr.heap.size, 0, none⟩ = some (.int .i64 x.set) ∧ w'.cell? ⟨wr.heap.size, 1, none⟩ = some (.int .i64 x.width) ∧ w'.cell? ⟨w.heap.size, 0, none⟩ = some (.int .i64 N))) (by kernel_rfl) ?hSf0 (fun hHeld => ?_)
                  case hSf0 => (first | (exact ⟨b0, b1, cn⟩) | ((try dsimp only); exact ⟨b0, b1, cn⟩))
                  refine wpAnyH_tk 0 (v := ?vf0) rfl (by kernel_rfl) (by kernel_rfl) (by kernel_rfl) (fun _ _ _ h => h) (by rfl) ?hyf0 (by assumption) ?_
                  case hyf0 => (intro w hSw; (try dsimp only at hSw); go_simp <;> with_reducible rfl)
                  (try simp only [Act.put, List.setIfInBounds_toArray, List.set_cons_zero, List.set_cons_succ])
                  refine wpAnyH_tk 1 (v := ?vf1) rfl (by kernel_rfl) (by kernel_rfl) (by kernel_rfl) (fun _ _ _ h => h) (by rfl) ?hyf1 (by assumption) ?_
                  case hyf1 => (intro w hSw; (try dsimp only at hSw); go_simp <;> with_reducible rfl)
                  (try simp only [Act.put, List.setIfInBounds_toArray, List.set_cons_zero, List.set_cons_succ])
                  refine wpAnyH_tk 2 (v := ?vf2) rfl (by kernel_rfl) (by kernel_rfl) (by kernel_rfl) (fun _ _ _ h => h) (by rfl) ?hyf2 (by assumption) ?_
                  case hyf2 => (intro w hSw; (try dsimp only at hSw); go_simp <;> with_reducible rfl)
                  (try simp only [Act.put, List.setIfInBounds_toArray, List.set_cons_zero, List.set_cons_succ])
                  refine wpAnyH_tk 3 (v := ?vf3) rfl (by kernel_rfl) (by kernel_rfl) (by kernel_rfl) (fun _ _ _ h => h) (by rfl) ?hyf3 (by assumption) ?_
                  case hyf3 => (intro w hSw; (try dsimp only at hSw); go_simp <;> with_reducible rfl)
                  (try simp only [Act.put, List.setIfInBounds_toArray, List.set_cons_zero, List.set_cons_succ])
                  refine wpAnyH_tk 4 (v := ?vf4) rfl (by kernel_rfl) (by kernel_rfl) (by kernel_rfl) (fun _ _ _ h => h) (by rfl) ?hyf4 (by assumption) ?_
                  case hyf4 => (intro w hSw; (try dsimp only at hSw); go_simp <;> with_reducible rfl)
                  (try simp only [Act.put, List.setIfInBounds_toArray, List.set_cons_zero, List.set_cons_succ])
                  refine wpAnyH_tk 5 (v := ?vf5) rfl (by kernel_rfl) (by kernel_rfl) (by kernel_rfl) (fun _ _ _ h => h) (by rfl) ?hyf5 (by assumption) ?_
                  case hyf5 => (intro w hSw; (try dsimp only at hSw); go_simp <;> with_reducible rfl)
                  (try simp only [Act.put, List.setIfInBounds_toArray, List.set_cons_zero, List.set_cons_succ])
                  refine wpAnyH_tk 6 (v := ?vf6) rfl (by kernel_rfl) (by kernel_rfl) (by kernel_rfl) (fun _ _ _ h => h) (by rfl) ?hyf6 (by assumption) ?_
                  case hyf6 => (intro w hSw; (try dsimp only at hSw); go_simp <;> with_reducible rfl)
                  (try simp only [Act.put, List.setIfInBounds_toArray, List.set_cons_zero, List.set_cons_succ])
                  refine wpAnyH_tk 7 (v := ?vf7) rfl (by kernel_rfl) (by kernel_rfl) (by kernel_rfl) (fun _ _ _ h => h) (by rfl) ?hyf7 (by assumption) ?_
                  case hyf7 => (intro w hSw; (try dsimp only at hSw); go_simp <;> with_reducible rfl)
                  (try simp only [Act.put, List.setIfInBounds_toArray, List.set_cons_zero, List.set_cons_succ])
                  refine wpAnyH_tk 8 (v := ?vf8) rfl (by kernel_rfl) (by kernel_rfl) (by kernel_rfl) (fun _ _ _ h => h) (by rfl) ?hyf8 (by assumption) ?_
                  case hyf8 => (intro w hSw; (try dsimp only at hSw); go_simp <;> with_reducible rfl)
                  (try simp only [Act.put, List.setIfInBounds_toArray, List.set_cons_zero, List.set_cons_succ])
                  refine wpAnyH_tk 9 (v := ?vf9) rfl (by kernel_rfl) (by kernel_rfl) (by kernel_rfl) (fun _ _ _ h => h) (by rfl) ?hyf9 (by assumption) ?_
                  case hyf9 => (intro w hSw; (try dsimp only at hSw); go_simp <;> with_reducible rfl)
                  (try simp only [Act.put, List.setIfInBounds_toArray, List.set_cons_zero, List.set_cons_succ])
                  refine wpAnyH_tk 10 (v := ?vf10) rfl (by kernel_rfl) (by kernel_rfl) (by kernel_rfl) (fun _ _ _ h => h) (by rfl) ?hyf10 (by assumption) ?_
                  case hyf10 => (intro w hSw; (try dsimp only at hSw); go_simp <;> with_reducible rfl)
                  (try simp only [Act.put, List.setIfInBounds_toArray, List.set_cons_zero, List.set_cons_succ])
                  refine wpAnyH_tk 11 (v := ?vf11) rfl (by kernel_rfl) (by kernel_rfl) (by kernel_rfl) (fun _ _ _ h => h) (by rfl) ?hyf11 (by assumption) ?_
                  case hyf11 => (intro w hSw; (try dsimp only at hSw); go_simp <;> with_reducible rfl)
                  (try simp only [Act.put, List.setIfInBounds_toArray, List.set_cons_zero, List.set_cons_succ])
                  refine wpAnyH_tk 12 (v := ?vf12) rfl (by kernel_rfl) (by kernel_rfl) (by kernel_rfl) (fun _ _ _ h => h) (by rfl) ?hyf12 (by assumption) ?_
                  case hyf12 => (intro w hSw; (try dsimp only at hSw); go_simp <;> with_reducible rfl)
                  (try simp only [Act.put, List.setIfInBounds_toArray, List.set_cons_zero, List.set_cons_succ])
                  refine wpAnyH_tk 13 (v := ?vf13) rfl (by kernel_rfl) (by kernel_rfl) (by kernel_rfl) (fun _ _ _ h => h) (by rfl) ?hyf13 (by assumption) ?_
                  case hyf13 => (intro w hSw; (try dsimp only at hSw); go_simp <;> with_reducible rfl)
                  (try simp only [Act.put, List.setIfInBounds_toArray, List.set_cons_zero, List.set_cons_succ])
                  refine wpAnyH_tk 14 (v := ?vf14) rfl (by kernel_rfl) (by kernel_rfl) (by kernel_rfl) (fun _ _ _ h => h) (by rfl) ?hyf14 (by assumption) ?_
                  case hyf14 => (intro w hSw; (try dsimp only at hSw); go_simp <;> with_reducible rfl)
                  (try simp only [Act.put, List.setIfInBounds_toArray, List.set_cons_zero, List.set_cons_succ])
                  refine wpAnyH_tk 15 (v := ?vf15) rfl (by kernel_rfl) (by kernel_rfl) (by kernel_rfl) (fun _ _ _ h => h) (by rfl) ?hyf15 (by assumption) ?_
                  case hyf15 => (intro w hSw; (try dsimp only at hSw); go_simp <;> with_reducible rfl)
                  (try simp only [Act.put, List.setIfInBounds_toArray, List.set_cons_zero, List.set_cons_succ])
                  refine wpAnyH_tk 16 (v := ?vf16) rfl (by kernel_rfl) (by kernel_rfl) (by kernel_rfl) (fun _ _ _ h => h) (by rfl) ?hyf16 (by assumption) ?_
                  case hyf16 => (intro w hSw; (try dsimp only at hSw); go_simp <;> with_reducible rfl)
                  (try simp only [Act.put, List.setIfInBounds_toArray, List.set_cons_zero, List.set_cons_succ])
                  refine wpAnyH_tk 17 (v := ?vf17) rfl (by kernel_rfl) (by kernel_rfl) (by kernel_rfl) (fun _ _ _ h => h) (by rfl) ?hyf17 (by assumption) ?_
                  case hyf17 => (intro w hSw; (try dsimp only at hSw); go_simp <;> with_reducible rfl)
                  (try simp only [Act.put, List.setIfInBounds_toArray, List.set_cons_zero, List.set_cons_succ])
                  refine wpAnyH_tk 18 (v := ?vf18) rfl (by kernel_rfl) (by kernel_rfl) (by kernel_rfl) (fun _ _ _ h => h) (by rfl) ?hyf18 (by assumption) ?_
                  case hyf18 => (intro w hSw; (try dsimp only at hSw); go_simp <;> with_reducible rfl)
                  (try simp only [Act.put, List.setIfInBounds_toArray, List.set_cons_zero, List.set_cons_succ])
                  refine wpAnyH_tk 19 (v := ?vf19) rfl (by kernel_rfl) (by kernel_rfl) (by kernel_rfl) (fun _ _ _ h => h) (by rfl) ?hyf19 (by assumption) ?_
                  case hyf19 => (intro w hSw; (try dsimp only at hSw); go_simp <;> with_reducible rfl)
                  (try simp only [Act.put, List.setIfInBounds_toArray, List.set_cons_zero, List.set_cons_succ])
                  refine wpAnyH_tk 20 (v := ?vf20) rfl (by kernel_rfl) (by kernel_rfl) (by kernel_rfl) (fun _ _ _ h => h) (by rfl) ?hyf20 (by assumption) ?_
                  case hyf20 => (intro w hSw; (try dsimp only at hSw); go_simp <;> with_reducible rfl)
                  (try simp only [Act.put, List.setIfInBounds_toArray, List.set_cons_zero, List.set_cons_succ])
                  refine wpAnyH_tk 21 (v := ?vf21) rfl (by kernel_rfl) (by kernel_rfl) (by kernel_rfl) (fun _ _ _ h => h) (by rfl) ?hyf21 (by assumption) ?_
                  case hyf21 => (intro w hSw; (try dsimp only at hSw); go_simp <;> with_reducible rfl)
                  (try simp only [Act.put, List.setIfInBounds_toArray, List.set_cons_zero, List.set_cons_succ])
                  refine wpAnyH_tk 22 (v := ?vf22) rfl (by kernel_rfl) (by kernel_rfl) (by kernel_rfl) (fun _ _ _ h => h) (by rfl) ?hyf22 (by assumption) ?_
                  case hyf22 => (intro w hSw; (try dsimp only at hSw); go_simp <;> with_reducible rfl)
                  (try simp only [Act.put, List.setIfInBounds_toArray, List.set_cons_zero, List.set_cons_succ])
                  refine wpAnyH_tk 23 (v := ?vf23) rfl (by kernel_rfl) (by kernel_rfl) (by kernel_rfl) (fun _ _ _ h => h) (by rfl) ?hyf23 (by assumption) ?_
                  case hyf23 => (intro w hSw; (try dsimp only at hSw); go_simp <;> with_reducible rfl)
                  (try simp only [Act.put, List.setIfInBounds_toArray, List.set_cons_zero, List.set_cons_succ])
                  refine wpAnyH_tk 24 (v := ?vf24) rfl (by kernel_rfl) (by kernel_rfl) (by kernel_rfl) (fun _ _ _ h => h) (by rfl) ?hyf24 (by assumption) ?_
                  case hyf24 => (intro w hSw; (try dsimp only at hSw); go_simp <;> with_reducible rfl)
                  (try simp only [Act.put, List.setIfInBounds_toArray, List.set_cons_zero, List.set_cons_succ])
                  refine wpAnyH_tk 25 (v := ?vf25) rfl (by kernel_rfl) (by kernel_rfl) (by kernel_rfl) (fun _ _ _ h => h) (by rfl) ?hyf25 (by assumption) ?_
                  case hyf25 => (intro w hSw; (try dsimp only at hSw); go_simp <;> with_reducible rfl)
                  (try simp only [Act.put, List.setIfInBounds_toArray, List.set_cons_zero, List.set_cons_succ])
                  refine wpAnyH_tk 26 (v := ?vf26) rfl (by kernel_rfl) (by kernel_rfl) (by kernel_rfl) (fun _ _ _ h => h) (by rfl) ?hyf26 (by assumption) ?_
                  case hyf26 => (intro w hSw; (try dsimp only at hSw); go_simp <;> with_reducible rfl)
                  (try simp only [Act.put, List.setIfInBounds_toArray, List.set_cons_zero, List.set_cons_succ])
                  refine wpAnyH_tk 27 (v := ?vf27) rfl (by kernel_rfl) (by kernel_rfl) (by kernel_rfl) (fun _ _ _ h => h) (by rfl) ?hyf27 (by assumption) ?_
                  case hyf27 => (intro w hSw; (try dsimp only at hSw); go_simp <;> with_reducible rfl)
                  (try simp only [Act.put, List.setIfInBounds_toArray, List.set_cons_zero, List.set_cons_succ])
                  refine wpAnyH_tk 28 (v := ?vf28) rfl (by kernel_rfl) (by kernel_rfl) (by kernel_rfl) (fun _ _ _ h => h) (by rfl) ?hyf28 (by assumption) ?_
                  case hyf28 => (intro w hSw; (try dsimp only at hSw); go_simp <;> with_reducible rfl)
                  (try simp only [Act.put, List.setIfInBounds_toArray, List.set_cons_zero, List.set_cons_succ])
                  refine wpAnyH_tk 29 (v := ?vf29) rfl (by kernel_rfl) (by kernel_rfl) (by kernel_rfl) (fun _ _ _ h => h) (by rfl) ?hyf29 (by assumption) ?_
                  case hyf29 => (intro w hSw; (try dsimp only at hSw); go_simp <;> with_reducible rfl)
                  (try simp only [Act.put, List.setIfInBounds_toArray, List.set_cons_zero, List.set_cons_succ])
                  refine wpAnyH_tk 30 (v := ?vf30) rfl (by kernel_rfl) (by kernel_rfl) (by kernel_rfl) (fun _ _ _ h => h) (by rfl) ?hyf30 (by assumption) ?_
                  case hyf30 => (intro w hSw; (try dsimp only at hSw); go_simp <;> with_reducible rfl)
                  (try simp only [Act.put, List.setIfInBounds_toArray, List.set_cons_zero, List.set_cons_succ])
                  refine wpAnyH_tk 31 (v := ?vf31) rfl (by kernel_rfl) (by kernel_rfl) (by kernel_rfl) (fun _ _ _ h => h) (by rfl) ?hyf31 (by assumption) ?_
                  case hyf31 => (intro w hSw; (try dsimp only at hSw); go_simp <;> with_reducible rfl)
                  (try simp only [Act.put, List.setIfInBounds_toArray, List.set_cons_zero, List.set_cons_succ])
                  refine wpAnyH_tk 32 (v := ?vf32) rfl (by kernel_rfl) (by kernel_rfl) (by kernel_rfl) (fun _ _ _ h => h) (by rfl) ?hyf32 (by assumption) ?_
                  case hyf32 => (intro w hSw; (try dsimp only at hSw); go_simp <;> with_reducible rfl)
                  (try simp only [Act.put, List.setIfInBounds_toArray, List.set_cons_zero, List.set_cons_succ])
                  refine wpAnyH_tk 33 (v := ?vf33) rfl (by kernel_rfl) (by kernel_rfl) (by kernel_rfl) (fun _ _ _ h => h) (by rfl) ?hyf33 (by assumption) ?_
                  case hyf33 => (intro w hSw; (try dsimp only at hSw); go_simp <;> with_reducible rfl)
                  (try simp only [Act.put, List.setIfInBounds_toArray, List.set_cons_zero, List.set_cons_succ])
                  refine wpAnyH_tk 34 (v := ?vf34) rfl (by kernel_rfl) (by kernel_rfl) (by kernel_rfl) (fun _ _ _ h => h) (by rfl) ?hyf34 (by assumption) ?_
                  case hyf34 => (intro w hSw; (try dsimp only at hSw); go_simp <;> with_reducible rfl)
                  (try simp only [Act.put, List.setIfInBounds_toArray, List.set_cons_zero, List.set_cons_succ])
                  refine wpAnyH_done (by kernel_rfl) ?_ _
                  clear hHeld b0 b1 cn e0 e1
                  go_wp2
                  go_ret2
                  exact ⟨by rw [HR.out.1, HR.out.2, Bool.false_and]; rfl, HE0.out.trans EA2.out⟩
                · have z5b : decide (1000 < x.width) = false := decide_eq_false z5
                  have OK2 : Hid (∀ y ∈ ms.take (k + 1), moatP N stops y) := by
                    intro y hy
                    rw [Htk.out] at hy
                    rcases List.mem_append.1 hy with h | h
                    · exact OKS.out y h
                    · simp only [List.mem_singleton] at h
                      subst h
                      exact ⟨by omega, by rw [Int.toNat_natCast, ← Hpw.out]; omega, z2, z3, by omega, by omega⟩
                  have SUM2 : Hid (s + x.width = sumW (ms.take (k + 1))) := by show _ = _; rw [Hs.out, SUM.out]
                  have hwx : 1 ≤ x.width ∧ x.width ≤ 1000 := by omega
                  clear z0 z1 z2 z3 z4 z5
                  go_wp2
                  refine wp_region_held_drew (S := (fun w' => w'.cell? ⟨wr.heap.size, 0, none⟩ = some (.int .i64 x.set) ∧ w'.cell? ⟨wr.heap.size, 1, none⟩ = some (.int .i64 x.width) ∧ w'.cell? ⟨w.heap.size, 0, none⟩ = some (.int .i64 N))) (by kernel_rfl) ?hSg0 (fun hHeld => ?_)
                  case hSg0 => (first | (exact ⟨b0, b1, cn⟩) | ((try dsimp only); exact ⟨b0, b1, cn⟩))
                  refine wpAnyH_tk 0 (v := ?vg0) rfl (by kernel_rfl) (by kernel_rfl) (by kernel_rfl) (fun _ _ _ h => h) (by rfl) ?hyg0 (by assumption) ?_
                  case hyg0 => (intro w hSw; (try dsimp only at hSw); go_simp <;> with_reducible rfl)
                  (try simp only [Act.put, List.setIfInBounds_toArray, List.set_cons_zero, List.set_cons_succ])
                  refine wpAnyH_tk 1 (v := ?vg1) rfl (by kernel_rfl) (by kernel_rfl) (by kernel_rfl) (fun _ _ _ h => h) (by rfl) ?hyg1 (by assumption) ?_
                  case hyg1 => (intro w hSw; (try dsimp only at hSw); go_simp <;> with_reducible rfl)
                  (try simp only [Act.put, List.setIfInBounds_toArray, List.set_cons_zero, List.set_cons_succ])
                  refine wpAnyH_tk 2 (v := ?vg2) rfl (by kernel_rfl) (by kernel_rfl) (by kernel_rfl) (fun _ _ _ h => h) (by rfl) ?hyg2 (by assumption) ?_
                  case hyg2 => (intro w hSw; (try dsimp only at hSw); go_simp <;> with_reducible rfl)
                  (try simp only [Act.put, List.setIfInBounds_toArray, List.set_cons_zero, List.set_cons_succ])
                  refine wpAnyH_tk 3 (v := ?vg3) rfl (by kernel_rfl) (by kernel_rfl) (by kernel_rfl) (fun _ _ _ h => h) (by rfl) ?hyg3 (by assumption) ?_
                  case hyg3 => (intro w hSw; (try dsimp only at hSw); go_simp <;> with_reducible rfl)
                  (try simp only [Act.put, List.setIfInBounds_toArray, List.set_cons_zero, List.set_cons_succ])
                  refine wpAnyH_tk 4 (v := ?vg4) rfl (by kernel_rfl) (by kernel_rfl) (by kernel_rfl) (fun _ _ _ h => h) (by rfl) ?hyg4 (by assumption) ?_
                  case hyg4 => (intro w hSw; (try dsimp only at hSw); go_simp <;> with_reducible rfl)
                  (try simp only [Act.put, List.setIfInBounds_toArray, List.set_cons_zero, List.set_cons_succ])
                  refine wpAnyH_tk 5 (v := ?vg5) rfl (by kernel_rfl) (by kernel_rfl) (by kernel_rfl) (fun _ _ _ h => h) (by rfl) ?hyg5 (by assumption) ?_
                  case hyg5 => (intro w hSw; (try dsimp only at hSw); go_simp <;> with_reducible rfl)
                  (try simp only [Act.put, List.setIfInBounds_toArray, List.set_cons_zero, List.set_cons_succ])
                  refine wpAnyH_tk 6 (v := ?vg6) rfl (by kernel_rfl) (by kernel_rfl) (by kernel_rfl) (fun _ _ _ h => h) (by rfl) ?hyg6 (by assumption) ?_
                  case hyg6 => (intro w hSw; (try dsimp only at hSw); go_simp <;> with_reducible rfl)
                  (try simp only [Act.put, List.setIfInBounds_toArray, List.set_cons_zero, List.set_cons_succ])
                  refine wpAnyH_tk 7 (v := ?vg7) rfl (by kernel_rfl) (by kernel_rfl) (by kernel_rfl) (fun _ _ _ h => h) (by rfl) ?hyg7 (by assumption) ?_
                  case hyg7 => (intro w hSw; (try dsimp only at hSw); go_simp <;> with_reducible rfl)
                  (try simp only [Act.put, List.setIfInBounds_toArray, List.set_cons_zero, List.set_cons_succ])
                  refine wpAnyH_tk 8 (v := ?vg8) rfl (by kernel_rfl) (by kernel_rfl) (by kernel_rfl) (fun _ _ _ h => h) (by rfl) ?hyg8 (by assumption) ?_
                  case hyg8 => (intro w hSw; (try dsimp only at hSw); go_simp <;> with_reducible rfl)
                  (try simp only [Act.put, List.setIfInBounds_toArray, List.set_cons_zero, List.set_cons_succ])
                  refine wpAnyH_tk 9 (v := ?vg9) rfl (by kernel_rfl) (by kernel_rfl) (by kernel_rfl) (fun _ _ _ h => h) (by rfl) ?hyg9 (by assumption) ?_
                  case hyg9 => (intro w hSw; (try dsimp only at hSw); go_simp <;> with_reducible rfl)
                  (try simp only [Act.put, List.setIfInBounds_toArray, List.set_cons_zero, List.set_cons_succ])
                  refine wpAnyH_tk 10 (v := ?vg10) rfl (by kernel_rfl) (by kernel_rfl) (by kernel_rfl) (fun _ _ _ h => h) (by rfl) ?hyg10 (by assumption) ?_
                  case hyg10 => (intro w hSw; (try dsimp only at hSw); go_simp <;> with_reducible rfl)
                  (try simp only [Act.put, List.setIfInBounds_toArray, List.set_cons_zero, List.set_cons_succ])
                  refine wpAnyH_tk 11 (v := ?vg11) rfl (by kernel_rfl) (by kernel_rfl) (by kernel_rfl) (fun _ _ _ h => h) (by rfl) ?hyg11 (by assumption) ?_
                  case hyg11 => (intro w hSw; (try dsimp only at hSw); go_simp <;> with_reducible rfl)
                  (try simp only [Act.put, List.setIfInBounds_toArray, List.set_cons_zero, List.set_cons_succ])
                  refine wpAnyH_tk 12 (v := ?vg12) rfl (by kernel_rfl) (by kernel_rfl) (by kernel_rfl) (fun _ _ _ h => h) (by rfl) ?hyg12 (by assumption) ?_
                  case hyg12 => (intro w hSw; (try dsimp only at hSw); go_simp <;> with_reducible rfl)
                  (try simp only [Act.put, List.setIfInBounds_toArray, List.set_cons_zero, List.set_cons_succ])
                  refine wpAnyH_tk 13 (v := ?vg13) rfl (by kernel_rfl) (by kernel_rfl) (by kernel_rfl) (fun _ _ _ h => h) (by rfl) ?hyg13 (by assumption) ?_
                  case hyg13 => (intro w hSw; (try dsimp only at hSw); go_simp <;> with_reducible rfl)
                  (try simp only [Act.put, List.setIfInBounds_toArray, List.set_cons_zero, List.set_cons_succ])
                  refine wpAnyH_tk 14 (v := ?vg14) rfl (by kernel_rfl) (by kernel_rfl) (by kernel_rfl) (fun _ _ _ h => h) (by rfl) ?hyg14 (by assumption) ?_
                  case hyg14 => (intro w hSw; (try dsimp only at hSw); go_simp <;> with_reducible rfl)
                  (try simp only [Act.put, List.setIfInBounds_toArray, List.set_cons_zero, List.set_cons_succ])
                  refine wpAnyH_tk 15 (v := ?vg15) rfl (by kernel_rfl) (by kernel_rfl) (by kernel_rfl) (fun _ _ _ h => h) (by rfl) ?hyg15 (by assumption) ?_
                  case hyg15 => (intro w hSw; (try dsimp only at hSw); go_simp <;> with_reducible rfl)
                  (try simp only [Act.put, List.setIfInBounds_toArray, List.set_cons_zero, List.set_cons_succ])
                  refine wpAnyH_tk 16 (v := ?vg16) rfl (by kernel_rfl) (by kernel_rfl) (by kernel_rfl) (fun _ _ _ h => h) (by rfl) ?hyg16 (by assumption) ?_
                  case hyg16 => (intro w hSw; (try dsimp only at hSw); go_simp <;> with_reducible rfl)
                  (try simp only [Act.put, List.setIfInBounds_toArray, List.set_cons_zero, List.set_cons_succ])
                  refine wpAnyH_tk 17 (v := ?vg17) rfl (by kernel_rfl) (by kernel_rfl) (by kernel_rfl) (fun _ _ _ h => h) (by rfl) ?hyg17 (by assumption) ?_
                  case hyg17 => (intro w hSw; (try dsimp only at hSw); go_simp <;> with_reducible rfl)
                  (try simp only [Act.put, List.setIfInBounds_toArray, List.set_cons_zero, List.set_cons_succ])
                  refine wpAnyH_tk 18 (v := ?vg18) rfl (by kernel_rfl) (by kernel_rfl) (by kernel_rfl) (fun _ _ _ h => h) (by rfl) ?hyg18 (by assumption) ?_
                  case hyg18 => (intro w hSw; (try dsimp only at hSw); go_simp <;> with_reducible rfl)
                  (try simp only [Act.put, List.setIfInBounds_toArray, List.set_cons_zero, List.set_cons_succ])
                  refine wpAnyH_tk 19 (v := ?vg19) rfl (by kernel_rfl) (by kernel_rfl) (by kernel_rfl) (fun _ _ _ h => h) (by rfl) ?hyg19 (by assumption) ?_
                  case hyg19 => (intro w hSw; (try dsimp only at hSw); go_simp <;> with_reducible rfl)
                  (try simp only [Act.put, List.setIfInBounds_toArray, List.set_cons_zero, List.set_cons_succ])
                  refine wpAnyH_tk 20 (v := ?vg20) rfl (by kernel_rfl) (by kernel_rfl) (by kernel_rfl) (fun _ _ _ h => h) (by rfl) ?hyg20 (by assumption) ?_
                  case hyg20 => (intro w hSw; (try dsimp only at hSw); go_simp <;> with_reducible rfl)
                  (try simp only [Act.put, List.setIfInBounds_toArray, List.set_cons_zero, List.set_cons_succ])
                  refine wpAnyH_tk 21 (v := ?vg21) rfl (by kernel_rfl) (by kernel_rfl) (by kernel_rfl) (fun _ _ _ h => h) (by rfl) ?hyg21 (by assumption) ?_
                  case hyg21 => (intro w hSw; (try dsimp only at hSw); go_simp <;> with_reducible rfl)
                  (try simp only [Act.put, List.setIfInBounds_toArray, List.set_cons_zero, List.set_cons_succ])
                  refine wpAnyH_tk 22 (v := ?vg22) rfl (by kernel_rfl) (by kernel_rfl) (by kernel_rfl) (fun _ _ _ h => h) (by rfl) ?hyg22 (by assumption) ?_
                  case hyg22 => (intro w hSw; (try dsimp only at hSw); go_simp <;> with_reducible rfl)
                  (try simp only [Act.put, List.setIfInBounds_toArray, List.set_cons_zero, List.set_cons_succ])
                  refine wpAnyH_tk 23 (v := ?vg23) rfl (by kernel_rfl) (by kernel_rfl) (by kernel_rfl) (fun _ _ _ h => h) (by rfl) ?hyg23 (by assumption) ?_
                  case hyg23 => (intro w hSw; (try dsimp only at hSw); go_simp <;> with_reducible rfl)
                  (try simp only [Act.put, List.setIfInBounds_toArray, List.set_cons_zero, List.set_cons_succ])
                  refine wpAnyH_tk 24 (v := ?vg24) rfl (by kernel_rfl) (by kernel_rfl) (by kernel_rfl) (fun _ _ _ h => h) (by rfl) ?hyg24 (by assumption) ?_
                  case hyg24 => (intro w hSw; (try dsimp only at hSw); go_simp <;> with_reducible rfl)
                  (try simp only [Act.put, List.setIfInBounds_toArray, List.set_cons_zero, List.set_cons_succ])
                  refine wpAnyH_tk 25 (v := ?vg25) rfl (by kernel_rfl) (by kernel_rfl) (by kernel_rfl) (fun _ _ _ h => h) (by rfl) ?hyg25 (by assumption) ?_
                  case hyg25 => (intro w hSw; (try dsimp only at hSw); go_simp <;> with_reducible rfl)
                  (try simp only [Act.put, List.setIfInBounds_toArray, List.set_cons_zero, List.set_cons_succ])
                  refine wpAnyH_tk 26 (v := ?vg26) rfl (by kernel_rfl) (by kernel_rfl) (by kernel_rfl) (fun _ _ _ h => h) (by rfl) ?hyg26 (by assumption) ?_
                  case hyg26 => (intro w hSw; (try dsimp only at hSw); go_simp <;> with_reducible rfl)
                  (try simp only [Act.put, List.setIfInBounds_toArray, List.set_cons_zero, List.set_cons_succ])
                  refine wpAnyH_tk 27 (v := ?vg27) rfl (by kernel_rfl) (by kernel_rfl) (by kernel_rfl) (fun _ _ _ h => h) (by rfl) ?hyg27 (by assumption) ?_
                  case hyg27 => (intro w hSw; (try dsimp only at hSw); go_simp <;> with_reducible rfl)
                  (try simp only [Act.put, List.setIfInBounds_toArray, List.set_cons_zero, List.set_cons_succ])
                  refine wpAnyH_tk 28 (v := ?vg28) rfl (by kernel_rfl) (by kernel_rfl) (by kernel_rfl) (fun _ _ _ h => h) (by rfl) ?hyg28 (by assumption) ?_
                  case hyg28 => (intro w hSw; (try dsimp only at hSw); go_simp <;> with_reducible rfl)
                  (try simp only [Act.put, List.setIfInBounds_toArray, List.set_cons_zero, List.set_cons_succ])
                  refine wpAnyH_tk 29 (v := ?vg29) rfl (by kernel_rfl) (by kernel_rfl) (by kernel_rfl) (fun _ _ _ h => h) (by rfl) ?hyg29 (by assumption) ?_
                  case hyg29 => (intro w hSw; (try dsimp only at hSw); go_simp <;> with_reducible rfl)
                  (try simp only [Act.put, List.setIfInBounds_toArray, List.set_cons_zero, List.set_cons_succ])
                  refine wpAnyH_tk 30 (v := ?vg30) rfl (by kernel_rfl) (by kernel_rfl) (by kernel_rfl) (fun _ _ _ h => h) (by rfl) ?hyg30 (by assumption) ?_
                  case hyg30 => (intro w hSw; (try dsimp only at hSw); go_simp <;> with_reducible rfl)
                  (try simp only [Act.put, List.setIfInBounds_toArray, List.set_cons_zero, List.set_cons_succ])
                  refine wpAnyH_tk 31 (v := ?vg31) rfl (by kernel_rfl) (by kernel_rfl) (by kernel_rfl) (fun _ _ _ h => h) (by rfl) ?hyg31 (by assumption) ?_
                  case hyg31 => (intro w hSw; (try dsimp only at hSw); go_simp <;> with_reducible rfl)
                  (try simp only [Act.put, List.setIfInBounds_toArray, List.set_cons_zero, List.set_cons_succ])
                  refine wpAnyH_tk 32 (v := ?vg32) rfl (by kernel_rfl) (by kernel_rfl) (by kernel_rfl) (fun _ _ _ h => h) (by rfl) ?hyg32 (by assumption) ?_
                  case hyg32 => (intro w hSw; (try dsimp only at hSw); go_simp <;> with_reducible rfl)
                  (try simp only [Act.put, List.setIfInBounds_toArray, List.set_cons_zero, List.set_cons_succ])
                  refine wpAnyH_tk 33 (v := ?vg33) rfl (by kernel_rfl) (by kernel_rfl) (by kernel_rfl) (fun _ _ _ h => h) (by rfl) ?hyg33 (by assumption) ?_
                  case hyg33 => (intro w hSw; (try dsimp only at hSw); go_simp <;> with_reducible rfl)
                  (try simp only [Act.put, List.setIfInBounds_toArray, List.set_cons_zero, List.set_cons_succ])
                  refine wpAnyH_tk 34 (v := ?vg34) rfl (by kernel_rfl) (by kernel_rfl) (by kernel_rfl) (fun _ _ _ h => h) (by rfl) ?hyg34 (by assumption) ?_
                  case hyg34 => (intro w hSw; (try dsimp only at hSw); go_simp <;> with_reducible rfl)
                  (try simp only [Act.put, List.setIfInBounds_toArray, List.set_cons_zero, List.set_cons_succ])
                  refine wpAnyH_done (by kernel_rfl) ?_ _
                  have b1d := (Ext.refl (wr.alloc (.cells #[.int .i64 x.set, .int .i64 x.width] 76))).drew.cell B1.out
                  clear hHeld b0 b1 cn e0 e1 z0b z1b z2b z3b z4b z5b
                  generalize (wr.alloc (.cells #[.int .i64 x.set, .int .i64 x.width] 76)).drew = wz at b1d EA2 ⊢
                  go_wp2
                  go_roundg (gk - 1)
                  case rel => exact ⟨k + 1, s + x.width, by have := Hk.out; omega, by go_num, by go_num, by omega, by omega, SUM2.out, OK2.out, EA2.out⟩
                  case measure => have := Hk.out; omega
    · have ek : k = ms.length := by omega
      have h1 := SUM.out
      have h2 := OKS.out
      rw [ek, List.take_length] at h1 h2
      have HS := hid h1
      have HMP := hid h2
      obtain ⟨c0, c1⟩ := (X0.out.ext E.out).cells
      clear h1 h2 SUM OKS
      go_wp2
      clear c0 c1 ek
      generalize wr = V at *
      go_loopg [65] rs.length (fun g i wr => ∃ j : Nat, j + g = rs.length ∧ i = .int .i64 j ∧ Hid (∀ r ∈ rs.take j, overR r ms ≤ 2 * r.cost) ∧ Hid (Ext V wr))
      case atStart => exact ⟨0, by omega, rfl, fun r hr => by simp at hr, Ext.refl _⟩
      case round =>
        obtain ⟨j, hj, rfl, ROK, E2⟩ := hrel
        have hjl : j ≤ rs.length := by omega
        have Hj := hid hj
        clear hj
        by_cases hjlt : j < rs.length
        · obtain ⟨bb, off, rfl, -, hcc⟩ := Roads.get HV.out j hjlt
          obtain ⟨r0, r1, r2⟩ := hcc _ (HE0.out.trans (E.out.trans E2.out))
          have Hrm := hid (roadAt_mem hjlt)
          obtain ⟨q1, q2, q3, q4, -, q6, q7⟩ := roadOk_iff.1 (HAll.out _ (roadAt_mem hjlt))
          have Htk : Hid (rs.take (j + 1) = rs.take j ++ [roadAt rs j]) := by
            show _ = _
            rw [List.take_succ_eq_append_getElem hjlt, roadAt_get hjlt]
          generalize roadAt rs j = r at *
          have EB := hid (E2.out.alloc (.cells #[.int .i64 r.a, .int .i64 r.b, .int .i64 r.cost] 51))
          have RB := hid (Box3.alloc wr 51 (.int .i64 r.a) (.int .i64 r.b) (.int .i64 r.cost))
          clear hcc
          go_wp2
          generalize wr.alloc (.cells #[.int .i64 r.a, .int .i64 r.b, .int .i64 r.cost] 51) = WB at EB RB ⊢
          generalize wr.heap.size = gx at RB ⊢
          clear r0 r1 r2
          go_loopg [71, 13] ms.length (fun g i v wq => ∃ (n : Nat) (t : Int), n + g = ms.length ∧ i = .int .i64 n ∧ v = .int .i64 t ∧ 0 ≤ t ∧ t ≤ 1000 * (n : Int) ∧ Hid (t = overR r (ms.take n)) ∧ Hid (Ext WB wq))
          case atStart => exact ⟨0, 0, by omega, rfl, rfl, by omega, by omega, rfl, Ext.refl _⟩
          case round =>
            obtain ⟨n, t, hn, rfl, rfl, ht0, ht1, OV, E3⟩ := hrel
            have hnl : n ≤ ms.length := by omega
            have Hn := hid hn
            clear hn
            have ROADC := hid (RB.out.ext E3.out)
            by_cases hnlt : n < ms.length
            · obtain ⟨bm, om, rfl, hce⟩ := Moats.get HM.out n hnlt
              obtain ⟨e0, e1⟩ := hce _ (HE0.out.trans (E.out.trans (EB.out.trans E3.out)))
              have Ho := hid (overR_succ (r := r) hnlt)
              obtain ⟨m1, m2, -, -, m5, m6⟩ := HMP.out _ (moatAt_mem hnlt)
              rw [Int.toNat_natCast, ← Hpw.out] at m2
              generalize moatAt ms n = x at *
              have EC := hid (E3.out.alloc (.cells #[.int .i64 x.set, .int .i64 x.width] 76))
              obtain ⟨b0, b1⟩ := (Box2.alloc wr 76 (.int .i64 x.set) (.int .i64 x.width)).cells
              obtain ⟨d0, d1, d2⟩ := (ROADC.out.ext (Ext.ofAlloc wr (.cells #[.int .i64 x.set, .int .i64 x.width] 76))).cells
              have B1 := hid b1
              obtain ⟨u0, u1⟩ := div_in x.set r.a.toNat m1 (by omega)
              obtain ⟨v0, v1⟩ := div_in x.set r.b.toNat m1 (by omega)
              clear hce
              have ua := bits_one _ u0 (by omega)
              have ub := bits_one _ v0 (by omega)
              have EC2 := hid EC.out.drew
              obtain ⟨cb, hcb⟩ : ∃ cb, cb = crossB r x.set := ⟨_, rfl⟩
              have HCB := hid hcb
              have hne : (x.set / 2 ^ r.a.toNat % 2 != x.set / 2 ^ r.b.toNat % 2) = cb := by rw [hcb]; rfl
              clear hcb
              go_wp2
              refine wp_region_held_drew (S := (fun w' => w'.cell? ⟨wr.heap.size, 0, none⟩ = some (.int .i64 x.set) ∧ w'.cell? ⟨gx, 0, none⟩ = some (.int .i64 r.a) ∧ w'.cell? ⟨gx, 1, none⟩ = some (.int .i64 r.b))) (by kernel_rfl) ?hSh0 (fun hHeld => ?_)
              case hSh0 => (first | (exact ⟨b0, d0, d1⟩) | ((try dsimp only); exact ⟨b0, d0, d1⟩))
              refine wpAnyH_tk 0 (v := ?vh0) rfl (by kernel_rfl) (by kernel_rfl) (by kernel_rfl) (fun _ _ _ h => h) (by rfl) ?hyh0 (by assumption) ?_
              case hyh0 => (intro w hSw; (try dsimp only at hSw); go_simp <;> with_reducible rfl)
              (try simp only [Act.put, List.setIfInBounds_toArray, List.set_cons_zero, List.set_cons_succ])
              refine wpAnyH_tk 1 (v := ?vh1) rfl (by kernel_rfl) (by kernel_rfl) (by kernel_rfl) (fun _ _ _ h => h) (by rfl) ?hyh1 (by assumption) ?_
              case hyh1 => (intro w hSw; (try dsimp only at hSw); go_simp <;> with_reducible rfl)
              (try simp only [Act.put, List.setIfInBounds_toArray, List.set_cons_zero, List.set_cons_succ])
              refine wpAnyH_tk 2 (v := ?vh2) rfl (by kernel_rfl) (by kernel_rfl) (by kernel_rfl) (fun _ _ _ h => h) (by rfl) ?hyh2 (by assumption) ?_
              case hyh2 => (intro w hSw; (try dsimp only at hSw); go_simp <;> with_reducible rfl)
              (try simp only [Act.put, List.setIfInBounds_toArray, List.set_cons_zero, List.set_cons_succ])
              refine wpAnyH_tk 3 (v := ?vh3) rfl (by kernel_rfl) (by kernel_rfl) (by kernel_rfl) (fun _ _ _ h => h) (by rfl) ?hyh3 (by assumption) ?_
              case hyh3 => (intro w hSw; (try dsimp only at hSw); go_simp <;> with_reducible rfl)
              (try simp only [Act.put, List.setIfInBounds_toArray, List.set_cons_zero, List.set_cons_succ])
              refine wpAnyH_tk 4 (v := ?vh4) rfl (by kernel_rfl) (by kernel_rfl) (by kernel_rfl) (fun _ _ _ h => h) (by rfl) ?hyh4 (by assumption) ?_
              case hyh4 => (intro w hSw; (try dsimp only at hSw); go_simp <;> with_reducible rfl)
              (try simp only [Act.put, List.setIfInBounds_toArray, List.set_cons_zero, List.set_cons_succ])
              refine wpAnyH_tk 5 (v := ?vh5) rfl (by kernel_rfl) (by kernel_rfl) (by kernel_rfl) (fun _ _ _ h => h) (by rfl) ?hyh5 (by assumption) ?_
              case hyh5 => (intro w hSw; (try dsimp only at hSw); go_simp <;> with_reducible rfl)
              (try simp only [Act.put, List.setIfInBounds_toArray, List.set_cons_zero, List.set_cons_succ])
              refine wpAnyH_tk 6 (v := ?vh6) rfl (by kernel_rfl) (by kernel_rfl) (by kernel_rfl) (fun _ _ _ h => h) (by rfl) ?hyh6 (by assumption) ?_
              case hyh6 => (intro w hSw; (try dsimp only at hSw); go_simp <;> with_reducible rfl)
              (try simp only [Act.put, List.setIfInBounds_toArray, List.set_cons_zero, List.set_cons_succ])
              refine wpAnyH_tk 7 (v := ?vh7) rfl (by kernel_rfl) (by kernel_rfl) (by kernel_rfl) (fun _ _ _ h => h) (by rfl) ?hyh7 (by assumption) ?_
              case hyh7 => (intro w hSw; (try dsimp only at hSw); go_simp <;> with_reducible rfl)
              (try simp only [Act.put, List.setIfInBounds_toArray, List.set_cons_zero, List.set_cons_succ])
              refine wpAnyH_tk 8 (v := ?vh8) rfl (by kernel_rfl) (by kernel_rfl) (by kernel_rfl) (fun _ _ _ h => h) (by rfl) ?hyh8 (by assumption) ?_
              case hyh8 => (intro w hSw; (try dsimp only at hSw); go_simp <;> with_reducible rfl)
              (try simp only [Act.put, List.setIfInBounds_toArray, List.set_cons_zero, List.set_cons_succ])
              refine wpAnyH_tk 9 (v := ?vh9) rfl (by kernel_rfl) (by kernel_rfl) (by kernel_rfl) (fun _ _ _ h => h) (by rfl) ?hyh9 (by assumption) ?_
              case hyh9 => (intro w hSw; (try dsimp only at hSw); go_simp <;> with_reducible rfl)
              (try simp only [Act.put, List.setIfInBounds_toArray, List.set_cons_zero, List.set_cons_succ])
              refine wpAnyH_tk 10 (v := ?vh10) rfl (by kernel_rfl) (by kernel_rfl) (by kernel_rfl) (fun _ _ _ h => h) (by rfl) ?hyh10 (by assumption) ?_
              case hyh10 => (intro w hSw; (try dsimp only at hSw); go_simp <;> with_reducible rfl)
              (try simp only [Act.put, List.setIfInBounds_toArray, List.set_cons_zero, List.set_cons_succ])
              refine wpAnyH_tk 11 (v := ?vh11) rfl (by kernel_rfl) (by kernel_rfl) (by kernel_rfl) (fun _ _ _ h => h) (by rfl) ?hyh11 (by assumption) ?_
              case hyh11 => (intro w hSw; (try dsimp only at hSw); go_simp <;> with_reducible rfl)
              (try simp only [Act.put, List.setIfInBounds_toArray, List.set_cons_zero, List.set_cons_succ])
              refine wpAnyH_tk 12 (v := ?vh12) rfl (by kernel_rfl) (by kernel_rfl) (by kernel_rfl) (fun _ _ _ h => h) (by rfl) ?hyh12 (by assumption) ?_
              case hyh12 => (intro w hSw; (try dsimp only at hSw); go_simp <;> with_reducible rfl)
              (try simp only [Act.put, List.setIfInBounds_toArray, List.set_cons_zero, List.set_cons_succ])
              refine wpAnyH_done (by kernel_rfl) ?_ _
              have b1d := (Ext.refl (wr.alloc (.cells #[.int .i64 x.set, .int .i64 x.width] 76))).drew.cell B1.out
              clear hHeld b0 b1 d0 d1 d2 e0 e1 u0 u1 v0 v1 ua ub
              generalize (wr.alloc (.cells #[.int .i64 x.set, .int .i64 x.width] 76)).drew = wz at b1d EC2 ⊢
              (try rw [hne])
              clear hne
              cases hcr : cb
              · have OV2 : Hid (t = overR r (ms.take (n + 1))) := by show _ = _; rw [Ho.out, ← OV.out]; unfold overF; rw [← HCB.out, hcr]; rfl
                clear hcr
                go_wp2
                go_roundg (ms.length - (n + 1))
                case rel => exact ⟨n + 1, t, by omega, by go_num, rfl, by omega, by omega, OV2.out, EC2.out⟩
                case measure => have := Hn.out; omega
              · have OV2 : Hid (t + x.width = overR r (ms.take (n + 1))) := by show _ = _; rw [Ho.out, ← OV.out]; unfold overF; rw [← HCB.out, hcr]; rfl
                clear hcr
                go_wp2
                go_roundg (ms.length - (n + 1))
                case rel => exact ⟨n + 1, t + x.width, by omega, by go_num, by go_num, by omega, by omega, OV2.out, EC2.out⟩
                case measure => have := Hn.out; omega
            · have en : n = ms.length := by omega
              have h1 := OV.out
              rw [en, List.take_length] at h1
              have HO := hid h1
              obtain ⟨d0, d1, d2⟩ := ROADC.out.cells
              have hmw : IntKind.i64.wrap (2 * r.cost) = 2 * r.cost := by rw [IntKind.wrap_i64]; omega
              clear h1 en
              by_cases hov : 2 * r.cost < t
              · have HR := hid (fit_over (n := (N : Int)) (stops := stops) (ms := ms) Hrm.out (by rw [← HO.out]; omega))
                go_wp2
                go_ret2
                exact ⟨by rw [HR.out.1, HR.out.2, Bool.false_and]; rfl, HE0.out.trans (E.out.trans (EB.out.trans E3.out))⟩
              · have ROK2 : Hid (∀ r' ∈ rs.take (j + 1), overR r' ms ≤ 2 * r'.cost) := by
                  intro r' hr'
                  rw [Htk.out] at hr'
                  rcases List.mem_append.1 hr' with h | h
                  · exact ROK.out r' h
                  · simp only [List.mem_singleton] at h
                    subst h
                    rw [← HO.out]; omega
                have EF := hid (EB.out.trans E3.out)
                go_wp2
                go_roundg (rs.length - (j + 1))
                case rel => exact ⟨j + 1, by omega, by go_num, ROK2.out, EF.out⟩
                case measure => have := Hj.out; omega
        · have HRO : Hid (∀ r ∈ rs, overR r ms ≤ 2 * r.cost) := by
            have h := ROK.out
            rw [List.take_of_length_le (by omega)] at h
            exact h
          have HR := hid (fit_yes HMP.out HRO.out)
          clear ROK
          by_cases h200 : ms.length ≤ 200
          · have hl1 : (ms.length : Int) ≤ 200 := by omega
            have HD : Hid (decide (ms.length ≤ 200) = true) := decide_eq_true h200
            clear h200
            go_wp2
            go_ret2
            exact ⟨by rw [HR.out.1, HR.out.2, HD.out, ← HS.out]; rfl, HE0.out.trans (E.out.trans E2.out)⟩
          · have hl1 : ¬ (ms.length : Int) ≤ 200 := by omega
            have HD : Hid (decide (ms.length ≤ 200) = false) := decide_eq_false h200
            clear h200
            go_wp2
            go_ret2
            exact ⟨by rw [HR.out.1, HR.out.2, HD.out, ← HS.out]; rfl, HE0.out.trans (E.out.trans E2.out)⟩

end Go.Proofs.YtkbkgkmogbkabaaDoor

/-
  The statement RouteMoats: its walk.
-/
namespace Go.Proofs.YtkbkgkmogbkabaaDoor
open Go.RowKit

set_option maxRecDepth 20000 in
set_option maxHeartbeats 16000000 in
theorem RouteMoats_any (vr : Value) (m : MapD) (st : Int) (w : World) (hm : MapR w vr m) (hTZ : TZ w) :
    Calls Tryd.prog 4 #[.agg #[.int .i64 m.n, vr], .int .i64 st] w fun e w' => e = .returned (.bool true) ∧ Ext w w' := by
  obtain ⟨ao, cap, rfl⟩ := hm.shape
  have HM := hid hm
  have HTZ := hid hTZ
  have X0 := Box2.alloc w 24 (.int .i64 m.n) (.slice ao m.roads.length cap)
  clear hm hTZ
  by_cases hb : mapOk m = true
  · obtain ⟨n, rs⟩ := m
    have hok2 := hb
    unfold mapOk at hok2
    rw [Bool.and_eq_true, decide_eq_true_iff, List.all_eq_true] at hok2
    obtain ⟨⟨h1, h8, h16⟩, hall⟩ := hok2
    dsimp only at h1 h8 h16 hall
    obtain ⟨N, rfl⟩ := Int.eq_ofNat_of_zero_le (show 0 ≤ n by omega)
    have hN1 : 1 ≤ N := by omega
    have hN8 : N ≤ 8 := by omega
    have HB := hid hb
    have HAll := hid hall
    have HTK : Hid (rs.take 18 = rs) := congrArg MapD.roads (cutM_id hb)
    dsimp only at X0 HM
    clear hb hall
    by_cases hst : stopsB N st = true
    · obtain ⟨s, rfl⟩ := Int.eq_ofNat_of_zero_le (show 0 ≤ st by unfold stopsB at hst; rw [decide_eq_true_iff] at hst; omega)
      have HST := hid hst
      obtain ⟨-, -, -, -, s0, sN⟩ := ok_parts HB.out hst
      have HSN := hid sN
      by_cases hcn : Cn rs s
      · have HCN := hid hcn
        clear hcn hst sN
        go_enter Tryd.func4, Tryd.ntmps4
        go_wp2_with (fail)
        refine (Of_any _ ⟨N, rs⟩ _ (MapR.ext HM.out (Ext.ofAlloc w _))).mono ?_
        rintro e w1 ⟨uU, rfl, hu, he1⟩
        dsimp only at hu
        rw [HTK.out] at hu
        have X1 := hid (X0.ext he1)
        have E1 := hid ((Ext.ofAlloc w _).trans he1)
        clear he1
        obtain ⟨c0, c1⟩ := X1.out.cells
        have U_1 := hid (hu.roads (by omega))
        clear hu
        go_wp2_with (fail)
        refine (MoatsT_ok _ N rs s _ U_1.out HB.out HST.out (HTZ.out.ext E1.out) HCN.out).mono ?_
        rintro e w2 ⟨vo, ms, rfl, hom, hfit, he2⟩
        obtain ⟨f1, f2, f3⟩ := hfit.out
        obtain ⟨am, cm, rfl⟩ := own_len hom
        have HMO := hid (OwnMt.moats hom (by omega))
        have HF1 := hid f1
        have HF2 := hid f2
        have HF3 := hid f3
        clear hom hfit f1 f2 f3
        clear c0 c1
        have X2 := hid (X1.out.ext he2)
        have U_2 := hid (U_1.out.ext he2)
        have E2 := hid (E1.out.trans he2)
        clear he2
        obtain ⟨c0, c1⟩ := X2.out.cells
        have MO_2 := hid (HMO.out)
        clear HMO
        go_wp2_with (fail)
        refine (RValid_any _ ⟨N, rs⟩ _ (MapR.ext HM.out E2.out)).mono ?_
        rw [HB.out]
        rintro e w3 ⟨rfl, he3⟩
        clear c0 c1
        have X3 := hid (X2.out.ext he3)
        have MO_3 := hid (MO_2.out.ext he3)
        have E3 := hid (E2.out.trans he3)
        clear he3
        obtain ⟨c0, c1⟩ := X3.out.cells
        go_wp2_with (fail)
        refine (RStops_any _ ⟨N, rs⟩ s _ (MapR.ext HM.out E3.out) (by show (0 : Int) ≤ N; omega) (by show (N : Int) ≤ 8; omega)).mono ?_
        rw [HST.out]
        rintro e w4 ⟨rfl, he4⟩
        clear c0 c1
        have X4 := hid (X3.out.ext he4)
        have MO_4 := hid (MO_3.out.ext he4)
        have E4 := hid (E3.out.trans he4)
        clear he4
        obtain ⟨c0, c1⟩ := X4.out.cells
        go_wp2_with (fail)
        refine (Best_ok _ N rs s _ (MapR.ext HM.out E4.out) HB.out HST.out HCN.out).mono ?_
        rintro e w5 ⟨vy, ly, rfl, hoy, hby, he5⟩
        have HBY := hid hby.out
        obtain ⟨ay, cy, rfl⟩ := own_len hoy
        have HOY := hid (hoy.ints (by have := treeP_len HBY.out.1; omega))
        clear hoy hby
        clear c0 c1
        have X5 := hid (X4.out.ext he5)
        have MO_5 := hid (MO_4.out.ext he5)
        have E5 := hid (E4.out.trans he5)
        clear he5
        obtain ⟨c0, c1⟩ := X5.out.cells
        have OY_5 := hid (HOY.out)
        clear HOY
        have hfv : fitV N rs s ms = sumW ms := by unfold fitV; rw [if_pos HF2.out]
        have hfb : (fitB N rs s ms && decide (ms.length ≤ 200)) = true := by
          have := HF1.out
          unfold fitB
          rw [decide_eq_true HF2.out, decide_eq_true (by omega)]; rfl
        obtain ⟨sw, hsw⟩ : ∃ x, x = sumW ms := ⟨_, rfl⟩
        rw [← hsw] at hfv
        have HFV := hid hfv
        have HFB := hid hfb
        have HSW := hid hsw
        clear hfv hfb hsw
        go_wp2
        refine wp_region_held_drew (S := (fun w' => w'.cell? ⟨w.heap.size, 0, none⟩ = some (.int .i64 N) ∧ w'.cell? ⟨w.heap.size, 1, none⟩ = some (.slice ao rs.length cap))) (by kernel_rfl) ?hSa0 (fun hHeld => ?_)
        case hSa0 => (first | (exact ⟨c0, c1⟩) | ((try dsimp only); exact ⟨c0, c1⟩))
        refine wpAnyH_tk 0 (v := ?va0) rfl (by kernel_rfl) (by kernel_rfl) (by kernel_rfl) (fun _ _ _ h => h) (by rfl) ?hya0 (by assumption) ?_
        case hya0 => (intro w hSw; (try dsimp only at hSw); go_simp <;> with_reducible rfl)
        (try simp only [Act.put, List.setIfInBounds_toArray, List.set_cons_zero, List.set_cons_succ])
        refine wpAnyH_tk 1 (v := ?va1) rfl (by kernel_rfl) (by kernel_rfl) (by kernel_rfl) (fun _ _ _ h => h) (by rfl) ?hya1 (by assumption) ?_
        case hya1 => (intro w hSw; (try dsimp only at hSw); go_simp <;> with_reducible rfl)
        (try simp only [Act.put, List.setIfInBounds_toArray, List.set_cons_zero, List.set_cons_succ])
        refine wpAnyH_tk 2 (v := ?va2) rfl (by kernel_rfl) (by kernel_rfl) (by kernel_rfl) (fun _ _ _ h => h) (by rfl) ?hya2 (by assumption) ?_
        case hya2 => (intro w hSw; (try dsimp only at hSw); go_simp <;> with_reducible rfl)
        (try simp only [Act.put, List.setIfInBounds_toArray, List.set_cons_zero, List.set_cons_succ])
        refine wpAnyH_one 3 rfl (by kernel_rfl) (by rfl) (fun K hK => ?_)
        go_simp
        (refine (ownM_any _ ms _ (MO_5.out.ext (Ext.refl w5).drew)).mono ?_; rintro e wa0 ⟨uo, rfl, hou, hea0⟩; obtain ⟨a5, c5, rfl⟩ := hou.shape; have HOU := hid hou; clear hou)
        refine hK.out _ _ ?hSa4 (fun hHeld => ?_)
        case hSa4 => (first | (exact ⟨((Ext.refl w5).drew.trans hea0).cell c0, ((Ext.refl w5).drew.trans hea0).cell c1⟩) | ((try dsimp only); exact ⟨((Ext.refl w5).drew.trans hea0).cell c0, ((Ext.refl w5).drew.trans hea0).cell c1⟩))
        clear hK K
        (try dsimp only)
        refine wpAnyH_one 4 rfl (by kernel_rfl) (by rfl) (fun K hK => ?_)
        go_simp
        (refine (Fit_any _ _ N rs s ms _ (MapR.ext HM.out (E5.out.trans ((Ext.refl w5).drew.trans hea0))) (HOU.out) HAll.out hN8).mono ?_; rw [HFV.out, HFB.out]; rintro e wa1 ⟨rfl, hea1⟩)
        refine hK.out _ _ ?hSa5 (fun hHeld => ?_)
        case hSa5 => (first | (exact ⟨(((Ext.refl w5).drew.trans hea0).trans hea1).cell c0, (((Ext.refl w5).drew.trans hea0).trans hea1).cell c1⟩) | ((try dsimp only); exact ⟨(((Ext.refl w5).drew.trans hea0).trans hea1).cell c0, (((Ext.refl w5).drew.trans hea0).trans hea1).cell c1⟩))
        clear hK K
        (try simp only [Act.put, List.setIfInBounds_toArray, List.set_cons_zero, List.set_cons_succ])
        refine wpAnyH_tk 5 (v := ?va5) rfl (by kernel_rfl) (by kernel_rfl) (by kernel_rfl) (fun _ _ _ h => h) (by rfl) ?hya5 (by assumption) ?_
        case hya5 => (intro w hSw; (try dsimp only at hSw); go_simp <;> with_reducible rfl)
        (try simp only [Act.put, List.setIfInBounds_toArray, List.set_cons_zero, List.set_cons_succ])
        refine wpAnyH_tk 6 (v := ?va6) rfl (by kernel_rfl) (by kernel_rfl) (by kernel_rfl) (fun _ _ _ h => h) (by rfl) ?hya6 (by assumption) ?_
        case hya6 => (intro w hSw; (try dsimp only at hSw); go_simp <;> with_reducible rfl)
        (try simp only [Act.put, List.setIfInBounds_toArray, List.set_cons_zero, List.set_cons_succ])
        refine wpAnyH_tk 7 (v := ?va7) rfl (by kernel_rfl) (by kernel_rfl) (by kernel_rfl) (fun _ _ _ h => h) (by rfl) ?hya7 (by assumption) ?_
        case hya7 => (intro w hSw; (try dsimp only at hSw); go_simp <;> with_reducible rfl)
        (try simp only [Act.put, List.setIfInBounds_toArray, List.set_cons_zero, List.set_cons_succ])
        refine wpAnyH_tk 8 (v := ?va8) rfl (by kernel_rfl) (by kernel_rfl) (by kernel_rfl) (fun _ _ _ h => h) (by rfl) ?hya8 (by assumption) ?_
        case hya8 => (intro w hSw; (try dsimp only at hSw); go_simp <;> with_reducible rfl)
        (try simp only [Act.put, List.setIfInBounds_toArray, List.set_cons_zero, List.set_cons_succ])
        refine wpAnyH_tk 9 (v := ?va9) rfl (by kernel_rfl) (by kernel_rfl) (by kernel_rfl) (fun _ _ _ h => h) (by rfl) ?hya9 (by assumption) ?_
        case hya9 => (intro w hSw; (try dsimp only at hSw); go_simp <;> with_reducible rfl)
        (try simp only [Act.put, List.setIfInBounds_toArray, List.set_cons_zero, List.set_cons_succ])
        refine wpAnyH_done (by kernel_rfl) ?_ _
        clear hHeld
        clear c0 c1
        have ea := hid ((((Ext.refl w5).drew.trans hea0).trans hea1))
        have X6 := hid (X5.out.ext ea.out)
        have MO_6 := hid (MO_5.out.ext ea.out)
        have OY_6 := hid (OY_5.out.ext ea.out)
        have E6 := hid (E5.out.trans ea.out)
        clear hea0 hea1
        clear ea
        obtain ⟨c0, c1⟩ := X6.out.cells
        go_wp2_with (fail)
        refine (RTree_any _ _ N rs ly s _ (MapR.ext HM.out E6.out) OY_6.out HAll.out hN8 h16 s0 HSN.out).mono ?_
        rintro e w7 ⟨hans, he7⟩
        obtain rfl : e = .returned (.tuple #[.int .i64 (costL rs ly), .bool true]) := by
          rcases hans with ⟨-, h⟩ | ⟨h, -⟩
          · exact h
          · exact absurd HBY.out.1 h
        clear hans
        clear c0 c1
        have X7 := hid (X6.out.ext he7)
        have OY_7 := hid (OY_6.out.ext he7)
        have E7 := hid (E6.out.trans he7)
        clear he7
        obtain ⟨c0, c1⟩ := X7.out.cells
        have hcost := best_cost HB.out HST.out HCN.out HBY.out
        have hle := HF3.out
        rw [← hcost, ← HSW.out] at hle
        obtain ⟨cy2, hcy⟩ : ∃ x, x = costL rs ly := ⟨_, rfl⟩
        rw [← hcy] at hle ⊢
        have hge : decide (sw ≥ cy2) = true := decide_eq_true (by omega)
        clear hcost hcy
        go_wp2_with (fail)
        refine (awake_any _).mono ?_
        rintro e w8 ⟨rfl, he8⟩
        clear c0 c1
        have E8 := hid (E7.out.trans he8)
        clear he8
        go_wp2
        go_ret
        exact ⟨rfl, E8.out⟩
      · have HCN := hid hcn
        clear hcn hst sN
        go_enter Tryd.func4, Tryd.ntmps4
        go_wp2_with (fail)
        refine (Of_any _ ⟨N, rs⟩ _ (MapR.ext HM.out (Ext.ofAlloc w _))).mono ?_
        rintro e w1 ⟨uU, rfl, hu, he1⟩
        dsimp only at hu
        rw [HTK.out] at hu
        have X1 := hid (X0.ext he1)
        have E1 := hid ((Ext.ofAlloc w _).trans he1)
        clear he1
        obtain ⟨c0, c1⟩ := X1.out.cells
        have U_1 := hid (hu.roads (by omega))
        clear hu
        go_wp2_with (fail)
        refine (MoatsT_none _ N rs s _ U_1.out HB.out HST.out (HTZ.out.ext E1.out) HCN.out).mono ?_
        rintro e w2 ⟨rfl, he2⟩
        clear c0 c1
        have X2 := hid (X1.out.ext he2)
        have U_2 := hid (U_1.out.ext he2)
        have E2 := hid (E1.out.trans he2)
        clear he2
        obtain ⟨c0, c1⟩ := X2.out.cells
        go_wp2_with (fail)
        refine (RValid_any _ ⟨N, rs⟩ _ (MapR.ext HM.out E2.out)).mono ?_
        rw [HB.out]
        rintro e w3 ⟨rfl, he3⟩
        clear c0 c1
        have X3 := hid (X2.out.ext he3)
        have E3 := hid (E2.out.trans he3)
        clear he3
        obtain ⟨c0, c1⟩ := X3.out.cells
        go_wp2_with (fail)
        refine (RStops_any _ ⟨N, rs⟩ s _ (MapR.ext HM.out E3.out) (by show (0 : Int) ≤ N; omega) (by show (N : Int) ≤ 8; omega)).mono ?_
        rw [HST.out]
        rintro e w4 ⟨rfl, he4⟩
        clear c0 c1
        have X4 := hid (X3.out.ext he4)
        have E4 := hid (E3.out.trans he4)
        clear he4
        obtain ⟨c0, c1⟩ := X4.out.cells
        go_wp2_with (fail)
        refine (Best_none _ N rs s _ (MapR.ext HM.out E4.out) HB.out HST.out HCN.out).mono ?_
        rintro e w5 ⟨rfl, he5⟩
        clear c0 c1
        have X5 := hid (X4.out.ext he5)
        have E5 := hid (E4.out.trans he5)
        clear he5
        obtain ⟨c0, c1⟩ := X5.out.cells
        go_wp2_with (fail)
        refine (awake_any _).mono ?_
        rintro e w6 ⟨rfl, he6⟩
        clear c0 c1
        have E6 := hid (E5.out.trans he6)
        clear he6
        go_wp2
        go_ret
        exact ⟨rfl, E6.out⟩
    · have hsf : stopsB N st = false := by rw [Bool.eq_false_iff]; exact hst
      have HST := hid hsf
      clear hst hsf
      go_enter Tryd.func4, Tryd.ntmps4
      go_wp2_with (fail)
      refine (Of_any _ ⟨N, rs⟩ _ (MapR.ext HM.out (Ext.ofAlloc w _))).mono ?_
      rintro e w1 ⟨uU, rfl, hu, he1⟩
      dsimp only at hu
      rw [HTK.out] at hu
      have X1 := hid (X0.ext he1)
      have E1 := hid ((Ext.ofAlloc w _).trans he1)
      clear he1
      obtain ⟨c0, c1⟩ := X1.out.cells
      have U_1 := hid (hu.roads (by omega))
      clear hu
      go_wp2_with (fail)
      refine (MoatsT_bad _ ⟨N, rs⟩ st _ U_1.out (.inr ⟨HB.out, HST.out⟩)).mono ?_
      rintro e w2 ⟨rfl, he2⟩
      clear c0 c1
      have X2 := hid (X1.out.ext he2)
      have U_2 := hid (U_1.out.ext he2)
      have E2 := hid (E1.out.trans he2)
      clear he2
      obtain ⟨c0, c1⟩ := X2.out.cells
      go_wp2_with (fail)
      refine (RValid_any _ ⟨N, rs⟩ _ (MapR.ext HM.out E2.out)).mono ?_
      rw [HB.out]
      rintro e w3 ⟨rfl, he3⟩
      clear c0 c1
      have X3 := hid (X2.out.ext he3)
      have E3 := hid (E2.out.trans he3)
      clear he3
      obtain ⟨c0, c1⟩ := X3.out.cells
      go_wp2_with (fail)
      refine (RStops_any _ ⟨N, rs⟩ st _ (MapR.ext HM.out E3.out) (by show (0 : Int) ≤ N; omega) (by show (N : Int) ≤ 8; omega)).mono ?_
      rw [HST.out]
      rintro e w4 ⟨rfl, he4⟩
      clear c0 c1
      have X4 := hid (X3.out.ext he4)
      have E4 := hid (E3.out.trans he4)
      clear he4
      obtain ⟨c0, c1⟩ := X4.out.cells
      go_wp2_with (fail)
      refine (awake_any _).mono ?_
      rintro e w5 ⟨rfl, he5⟩
      clear c0 c1
      have E5 := hid (E4.out.trans he5)
      clear he5
      go_wp2
      go_ret
      exact ⟨rfl, E5.out⟩
  · have hbf : mapOk m = false := by rw [Bool.eq_false_iff]; exact hb
    have HVal := hid hbf
    have HBC : Hid (mapOk (cutM m) = false) := by show _ = _; rw [mapOk_cut, hbf]
    clear hb hbf
    go_enter Tryd.func4, Tryd.ntmps4
    go_wp2_with (fail)
    refine (Of_any _ m _ (MapR.ext HM.out (Ext.ofAlloc w _))).mono ?_
    rintro e w1 ⟨uU, rfl, hu, he1⟩
    have X1 := hid (X0.ext he1)
    have E1 := hid ((Ext.ofAlloc w _).trans he1)
    clear he1
    obtain ⟨c0, c1⟩ := X1.out.cells
    have U_1 := hid (hu.roads (by rw [List.length_take]; omega))
    clear hu
    go_wp2_with (fail)
    refine (MoatsT_bad _ (cutM m) st _ U_1.out (.inl HBC.out)).mono ?_
    rintro e w2 ⟨rfl, he2⟩
    clear c0 c1
    have X2 := hid (X1.out.ext he2)
    have U_2 := hid (U_1.out.ext he2)
    have E2 := hid (E1.out.trans he2)
    clear he2
    obtain ⟨c0, c1⟩ := X2.out.cells
    go_wp2_with (fail)
    refine (RValid_any _ m _ (MapR.ext HM.out E2.out)).mono ?_
    rw [HVal.out]
    rintro e w3 ⟨rfl, he3⟩
    clear c0 c1
    have X3 := hid (X2.out.ext he3)
    have E3 := hid (E2.out.trans he3)
    clear he3
    obtain ⟨c0, c1⟩ := X3.out.cells
    go_wp2_with (fail)
    refine (awake_any _).mono ?_
    rintro e w4 ⟨rfl, he4⟩
    clear c0 c1
    have E4 := hid (E3.out.trans he4)
    clear he4
    go_wp2
    go_ret
    exact ⟨rfl, E4.out⟩

end Go.Proofs.YtkbkgkmogbkabaaDoor

/-
  RouteMoats: Moats returns moats that fit and bound at least half of the least cost, or the documented error. Conditions: those of the card.
-/
namespace Go.Proofs.YtkbkgkmogbkabaaDoor
open Go.ChangeShapes Go.WideShapes Go.ChangeAt Go.RowKit

set_option maxRecDepth 100000 in
theorem routeMoats_lifted (os : Os) (started : os.Started) (H : Type) (enc : TypeId × Value → H) :
    ReturnsInHanded {} Tryd.checked os 4 .any (fun w args => (Rows.routeMoatsSpec.pre enc Tryd.prog Tryd.f4 [] false w args ∧ laidMetH Tryd.prog laid2 w) ∧ sizedMet enc Tryd.prog Tryd.f4 (OpenSpec.ofChange Rows.routeMoatsSpec) false w args) (Rows.routeMoatsSpec.post enc Tryd.prog Tryd.f4 false true false false) := by
  refine returnsInHanded_of_change_and (C := Tryd.checked) (X := fun w _ => laidMetH Tryd.prog laid2 w) (fun _ _ _ hh h => h.of_heap hh) own started (by kernel_rfl) Tryd.func4
    (ChangeSpec.witness_shaped (enc := enc) (C := Tryd.checked) (os := os) (X := fun w _ => laidMetH Tryd.prog laid2 w) false (World.doorLaid Tryd.prog 400 os) #[.agg #[.int .i64 0, .slice none 0 0], .int .i64 0] 8 rfl (World.shaped_of_RefB (by kernel_rfl) (by kernel_rfl)) (by kernel_rfl) (by kernel_rfl) (by kernel_rfl) (door_met os _)) ?_
  intro W base args ds gs before hval0 hW _ hsz0 hLd _
  have hTZ := TZ.of (tab_of_laid hLd)
  have hsz : (DataW.weightsEach Tryd.prog (Tryd.f4.params.toList ++ Rows.routeMoatsSpec.plain.varTypes Tryd.prog) (ds ++ gs)).all (· ≤ reachBytes) = true := hsz0
  clear hsz0
  have hval : ∀ (j : Nat) t v, Tryd.f4.params[j]? = some t → args[j]? = some v → Value.okWide Tryd.prog W .any base t v := hval0
  have hW' := hW
  obtain ⟨p, q, hA0, hV, rfl, _, _⟩ := hW
  have hA : DataW.TrodAll enc Tryd.prog W 0 (fun _ => true) true Tryd.f4.params.toList args.toList ds p := hA0
  rw [Tryd.params4] at hA hval hsz
  obtain ⟨v0, vs0, d0, ds0, p0, q0, hargs, rfl, rfl, h0, r0⟩ := trodAll_cons hA
  obtain ⟨v1, vs1, d1, ds1, p1, q1, rfl, rfl, rfl, h1, r1⟩ := trodAll_cons r0
  obtain ⟨rfl, rfl, rfl⟩ := trodAll_nil r1
  obtain rfl : args = #[v0, v1] := by cases args; simp_all
  obtain ⟨rfl, rfl⟩ := trodVars_none hV
  have k0 := h0
  have lt0 : ∀ x ∈ p0, x.block < W.heap.size := by obtain ⟨m, hm⟩ := k0; exact DataW.trod_lt m _ _ _ hm
  obtain ⟨vr, mp, rfl, hm⟩ := map_of_trod (hval 0 _ v0 rfl rfl) h0 (weights_at hsz (j := 0) rfl rfl)
  obtain ⟨a1, rfl, rfl, rfl, w1⟩ := open_int Tryd.underlying3 (hval 1 _ v1 rfl rfl) h1
  clear hA0 hval0
  refine (RouteMoats_any vr mp a1 W hm hTZ).mono fun e W' ⟨he, bel⟩ => ?_
  subst he
  exact ⟨_, rfl, _, _, _, [], _, [], hW', trodAll_mk1 (shut_bool Tryd.underlying4 _),
    (trodAll_cons_mk (Below.trod laidOut (by kernel_rfl) (of_decide_eq_true (by kernel_rfl)) k0 bel lt0) (trodAll_cons_mk (shut_int Tryd.underlying3 w1) trodAll_mk0)), rfl, bel.frame _, fun h => by cases h⟩

theorem routeMoats_row : Rows.RouteMoatsSaid :=
  OpenClaim.holds_of_wide 4 Tryd.f4 rfl rfl rfl rfl rfl rfl rfl ⟨rfl, rfl, rfl, rfl, rfl⟩ rfl rfl rfl rfl rfl (by kernel_rfl) Tryd.func4 (by kernel_rfl)
    (of_decide_eq_true (by kernel_rfl)) (by unfold Func.isWrapper; first | (rw [if_pos (by decide +kernel)]; kernel_rfl) | (rw [if_neg (by decide +kernel)]; exact ⟨rfl, rfl⟩))
    (fun os started H enc _ => routeMoats_lifted os started H enc)

theorem routeMoats_holds : Rows.RouteMoatsCardSaid :=
  Claim7.holds_tied_plain_at .later [] [.data, .data] true (true, "21947a5a87ddc905c2c0e4241b411cf4012465f53c335e9effae5daa1c3095b2") false
    routeMoats_row (fun _ h => by cases h) (by kernel_rfl) (fun _ h => by cases h) routeMoats_row_tie rfl ⟨rfl, rfl⟩ (by kernel_rfl) rfl
    (fun f fn hf hfn => by
      obtain rfl : f = 4 := Option.some.inj ((show Tryd.prog.funcNamed "corrody/corrodylaw05.RouteMoats" = some 4 by kernel_rfl).symm.trans hf) |>.symm
      obtain rfl : fn = Tryd.f4 := (Option.some.inj (Tryd.func4.symm.trans hfn)).symm
      exact ⟨by kernel_rfl, fun j t ht => by
        rw [Tryd.params4] at ht
        have hm : t ∈ [24, 3] := by simpa using Array.mem_of_getElem? ht
        have hall : ([24, 3].all fun u => !Tryd.prog.wantsStandIn u) = true := by kernel_rfl
        exact (show Tryd.prog.wantsStandIn t = false by simpa using List.all_eq_true.1 hall t hm)⟩)
    (by kernel_rfl)

end Go.Proofs.YtkbkgkmogbkabaaDoor

#print axioms Go.Proofs.YtkbkgkmogbkabaaDoor.routeMoats_holds
