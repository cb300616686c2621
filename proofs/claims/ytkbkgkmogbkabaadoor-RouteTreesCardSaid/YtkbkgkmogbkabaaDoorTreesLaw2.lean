/-
  Texts of this claim, part 2: SnRBest, SnIns, SnSort.
-/
import Derived.Test.YtkbkgkmogbkabaaDoorK10
import Derived.Maps.AppendAt
import Derived.Test.YtkbkgkmogbkabaaDoorK8
import Derived.Test.YtkbkgkmogbkabaaDoorK6
import Derived.Test.YtkbkgkmogbkabaaDoorTreesLaw1
/-
  Contract of the reference's Best.
-/
namespace Go.Proofs.YtkbkgkmogbkabaaDoor
open Go.RowKit

def FirstAns (a b : List Int) (e : Ending) : Prop := (firstP a b ∧ e = .returned (.bool true)) ∨ (¬ firstP a b ∧ e = .returned (.bool false))
theorem first_lenY {a b : List Int} (h : a.length < b.length) : FirstAns a b (.returned (.bool true)) := .inl ⟨.inl h, rfl⟩
theorem first_lenN {a b : List Int} (h : ¬ a.length < b.length) (hne : a.length ≠ b.length) : FirstAns a b (.returned (.bool false)) := .inr ⟨fun g => by
  rcases g with g | ⟨g, -⟩
  · exact h g
  · exact hne g, rfl⟩
theorem first_atY {a b : List Int} {k : Nat} (hl : a.length = b.length) (hk : k < a.length) (h : ∀ j, j < k → fn a j = fn b j) (hx : fn a k < fn b k) : FirstAns a b (.returned (.bool true)) := .inl ⟨.inr ⟨hl, k, hk, h, hx⟩, rfl⟩
theorem first_atN {a b : List Int} {k : Nat} (hl : a.length = b.length) (hk : k ≤ a.length) (h : ∀ j, j < k → fn a j = fn b j) (hx : k < a.length → fn b k < fn a k) : FirstAns a b (.returned (.bool false)) := .inr ⟨fun g => by
  rcases g with g | ⟨-, m, m1, m2, m3⟩
  · omega
  · rcases Nat.lt_trichotomy m k with e | e | e
    · have := h m e; omega
    · subst e; have := hx m1; omega
    · have h1 := m2 k e
      have h2 := hx (by omega)
      omega, rfl⟩

set_option maxRecDepth 20000 in
set_option maxHeartbeats 4000000 in
theorem rfirst_any (v u : Value) (a b : List Int) (w : World) (ha : Ints w v a) (hb : Ints w u b) :
    Calls Tryd.prog 42 #[v, u] w fun e w' => FirstAns a b e ∧ w' = w := by
  have HA := hid ha
  have HB := hid hb
  obtain ⟨hla, ao, cap, rfl, -⟩ := ha
  obtain ⟨-, bo, cbp, rfl, -⟩ := hb
  by_cases hl : a.length = b.length
  · have HL := hid hl
    have hnb : (((a.length : Nat) : Int) != ((b.length : Nat) : Int)) = false := by simp [hl]
    clear hl
    go_enter Tryd.func42, Tryd.ntmps42
    go_wp2
    go_loop [19] (fun i => ∃ k : Nat, k ≤ a.length ∧ i = .int .i64 k ∧ Hid (∀ j, j < k → fn a j = fn b j)) (fun i => a.length - (intOf i).toNat)
    case atStart => exact ⟨0, Nat.zero_le _, rfl, fun j hj => by omega⟩
    case round =>
      obtain ⟨k, hk, rfl, HE⟩ := hrel
      by_cases hlt : k < a.length
      · obtain ⟨p, o, rfl, -, hc⟩ := HA.out.get k hlt
        obtain ⟨q, r, rfl, -, hd⟩ := HB.out.get k (by have := HL.out; omega)
        have dk := hc w (Ext.refl w)
        have ek := hd w (Ext.refl w)
        have hki : (k : Int) < a.length := by omega
        have hkj : (k : Int) < b.length := by have := HL.out; omega
        obtain ⟨x, hx⟩ : ∃ x, x = fn a k := ⟨_, rfl⟩
        obtain ⟨y, hy⟩ : ∃ y, y = fn b k := ⟨_, rfl⟩
        rw [← hx] at dk
        rw [← hy] at ek
        have HX := hid hx
        have HY := hid hy
        clear hc hd hx hy
        by_cases he : x = y
        · have heb : (x != y) = false := by simp [he]
          have HE2 : Hid (∀ j, j < k + 1 → fn a j = fn b j) := by
            intro j hj
            by_cases e : j = k
            · rw [e, ← HX.out, ← HY.out]; exact he
            · exact HE.out j (by omega)
          clear he
          go_wp2
          go_round
          case rel => exact ⟨k + 1, by omega, by go_num, HE2⟩
          case measure => simp [intOf]; omega
        · have heb : (x != y) = true := bne_iff_ne.2 he
          by_cases h2 : x < y
          · have HR : Hid (FirstAns a b (.returned (.bool true))) := first_atY HL.out hlt HE.out (by rw [← HX.out, ← HY.out]; exact h2)
            clear he
            go_wp2
            go_ret
            exact ⟨HR.out, rfl⟩
          · have HR : Hid (FirstAns a b (.returned (.bool false))) := first_atN HL.out hk HE.out (fun _ => by rw [← HX.out, ← HY.out]; omega)
            have h2b : decide (x < y) = false := decide_eq_false h2
            clear he
            go_wp2
            go_ret
            exact ⟨HR.out, rfl⟩
      · have HR : Hid (FirstAns a b (.returned (.bool false))) := first_atN HL.out hk HE.out (fun h => absurd h hlt)
        have hki : ¬ ((k : Int) < a.length) := by omega
        go_wp2
        go_ret
        exact ⟨HR.out, rfl⟩
  · have hnb : (((a.length : Nat) : Int) != ((b.length : Nat) : Int)) = true := bne_iff_ne.2 (by omega)
    by_cases h2 : a.length < b.length
    · have HR := hid (first_lenY h2)
      have h3 : ((a.length : Nat) : Int) < ((b.length : Nat) : Int) := by omega
      clear hl
      go_enter Tryd.func42, Tryd.ntmps42
      go_wp2
      go_ret
      exact ⟨HR.out, rfl⟩
    · have HR := hid (first_lenN h2 hl)
      have h3 : ¬ (((a.length : Nat) : Int) < ((b.length : Nat) : Int)) := by omega
      clear hl
      go_enter Tryd.func42, Tryd.ntmps42
      go_wp2
      go_ret
      exact ⟨HR.out, rfl⟩

def BestAns (B : Nat) (rs : List RoadD) (s : Nat) (e : Ending) (w' : World) : Prop :=
  (¬ Cn rs s ∧ e = .returned (.tuple #[.slice none 0 0, .int .i64 4])) ∨ (Cn rs s ∧ ∃ v l, e = .returned (.tuple #[v, .int .i64 0]) ∧ OwnI B w' v l ∧ IsBest rs s l)

set_option maxRecDepth 20000 in
set_option maxHeartbeats 8000000 in
theorem Best_any (vr : Value) (N : Nat) (rs : List RoadD) (s : Nat) (w : World) (hv : Roads w vr rs) (hok : mapOk ⟨N, rs⟩ = true) (hs : stopsB N s = true) :
    Calls Tryd.prog 19 #[.agg #[.int .i64 N, vr], .int .i64 s] w fun e w' => BestAns w.heap.size rs s e w' ∧ Ext w w' := by
  obtain ⟨ao, cap, rfl⟩ := hv.shape
  obtain ⟨h1, h8, h16, hall, s0, sN⟩ := ok_parts hok hs
  have HV := hid hv
  have HAll := hid hall
  have HSN := hid sN
  have p16 : (2 : Nat) ^ rs.length ≤ 2 ^ 16 := Nat.pow_le_pow_right (by decide) h16
  have e16 : (2 : Nat) ^ 16 = 65536 := by decide
  obtain ⟨M, hM⟩ : ∃ M, M = 2 ^ rs.length := ⟨_, rfl⟩
  have HMM := hid hM
  have eM : ((2 : Int) ^ rs.length) = (M : Int) := by rw [hM]; simp
  rw [← hM] at p16
  have hw1 : IntKind.i64.wrap (2 ^ rs.length) = (M : Int) := by rw [eM]; exact wraps_i64_62 _ (by omega) (by omega)
  obtain ⟨i0, hi, hz0, hz1, hz2⟩ := info_parts info_int
  have hX := Box2.alloc w 24 (.int .i64 N) (.slice ao rs.length cap)
  have hE0 := Ext.ofAlloc w (.cells #[.int .i64 N, .slice ao rs.length cap] 24)
  obtain ⟨c0, c1⟩ := hX.cells
  clear hv hok hs hall sN hM eM
  go_enter Tryd.func19, Tryd.ntmps19
  go_wp2
  clear c0 c1
  have HX := hid hX
  have HE0 := hid hE0
  generalize w.alloc (.cells #[.int .i64 N, .slice ao rs.length cap] 24) = W at HX HE0 ⊢
  clear hX hE0 hw1
  go_loopg [17, 6, 7] M (fun g i u c wr => ∃ (j : Nat) (z : Value) (cc : Int) (b : List Int), j + g = M ∧ i = .int .i64 j ∧ u = z ∧ c = .int .i64 cc ∧ Hid (BestTo rs N s j cc b) ∧ Hid (OwnI W.heap.size wr z b) ∧ Hid (b.length ≤ 16) ∧ Hid (cc ≤ 1000) ∧ Hid (Ext W wr))
  case atStart => exact ⟨0, _, _, [], by omega, rfl, rfl, rfl, BestTo.start _ _ _, World.ownsRow_nil _ _ _ _, by show (0 : Nat) ≤ 16; omega, by show (-1 : Int) ≤ 1000; omega, Ext.refl _⟩
  case round =>
    obtain ⟨j, uB, cc, b, hj, rfl, huz, rfl, BT, OB, BL, CH, E⟩ := hrel
    have huz2 := huz.symm
    subst huz2
    have hjM : j ≤ M := by omega
    have Hj := hid hj
    clear hj
    by_cases hjt : j < M
    · have hji : (j : Int) < M := by omega
      obtain ⟨WL, hWL⟩ : ∃ x, x = wr := ⟨_, rfl⟩
      have LB := OB
      have LE := E
      rw [← hWL] at LB LE
      have LR : Hid (Ext WL wr) := by show Ext _ _; rw [hWL]; exact Ext.refl _
      obtain ⟨c0, c1⟩ := (HX.out.ext E.out).cells
      clear OB E hWL
      go_wp2
      clear c0 c1
      go_loopg [23, 9] rs.length (fun g i v wr => ∃ (k : Nat) (z : Value), k + g = rs.length ∧ i = .int .i64 k ∧ v = z ∧ Hid (OwnI WL.heap.size wr z (selN k j)) ∧ Hid (Ext WL wr))
      case atStart => exact ⟨0, _, by omega, rfl, rfl, World.ownsRow_nil _ _ _ _, LR⟩
      case round =>
        clear LR
        obtain ⟨k, vA, hk, rfl, hvz, HO, E⟩ := hrel
        have hvz2 := hvz.symm
        subst hvz2
        have hkn : k ≤ rs.length := by omega
        have Hk := hid hk
        clear hk
        by_cases hlt : k < rs.length
        · have hki : (k : Int) < rs.length := by omega
          have hp : (0 : Int) < 2 ^ k := Int.pow_pos (by omega)
          have u0 : 0 ≤ (j : Int) / 2 ^ k := Int.ediv_nonneg (by omega) (Int.le_of_lt hp)
          have u1 : (j : Int) / 2 ^ k ≤ j := Int.ediv_le_self _ (by omega)
          have ub := bits_one _ u0 (by omega)
          rw [bit_zero] at ub
          clear u0 u1 hp
          by_cases hbit : j.testBit k = true
          · rw [if_pos hbit] at ub
            have HY := hid (selN_yes hbit)
            obtain ⟨av, nv, cv, rfl⟩ := own_shape HO.out
            have hsz := E.out.size
            have hrl := selN_hi k j
            clear hbit
            go_wp2_with (at_builtin; go_must (refine wpList_append_own_at _ rfl _ _ 25 rfl WL.heap.size 3 i0 (.int .i64 0) 1 8 Tryd.underlying25 hi hz0 hz1 hz2 rfl (by decide) _ _ _ rfl (HO.out.alloc _) ⟨wr.heap.size, 0, none⟩ 1 1 [.int .i64 k] rfl rfl (cell_one_new _ _ _) (by intro x hx; simp at hx; subst hx; rfl) ?c3 ?c4 ?c5 ?_))
            case c3 => unfold maxLen; omega
            case c4 => omega
            case c5 => simp; omega
            intro v' wA hown' hg _ _
            have hR := OwnI.push (xs := selN k j) rfl hown'
            rw [← HY.out] at hR
            have HR := hid hR
            have HE5 := hid (Ext.push E.out HO.out (Nat.le_refl _) hg)
            clear hown' hg hR hsz hrl
            go_wp2
            go_roundg (gk - 1)
            case rel => exact ⟨k + 1, _, by have := Hk.out; omega, by go_num, rfl, HR, HE5⟩
            case measure => have := Hk.out; omega
          · rw [if_neg hbit] at ub
            have HY := hid (selN_no hbit)
            have HR : Hid (OwnI WL.heap.size wr vA (selN (k + 1) j)) := by show OwnI _ _ _ _; rw [HY.out]; exact HO.out
            clear hbit
            go_wp2
            go_roundg (gk - 1)
            case rel => exact ⟨k + 1, _, by have := Hk.out; omega, by go_num, rfl, HR, E⟩
            case measure => have := Hk.out; omega
        · have ek : k = rs.length := by omega
          have hki : ¬ ((k : Int) < rs.length) := by omega
          have ho := HO.out
          rw [ek] at ho
          obtain ⟨R, hR⟩ : ∃ R, R = selN rs.length j := ⟨_, rfl⟩
          have hRl := selN_hi rs.length j
          rw [← hR] at ho hRl
          have HRR := hid hR
          clear HO
          have HO := hid ho
          obtain ⟨av, cv, rfl⟩ := own_len ho
          have EW := hid (LE.out.trans E.out)
          obtain ⟨c0, c1⟩ := (HX.out.ext EW.out).cells
          have OB2 : Hid (OwnI W.heap.size wr uB b) := ownsRow_ext LB.out E.out
          clear ek ho hR hlt
          by_cases hRN : R.length < N
          · have hgi : ¬ ((N : Int) ≤ R.length) := by omega
            have hgi2 : decide ((R.length : Int) ≥ N) = false := decide_eq_false (by omega)
            go_wp2_with (fail)
            refine (RTree_any _ _ N rs R s _ (Roads.ext HV.out (HE0.out.trans EW.out)) (OwnI.ints HO.out (by omega)) HAll.out h8 h16 s0 HSN.out).mono ?_
            rintro e w2 ⟨hans, he2⟩
            have EW2 := hid (EW.out.trans he2)
            have OB3 : Hid (OwnI W.heap.size w2 uB b) := ownsRow_ext OB2.out he2
            have OR3 : Hid (OwnI W.heap.size w2 (.slice av R.length cv) R) := ownsRow_base (ownsRow_ext HO.out he2) (LE.out.size)
            have HI3 := hid ((OwnI.ints HO.out (by omega)).ext he2)
            clear he2 c0 c1
            have HAN := hid hans
            clear hans
            rcases HAN.out with ⟨ht, rfl⟩ | ⟨hn, rfl⟩
            · obtain ⟨k0, k1⟩ := treeP_cost HAll.out h16 ht
              have HT : Hid (treeP rs s (selN rs.length j)) := by show treeP _ _ _; rw [← HRR.out]; exact ht
              obtain ⟨c', hc'⟩ : ∃ c', c' = costL rs R := ⟨_, rfl⟩
              rw [← hc'] at k0 k1 ⊢
              have HC : Hid (costL rs (selN rs.length j) = c') := by show _ = _; rw [← HRR.out]; exact hc'.symm
              have H16 : Hid (R.length ≤ 16) := by show _ ≤ _; omega
              have HC10 : Hid (c' ≤ 1000) := by show _ ≤ _; omega
              clear ht hc' HAN
              by_cases q1 : 0 ≤ cc
              · have q1b : decide (cc ≥ 0) = true := decide_eq_true q1
                by_cases q2 : cc < c'
                · have q2b : decide (c' > cc) = true := decide_eq_true q2
                  have BT2 : Hid (BestTo rs N s (j + 1) cc b) := BT.out.keep q1 (.inl (by rw [HC.out]; exact q2))
                  go_wp2
                  go_roundg (M - (j + 1))
                  case rel => exact ⟨j + 1, _, cc, b, by omega, by go_num, rfl, rfl, BT2, OB3, BL, CH, EW2⟩
                  case measure => have := Hj.out; omega
                · have q2b : decide (c' > cc) = false := decide_eq_false q2
                  by_cases q3 : c' = cc
                  · have q3b : (c' == cc) = true := beq_iff_eq.2 q3
                    have HQ3 := hid q3
                    clear q3
                    go_wp2_with (fail)
                    refine (rfirst_any _ _ R b _ HI3.out (OwnI.ints OB3.out (by have := BL.out; omega))).mono ?_
                    rintro e w3 ⟨hf, hw3⟩
                    have hw32 := hw3.symm
                    subst hw32
                    have HF := hid hf
                    clear hf hw3
                    rcases HF.out with ⟨hf, rfl⟩ | ⟨hf, rfl⟩
                    · have BT2 : Hid (BestTo rs N s (j + 1) c' R) := by
                        have := BT.out.take HT.out (by rw [HC.out]; exact k0) (.inr (.inr ⟨by rw [HC.out]; exact HQ3.out, by rw [← HRR.out]; exact hf⟩))
                        rwa [HC.out, ← HRR.out] at this
                      clear hf HF
                      go_wp2
                      go_roundg (M - (j + 1))
                      case rel => exact ⟨j + 1, _, c', R, by omega, by go_num, rfl, rfl, BT2, OR3, H16, HC10, EW2⟩
                      case measure => have := Hj.out; omega
                    · have BT2 : Hid (BestTo rs N s (j + 1) cc b) := BT.out.keep q1 (.inr ⟨by rw [HC.out]; exact HQ3.out.symm, by rw [← HRR.out]; exact hf⟩)
                      clear hf HF
                      go_wp2
                      go_roundg (M - (j + 1))
                      case rel => exact ⟨j + 1, _, cc, b, by omega, by go_num, rfl, rfl, BT2, OB3, BL, CH, EW2⟩
                      case measure => have := Hj.out; omega
                  · have q3b : (c' == cc) = false := beq_eq_false_iff_ne.2 q3
                    have BT2 : Hid (BestTo rs N s (j + 1) c' R) := by
                      have := BT.out.take HT.out (by rw [HC.out]; exact k0) (.inr (.inl (by rw [HC.out]; omega)))
                      rwa [HC.out, ← HRR.out] at this
                    clear q3
                    go_wp2
                    go_roundg (M - (j + 1))
                    case rel => exact ⟨j + 1, _, c', R, by omega, by go_num, rfl, rfl, BT2, OR3, H16, HC10, EW2⟩
                    case measure => have := Hj.out; omega
              · have q1b : decide (cc ≥ 0) = false := decide_eq_false q1
                have BT2 : Hid (BestTo rs N s (j + 1) c' R) := by
                  have := BT.out.take HT.out (by rw [HC.out]; exact k0) (.inl (by omega))
                  rwa [HC.out, ← HRR.out] at this
                go_wp2
                go_roundg (M - (j + 1))
                case rel => exact ⟨j + 1, _, c', R, by omega, by go_num, rfl, rfl, BT2, OR3, H16, HC10, EW2⟩
                case measure => have := Hj.out; omega
            · have BT2 : Hid (BestTo rs N s (j + 1) cc b) := BT.out.none (by rw [← HRR.out]; exact fun h => hn h.2)
              clear hn HAN
              go_wp2
              go_roundg (M - (j + 1))
              case rel => exact ⟨j + 1, _, cc, b, by omega, by go_num, rfl, rfl, BT2, OB3, BL, CH, EW2⟩
              case measure => have := Hj.out; omega
          · have hgi : (N : Int) ≤ R.length := by omega
            have hgi2 : decide ((R.length : Int) ≥ N) = true := decide_eq_true (by omega)
            have BT2 : Hid (BestTo rs N s (j + 1) cc b) := BT.out.none (by rw [← HRR.out]; exact fun h => hRN h.1)
            go_wp2
            go_roundg (M - (j + 1))
            case rel => exact ⟨j + 1, _, cc, b, by omega, by go_num, rfl, rfl, BT2, OB2, BL, CH, EW⟩
            case measure => have := Hj.out; omega
    · have ej : j = 2 ^ rs.length := by rw [← HMM.out]; omega
      have hji : ¬ ((j : Int) < M) := by omega
      have bt := BT.out
      rw [ej] at bt
      have hd := bt.done HAll.out h1 s0
      have HD := hid hd
      have HEE := hid (HE0.out.trans E.out)
      have hsz := HE0.out.size
      clear bt hd ej hjt
      rcases HD.out with ⟨rfl, hn⟩ | ⟨q, hbst⟩
      · have HN := hid hn
        clear hn HD
        go_wp2
        go_ret2
        exact ⟨.inl ⟨HN.out, rfl⟩, HEE.out⟩
      · have HBB := hid hbst
        have q1 : ¬ cc < 0 := by omega
        have hcn : Cn rs s := fun x y hx hy => (treeP_cn hbst.1 x y hx hy).mono (treeP_in hbst.1)
        have HCN := hid hcn
        have HSZ := hid hsz
        clear hbst HD hcn hsz
        go_wp2
        go_ret2
        exact ⟨.inr ⟨HCN.out, _, _, rfl, ownsRow_base OB.out HSZ.out, HBB.out⟩, HEE.out⟩

theorem Best_ok (vr : Value) (N : Nat) (rs : List RoadD) (s : Nat) (w : World) (hv : Roads w vr rs) (hok : mapOk ⟨N, rs⟩ = true) (hs : stopsB N s = true) (hn : Cn rs s) :
    Calls Tryd.prog 19 #[.agg #[.int .i64 N, vr], .int .i64 s] w fun e w' => ∃ v l, e = .returned (.tuple #[v, .int .i64 0]) ∧ OwnI w.heap.size w' v l ∧ Hid (IsBest rs s l) ∧ Ext w w' := by
  refine (Best_any vr N rs s w hv hok hs).mono ?_
  rintro e w' ⟨⟨h, -⟩ | ⟨-, v, l, h1, h2, h3⟩, he⟩
  · exact absurd hn h
  · exact ⟨v, l, h1, h2, h3, he⟩
theorem Best_none (vr : Value) (N : Nat) (rs : List RoadD) (s : Nat) (w : World) (hv : Roads w vr rs) (hok : mapOk ⟨N, rs⟩ = true) (hs : stopsB N s = true) (hn : ¬ Cn rs s) :
    Calls Tryd.prog 19 #[.agg #[.int .i64 N, vr], .int .i64 s] w fun e w' => e = .returned (.tuple #[.slice none 0 0, .int .i64 4]) ∧ Ext w w' := by
  refine (Best_any vr N rs s w hv hok hs).mono ?_
  rintro e w' ⟨⟨-, h⟩ | ⟨h, -⟩, he⟩
  · exact ⟨h, he⟩
  · exact absurd h hn

end Go.Proofs.YtkbkgkmogbkabaaDoor

/-
  Contract of SortStableFunc at the roads' costs, for at most sixteen roads.
-/
namespace Go.Proofs.YtkbkgkmogbkabaaDoor
open Go.RowKit

theorem OwnI.setF {B : Nat} {w : World} {g n cap : Nat} {f : Nat → Int} (h : OwnI B w (.slice (some ⟨g, 0, none⟩) n cap) (rowL n f)) (j : Nat) (x : Int) : OwnI B (w.setCell ⟨g, j, none⟩ (.int .i64 x)) (.slice (some ⟨g, 0, none⟩) n cap) (rowL n (updF f j x)) := by
  have e : (rowL n f).length = n := rowL_len n f
  have h' : w.ownsRow B 3 1 (.slice (some ⟨g, 0, none⟩) n cap) n ((rowL n f).map (Value.int .i64)) := by have := h; unfold OwnI at this; rwa [e] at this
  have h2 := (World.ownsRow.stored h' j (.int .i64 x)).1
  show World.ownsRow _ B 3 1 _ (rowL n (updF f j x)).length _
  rw [rowL_len, ← rowL_set, List.map_set]
  exact h2
theorem OwnI.cellF {B : Nat} {w : World} {g n cap : Nat} {f : Nat → Int} (h : OwnI B w (.slice (some ⟨g, 0, none⟩) n cap) (rowL n f)) {j : Nat} (hj : j < n) : w.cell? ⟨g, j, none⟩ = some (.int .i64 (f j)) ∧ w.frozen? ⟨g, j, none⟩ = false := by
  have e : (rowL n f).length = n := rowL_len n f
  have h' : w.ownsRow B 3 1 (.slice (some ⟨g, 0, none⟩) n cap) n ((rowL n f).map (Value.int .i64)) := by have := h; unfold OwnI at this; rwa [e] at this
  refine ⟨?_, World.ownsRow.frozenAt h' j⟩
  rw [World.ownsRow.cellAt h' j (by omega), List.getElem?_map, List.getElem?_eq_getElem (by rw [rowL_len]; exact hj), Option.map_some]
  have := rowL_fn (f := f) hj
  rw [fn_get (by rw [rowL_len]; exact hj)] at this
  rw [this]

set_option maxRecDepth 20000 in
set_option maxHeartbeats 4000000 in
theorem cmpC_any (w : World) (bm : Nat) (ao : Option Addr) (cap : Nat) (rs : List RoadD) (x y : Nat) (h1 : w.cell? ⟨bm, 1, none⟩ = some (.slice ao rs.length cap)) (hv : Roads w (.slice ao rs.length cap) rs) (hok : ∀ r ∈ rs, 1 ≤ r.cost ∧ r.cost ≤ 50) (hx : x < rs.length) (hy : y < rs.length) :
    Calls Tryd.prog 48 #[.int .i64 x, .int .i64 y, .pointer (some ⟨bm, 0, none⟩)] w fun e w' => e = .returned (.int .i64 (costAt rs x - costAt rs y)) ∧ Ext w w' := by
  obtain ⟨b, off, rfl, -, hx1⟩ := Roads.get hv x hx
  obtain ⟨b', off', hbe, -, hy1⟩ := Roads.get hv y hy
  simp only [Option.some.injEq, Addr.mk.injEq, and_true] at hbe
  obtain ⟨rfl, rfl⟩ := hbe
  obtain ⟨-, -, d1⟩ := hx1 w (Ext.refl w)
  obtain ⟨-, -, d2⟩ := hy1 w (Ext.refl w)
  have c1 := hok _ (roadAt_mem hx)
  have c2 := hok _ (roadAt_mem hy)
  obtain ⟨p, hp⟩ : ∃ p, p = (roadAt rs x).cost := ⟨_, rfl⟩
  obtain ⟨q, hq⟩ : ∃ q, q = (roadAt rs y).cost := ⟨_, rfl⟩
  rw [← hp] at d1 c1
  rw [← hq] at d2 c2
  have HR : Hid (costAt rs x - costAt rs y = p - q) := by show costAt rs x - costAt rs y = p - q; unfold costAt; rw [Int.toNat_natCast, Int.toNat_natCast, hp, hq]
  have hw1 : IntKind.i64.wrap (p - q) = p - q := by rw [IntKind.wrap_i64]; omega
  have hxi : (x : Int) < rs.length := by omega
  have hyi : (y : Int) < rs.length := by omega
  clear hx1 hy1 hp hq hv hok
  go_enter Tryd.func48, Tryd.ntmps48
  go_wp2
  refine wp_region_held_drew (S := (fun w' => w'.cell? ⟨bm, 1, none⟩ = some (.slice (some ⟨b, off, none⟩) rs.length cap) ∧ w'.cell? ⟨b, off + x * 3 + 2, none⟩ = some (.int .i64 p) ∧ w'.cell? ⟨b, off + y * 3 + 2, none⟩ = some (.int .i64 q))) (by kernel_rfl) ?hSa0 (fun hHeld => ?_)
  case hSa0 => (first | (exact ⟨h1, d1, d2⟩) | ((try dsimp only); exact ⟨h1, d1, d2⟩))
  refine wpAnyH_tk 0 (v := ?va0) rfl (by kernel_rfl) (by kernel_rfl) (by kernel_rfl) (fun _ _ _ h => h) (by rfl) ?hya0 (by assumption) ?_
  case hya0 => (intro w hSw; (try dsimp only at hSw); go_simp <;> with_reducible rfl)
  (try simp only [Act.put, List.setIfInBounds_toArray, List.set_cons_zero, List.set_cons_succ])
  refine wpAnyH_tk 1 (v := ?va1) rfl (by kernel_rfl) (by kernel_rfl) (by kernel_rfl) (fun _ _ _ h => h) (by rfl) ?hya1 (by assumption) ?_
  case hya1 => (intro w hSw; (try dsimp only at hSw); go_simp <;> with_reducible rfl)
  (try simp only [Act.put, List.setIfInBounds_toArray, List.set_cons_zero, List.set_cons_succ])
  refine wpAnyH_tk 2 (v := ?va2) rfl (by kernel_rfl) (by kernel_rfl) (by kernel_rfl) (fun _ _ _ h => h) (by rfl) ?hya2 (by assumption) ?_
  case hya2 => (intro w hSw; (try dsimp only at hSw); go_simp <;> with_reducible rfl)
  (try simp only [Act.put, List.setIfInBounds_toArray, List.set_cons_zero, List.set_cons_succ])
  refine wpAnyH_tk 3 (v := ?va3) rfl (by kernel_rfl) (by kernel_rfl) (by kernel_rfl) (fun _ _ _ h => h) (by rfl) ?hya3 (by assumption) ?_
  case hya3 => (intro w hSw; (try dsimp only at hSw); go_simp <;> with_reducible rfl)
  (try simp only [Act.put, List.setIfInBounds_toArray, List.set_cons_zero, List.set_cons_succ])
  refine wpAnyH_tk 4 (v := ?va4) rfl (by kernel_rfl) (by kernel_rfl) (by kernel_rfl) (fun _ _ _ h => h) (by rfl) ?hya4 (by assumption) ?_
  case hya4 => (intro w hSw; (try dsimp only at hSw); go_simp <;> with_reducible rfl)
  (try simp only [Act.put, List.setIfInBounds_toArray, List.set_cons_zero, List.set_cons_succ])
  refine wpAnyH_tk 5 (v := ?va5) rfl (by kernel_rfl) (by kernel_rfl) (by kernel_rfl) (fun _ _ _ h => h) (by rfl) ?hya5 (by assumption) ?_
  case hya5 => (intro w hSw; (try dsimp only at hSw); go_simp <;> with_reducible rfl)
  (try simp only [Act.put, List.setIfInBounds_toArray, List.set_cons_zero, List.set_cons_succ])
  refine wpAnyH_tk 6 (v := ?va6) rfl (by kernel_rfl) (by kernel_rfl) (by kernel_rfl) (fun _ _ _ h => h) (by rfl) ?hya6 (by assumption) ?_
  case hya6 => (intro w hSw; (try dsimp only at hSw); go_simp <;> with_reducible rfl)
  (try simp only [Act.put, List.setIfInBounds_toArray, List.set_cons_zero, List.set_cons_succ])
  refine wpAnyH_tk 7 (v := ?va7) rfl (by kernel_rfl) (by kernel_rfl) (by kernel_rfl) (fun _ _ _ h => h) (by rfl) ?hya7 (by assumption) ?_
  case hya7 => (intro w hSw; (try dsimp only at hSw); go_simp <;> with_reducible rfl)
  (try simp only [Act.put, List.setIfInBounds_toArray, List.set_cons_zero, List.set_cons_succ])
  refine wpAnyH_tk 8 (v := ?va8) rfl (by kernel_rfl) (by kernel_rfl) (by kernel_rfl) (fun _ _ _ h => h) (by rfl) ?hya8 (by assumption) ?_
  case hya8 => (intro w hSw; (try dsimp only at hSw); go_simp <;> with_reducible rfl)
  (try simp only [Act.put, List.setIfInBounds_toArray, List.set_cons_zero, List.set_cons_succ])
  refine wpAnyH_tk 9 (v := ?va9) rfl (by kernel_rfl) (by kernel_rfl) (by kernel_rfl) (fun _ _ _ h => h) (by rfl) ?hya9 (by assumption) ?_
  case hya9 => (intro w hSw; (try dsimp only at hSw); go_simp <;> with_reducible rfl)
  (try simp only [Act.put, List.setIfInBounds_toArray, List.set_cons_zero, List.set_cons_succ])
  refine wpAnyH_tk 10 (v := ?va10) rfl (by kernel_rfl) (by kernel_rfl) (by kernel_rfl) (fun _ _ _ h => h) (by rfl) ?hya10 (by assumption) ?_
  case hya10 => (intro w hSw; (try dsimp only at hSw); go_simp <;> with_reducible rfl)
  (try simp only [Act.put, List.setIfInBounds_toArray, List.set_cons_zero, List.set_cons_succ])
  refine wpAnyH_tk 11 (v := ?va11) rfl (by kernel_rfl) (by kernel_rfl) (by kernel_rfl) (fun _ _ _ h => h) (by rfl) ?hya11 (by assumption) ?_
  case hya11 => (intro w hSw; (try dsimp only at hSw); go_simp <;> with_reducible rfl)
  (try simp only [Act.put, List.setIfInBounds_toArray, List.set_cons_zero, List.set_cons_succ])
  refine wpAnyH_tk 12 (v := ?va12) rfl (by kernel_rfl) (by kernel_rfl) (by kernel_rfl) (fun _ _ _ h => h) (by rfl) ?hya12 (by assumption) ?_
  case hya12 => (intro w hSw; (try dsimp only at hSw); go_simp <;> with_reducible rfl)
  (try simp only [Act.put, List.setIfInBounds_toArray, List.set_cons_zero, List.set_cons_succ])
  refine wpAnyH_tk 13 (v := ?va13) rfl (by kernel_rfl) (by kernel_rfl) (by kernel_rfl) (fun _ _ _ h => h) (by rfl) ?hya13 (by assumption) ?_
  case hya13 => (intro w hSw; (try dsimp only at hSw); go_simp <;> with_reducible rfl)
  (try simp only [Act.put, List.setIfInBounds_toArray, List.set_cons_zero, List.set_cons_succ])
  refine wpAnyH_done (by kernel_rfl) ?_ _
  clear hHeld
  go_wp2
  go_ret
  exact ⟨ret_int HR.out.symm, (Ext.refl w).drew⟩

set_option maxRecDepth 20000 in
set_option maxHeartbeats 16000000 in
theorem insC_any (w1 w : World) (bm : Nat) (ao : Option Addr) (cap : Nat) (rs : List RoadD) (g cp n : Nat) (f : Nat → Int) (h1 : w1.cell? ⟨bm, 1, none⟩ = some (.slice ao rs.length cap)) (hv : Roads w1 (.slice ao rs.length cap) rs) (hok : ∀ r ∈ rs, 1 ≤ r.cost ∧ r.cost ≤ 50) (hn : n = rs.length) (hn0 : 0 < n) (hn16 : n ≤ 16)
    (hE : Ext w1 w) (hg : w1.heap.size ≤ g) (ho : OwnI w1.heap.size w (.slice (some ⟨g, 0, none⟩) n cp) (rowL n f)) (h0 : OutS rs n 0 f) :
    Calls Tryd.prog 68 #[.slice (some ⟨g, 0, none⟩) n cp, .int .i64 0, .int .i64 n, .func (.func 48) #[] #[.pointer (some ⟨bm, 0, none⟩)]] w fun e w' => e = .returned (.tuple #[]) ∧ ∃ f', Hid (OutS rs n n f') ∧ OwnI w1.heap.size w' (.slice (some ⟨g, 0, none⟩) n cp) (rowL n f') ∧ Ext w1 w' := by
  have H1 := hid h1
  have HV := hid hv
  have HOk := hid hok
  have HN := hid hn
  have HE := hid hE
  have HO := hid ho
  have HS := hid (h0.start1 hn0)
  clear h1 hv hok hn hE ho h0
  go_enter Tryd.func68, Tryd.ntmps68
  go_wp2
  go_loopg [8] (n - 1) (fun gm i wr => ∃ (k : Nat) (f : Nat → Int), k + gm = n ∧ 1 ≤ k ∧ i = .int .i64 k ∧ Hid (OutS rs n k f) ∧ Hid (OwnI w1.heap.size wr (.slice (some ⟨g, 0, none⟩) n cp) (rowL n f)) ∧ Hid (Ext w1 wr))
  case atStart => exact ⟨1, f, by omega, by omega, rfl, HS, HO, HE⟩
  case round =>
    clear HS HO HE
    obtain ⟨k, f, hk, hk1, rfl, OUT, HO, E⟩ := hrel
    have hkn : k ≤ n := by omega
    have Hk := hid hk
    clear hk
    by_cases hlt : k < n
    · have hki : (k : Int) < n := by omega
      go_wp2
      go_loopg [9] k (fun gm i wr => ∃ (j : Nat) (f : Nat → Int), j ≤ k ∧ j = gm ∧ i = .int .i64 j ∧ Hid (InS rs n k j f) ∧ Hid (OwnI w1.heap.size wr (.slice (some ⟨g, 0, none⟩) n cp) (rowL n f)) ∧ Hid (Ext w1 wr))
      case atStart => exact ⟨k, f, Nat.le_refl _, rfl, rfl, OUT.out.inner hlt, HO, E⟩
      case round =>
        clear OUT HO E
        obtain ⟨j, f, hjk, hjg, rfl, IN, HO, E⟩ := hrel
        have Hjg := hid hjg
        clear hjg
        have E2 := hid E.out.drew
        have HO2 := hid (ownsRow_ext HO.out (Ext.refl wr).drew)
        by_cases hj0 : 0 < j
        · have hji : (j : Int) > 0 := by omega
          have hjn : (j : Int) < n := by omega
          have hjn1 : ((j - 1 : Nat) : Int) < n := by omega
          have hwj : IntKind.i64.wrap ((j : Int) - 1) = ((j - 1 : Nat) : Int) := by rw [IntKind.wrap_i64]; omega
          have hwj2 : wrap64 ((j : Int) - 1) = ((j - 1 : Nat) : Int) := by rw [IntWalk.wrap64_in _ (by omega)]; omega
          obtain ⟨dj, fj⟩ := HO.out.cellF (show j < n by omega)
          obtain ⟨dp, fp⟩ := HO.out.cellF (show j - 1 < n by omega)
          obtain ⟨r1, r2⟩ := IN.out.rng j (by omega)
          obtain ⟨r3, r4⟩ := IN.out.rng (j - 1) (by omega)
          obtain ⟨x, hx⟩ := Int.eq_ofNat_of_zero_le r1
          obtain ⟨y, hy⟩ := Int.eq_ofNat_of_zero_le r3
          rw [hx] at dj r2
          rw [hy] at dp r4
          have hxl : x < rs.length := by have := HN.out; omega
          have hyl : y < rs.length := by have := HN.out; omega
          have HX := hid hx
          have HY := hid hy
          have hxk : (x : Int) = k := by rw [← hx]; exact IN.out.hit
          have HXK := hid hxk
          obtain ⟨cx, hcx⟩ : ∃ c, c = costAt rs x - costAt rs y := ⟨_, rfl⟩
          have HCX := hid hcx
          clear r1 r2 r3 r4 hx hy hcx hxk
          by_cases hlt2 : cx < 0
          · have hltb : decide (cx < 0) = true := decide_eq_true hlt2
            have HIN := hid (IN.out.swap hlt hjk hj0 (by rw [HY.out, ← HXK.out]; have := HCX.out; omega))
            rw [HX.out, HY.out] at HIN
            clear hlt2
            go_wp2
            refine wp_region_held_drew (S := (fun w' => w'.cell? ⟨g, j, none⟩ = some (.int .i64 x) ∧ w'.cell? ⟨g, j - 1, none⟩ = some (.int .i64 y))) (by kernel_rfl) ?hSb0 (fun hHeld => ?_)
            case hSb0 => (first | (exact ⟨dj, dp⟩) | ((try dsimp only); exact ⟨dj, dp⟩))
            refine wpAnyH_tk 0 (v := ?vb0) rfl (by kernel_rfl) (by kernel_rfl) (by kernel_rfl) (fun _ _ _ h => h) (by rfl) ?hyb0 (by assumption) ?_
            case hyb0 => (intro w hSw; (try dsimp only at hSw); go_simp <;> with_reducible rfl)
            (try simp only [Act.put, List.setIfInBounds_toArray, List.set_cons_zero, List.set_cons_succ])
            refine wpAnyH_tk 1 (v := ?vb1) rfl (by kernel_rfl) (by kernel_rfl) (by kernel_rfl) (fun _ _ _ h => h) (by rfl) ?hyb1 (by assumption) ?_
            case hyb1 => (intro w hSw; (try dsimp only at hSw); go_simp <;> with_reducible rfl)
            (try simp only [Act.put, List.setIfInBounds_toArray, List.set_cons_zero, List.set_cons_succ])
            refine wpAnyH_tk 2 (v := ?vb2) rfl (by kernel_rfl) (by kernel_rfl) (by kernel_rfl) (fun _ _ _ h => h) (by rfl) ?hyb2 (by assumption) ?_
            case hyb2 => (intro w hSw; (try dsimp only at hSw); go_simp <;> with_reducible rfl)
            (try simp only [Act.put, List.setIfInBounds_toArray, List.set_cons_zero, List.set_cons_succ])
            refine wpAnyH_tk 3 (v := ?vb3) rfl (by kernel_rfl) (by kernel_rfl) (by kernel_rfl) (fun _ _ _ h => h) (by rfl) ?hyb3 (by assumption) ?_
            case hyb3 => (intro w hSw; (try dsimp only at hSw); go_simp <;> with_reducible rfl)
            (try simp only [Act.put, List.setIfInBounds_toArray, List.set_cons_zero, List.set_cons_succ])
            refine wpAnyH_tk 4 (v := ?vb4) rfl (by kernel_rfl) (by kernel_rfl) (by kernel_rfl) (fun _ _ _ h => h) (by rfl) ?hyb4 (by assumption) ?_
            case hyb4 => (intro w hSw; (try dsimp only at hSw); go_simp <;> with_reducible rfl)
            (try simp only [Act.put, List.setIfInBounds_toArray, List.set_cons_zero, List.set_cons_succ])
            refine wpAnyH_tk 5 (v := ?vb5) rfl (by kernel_rfl) (by kernel_rfl) (by kernel_rfl) (fun _ _ _ h => h) (by rfl) ?hyb5 (by assumption) ?_
            case hyb5 => (intro w hSw; (try dsimp only at hSw); go_simp <;> with_reducible rfl)
            (try simp only [Act.put, List.setIfInBounds_toArray, List.set_cons_zero, List.set_cons_succ])
            refine wpAnyH_tk 6 (v := ?vb6) rfl (by kernel_rfl) (by kernel_rfl) (by kernel_rfl) (fun _ _ _ h => h) (by rfl) ?hyb6 (by assumption) ?_
            case hyb6 => (intro w hSw; (try dsimp only at hSw); go_simp <;> with_reducible rfl)
            (try simp only [Act.put, List.setIfInBounds_toArray, List.set_cons_zero, List.set_cons_succ])
            refine wpAnyH_tk 7 (v := ?vb7) rfl (by kernel_rfl) (by kernel_rfl) (by kernel_rfl) (fun _ _ _ h => h) (by rfl) ?hyb7 (by assumption) ?_
            case hyb7 => (intro w hSw; (try dsimp only at hSw); go_simp <;> with_reducible rfl)
            (try simp only [Act.put, List.setIfInBounds_toArray, List.set_cons_zero, List.set_cons_succ])
            refine wpAnyH_tk 8 (v := ?vb8) rfl (by kernel_rfl) (by kernel_rfl) (by kernel_rfl) (fun _ _ _ h => h) (by rfl) ?hyb8 (by assumption) ?_
            case hyb8 => (intro w hSw; (try dsimp only at hSw); go_simp <;> with_reducible rfl)
            (try simp only [Act.put, List.setIfInBounds_toArray, List.set_cons_zero, List.set_cons_succ])
            refine wpAnyH_tk 9 (v := ?vb9) rfl (by kernel_rfl) (by kernel_rfl) (by kernel_rfl) (fun _ _ _ h => h) (by rfl) ?hyb9 (by assumption) ?_
            case hyb9 => (intro w hSw; (try dsimp only at hSw); go_simp <;> with_reducible rfl)
            (try simp only [Act.put, List.setIfInBounds_toArray, List.set_cons_zero, List.set_cons_succ])
            refine wpAnyH_tk 10 (v := ?vb10) rfl (by kernel_rfl) (by kernel_rfl) (by kernel_rfl) (fun _ _ _ h => h) (by rfl) ?hyb10 (by assumption) ?_
            case hyb10 => (intro w hSw; (try dsimp only at hSw); go_simp <;> with_reducible rfl)
            (try simp only [Act.put, List.setIfInBounds_toArray, List.set_cons_zero, List.set_cons_succ])
            refine wpAnyH_tk 11 (v := ?vb11) rfl (by kernel_rfl) (by kernel_rfl) (by kernel_rfl) (fun _ _ _ h => h) (by rfl) ?hyb11 (by assumption) ?_
            case hyb11 => (intro w hSw; (try dsimp only at hSw); go_simp <;> with_reducible rfl)
            (try simp only [Act.put, List.setIfInBounds_toArray, List.set_cons_zero, List.set_cons_succ])
            refine wpAnyH_tk 12 (v := ?vb12) rfl (by kernel_rfl) (by kernel_rfl) (by kernel_rfl) (fun _ _ _ h => h) (by rfl) ?hyb12 (by assumption) ?_
            case hyb12 => (intro w hSw; (try dsimp only at hSw); go_simp <;> with_reducible rfl)
            (try simp only [Act.put, List.setIfInBounds_toArray, List.set_cons_zero, List.set_cons_succ])
            refine wpAnyH_tk 13 (v := ?vb13) rfl (by kernel_rfl) (by kernel_rfl) (by kernel_rfl) (fun _ _ _ h => h) (by rfl) ?hyb13 (by assumption) ?_
            case hyb13 => (intro w hSw; (try dsimp only at hSw); go_simp <;> with_reducible rfl)
            (try simp only [Act.put, List.setIfInBounds_toArray, List.set_cons_zero, List.set_cons_succ])
            refine wpAnyH_one 14 rfl (by kernel_rfl) (by rfl) (fun K hK => ?_)
            go_simp
            (refine (cmpC_any _ bm ao cap rs x y (E2.out.cell H1.out) (HV.out.ext E2.out) HOk.out hxl hyl).mono ?_; rintro e w3 ⟨rfl, he3⟩; rw [← HCX.out]; have E3 := hid (E2.out.trans he3); have HO3 : Hid (OwnI w1.heap.size w3 (.slice (some ⟨g, 0, none⟩) n cp) (rowL n f)) := ownsRow_ext HO2.out he3; have dj3 := he3.cell dj; have dp3 := he3.cell dp; clear he3)
            refine hK.out _ _ ?hSb15 (fun hHeld => ?_)
            case hSb15 => (first | (exact ⟨dj3, dp3⟩) | ((try dsimp only); exact ⟨dj3, dp3⟩))
            clear hK K
            (try simp only [Act.put, List.setIfInBounds_toArray, List.set_cons_zero, List.set_cons_succ])
            refine wpAnyH_tk 15 (v := ?vb15) rfl (by kernel_rfl) (by kernel_rfl) (by kernel_rfl) (fun _ _ _ h => h) (by rfl) ?hyb15 (by assumption) ?_
            case hyb15 => (intro w hSw; (try dsimp only at hSw); go_simp <;> with_reducible rfl)
            (try simp only [Act.put, List.setIfInBounds_toArray, List.set_cons_zero, List.set_cons_succ])
            refine wpAnyH_tk 16 (v := ?vb16) rfl (by kernel_rfl) (by kernel_rfl) (by kernel_rfl) (fun _ _ _ h => h) (by rfl) ?hyb16 (by assumption) ?_
            case hyb16 => (intro w hSw; (try dsimp only at hSw); go_simp <;> with_reducible rfl)
            (try simp only [Act.put, List.setIfInBounds_toArray, List.set_cons_zero, List.set_cons_succ])
            refine wpAnyH_done (by kernel_rfl) ?_ _
            clear hHeld dj dp fj fp hltb
            have dj := (HO3.out.cellF (show j < n by omega)).1
            have fj := (HO3.out.cellF (show j < n by omega)).2
            have dp := (HO3.out.cellF (show j - 1 < n by omega)).1
            rw [HX.out] at dj
            rw [HY.out] at dp
            have hO4 := HO3.out.setF j (y : Int)
            have dq := (hO4.cellF (show j - 1 < n by omega)).1
            have fq := (hO4.cellF (show j - 1 < n by omega)).2
            have hO5 := hO4.setF (j - 1) (x : Int)
            have HO5 := hid (ownsRow_ext hO5 (Ext.refl _).drew)
            have HE5 := hid ((E3.out.setCell hg j (.int .i64 y)).setCell hg (j - 1) (.int .i64 x)).drew
            have hdq : updF f j (y : Int) (j - 1) = y := by unfold updF; rw [if_neg (by omega)]; exact HY.out
            rw [hdq] at dq
            clear hO4 hO5 hdq
            go_wp2
            refine wp_region_held_drew (S := (fun _ => True)) (by kernel_rfl) ?hSe0 (fun hHeld => ?_)
            case hSe0 => trivial
            refine wpAnyH_tk 0 (v := ?ve0x1) rfl (by kernel_rfl) (by kernel_rfl) (by kernel_rfl) (fun _ _ _ h => h) (by rfl) ?hye0x1 (by assumption) ?_
            case hye0x1 => (intro w hSw; (try dsimp only at hSw); go_simp <;> with_reducible rfl)
            (try simp only [Act.put, List.setIfInBounds_toArray, List.set_cons_zero, List.set_cons_succ])
            refine wpAnyH_tk 1 (v := ?ve1x2) rfl (by kernel_rfl) (by kernel_rfl) (by kernel_rfl) (fun _ _ _ h => h) (by rfl) ?hye1x2 (by assumption) ?_
            case hye1x2 => (intro w hSw; (try dsimp only at hSw); go_simp <;> with_reducible rfl)
            (try simp only [Act.put, List.setIfInBounds_toArray, List.set_cons_zero, List.set_cons_succ])
            refine wpAnyH_tk 2 (v := ?ve2x3) rfl (by kernel_rfl) (by kernel_rfl) (by kernel_rfl) (fun _ _ _ h => h) (by rfl) ?hye2x3 (by assumption) ?_
            case hye2x3 => (intro w hSw; (try dsimp only at hSw); go_simp <;> with_reducible rfl)
            (try simp only [Act.put, List.setIfInBounds_toArray, List.set_cons_zero, List.set_cons_succ])
            refine wpAnyH_tk 3 (v := ?ve3x4) rfl (by kernel_rfl) (by kernel_rfl) (by kernel_rfl) (fun _ _ _ h => h) (by rfl) ?hye3x4 (by assumption) ?_
            case hye3x4 => (intro w hSw; (try dsimp only at hSw); go_simp <;> with_reducible rfl)
            (try simp only [Act.put, List.setIfInBounds_toArray, List.set_cons_zero, List.set_cons_succ])
            refine wpAnyH_tk 4 (v := ?ve4x5) rfl (by kernel_rfl) (by kernel_rfl) (by kernel_rfl) (fun _ _ _ h => h) (by rfl) ?hye4x5 (by assumption) ?_
            case hye4x5 => (intro w hSw; (try dsimp only at hSw); go_simp <;> with_reducible rfl)
            (try simp only [Act.put, List.setIfInBounds_toArray, List.set_cons_zero, List.set_cons_succ])
            refine wpAnyH_tk 5 (v := ?ve5x6) rfl (by kernel_rfl) (by kernel_rfl) (by kernel_rfl) (fun _ _ _ h => h) (by rfl) ?hye5x6 (by assumption) ?_
            case hye5x6 => (intro w hSw; (try dsimp only at hSw); go_simp <;> with_reducible rfl)
            (try simp only [Act.put, List.setIfInBounds_toArray, List.set_cons_zero, List.set_cons_succ])
            refine wpAnyH_tk 6 (v := ?ve6x7) rfl (by kernel_rfl) (by kernel_rfl) (by kernel_rfl) (fun _ _ _ h => h) (by rfl) ?hye6x7 (by assumption) ?_
            case hye6x7 => (intro w hSw; (try dsimp only at hSw); go_simp <;> with_reducible rfl)
            (try simp only [Act.put, List.setIfInBounds_toArray, List.set_cons_zero, List.set_cons_succ])
            refine wpAnyH_tk 7 (v := ?ve7x8) rfl (by kernel_rfl) (by kernel_rfl) (by kernel_rfl) (fun _ _ _ h => h) (by rfl) ?hye7x8 (by assumption) ?_
            case hye7x8 => (intro w hSw; (try dsimp only at hSw); go_simp <;> with_reducible rfl)
            (try simp only [Act.put, List.setIfInBounds_toArray, List.set_cons_zero, List.set_cons_succ])
            refine wpAnyH_tk 8 (v := ?ve8x9) rfl (by kernel_rfl) (by kernel_rfl) (by kernel_rfl) (fun _ _ _ h => h) (by rfl) ?hye8x9 (by assumption) ?_
            case hye8x9 => (intro w hSw; (try dsimp only at hSw); go_simp <;> with_reducible rfl)
            (try simp only [Act.put, List.setIfInBounds_toArray, List.set_cons_zero, List.set_cons_succ])
            refine wpAnyH_tk 10 (v := ?ve10x10) rfl (by kernel_rfl) (by kernel_rfl) (by kernel_rfl) (fun _ _ _ h => h) (by rfl) ?hye10x10 (by assumption) ?_
            case hye10x10 => (intro w hSw; (try dsimp only at hSw); go_simp <;> with_reducible rfl)
            (try simp only [Act.put, List.setIfInBounds_toArray, List.set_cons_zero, List.set_cons_succ])
            refine wpAnyH_tk 11 (v := ?ve11x11) rfl (by kernel_rfl) (by kernel_rfl) (by kernel_rfl) (fun _ _ _ h => h) (by rfl) ?hye11x11 (by assumption) ?_
            case hye11x11 => (intro w hSw; (try dsimp only at hSw); go_simp <;> with_reducible rfl)
            (try simp only [Act.put, List.setIfInBounds_toArray, List.set_cons_zero, List.set_cons_succ])
            refine wpAnyH_tk 12 (v := ?ve12x12) rfl (by kernel_rfl) (by kernel_rfl) (by kernel_rfl) (fun _ _ _ h => h) (by rfl) ?hye12x12 (by assumption) ?_
            case hye12x12 => (intro w hSw; (try dsimp only at hSw); go_simp <;> with_reducible rfl)
            (try simp only [Act.put, List.setIfInBounds_toArray, List.set_cons_zero, List.set_cons_succ])
            refine wpAnyH_two 9 13 rfl rfl (by kernel_rfl) (by rfl) (by rfl) (fun K hK => ?_) (fun K hK => ?_)
            · skip
              go_simp
              refine hK.out _ _ ?hSe9x13 (fun hHeld => ?_)
              case hSe9x13 => trivial
              clear hK K
              (try simp only [Act.put, List.setIfInBounds_toArray, List.set_cons_zero, List.set_cons_succ])
              refine wpAnyH_one 13 rfl (by kernel_rfl) (by rfl) (fun K hK => ?_)
              go_simp
              refine hK.out _ _ ?hSe13x14 (fun hHeld => ?_)
              case hSe13x14 => trivial
              clear hK K
              (try simp only [Act.put, List.setIfInBounds_toArray, List.set_cons_zero, List.set_cons_succ])
              refine wpAnyH_tk 14 (v := ?ve14x15) rfl (by kernel_rfl) (by kernel_rfl) (by kernel_rfl) (fun _ _ _ h => h) (by rfl) ?hye14x15 (by assumption) ?_
              case hye14x15 => (intro w hSw; (try dsimp only at hSw); go_simp <;> with_reducible rfl)
              (try simp only [Act.put, List.setIfInBounds_toArray, List.set_cons_zero, List.set_cons_succ])
              refine wpAnyH_one 15 rfl (by kernel_rfl) (by rfl) (fun K hK => ?_)
              go_simp
              refine hK.out _ _ ?hSe15x16 (fun hHeld => ?_)
              case hSe15x16 => trivial
              clear hK K
              (try simp only [Act.put, List.setIfInBounds_toArray, List.set_cons_zero, List.set_cons_succ])
              refine wpAnyH_tk 16 (v := ?ve16x17) rfl (by kernel_rfl) (by kernel_rfl) (by kernel_rfl) (fun _ _ _ h => h) (by rfl) ?hye16x17 (by assumption) ?_
              case hye16x17 => (intro w hSw; (try dsimp only at hSw); go_simp <;> with_reducible rfl)
              (try simp only [Act.put, List.setIfInBounds_toArray, List.set_cons_zero, List.set_cons_succ])
              refine wpAnyH_one 17 rfl (by kernel_rfl) (by rfl) (fun K hK => ?_)
              go_simp
              refine hK.out _ _ ?hSe17x18 (fun hHeld => ?_)
              case hSe17x18 => trivial
              clear hK K
              (try simp only [Act.put, List.setIfInBounds_toArray, List.set_cons_zero, List.set_cons_succ])
              refine wpAnyH_done (by kernel_rfl) ?_ _
              clear hHeld
              go_wp2
              go_roundg (j - 1)
              case rel => exact ⟨j - 1, _, by omega, rfl, by go_num, HIN, HO5, HE5⟩
              case measure => have := Hjg.out; omega
            · skip
              go_simp
              refine hK.out _ _ ?hSe13x19 (fun hHeld => ?_)
              case hSe13x19 => trivial
              clear hK K
              (try simp only [Act.put, List.setIfInBounds_toArray, List.set_cons_zero, List.set_cons_succ])
              refine wpAnyH_one 9 rfl (by kernel_rfl) (by rfl) (fun K hK => ?_)
              go_simp
              refine hK.out _ _ ?hSe9x20 (fun hHeld => ?_)
              case hSe9x20 => trivial
              clear hK K
              (try simp only [Act.put, List.setIfInBounds_toArray, List.set_cons_zero, List.set_cons_succ])
              refine wpAnyH_tk 14 (v := ?ve14x21) rfl (by kernel_rfl) (by kernel_rfl) (by kernel_rfl) (fun _ _ _ h => h) (by rfl) ?hye14x21 (by assumption) ?_
              case hye14x21 => (intro w hSw; (try dsimp only at hSw); go_simp <;> with_reducible rfl)
              (try simp only [Act.put, List.setIfInBounds_toArray, List.set_cons_zero, List.set_cons_succ])
              refine wpAnyH_one 15 rfl (by kernel_rfl) (by rfl) (fun K hK => ?_)
              go_simp
              refine hK.out _ _ ?hSe15x22 (fun hHeld => ?_)
              case hSe15x22 => trivial
              clear hK K
              (try simp only [Act.put, List.setIfInBounds_toArray, List.set_cons_zero, List.set_cons_succ])
              refine wpAnyH_tk 16 (v := ?ve16x23) rfl (by kernel_rfl) (by kernel_rfl) (by kernel_rfl) (fun _ _ _ h => h) (by rfl) ?hye16x23 (by assumption) ?_
              case hye16x23 => (intro w hSw; (try dsimp only at hSw); go_simp <;> with_reducible rfl)
              (try simp only [Act.put, List.setIfInBounds_toArray, List.set_cons_zero, List.set_cons_succ])
              refine wpAnyH_one 17 rfl (by kernel_rfl) (by rfl) (fun K hK => ?_)
              go_simp
              refine hK.out _ _ ?hSe17x24 (fun hHeld => ?_)
              case hSe17x24 => trivial
              clear hK K
              (try simp only [Act.put, List.setIfInBounds_toArray, List.set_cons_zero, List.set_cons_succ])
              refine wpAnyH_done (by kernel_rfl) ?_ _
              clear hHeld
              go_wp2
              go_roundg (j - 1)
              case rel => exact ⟨j - 1, _, by omega, rfl, by go_num, HIN, HO5, HE5⟩
              case measure => have := Hjg.out; omega
          · have hltb : decide (cx < 0) = false := decide_eq_false hlt2
            have HOUT := hid (IN.out.stop hjk (.inr (by rw [HY.out, ← HXK.out]; have := HCX.out; omega)))
            clear hlt2
            go_wp2
            refine wp_region_held_drew (S := (fun w' => w'.cell? ⟨g, j, none⟩ = some (.int .i64 x) ∧ w'.cell? ⟨g, j - 1, none⟩ = some (.int .i64 y))) (by kernel_rfl) ?hSc0 (fun hHeld => ?_)
            case hSc0 => (first | (exact ⟨dj, dp⟩) | ((try dsimp only); exact ⟨dj, dp⟩))
            refine wpAnyH_tk 0 (v := ?vc0) rfl (by kernel_rfl) (by kernel_rfl) (by kernel_rfl) (fun _ _ _ h => h) (by rfl) ?hyc0 (by assumption) ?_
            case hyc0 => (intro w hSw; (try dsimp only at hSw); go_simp <;> with_reducible rfl)
            (try simp only [Act.put, List.setIfInBounds_toArray, List.set_cons_zero, List.set_cons_succ])
            refine wpAnyH_tk 1 (v := ?vc1) rfl (by kernel_rfl) (by kernel_rfl) (by kernel_rfl) (fun _ _ _ h => h) (by rfl) ?hyc1 (by assumption) ?_
            case hyc1 => (intro w hSw; (try dsimp only at hSw); go_simp <;> with_reducible rfl)
            (try simp only [Act.put, List.setIfInBounds_toArray, List.set_cons_zero, List.set_cons_succ])
            refine wpAnyH_tk 2 (v := ?vc2) rfl (by kernel_rfl) (by kernel_rfl) (by kernel_rfl) (fun _ _ _ h => h) (by rfl) ?hyc2 (by assumption) ?_
            case hyc2 => (intro w hSw; (try dsimp only at hSw); go_simp <;> with_reducible rfl)
            (try simp only [Act.put, List.setIfInBounds_toArray, List.set_cons_zero, List.set_cons_succ])
            refine wpAnyH_tk 3 (v := ?vc3) rfl (by kernel_rfl) (by kernel_rfl) (by kernel_rfl) (fun _ _ _ h => h) (by rfl) ?hyc3 (by assumption) ?_
            case hyc3 => (intro w hSw; (try dsimp only at hSw); go_simp <;> with_reducible rfl)
            (try simp only [Act.put, List.setIfInBounds_toArray, List.set_cons_zero, List.set_cons_succ])
            refine wpAnyH_tk 4 (v := ?vc4) rfl (by kernel_rfl) (by kernel_rfl) (by kernel_rfl) (fun _ _ _ h => h) (by rfl) ?hyc4 (by assumption) ?_
            case hyc4 => (intro w hSw; (try dsimp only at hSw); go_simp <;> with_reducible rfl)
            (try simp only [Act.put, List.setIfInBounds_toArray, List.set_cons_zero, List.set_cons_succ])
            refine wpAnyH_tk 5 (v := ?vc5) rfl (by kernel_rfl) (by kernel_rfl) (by kernel_rfl) (fun _ _ _ h => h) (by rfl) ?hyc5 (by assumption) ?_
            case hyc5 => (intro w hSw; (try dsimp only at hSw); go_simp <;> with_reducible rfl)
            (try simp only [Act.put, List.setIfInBounds_toArray, List.set_cons_zero, List.set_cons_succ])
            refine wpAnyH_tk 6 (v := ?vc6) rfl (by kernel_rfl) (by kernel_rfl) (by kernel_rfl) (fun _ _ _ h => h) (by rfl) ?hyc6 (by assumption) ?_
            case hyc6 => (intro w hSw; (try dsimp only at hSw); go_simp <;> with_reducible rfl)
            (try simp only [Act.put, List.setIfInBounds_toArray, List.set_cons_zero, List.set_cons_succ])
            refine wpAnyH_tk 7 (v := ?vc7) rfl (by kernel_rfl) (by kernel_rfl) (by kernel_rfl) (fun _ _ _ h => h) (by rfl) ?hyc7 (by assumption) ?_
            case hyc7 => (intro w hSw; (try dsimp only at hSw); go_simp <;> with_reducible rfl)
            (try simp only [Act.put, List.setIfInBounds_toArray, List.set_cons_zero, List.set_cons_succ])
            refine wpAnyH_tk 8 (v := ?vc8) rfl (by kernel_rfl) (by kernel_rfl) (by kernel_rfl) (fun _ _ _ h => h) (by rfl) ?hyc8 (by assumption) ?_
            case hyc8 => (intro w hSw; (try dsimp only at hSw); go_simp <;> with_reducible rfl)
            (try simp only [Act.put, List.setIfInBounds_toArray, List.set_cons_zero, List.set_cons_succ])
            refine wpAnyH_tk 9 (v := ?vc9) rfl (by kernel_rfl) (by kernel_rfl) (by kernel_rfl) (fun _ _ _ h => h) (by rfl) ?hyc9 (by assumption) ?_
            case hyc9 => (intro w hSw; (try dsimp only at hSw); go_simp <;> with_reducible rfl)
            (try simp only [Act.put, List.setIfInBounds_toArray, List.set_cons_zero, List.set_cons_succ])
            refine wpAnyH_tk 10 (v := ?vc10) rfl (by kernel_rfl) (by kernel_rfl) (by kernel_rfl) (fun _ _ _ h => h) (by rfl) ?hyc10 (by assumption) ?_
            case hyc10 => (intro w hSw; (try dsimp only at hSw); go_simp <;> with_reducible rfl)
            (try simp only [Act.put, List.setIfInBounds_toArray, List.set_cons_zero, List.set_cons_succ])
            refine wpAnyH_tk 11 (v := ?vc11) rfl (by kernel_rfl) (by kernel_rfl) (by kernel_rfl) (fun _ _ _ h => h) (by rfl) ?hyc11 (by assumption) ?_
            case hyc11 => (intro w hSw; (try dsimp only at hSw); go_simp <;> with_reducible rfl)
            (try simp only [Act.put, List.setIfInBounds_toArray, List.set_cons_zero, List.set_cons_succ])
            refine wpAnyH_tk 12 (v := ?vc12) rfl (by kernel_rfl) (by kernel_rfl) (by kernel_rfl) (fun _ _ _ h => h) (by rfl) ?hyc12 (by assumption) ?_
            case hyc12 => (intro w hSw; (try dsimp only at hSw); go_simp <;> with_reducible rfl)
            (try simp only [Act.put, List.setIfInBounds_toArray, List.set_cons_zero, List.set_cons_succ])
            refine wpAnyH_tk 13 (v := ?vc13) rfl (by kernel_rfl) (by kernel_rfl) (by kernel_rfl) (fun _ _ _ h => h) (by rfl) ?hyc13 (by assumption) ?_
            case hyc13 => (intro w hSw; (try dsimp only at hSw); go_simp <;> with_reducible rfl)
            (try simp only [Act.put, List.setIfInBounds_toArray, List.set_cons_zero, List.set_cons_succ])
            refine wpAnyH_one 14 rfl (by kernel_rfl) (by rfl) (fun K hK => ?_)
            go_simp
            (refine (cmpC_any _ bm ao cap rs x y (E2.out.cell H1.out) (HV.out.ext E2.out) HOk.out hxl hyl).mono ?_; rintro e w3 ⟨rfl, he3⟩; rw [← HCX.out]; have E3 := hid (E2.out.trans he3); have HO3 : Hid (OwnI w1.heap.size w3 (.slice (some ⟨g, 0, none⟩) n cp) (rowL n f)) := ownsRow_ext HO2.out he3; have dj3 := he3.cell dj; have dp3 := he3.cell dp; clear he3)
            refine hK.out _ _ ?hSc15 (fun hHeld => ?_)
            case hSc15 => (first | (exact ⟨dj3, dp3⟩) | ((try dsimp only); exact ⟨dj3, dp3⟩))
            clear hK K
            (try simp only [Act.put, List.setIfInBounds_toArray, List.set_cons_zero, List.set_cons_succ])
            refine wpAnyH_tk 15 (v := ?vc15) rfl (by kernel_rfl) (by kernel_rfl) (by kernel_rfl) (fun _ _ _ h => h) (by rfl) ?hyc15 (by assumption) ?_
            case hyc15 => (intro w hSw; (try dsimp only at hSw); go_simp <;> with_reducible rfl)
            (try simp only [Act.put, List.setIfInBounds_toArray, List.set_cons_zero, List.set_cons_succ])
            refine wpAnyH_tk 16 (v := ?vc16) rfl (by kernel_rfl) (by kernel_rfl) (by kernel_rfl) (fun _ _ _ h => h) (by rfl) ?hyc16 (by assumption) ?_
            case hyc16 => (intro w hSw; (try dsimp only at hSw); go_simp <;> with_reducible rfl)
            (try simp only [Act.put, List.setIfInBounds_toArray, List.set_cons_zero, List.set_cons_succ])
            refine wpAnyH_done (by kernel_rfl) ?_ _
            clear hHeld dj dp fj fp hltb
            go_wp2
            go_roundg (n - (k + 1))
            case rel => exact ⟨k + 1, f, by omega, by omega, by go_num, HOUT, HO3, E3⟩
            case measure => have := Hk.out; omega
        · have ej : j = 0 := by omega
          subst ej
          have HOUT := hid (IN.out.stop hjk (.inl rfl))
          go_wp2
          refine wp_region_held_drew (S := (fun _ => True)) (by kernel_rfl) ?hSd0 (fun hHeld => ?_)
          case hSd0 => (first | (trivial) | ((try dsimp only); trivial))
          refine wpAnyH_tk 0 (v := ?vd0) rfl (by kernel_rfl) (by kernel_rfl) (by kernel_rfl) (fun _ _ _ h => h) (by rfl) ?hyd0 (by assumption) ?_
          case hyd0 => (intro w hSw; (try dsimp only at hSw); go_simp <;> with_reducible rfl)
          (try simp only [Act.put, List.setIfInBounds_toArray, List.set_cons_zero, List.set_cons_succ])
          refine wpAnyH_tk 1 (v := ?vd1) rfl (by kernel_rfl) (by kernel_rfl) (by kernel_rfl) (fun _ _ _ h => h) (by rfl) ?hyd1 (by assumption) ?_
          case hyd1 => (intro w hSw; (try dsimp only at hSw); go_simp <;> with_reducible rfl)
          (try simp only [Act.put, List.setIfInBounds_toArray, List.set_cons_zero, List.set_cons_succ])
          refine wpAnyH_tk 2 (v := ?vd2) rfl (by kernel_rfl) (by kernel_rfl) (by kernel_rfl) (fun _ _ _ h => h) (by rfl) ?hyd2 (by assumption) ?_
          case hyd2 => (intro w hSw; (try dsimp only at hSw); go_simp <;> with_reducible rfl)
          (try simp only [Act.put, List.setIfInBounds_toArray, List.set_cons_zero, List.set_cons_succ])
          refine wpAnyH_tk 3 (v := ?vd3) rfl (by kernel_rfl) (by kernel_rfl) (by kernel_rfl) (fun _ _ _ h => h) (by rfl) ?hyd3 (by assumption) ?_
          case hyd3 => (intro w hSw; (try dsimp only at hSw); go_simp <;> with_reducible rfl)
          (try simp only [Act.put, List.setIfInBounds_toArray, List.set_cons_zero, List.set_cons_succ])
          refine wpAnyH_skips 3 true 21 1 (by kernel_rfl) rfl (fun _ _ _ _ _ h => h) [4, 5, 6, 7, 8, 9, 10, 11, 12, 13, 14, 15] [22, 23, 24, 25, 26, 27, 28, 29, 30, 31, 32, 33] _ _ _ rfl (by kernel_rfl) (by rfl) (by assumption) ?_
          (try simp only [putsAll, List.foldl, Act.put, List.setIfInBounds_toArray, List.set_cons_zero, List.set_cons_succ])
          refine wpAnyH_tk 16 (v := ?vd16) rfl (by kernel_rfl) (by kernel_rfl) (by kernel_rfl) (fun _ _ _ h => h) (by rfl) ?hyd16 (by assumption) ?_
          case hyd16 => (intro w hSw; (try dsimp only at hSw); go_simp <;> with_reducible rfl)
          (try simp only [Act.put, List.setIfInBounds_toArray, List.set_cons_zero, List.set_cons_succ])
          refine wpAnyH_done (by kernel_rfl) ?_ _
          clear hHeld
          go_wp2
          go_roundg (n - (k + 1))
          case rel => exact ⟨k + 1, f, by omega, by omega, by go_num, HOUT, HO2, E2⟩
          case measure => have := Hk.out; omega
    · have ek : k = n := by omega
      have h := OUT.out
      rw [ek] at h
      have HR := hid h
      have hki : ¬ ((k : Int) < n) := by omega
      clear ek h hlt
      go_wp2
      go_end0
      exact ⟨rfl, f, HR.out, HO.out, E.out⟩

end Go.Proofs.YtkbkgkmogbkabaaDoor

/-
  Contract of SortStableFunc at the roads' costs.
-/
namespace Go.Proofs.YtkbkgkmogbkabaaDoor
open Go.RowKit

set_option maxRecDepth 20000 in
set_option maxHeartbeats 400000 in
theorem stableC_any (w1 w : World) (bm : Nat) (ao : Option Addr) (cap : Nat) (rs : List RoadD) (g cp n : Nat) (f : Nat → Int) (h1 : w1.cell? ⟨bm, 1, none⟩ = some (.slice ao rs.length cap)) (hv : Roads w1 (.slice ao rs.length cap) rs) (hok : ∀ r ∈ rs, 1 ≤ r.cost ∧ r.cost ≤ 50) (hn : n = rs.length) (hn0 : 0 < n) (hn16 : n ≤ 16)
    (hE : Ext w1 w) (hg : w1.heap.size ≤ g) (ho : OwnI w1.heap.size w (.slice (some ⟨g, 0, none⟩) n cp) (rowL n f)) (h0 : OutS rs n 0 f) :
    Calls Tryd.prog 60 #[.slice (some ⟨g, 0, none⟩) n cp, .int .i64 n, .func (.func 48) #[] #[.pointer (some ⟨bm, 0, none⟩)]] w fun e w' => e = .returned (.tuple #[]) ∧ ∃ f', Hid (OutS rs n n f') ∧ OwnI w1.heap.size w' (.slice (some ⟨g, 0, none⟩) n cp) (rowL n f') ∧ Ext w1 w' := by
  have H := hid (insC_any w1 w bm ao cap rs g cp n f h1 hv hok hn hn0 hn16 hE hg ho h0)
  have hb : ¬ ((20 : Int) ≤ n) := by omega
  have hb2 : ¬ ((20 : Int) < n) := by omega
  clear h1 hv hok hn hE ho h0
  go_enter Tryd.func60, Tryd.ntmps60
  go_wp2
  go_loopg [8, 7] 0 (fun gm i j wr => i = .int .i64 20 ∧ j = .int .i64 0 ∧ wr = w)
  case atStart => exact ⟨rfl, rfl, rfl⟩
  case round =>
    obtain ⟨rfl, rfl, rfl⟩ := hrel
    go_wp2_with (fail)
    refine H.out.mono ?_
    rintro e w2 ⟨rfl, f', hf, ho, he⟩
    have HF := hid hf.out
    have HO := hid ho
    have HE := hid he
    clear hf ho he
    go_wp2
    go_loopg [6] 0 (fun gm i wr => i = .int .i64 20 ∧ wr = w2)
    case atStart => exact ⟨rfl, rfl⟩
    case round =>
      obtain ⟨rfl, rfl⟩ := hrel
      go_wp2
      go_end0
      exact ⟨rfl, f', HF.out, HO.out, HE.out⟩

set_option maxRecDepth 20000 in
set_option maxHeartbeats 400000 in
theorem SortStable_any (w1 w : World) (bm : Nat) (ao : Option Addr) (cap : Nat) (rs : List RoadD) (g cp n : Nat) (f : Nat → Int) (h1 : w1.cell? ⟨bm, 1, none⟩ = some (.slice ao rs.length cap)) (hv : Roads w1 (.slice ao rs.length cap) rs) (hok : ∀ r ∈ rs, 1 ≤ r.cost ∧ r.cost ≤ 50) (hn : n = rs.length) (hn0 : 0 < n) (hn16 : n ≤ 16)
    (hE : Ext w1 w) (hg : w1.heap.size ≤ g) (ho : OwnI w1.heap.size w (.slice (some ⟨g, 0, none⟩) n cp) (rowL n f)) (h0 : OutS rs n 0 f) :
    Calls Tryd.prog 47 #[.slice (some ⟨g, 0, none⟩) n cp, .func (.func 48) #[] #[.pointer (some ⟨bm, 0, none⟩)]] w fun e w' => e = .returned (.tuple #[]) ∧ ∃ f', Hid (OutS rs n n f') ∧ OwnI w1.heap.size w' (.slice (some ⟨g, 0, none⟩) n cp) (rowL n f') ∧ Ext w1 w' := by
  have H := hid (stableC_any w1 w bm ao cap rs g cp n f h1 hv hok hn hn0 hn16 hE hg ho h0)
  clear h1 hv hok hn hE ho h0
  go_enter Tryd.func47, Tryd.ntmps47
  go_wp2_with (fail)
  refine H.out.mono ?_
  rintro e w2 ⟨rfl, f', hf, ho, he⟩
  have HF := hid hf.out
  have HO := hid ho
  have HE := hid he
  clear hf ho he
  go_wp2
  go_end0
  exact ⟨rfl, f', HF.out, HO.out, HE.out⟩

set_option maxRecDepth 20000 in
set_option maxHeartbeats 400000 in
theorem SortStable_none (w : World) (bm : Nat) :
    Calls Tryd.prog 47 #[.slice none 0 0, .func (.func 48) #[] #[.pointer (some ⟨bm, 0, none⟩)]] w fun e w' => e = .returned (.tuple #[]) ∧ Ext w w' := by
  have hins : Calls Tryd.prog 68 #[.slice none 0 0, .int .i64 0, .int .i64 0, .func (.func 48) #[] #[.pointer (some ⟨bm, 0, none⟩)]] w fun e w' => e = .returned (.tuple #[]) ∧ Ext w w' := by
    go_enter Tryd.func68, Tryd.ntmps68
    go_wp2
    go_loopg [8] 0 (fun gm i wr => i = .int .i64 1 ∧ wr = w)
    case atStart => exact ⟨rfl, rfl⟩
    case round =>
      obtain ⟨rfl, rfl⟩ := hrel
      go_wp2
      go_end0
      exact ⟨rfl, Ext.refl _⟩
  have HI := hid hins
  clear hins
  have hst : Calls Tryd.prog 60 #[.slice none 0 0, .int .i64 0, .func (.func 48) #[] #[.pointer (some ⟨bm, 0, none⟩)]] w fun e w' => e = .returned (.tuple #[]) ∧ Ext w w' := by
    go_enter Tryd.func60, Tryd.ntmps60
    go_wp2
    go_loopg [8, 7] 0 (fun gm i j wr => i = .int .i64 20 ∧ j = .int .i64 0 ∧ wr = w)
    case atStart => exact ⟨rfl, rfl, rfl⟩
    case round =>
      obtain ⟨rfl, rfl, rfl⟩ := hrel
      go_wp2_with (fail)
      refine HI.out.mono ?_
      rintro e w2 ⟨rfl, he⟩
      have HE := hid he
      clear he
      go_wp2
      go_loopg [6] 0 (fun gm i wr => i = .int .i64 20 ∧ wr = w2)
      case atStart => exact ⟨rfl, rfl⟩
      case round =>
        obtain ⟨rfl, rfl⟩ := hrel
        go_wp2
        go_end0
        exact ⟨rfl, HE.out⟩
  have HS := hid hst
  clear hst
  go_enter Tryd.func47, Tryd.ntmps47
  go_wp2_with (fail)
  refine HS.out.mono ?_
  rintro e w2 ⟨rfl, he⟩
  have HE := hid he
  clear he
  go_wp2
  go_end0
  exact ⟨rfl, HE.out⟩

end Go.Proofs.YtkbkgkmogbkabaaDoor
