/-
  Contract of the reference's Tree.
-/
import Derived.Test.YtkbkgkmogbkabaaDoorTrTree
namespace Go.Proofs.YtkbkgkmogbkabaaDoor
open Go.RowKit

/-- a without b, as sets. -/
def andn (a b : Nat) : Nat := a ^^^ (a &&& b)
theorem andn_bit (a b i : Nat) : (andn a b).testBit i = (a.testBit i && !b.testBit i) := by
  unfold andn
  rw [Nat.testBit_xor, Nat.testBit_and]
  cases a.testBit i <;> cases b.testBit i <;> rfl
theorem andn_lt {a b n : Nat} (ha : a < 2 ^ n) : andn a b < 2 ^ n := Nat.xor_lt_two_pow ha (Nat.lt_of_le_of_lt Nat.and_le_left ha)
theorem bits_andn (a b : Nat) (ha : a < 2 ^ 62) (hb : b < 2 ^ 62) : bits .andNot .i64 a b = ((andn a b : Nat) : Int) := by
  have ha' : a % 2 ^ IntKind.i64.bits = a := Nat.mod_eq_of_lt (Nat.lt_of_lt_of_le ha (Nat.pow_le_pow_right (by decide) (by decide)))
  have hb' : b % 2 ^ IntKind.i64.bits = b := Nat.mod_eq_of_lt (Nat.lt_of_lt_of_le hb (Nat.pow_le_pow_right (by decide) (by decide)))
  have h1 : ∀ x y : BitVec IntKind.i64.bits, x &&& ~~~y = x ^^^ (x &&& y) := by
    intro x y
    apply BitVec.eq_of_getLsbD_eq
    intro i hi
    simp only [BitVec.getLsbD_and, BitVec.getLsbD_not, BitVec.getLsbD_xor, hi, decide_true, Bool.true_and]
    cases x.getLsbD i <;> cases y.getLsbD i <;> rfl
  have h2 := andn_lt (b := b) ha
  show IntKind.i64.wrap ((BitVec.ofInt IntKind.i64.bits (a : Int) &&& ~~~(BitVec.ofInt IntKind.i64.bits (b : Int))).toNat) = _
  rw [h1]
  simp only [BitVec.ofInt_natCast, BitVec.toNat_xor, BitVec.toNat_and, BitVec.toNat_ofNat, ha', hb']
  exact wraps_i64_62 _ (by omega) (by exact_mod_cast h2)
theorem andn_zero (a b : Nat) : andn a b = 0 ↔ ∀ i, a.testBit i = true → b.testBit i = true := by
  constructor
  · intro h i hi
    have := andn_bit a b i
    rw [h, hi, Nat.zero_testBit] at this
    cases e : b.testBit i
    · rw [e] at this; simp at this
    · rfl
  · intro h
    apply Nat.eq_of_testBit_eq
    intro i
    rw [andn_bit, Nat.zero_testBit]
    cases e : a.testBit i
    · rfl
    · rw [h i e]; rfl
/-- The least bit. -/
theorem low_bit {s n : Nat} (h0 : 0 < s) (h : s < 2 ^ n) : ∃ k, k < n ∧ s.testBit k = true ∧ ∀ j, j < k → s.testBit j = false := by
  obtain ⟨i, hi⟩ := Nat.exists_testBit_of_ne_zero (show s ≠ 0 by omega)
  have key : ∀ m i, i < m → s.testBit i = true → ∃ k, s.testBit k = true ∧ ∀ j, j < k → s.testBit j = false := by
    intro m
    induction m with
    | zero => intro i h; omega
    | succ m ih =>
      intro i him hi
      by_cases c : ∃ j, j < i ∧ s.testBit j = true
      · obtain ⟨j, hj, hjt⟩ := c
        exact ih j (by omega) hjt
      · refine ⟨i, hi, fun j hj => ?_⟩
        cases e : s.testBit j
        · rfl
        · exact absurd ⟨j, hj, e⟩ c
  obtain ⟨k, h1, h2⟩ := key (i + 1) i (by omega) hi
  exact ⟨k, bit_lt h h1, h1, h2⟩
theorem bit_zero (s i : Nat) : (s : Int) / 2 ^ i % 2 = (if s.testBit i then 1 else 0) := by
  have e : ((s : Int) / 2 ^ i % 2) = ((s / 2 ^ i % 2 : Nat) : Int) := by simp
  have h := Nat.testBit_eq_decide_div_mod_eq (x := s) (i := i)
  rw [e, h]
  rcases Nat.mod_two_eq_zero_or_one (s / 2 ^ i) with p | p <;> rw [p] <;> rfl
theorem meetN_lt {E : List RoadD} (hE : ∀ r ∈ E, r.a.toNat < 8 ∧ r.b.toNat < 8) {s : Nat} (hs : s < 8) (k : Nat) : meetN E (2 ^ s) k < 256 := ((Meets.start hs).rounds hE k).1
theorem edges_in {rs : List RoadD} {N : Nat} {l : List Int} (hok : ∀ r ∈ rs, roadOk N r = true) (hl : ∀ i ∈ l, 0 ≤ i ∧ i < rs.length) : ∀ r ∈ edges rs l, r.a.toNat < N ∧ r.b.toNat < N := by
  intro r hr
  obtain ⟨i, hi, rfl⟩ := List.mem_map.1 hr
  have := hl i hi
  have := roadOk_iff.1 (hok _ (roadAt_mem (rs := rs) (i := i.toNat) (by omega)))
  omega
/-- The two parts' test of the reference: all stops, and all that roads touch, are met. -/
theorem ref_ok {E : List RoadD} {N s z : Nat} (hE : ∀ r ∈ E, r.a.toNat < N ∧ r.b.toNat < N) (hN : N ≤ 8) (hz : z < N) (hs : s.testBit z = true) :
    (andn s (meetN E (2 ^ z) N) = 0 ∧ andn (touchN 0 E) (meetN E (2 ^ z) N) = 0) ↔ ∀ x y, touch s E x → touch s E y → Conn E x y := by
  rw [andn_zero, andn_zero, ← one_met (T := touch s E) (k := z) (.inl hs)]
  constructor
  · rintro ⟨h1, h2⟩ x (hx | hx)
    · exact (joined_bit hE hN hz x).1 (h1 x hx)
    · exact (joined_bit hE hN hz x).1 (h2 x ((touchN_bit E 0 x).2 (.inr hx)))
  · intro h
    refine ⟨fun i hi => (joined_bit hE hN hz i).2 (h i (.inl hi)), fun i hi => ?_⟩
    rcases (touchN_bit E 0 i).1 hi with g | g
    · simp at g
    · exact (joined_bit hE hN hz i).2 (h i (.inr g))

set_option maxRecDepth 20000 in
set_option maxHeartbeats 8000000 in
theorem RTree_any (vr v : Value) (N : Nat) (rs : List RoadD) (l : List Int) (s : Nat) (w : World) (hv : Roads w vr rs) (hl : Ints w v l) (hok : ∀ r ∈ rs, roadOk N r = true) (hN8 : N ≤ 8) (hrl : rs.length ≤ 16) (hs0 : 0 < s) (hs : s < 2 ^ N) :
    Calls Tryd.prog 17 #[.agg #[.int .i64 N, vr], .int .i64 s, v] w fun e w' => TreeAns rs s l e ∧ Ext w w' := by
  obtain ⟨ao, cap, rfl⟩ := hv.shape
  have HV := hid hv
  have HL := hid hl
  obtain ⟨hlen, al, cl, rfl, hcl, -⟩ := id hl
  have HAll := hid hok
  have X0 := hid (Box2.alloc w 24 (.int .i64 N) (.slice ao rs.length cap))
  have HE0 := hid (Ext.ofAlloc w (.cells #[.int .i64 N, .slice ao rs.length cap] 24))
  obtain ⟨z, hzN, hz1, hz2⟩ := low_bit hs0 hs
  have s256 : s < 256 := by
    have h1 : (2 : Nat) ^ N ≤ 2 ^ 8 := Nat.pow_le_pow_right (by decide) hN8
    have e : (256 : Nat) = 2 ^ 8 := by decide
    omega
  have HZ1 := hid hz1
  have HZ2 := hid hz2
  have hz8 : z < 8 := by omega
  have hsi : (s : Int) ≤ 256 := by omega
  have HN := hid hzN
  clear hv hl hok hz1 hz2 hzN hs hs0
  go_enter Tryd.func17, Tryd.ntmps17
  go_wp2
  generalize w.alloc (.cells #[.int .i64 N, .slice ao rs.length cap] 24) = W at *
  go_loopg [8] z (fun g i wr => ∃ (k : Nat), k + g = z ∧ i = .int .i64 k ∧ Hid (Ext W wr))
  case atStart => exact ⟨0, by omega, rfl, Ext.refl _⟩
  case round =>
    obtain ⟨k, hk, rfl, E1⟩ := hrel
    have hkz : k ≤ z := by omega
    have Hk := hid hk
    clear hk
    obtain ⟨u0, u1⟩ := div_in s k (by omega) hsi
    have ua := bits_one _ u0 (by omega)
    rw [bit_zero] at ua
    clear u0 u1
    by_cases hlt : k < z
    · rw [HZ2.out k hlt] at ua
      simp only [Bool.false_eq_true, if_false] at ua
      go_wp2
      go_roundg (gk - 1)
      case rel => exact ⟨k + 1, by have := Hk.out; omega, by go_num, E1.out⟩
      case measure => have := Hk.out; omega
    · have ek : k = z := by omega
      subst ek
      rw [HZ1.out] at ua
      simp only [if_true] at ua
      clear hlt
      go_wp2
      obtain ⟨W1, hW1⟩ : ∃ x, x = wr := ⟨_, rfl⟩
      have E0 := E1.out
      rw [← hW1] at E0
      have HE1 := hid (HE0.out.trans E0)
      have HX := hid (X0.out.ext E0)
      have EW : Hid (Ext W1 wr) := by rw [hW1]; exact Ext.refl _
      clear X0 E1 E0 hW1 HE0 Hk hkz ua
      have hk1 : (k : Int) < 9 := by omega
      go_loopg [24, 9, 10] l.length (fun g i vc vt wr => ∃ (j : Nat) (c : Int) (t : Nat), j + g = l.length ∧ j ≤ 16 ∧ i = .int .i64 j ∧ vc = .int .i64 c ∧ vt = .int .i64 t ∧ 0 ≤ c ∧ c ≤ 50 * (j : Int) ∧ t < 256 ∧ Hid (c = costL rs (l.take j)) ∧ Hid (t = touchN 0 (edges rs (l.take j))) ∧ Hid (Upto rs l j) ∧ Hid (Ext W1 wr))
      case atStart => exact ⟨0, 0, 0, by omega, by omega, rfl, rfl, rfl, by omega, by omega, by omega, rfl, rfl, fun j hj => by omega, EW⟩
      case round =>
        clear EW
        obtain ⟨j, c, t, hj, hj16, rfl, rfl, rfl, hc0, hc1, ht, CS, TN, UP, E⟩ := hrel
        have hjl : j ≤ l.length := by omega
        have Hj := hid hj
        clear hj
        by_cases hlt : j < l.length
        · obtain ⟨bl, ol, rfl, -, hce⟩ := HL.out.get j hlt
          have dk := hce _ (HE1.out.trans E.out)
          obtain ⟨c0, c1⟩ := (HX.out.ext E.out).cells
          obtain ⟨x, hx⟩ : ∃ x, x = fn l j := ⟨_, rfl⟩
          rw [← hx] at dk
          have HXX := hid hx
          have FAIL : Hid (¬ okAt rs l j → ¬ treeP rs s l) := fun h g => h (g.1 j hlt)
          clear hce hx
          by_cases x0 : x < 0
          · have HR := hid (FAIL.out (fun g => by have := g.1.1; rw [← HXX.out] at this; omega))
            go_wp2
            go_ret2
            exact ⟨.inr ⟨HR.out, rfl⟩, HE1.out.trans E.out⟩
          · by_cases x1 : (rs.length : Int) ≤ x
            · have HR := hid (FAIL.out (fun g => by have := g.1.2.1; rw [← HXX.out] at this; omega))
              go_wp2
              go_ret2
              exact ⟨.inr ⟨HR.out, rfl⟩, HE1.out.trans E.out⟩
            · obtain ⟨q, hq⟩ := Int.eq_ofNat_of_zero_le (show 0 ≤ x by omega)
              subst hq
              have hql : q < rs.length := by omega
              have hqi : (q : Int) < rs.length := by omega
              by_cases k0 : 0 < j
              · obtain ⟨bl', ol', hbe, -, hcp⟩ := HL.out.get (j - 1) (by omega)
                simp only [Option.some.injEq, Addr.mk.injEq, and_true] at hbe
                obtain ⟨rfl, rfl⟩ := hbe
                have dp := hcp _ (HE1.out.trans E.out)
                obtain ⟨y, hy⟩ : ∃ y, y = fn l (j - 1) := ⟨_, rfl⟩
                rw [← hy] at dp
                have HY := hid hy
                clear hcp hy
                by_cases yx : (q : Int) ≤ y
                · have HR := hid (FAIL.out (fun g => by have := g.1.2.2 k0; rw [← HXX.out, ← HY.out] at this; omega))
                  go_wp2
                  go_ret2
                  exact ⟨.inr ⟨HR.out, rfl⟩, HE1.out.trans E.out⟩
                · have HI : Hid (0 ≤ fn l j ∧ fn l j < rs.length ∧ (0 < j → fn l (j - 1) < fn l j)) := by
                    show _ ∧ _
                    rw [← HXX.out, ← HY.out]
                    exact ⟨by omega, by omega, fun _ => by omega⟩
                  obtain ⟨bb, off, rfl, -, hcc⟩ := Roads.get HV.out q hql
                  obtain ⟨r0, r1, r2⟩ := hcc _ (HE1.out.trans E.out)
                  have Htk : Hid (edges rs (l.take (j + 1)) = edges rs (l.take j) ++ [roadAt rs q]) := by
                    show _ = _
                    rw [List.take_succ_eq_append_getElem hlt]
                    unfold edges
                    rw [List.map_append, ← fn_get hlt, ← HXX.out]
                    rfl
                  have HQ : Hid (roadAt rs (fn l j).toNat = roadAt rs q) := by show _ = _; rw [← HXX.out]; rfl
                  obtain ⟨q1, q2, q3, q4, -, q6, q7⟩ := roadOk_iff.1 (HAll.out _ (roadAt_mem hql))
                  obtain ⟨r, hr⟩ : ∃ r, r = roadAt rs q := ⟨_, rfl⟩
                  rw [← hr] at r0 r1 r2 Htk HQ q1 q2 q3 q4 q6 q7
                  have hla : r.a.toNat < 8 := by omega
                  have hlb : r.b.toNat < 8 := by omega
                  have hlN : r.a.toNat < N := by omega
                  have hlN2 : r.b.toNat < N := by omega
                  have hb9 : r.b < 64 := by omega
                  have ha9 : r.a < 64 := by omega
                  have HIX : Hid (∀ i ∈ l.take j, 0 ≤ i ∧ i < rs.length) := fun i hi => by
                    obtain ⟨m, hm, rfl⟩ := List.getElem_of_mem hi
                    rw [List.length_take] at hm
                    have := (UP.out m (by omega)).1
                    rw [fn_get (by omega)] at this
                    rw [List.getElem_take]
                    exact ⟨this.1, this.2.1⟩
                  have HEd : Hid (∀ r ∈ edges rs (l.take j), r.a.toNat < N ∧ r.b.toNat < N) := edges_in HAll.out HIX.out
                  have hmlt := meetN_lt (E := edges rs (l.take j)) (fun r hr => by have := HEd.out r hr; omega) hla N
                  have HJB := hid (joined_bit HEd.out hN8 hlN r.b.toNat)
                  obtain ⟨m, hm⟩ : ∃ m, m = meetN (edges rs (l.take j)) (2 ^ r.a.toNat) N := ⟨_, rfl⟩
                  rw [← hm] at hmlt HJB
                  obtain ⟨u0, u1⟩ := div_in m r.b.toNat (by omega) (by omega)
                  have ub := bits_one _ u0 (by omega)
                  rw [bit_zero] at ub
                  obtain ⟨b1, hb1⟩ : ∃ b1 : Int, b1 = (if m.testBit r.b.toNat then 1 else 0) := ⟨_, rfl⟩
                  rw [← hb1] at ub
                  have HB1 := hid hb1
                  clear hb1
                  have hbl := both_lt hla hlb
                  have pa : 2 ^ r.a.toNat < 2 ^ 62 := Nat.pow_lt_pow_right (by decide) (by omega)
                  have pb : 2 ^ r.b.toNat < 2 ^ 62 := Nat.pow_lt_pow_right (by decide) (by omega)
                  obtain ⟨xa, hxa⟩ : ∃ x, x = 2 ^ r.a.toNat := ⟨_, rfl⟩
                  obtain ⟨xb, hxb⟩ : ∃ x, x = 2 ^ r.b.toNat := ⟨_, rfl⟩
                  have ea : ((2 : Int) ^ r.a.toNat) = (xa : Int) := by rw [hxa]; simp
                  have eb : ((2 : Int) ^ r.b.toNat) = (xb : Int) := by rw [hxb]; simp
                  have wa : IntKind.i64.wrap (2 ^ r.a.toNat) = (xa : Int) := by rw [ea]; exact wraps_i64_62 _ (by omega) (by omega)
                  have wb : IntKind.i64.wrap (2 ^ r.b.toNat) = (xb : Int) := by rw [eb]; exact wraps_i64_62 _ (by omega) (by omega)
                  have wo : bits .or .i64 xa xb = (bothN r : Int) := by rw [bits_or_nat xa xb (by omega) (by omega), hxa, hxb]; rfl
                  have wm : bits .or .i64 t (bothN r) = ((t ||| bothN r : Nat) : Int) := bits_or_nat t (bothN r) (by omega) (by omega)
                  have ht2 : t ||| bothN r < 256 := Nat.or_lt_two_pow (n := 8) ht hbl
                  have CS2 : Hid (c + r.cost = costL rs (l.take (j + 1))) := by
                    show _ = _
                    unfold costL
                    rw [Htk.out, List.foldl_append, CS.out]; rfl
                  have TN2 : Hid (t ||| bothN r = touchN 0 (edges rs (l.take (j + 1)))) := by
                    show _ = _
                    unfold touchN
                    rw [Htk.out, List.foldl_append, TN.out]; rfl
                  have HRV := hid (HV.out.ext (HE1.out.trans (E.out.trans (Ext.ofAlloc wr (.cells #[.int .i64 r.a, .int .i64 r.b, .int .i64 r.cost] 51)).drew)))
                  have HLV := hid ((HL.out.take (k := j) hjl).ext (HE1.out.trans (E.out.trans (Ext.ofAlloc wr (.cells #[.int .i64 r.a, .int .i64 r.b, .int .i64 r.cost] 51)).drew)))
                  obtain ⟨z0, z1, z2⟩ := (Box3.alloc wr 51 (.int .i64 r.a) (.int .i64 r.b) (.int .i64 r.cost)).cells
                  have c0' := (Ext.ofAlloc wr (.cells #[.int .i64 r.a, .int .i64 r.b, .int .i64 r.cost] 51)).cell c0
                  have c1' := (Ext.ofAlloc wr (.cells #[.int .i64 r.a, .int .i64 r.b, .int .i64 r.cost] 51)).cell c1
                  have EA := hid (E.out.trans (Ext.ofAlloc wr (.cells #[.int .i64 r.a, .int .i64 r.b, .int .i64 r.cost] 51)).drew)
                  obtain ⟨bo, hbo⟩ : ∃ x, x = bothN r := ⟨_, rfl⟩
                  rw [← hbo] at wo wm ht2 TN2
                  obtain ⟨gr, hgr⟩ : ∃ g, g = wr.heap.size := ⟨_, rfl⟩
                  have HM := hid hm
                  have hji : (j : Int) ≤ l.length := by omega
                  have hjc : j ≤ cl := by omega
                  clear hbo hr hcc pa pb hxa hxb ea eb hbl u0 u1 hm
                  go_wp2
                  rw [← hgr] at z0 z1 z2 ⊢
                  generalize wr.alloc (.cells #[.int .i64 r.a, .int .i64 r.b, .int .i64 r.cost] 51) = V at *
                  clear hgr c0 c1 dk r0 r1 r2 dp
                  refine wp_region_held_drew (S := (fun w' => w'.cell? ⟨w.heap.size, 0, none⟩ = some (.int .i64 N) ∧ w'.cell? ⟨w.heap.size, 1, none⟩ = some (.slice (some ⟨bb, off, none⟩) rs.length cap) ∧ w'.cell? ⟨gr, 0, none⟩ = some (.int .i64 r.a) ∧ w'.cell? ⟨gr, 1, none⟩ = some (.int .i64 r.b) ∧ w'.cell? ⟨gr, 2, none⟩ = some (.int .i64 r.cost))) (by kernel_rfl) ?hSa0 (fun hHeld => ?_)
                  case hSa0 => (first | (exact ⟨c0', c1', z0, z1, z2⟩) | ((try dsimp only); exact ⟨c0', c1', z0, z1, z2⟩))
                  refine wpAnyH_tk 0 (v := ?va0) rfl (by kernel_rfl) (by kernel_rfl) (by kernel_rfl) (fun _ _ _ h => h) (by rfl) ?hya0 (by assumption) ?_
                  case hya0 => (intro w hSw; (try dsimp only at hSw); go_simp <;> with_reducible rfl)
                  (try simp only [Act.put, List.setIfInBounds_toArray, List.set_cons_zero, List.set_cons_succ])
                  refine wpAnyH_tk 1 (v := ?va1) rfl (by kernel_rfl) (by kernel_rfl) (by kernel_rfl) (fun _ _ _ h => h) (by rfl) ?hya1 (by assumption) ?_
                  case hya1 => (intro w hSw; (try dsimp only at hSw); go_simp <;> with_reducible rfl)
                  (try simp only [Act.put, List.setIfInBounds_toArray, List.set_cons_zero, List.set_cons_succ])
                  refine wpAnyH_tk 2 (v := ?va2) rfl (by kernel_rfl) (by kernel_rfl) (by kernel_rfl) (fun _ _ _ h => h) (by rfl) ?hya2 (by assumption) ?_
                  case hya2 => (intro w hSw; (try dsimp only at hSw); go_simp <;> with_reducible rfl)
                  (try simp only [Act.put, List.setIfInBounds_toArray, List.set_cons_zero, List.set_cons_succ])
                  refine wpAnyH_tk 3 (v := ?va3) rfl (by kernel_rfl) (by kernel_rfl) (by kernel_rfl) (fun _ _ _ h => h) (by rfl) ?hya3 (by assumption) ?_
                  case hya3 => (intro w hSw; (try dsimp only at hSw); go_simp <;> with_reducible rfl)
                  (try simp only [Act.put, List.setIfInBounds_toArray, List.set_cons_zero, List.set_cons_succ])
                  refine wpAnyH_tk 4 (v := ?va4) rfl (by kernel_rfl) (by kernel_rfl) (by kernel_rfl) (fun _ _ _ h => h) (by rfl) ?hya4 (by assumption) ?_
                  case hya4 => (intro w hSw; (try dsimp only at hSw); go_simp <;> with_reducible rfl)
                  (try simp only [Act.put, List.setIfInBounds_toArray, List.set_cons_zero, List.set_cons_succ])
                  refine wpAnyH_tk 5 (v := ?va5) rfl (by kernel_rfl) (by kernel_rfl) (by kernel_rfl) (fun _ _ _ h => h) (by rfl) ?hya5 (by assumption) ?_
                  case hya5 => (intro w hSw; (try dsimp only at hSw); go_simp <;> with_reducible rfl)
                  (try simp only [Act.put, List.setIfInBounds_toArray, List.set_cons_zero, List.set_cons_succ])
                  refine wpAnyH_tk 7 (v := ?va7) rfl (by kernel_rfl) (by kernel_rfl) (by kernel_rfl) (fun _ _ _ h => h) (by rfl) ?hya7 (by assumption) ?_
                  case hya7 => (intro w hSw; (try dsimp only at hSw); go_simp <;> with_reducible rfl)
                  (try simp only [Act.put, List.setIfInBounds_toArray, List.set_cons_zero, List.set_cons_succ])
                  refine wpAnyH_tk 8 (v := ?va8) rfl (by kernel_rfl) (by kernel_rfl) (by kernel_rfl) (fun _ _ _ h => h) (by rfl) ?hya8 (by assumption) ?_
                  case hya8 => (intro w hSw; (try dsimp only at hSw); go_simp <;> with_reducible rfl)
                  (try simp only [Act.put, List.setIfInBounds_toArray, List.set_cons_zero, List.set_cons_succ])
                  refine wpAnyH_one 6 rfl (by kernel_rfl) (by rfl) (fun K hK => ?_)
                  go_simp
                  (obtain ⟨ra, hra⟩ : ∃ n : Nat, r.a = n := Int.eq_ofNat_of_zero_le q1; go_at_call 34; simp only [hra]; refine (joined_any _ _ N rs (l.take j) ra _ HRV.out HLV.out HIX.out HAll.out hN8 (by omega) (edges rs (l.take j)) rfl).mono ?_; rintro e wB ⟨rfl, heB⟩; rw [show 2 ^ ra = 2 ^ r.a.toNat by rw [hra]; rfl, ← HM.out]; have d0 := heB.cell c0'; have d1 := heB.cell c1'; have y0 := heB.cell z0; have y1 := heB.cell z1; have y2 := heB.cell z2; have EB := hid (EA.out.trans heB); clear heB c0' c1' z0 z1 z2 hra)
                  refine hK.out _ _ ?hSa7 (fun hHeld => ?_)
                  case hSa7 => (first | (exact ⟨d0, d1, y0, y1, y2⟩) | ((try dsimp only); exact ⟨d0, d1, y0, y1, y2⟩))
                  clear hK K
                  (try simp only [Act.put, List.setIfInBounds_toArray, List.set_cons_zero, List.set_cons_succ])
                  refine wpAnyH_tk 9 (v := ?va9) rfl (by kernel_rfl) (by kernel_rfl) (by kernel_rfl) (fun _ _ _ h => h) (by rfl) ?hya9 (by assumption) ?_
                  case hya9 => (intro w hSw; (try dsimp only at hSw); go_simp <;> with_reducible rfl)
                  (try simp only [Act.put, List.setIfInBounds_toArray, List.set_cons_zero, List.set_cons_succ])
                  refine wpAnyH_tk 10 (v := ?va10) rfl (by kernel_rfl) (by kernel_rfl) (by kernel_rfl) (fun _ _ _ h => h) (by rfl) ?hya10 (by assumption) ?_
                  case hya10 => (intro w hSw; (try dsimp only at hSw); go_simp <;> with_reducible rfl)
                  (try simp only [Act.put, List.setIfInBounds_toArray, List.set_cons_zero, List.set_cons_succ])
                  refine wpAnyH_tk 11 (v := ?va11) rfl (by kernel_rfl) (by kernel_rfl) (by kernel_rfl) (fun _ _ _ h => h) (by rfl) ?hya11 (by assumption) ?_
                  case hya11 => (intro w hSw; (try dsimp only at hSw); go_simp <;> with_reducible rfl)
                  (try simp only [Act.put, List.setIfInBounds_toArray, List.set_cons_zero, List.set_cons_succ])
                  refine wpAnyH_done (by kernel_rfl) ?_ _
                  by_cases hj2 : m.testBit r.b.toNat = true
                  · have HR := hid (FAIL.out (fun g => g.2 (by rw [HQ.out]; exact HJB.out.1 hj2)))
                    have hb2 := HB1.out
                    rw [hj2] at hb2
                    simp only [if_true] at hb2
                    subst hb2
                    clear hj2 hHeld
                    go_wp2
                    go_ret2
                    exact ⟨.inr ⟨HR.out, rfl⟩, HE1.out.trans EB.out⟩
                  · have UP2 : Hid (Upto rs l (j + 1)) := fun i hi => by
                      by_cases e : i = j
                      · subst e
                        exact ⟨HI.out, by rw [HQ.out]; exact fun g => hj2 (HJB.out.2 g)⟩
                      · exact UP.out i (by omega)
                    have hk17 : j + 1 ≤ 16 := by
                      have key : ∀ i, i < j + 1 → (i : Int) ≤ fn l i := by
                        intro i
                        induction i with
                        | zero => intro h; exact (UP2.out 0 h).1.1
                        | succ i ih =>
                          intro h
                          have h1 := ih (by omega)
                          have h2 := (UP2.out (i + 1) h).1.2.2 (by omega)
                          rw [Nat.add_sub_cancel] at h2
                          omega
                      have h1 := key j (by omega)
                      have h2 := HI.out.2.1
                      omega
                    have hjb : m.testBit r.b.toNat = false := by cases e : m.testBit r.b.toNat; rfl; exact absurd e hj2
                    have hb2 := HB1.out
                    rw [hjb] at hb2
                    simp only [Bool.false_eq_true, if_false] at hb2
                    subst hb2
                    have hw1 : IntKind.i64.wrap (c + r.cost) = c + r.cost := wraps_i64_62 _ (by omega) (by omega)
                    have EC := hid EB.out.drew
                    clear hj2 hHeld hjb
                    go_wp2
                    refine wp_region_held_drew (S := (fun w' => w'.cell? ⟨gr, 0, none⟩ = some (.int .i64 r.a) ∧ w'.cell? ⟨gr, 1, none⟩ = some (.int .i64 r.b))) (by kernel_rfl) ?hSb0 (fun hHeld => ?_)
                    case hSb0 => (first | (exact ⟨y0, y1⟩) | ((try dsimp only); exact ⟨y0, y1⟩))
                    refine wpAnyH_tk 0 (v := ?vb0) rfl (by kernel_rfl) (by kernel_rfl) (by kernel_rfl) (fun _ _ _ h => h) (by rfl) ?hyb0 (by assumption) ?_
                    case hyb0 => (intro w hSw; (try dsimp only at hSw); go_simp <;> with_reducible rfl)
                    (try simp only [Act.put, List.setIfInBounds_toArray, List.set_cons_zero, List.set_cons_succ])
                    refine wpAnyH_tk 1 (v := ?vb1) rfl (by kernel_rfl) (by kernel_rfl) (by kernel_rfl) (fun _ _ _ h => h) (by rfl) ?hyb1 (by assumption) ?_
                    case hyb1 => (intro w hSw; (try dsimp only at hSw); go_simp <;> with_reducible rfl)
                    (try simp only [Act.put, List.setIfInBounds_toArray, List.set_cons_zero, List.set_cons_succ])
                    refine wpAnyH_tk 2 (v := ?vb2) rfl (by kernel_rfl) (by kernel_rfl) (by kernel_rfl) (fun _ _ _ h => h) (by rfl) ?hyb2 (by assumption) ?_
                    case hyb2 => (intro w hSw; (try dsimp only at hSw); go_simp <;> with_reducible rfl)
                    (try simp only [Act.put, List.setIfInBounds_toArray, List.set_cons_zero, List.set_cons_succ])
                    refine wpAnyH_tk 3 (v := ?vb3) rfl (by kernel_rfl) (by kernel_rfl) (by kernel_rfl) (fun _ _ _ h => h) (by rfl) ?hyb3 (by assumption) ?_
                    case hyb3 => (intro w hSw; (try dsimp only at hSw); go_simp <;> with_reducible rfl)
                    (try simp only [Act.put, List.setIfInBounds_toArray, List.set_cons_zero, List.set_cons_succ])
                    refine wpAnyH_tk 4 (v := ?vb4) rfl (by kernel_rfl) (by kernel_rfl) (by kernel_rfl) (fun _ _ _ h => h) (by rfl) ?hyb4 (by assumption) ?_
                    case hyb4 => (intro w hSw; (try dsimp only at hSw); go_simp <;> with_reducible rfl)
                    (try simp only [Act.put, List.setIfInBounds_toArray, List.set_cons_zero, List.set_cons_succ])
                    refine wpAnyH_tk 5 (v := ?vb5) rfl (by kernel_rfl) (by kernel_rfl) (by kernel_rfl) (fun _ _ _ h => h) (by rfl) ?hyb5 (by assumption) ?_
                    case hyb5 => (intro w hSw; (try dsimp only at hSw); go_simp <;> with_reducible rfl)
                    (try simp only [Act.put, List.setIfInBounds_toArray, List.set_cons_zero, List.set_cons_succ])
                    refine wpAnyH_tk 6 (v := ?vb6) rfl (by kernel_rfl) (by kernel_rfl) (by kernel_rfl) (fun _ _ _ h => h) (by rfl) ?hyb6 (by assumption) ?_
                    case hyb6 => (intro w hSw; (try dsimp only at hSw); go_simp <;> with_reducible rfl)
                    (try simp only [Act.put, List.setIfInBounds_toArray, List.set_cons_zero, List.set_cons_succ])
                    refine wpAnyH_tk 7 (v := ?vb7) rfl (by kernel_rfl) (by kernel_rfl) (by kernel_rfl) (fun _ _ _ h => h) (by rfl) ?hyb7 (by assumption) ?_
                    case hyb7 => (intro w hSw; (try dsimp only at hSw); go_simp <;> with_reducible rfl)
                    (try simp only [Act.put, List.setIfInBounds_toArray, List.set_cons_zero, List.set_cons_succ])
                    refine wpAnyH_tk 8 (v := ?vb8) rfl (by kernel_rfl) (by kernel_rfl) (by kernel_rfl) (fun _ _ _ h => h) (by rfl) ?hyb8 (by assumption) ?_
                    case hyb8 => (intro w hSw; (try dsimp only at hSw); go_simp <;> with_reducible rfl)
                    (try simp only [Act.put, List.setIfInBounds_toArray, List.set_cons_zero, List.set_cons_succ])
                    refine wpAnyH_tk 9 (v := ?vb9) rfl (by kernel_rfl) (by kernel_rfl) (by kernel_rfl) (fun _ _ _ h => h) (by rfl) ?hyb9 (by assumption) ?_
                    case hyb9 => (intro w hSw; (try dsimp only at hSw); go_simp <;> with_reducible rfl)
                    (try simp only [Act.put, List.setIfInBounds_toArray, List.set_cons_zero, List.set_cons_succ])
                    refine wpAnyH_done (by kernel_rfl) ?_ _
                    clear hHeld
                    go_wp2
                    go_roundg (gk - 1)
                    case rel => exact ⟨j + 1, c + r.cost, t ||| bo, by have := Hj.out; omega, hk17, by go_num, by go_num, rfl, by omega, by omega, ht2, CS2, TN2, UP2, EC⟩
                    case measure => have := Hj.out; omega
              · have ek : j = 0 := by omega
                have hk0 : ¬ ((j : Int) > 0) := by omega
                have HI : Hid (0 ≤ fn l j ∧ fn l j < rs.length ∧ (0 < j → fn l (j - 1) < fn l j)) := by
                  show _ ∧ _
                  rw [← HXX.out]
                  exact ⟨by omega, by omega, fun h => by omega⟩
                clear ek
                obtain ⟨bb, off, rfl, -, hcc⟩ := Roads.get HV.out q hql
                obtain ⟨r0, r1, r2⟩ := hcc _ (HE1.out.trans E.out)
                have Htk : Hid (edges rs (l.take (j + 1)) = edges rs (l.take j) ++ [roadAt rs q]) := by
                  show _ = _
                  rw [List.take_succ_eq_append_getElem hlt]
                  unfold edges
                  rw [List.map_append, ← fn_get hlt, ← HXX.out]
                  rfl
                have HQ : Hid (roadAt rs (fn l j).toNat = roadAt rs q) := by show _ = _; rw [← HXX.out]; rfl
                obtain ⟨q1, q2, q3, q4, -, q6, q7⟩ := roadOk_iff.1 (HAll.out _ (roadAt_mem hql))
                obtain ⟨r, hr⟩ : ∃ r, r = roadAt rs q := ⟨_, rfl⟩
                rw [← hr] at r0 r1 r2 Htk HQ q1 q2 q3 q4 q6 q7
                have hla : r.a.toNat < 8 := by omega
                have hlb : r.b.toNat < 8 := by omega
                have hlN : r.a.toNat < N := by omega
                have hlN2 : r.b.toNat < N := by omega
                have hb9 : r.b < 64 := by omega
                have ha9 : r.a < 64 := by omega
                have HIX : Hid (∀ i ∈ l.take j, 0 ≤ i ∧ i < rs.length) := fun i hi => by
                  obtain ⟨m, hm, rfl⟩ := List.getElem_of_mem hi
                  rw [List.length_take] at hm
                  have := (UP.out m (by omega)).1
                  rw [fn_get (by omega)] at this
                  rw [List.getElem_take]
                  exact ⟨this.1, this.2.1⟩
                have HEd : Hid (∀ r ∈ edges rs (l.take j), r.a.toNat < N ∧ r.b.toNat < N) := edges_in HAll.out HIX.out
                have hmlt := meetN_lt (E := edges rs (l.take j)) (fun r hr => by have := HEd.out r hr; omega) hla N
                have HJB := hid (joined_bit HEd.out hN8 hlN r.b.toNat)
                obtain ⟨m, hm⟩ : ∃ m, m = meetN (edges rs (l.take j)) (2 ^ r.a.toNat) N := ⟨_, rfl⟩
                rw [← hm] at hmlt HJB
                obtain ⟨u0, u1⟩ := div_in m r.b.toNat (by omega) (by omega)
                have ub := bits_one _ u0 (by omega)
                rw [bit_zero] at ub
                obtain ⟨b1, hb1⟩ : ∃ b1 : Int, b1 = (if m.testBit r.b.toNat then 1 else 0) := ⟨_, rfl⟩
                rw [← hb1] at ub
                have HB1 := hid hb1
                clear hb1
                have hbl := both_lt hla hlb
                have pa : 2 ^ r.a.toNat < 2 ^ 62 := Nat.pow_lt_pow_right (by decide) (by omega)
                have pb : 2 ^ r.b.toNat < 2 ^ 62 := Nat.pow_lt_pow_right (by decide) (by omega)
                obtain ⟨xa, hxa⟩ : ∃ x, x = 2 ^ r.a.toNat := ⟨_, rfl⟩
                obtain ⟨xb, hxb⟩ : ∃ x, x = 2 ^ r.b.toNat := ⟨_, rfl⟩
                have ea : ((2 : Int) ^ r.a.toNat) = (xa : Int) := by rw [hxa]; simp
                have eb : ((2 : Int) ^ r.b.toNat) = (xb : Int) := by rw [hxb]; simp
                have wa : IntKind.i64.wrap (2 ^ r.a.toNat) = (xa : Int) := by rw [ea]; exact wraps_i64_62 _ (by omega) (by omega)
                have wb : IntKind.i64.wrap (2 ^ r.b.toNat) = (xb : Int) := by rw [eb]; exact wraps_i64_62 _ (by omega) (by omega)
                have wo : bits .or .i64 xa xb = (bothN r : Int) := by rw [bits_or_nat xa xb (by omega) (by omega), hxa, hxb]; rfl
                have wm : bits .or .i64 t (bothN r) = ((t ||| bothN r : Nat) : Int) := bits_or_nat t (bothN r) (by omega) (by omega)
                have ht2 : t ||| bothN r < 256 := Nat.or_lt_two_pow (n := 8) ht hbl
                have CS2 : Hid (c + r.cost = costL rs (l.take (j + 1))) := by
                  show _ = _
                  unfold costL
                  rw [Htk.out, List.foldl_append, CS.out]; rfl
                have TN2 : Hid (t ||| bothN r = touchN 0 (edges rs (l.take (j + 1)))) := by
                  show _ = _
                  unfold touchN
                  rw [Htk.out, List.foldl_append, TN.out]; rfl
                have HRV := hid (HV.out.ext (HE1.out.trans (E.out.trans (Ext.ofAlloc wr (.cells #[.int .i64 r.a, .int .i64 r.b, .int .i64 r.cost] 51)).drew)))
                have HLV := hid ((HL.out.take (k := j) hjl).ext (HE1.out.trans (E.out.trans (Ext.ofAlloc wr (.cells #[.int .i64 r.a, .int .i64 r.b, .int .i64 r.cost] 51)).drew)))
                obtain ⟨z0, z1, z2⟩ := (Box3.alloc wr 51 (.int .i64 r.a) (.int .i64 r.b) (.int .i64 r.cost)).cells
                have c0' := (Ext.ofAlloc wr (.cells #[.int .i64 r.a, .int .i64 r.b, .int .i64 r.cost] 51)).cell c0
                have c1' := (Ext.ofAlloc wr (.cells #[.int .i64 r.a, .int .i64 r.b, .int .i64 r.cost] 51)).cell c1
                have EA := hid (E.out.trans (Ext.ofAlloc wr (.cells #[.int .i64 r.a, .int .i64 r.b, .int .i64 r.cost] 51)).drew)
                obtain ⟨bo, hbo⟩ : ∃ x, x = bothN r := ⟨_, rfl⟩
                rw [← hbo] at wo wm ht2 TN2
                obtain ⟨gr, hgr⟩ : ∃ g, g = wr.heap.size := ⟨_, rfl⟩
                have HM := hid hm
                have hji : (j : Int) ≤ l.length := by omega
                have hjc : j ≤ cl := by omega
                clear hbo hr hcc pa pb hxa hxb ea eb hbl u0 u1 hm
                go_wp2
                rw [← hgr] at z0 z1 z2 ⊢
                generalize wr.alloc (.cells #[.int .i64 r.a, .int .i64 r.b, .int .i64 r.cost] 51) = V at *
                clear hgr c0 c1 dk r0 r1 r2
                refine wp_region_held_drew (S := (fun w' => w'.cell? ⟨w.heap.size, 0, none⟩ = some (.int .i64 N) ∧ w'.cell? ⟨w.heap.size, 1, none⟩ = some (.slice (some ⟨bb, off, none⟩) rs.length cap) ∧ w'.cell? ⟨gr, 0, none⟩ = some (.int .i64 r.a) ∧ w'.cell? ⟨gr, 1, none⟩ = some (.int .i64 r.b) ∧ w'.cell? ⟨gr, 2, none⟩ = some (.int .i64 r.cost))) (by kernel_rfl) ?hSc0 (fun hHeld => ?_)
                case hSc0 => (first | (exact ⟨c0', c1', z0, z1, z2⟩) | ((try dsimp only); exact ⟨c0', c1', z0, z1, z2⟩))
                refine wpAnyH_tk 0 (v := ?vc0) rfl (by kernel_rfl) (by kernel_rfl) (by kernel_rfl) (fun _ _ _ h => h) (by rfl) ?hyc0 (by assumption) ?_
                case hyc0 => (intro w hSw; (try dsimp only at hSw); go_simp <;> with_reducible rfl)
                (try simp only [Act.put, List.setIfInBounds_toArray, List.set_cons_zero, List.set_cons_succ])
                refine wpAnyH_tk 1 (v := ?vc1) rfl (by kernel_rfl) (by kernel_rfl) (by kernel_rfl) (fun _ _ _ h => h) (by rfl) ?hyc1 (by assumption) ?_
                case hyc1 => (intro w hSw; (try dsimp only at hSw); go_simp <;> with_reducible rfl)
                (try simp only [Act.put, List.setIfInBounds_toArray, List.set_cons_zero, List.set_cons_succ])
                refine wpAnyH_tk 2 (v := ?vc2) rfl (by kernel_rfl) (by kernel_rfl) (by kernel_rfl) (fun _ _ _ h => h) (by rfl) ?hyc2 (by assumption) ?_
                case hyc2 => (intro w hSw; (try dsimp only at hSw); go_simp <;> with_reducible rfl)
                (try simp only [Act.put, List.setIfInBounds_toArray, List.set_cons_zero, List.set_cons_succ])
                refine wpAnyH_tk 3 (v := ?vc3) rfl (by kernel_rfl) (by kernel_rfl) (by kernel_rfl) (fun _ _ _ h => h) (by rfl) ?hyc3 (by assumption) ?_
                case hyc3 => (intro w hSw; (try dsimp only at hSw); go_simp <;> with_reducible rfl)
                (try simp only [Act.put, List.setIfInBounds_toArray, List.set_cons_zero, List.set_cons_succ])
                refine wpAnyH_tk 4 (v := ?vc4) rfl (by kernel_rfl) (by kernel_rfl) (by kernel_rfl) (fun _ _ _ h => h) (by rfl) ?hyc4 (by assumption) ?_
                case hyc4 => (intro w hSw; (try dsimp only at hSw); go_simp <;> with_reducible rfl)
                (try simp only [Act.put, List.setIfInBounds_toArray, List.set_cons_zero, List.set_cons_succ])
                refine wpAnyH_tk 5 (v := ?vc5) rfl (by kernel_rfl) (by kernel_rfl) (by kernel_rfl) (fun _ _ _ h => h) (by rfl) ?hyc5 (by assumption) ?_
                case hyc5 => (intro w hSw; (try dsimp only at hSw); go_simp <;> with_reducible rfl)
                (try simp only [Act.put, List.setIfInBounds_toArray, List.set_cons_zero, List.set_cons_succ])
                refine wpAnyH_tk 7 (v := ?vc7) rfl (by kernel_rfl) (by kernel_rfl) (by kernel_rfl) (fun _ _ _ h => h) (by rfl) ?hyc7 (by assumption) ?_
                case hyc7 => (intro w hSw; (try dsimp only at hSw); go_simp <;> with_reducible rfl)
                (try simp only [Act.put, List.setIfInBounds_toArray, List.set_cons_zero, List.set_cons_succ])
                refine wpAnyH_tk 8 (v := ?vc8) rfl (by kernel_rfl) (by kernel_rfl) (by kernel_rfl) (fun _ _ _ h => h) (by rfl) ?hyc8 (by assumption) ?_
                case hyc8 => (intro w hSw; (try dsimp only at hSw); go_simp <;> with_reducible rfl)
                (try simp only [Act.put, List.setIfInBounds_toArray, List.set_cons_zero, List.set_cons_succ])
                refine wpAnyH_one 6 rfl (by kernel_rfl) (by rfl) (fun K hK => ?_)
                go_simp
                (obtain ⟨ra, hra⟩ : ∃ n : Nat, r.a = n := Int.eq_ofNat_of_zero_le q1; go_at_call 34; simp only [hra]; refine (joined_any _ _ N rs (l.take j) ra _ HRV.out HLV.out HIX.out HAll.out hN8 (by omega) (edges rs (l.take j)) rfl).mono ?_; rintro e wB ⟨rfl, heB⟩; rw [show 2 ^ ra = 2 ^ r.a.toNat by rw [hra]; rfl, ← HM.out]; have d0 := heB.cell c0'; have d1 := heB.cell c1'; have y0 := heB.cell z0; have y1 := heB.cell z1; have y2 := heB.cell z2; have EB := hid (EA.out.trans heB); clear heB c0' c1' z0 z1 z2 hra)
                refine hK.out _ _ ?hSc7 (fun hHeld => ?_)
                case hSc7 => (first | (exact ⟨d0, d1, y0, y1, y2⟩) | ((try dsimp only); exact ⟨d0, d1, y0, y1, y2⟩))
                clear hK K
                (try simp only [Act.put, List.setIfInBounds_toArray, List.set_cons_zero, List.set_cons_succ])
                refine wpAnyH_tk 9 (v := ?vc9) rfl (by kernel_rfl) (by kernel_rfl) (by kernel_rfl) (fun _ _ _ h => h) (by rfl) ?hyc9 (by assumption) ?_
                case hyc9 => (intro w hSw; (try dsimp only at hSw); go_simp <;> with_reducible rfl)
                (try simp only [Act.put, List.setIfInBounds_toArray, List.set_cons_zero, List.set_cons_succ])
                refine wpAnyH_tk 10 (v := ?vc10) rfl (by kernel_rfl) (by kernel_rfl) (by kernel_rfl) (fun _ _ _ h => h) (by rfl) ?hyc10 (by assumption) ?_
                case hyc10 => (intro w hSw; (try dsimp only at hSw); go_simp <;> with_reducible rfl)
                (try simp only [Act.put, List.setIfInBounds_toArray, List.set_cons_zero, List.set_cons_succ])
                refine wpAnyH_tk 11 (v := ?vc11) rfl (by kernel_rfl) (by kernel_rfl) (by kernel_rfl) (fun _ _ _ h => h) (by rfl) ?hyc11 (by assumption) ?_
                case hyc11 => (intro w hSw; (try dsimp only at hSw); go_simp <;> with_reducible rfl)
                (try simp only [Act.put, List.setIfInBounds_toArray, List.set_cons_zero, List.set_cons_succ])
                refine wpAnyH_done (by kernel_rfl) ?_ _
                by_cases hj2 : m.testBit r.b.toNat = true
                · have HR := hid (FAIL.out (fun g => g.2 (by rw [HQ.out]; exact HJB.out.1 hj2)))
                  have hb2 := HB1.out
                  rw [hj2] at hb2
                  simp only [if_true] at hb2
                  subst hb2
                  clear hj2 hHeld
                  go_wp2
                  go_ret2
                  exact ⟨.inr ⟨HR.out, rfl⟩, HE1.out.trans EB.out⟩
                · have UP2 : Hid (Upto rs l (j + 1)) := fun i hi => by
                    by_cases e : i = j
                    · subst e
                      exact ⟨HI.out, by rw [HQ.out]; exact fun g => hj2 (HJB.out.2 g)⟩
                    · exact UP.out i (by omega)
                  have hk17 : j + 1 ≤ 16 := by
                    have key : ∀ i, i < j + 1 → (i : Int) ≤ fn l i := by
                      intro i
                      induction i with
                      | zero => intro h; exact (UP2.out 0 h).1.1
                      | succ i ih =>
                        intro h
                        have h1 := ih (by omega)
                        have h2 := (UP2.out (i + 1) h).1.2.2 (by omega)
                        rw [Nat.add_sub_cancel] at h2
                        omega
                    have h1 := key j (by omega)
                    have h2 := HI.out.2.1
                    omega
                  have hjb : m.testBit r.b.toNat = false := by cases e : m.testBit r.b.toNat; rfl; exact absurd e hj2
                  have hb2 := HB1.out
                  rw [hjb] at hb2
                  simp only [Bool.false_eq_true, if_false] at hb2
                  subst hb2
                  have hw1 : IntKind.i64.wrap (c + r.cost) = c + r.cost := wraps_i64_62 _ (by omega) (by omega)
                  have EC := hid EB.out.drew
                  clear hj2 hHeld hjb
                  go_wp2
                  refine wp_region_held_drew (S := (fun w' => w'.cell? ⟨gr, 0, none⟩ = some (.int .i64 r.a) ∧ w'.cell? ⟨gr, 1, none⟩ = some (.int .i64 r.b))) (by kernel_rfl) ?hSd0 (fun hHeld => ?_)
                  case hSd0 => (first | (exact ⟨y0, y1⟩) | ((try dsimp only); exact ⟨y0, y1⟩))
                  refine wpAnyH_tk 0 (v := ?vd0) rfl (by kernel_rfl) (by kernel_rfl) (by kernel_rfl) (fun _ _ _ h => h) (by rfl) ?hyd0 (by assumption) ?_
                  case hyd0 => (intro w hSw; (try dsimp only at hSw); go_simp <;> with_reducible rfl)
                  (try simp only [Act.put, List.setIfInBounds_toArray, List.set_cons_zero, List.set_cons_succ])
                  refine wpAnyH_tk 1 (v := ?vd1) rfl (by kernel_rfl) (by kernel_rfl) (by kernel_rfl) (fun _ _ _ h => h) (by rfl) ?hyd1 (by assumption) ?_
                  case hyd1 => (intro w hSw; (try dsimp only at hSw); go_simp <;> with_reducible rfl)
                  (try simp only [Act.put, List.setIfInBounds_toArray, List.set_cons_zero, List.set_cons_succ])
                  refine wpAnyH_tk 2 (v := ?vd2) rfl (by kernel_rfl) (by kernel_rfl) (by kernel_rfl) (fun _ _ _ h => h) (by rfl) ?hyd2 (by assumption) ?_
                  case hyd2 => (intro w hSw; (try dsimp only at hSw); go_simp <;> with_reducible rfl)
                  (try simp only [Act.put, List.setIfInBounds_toArray, List.set_cons_zero, List.set_cons_succ])
                  refine wpAnyH_tk 3 (v := ?vd3) rfl (by kernel_rfl) (by kernel_rfl) (by kernel_rfl) (fun _ _ _ h => h) (by rfl) ?hyd3 (by assumption) ?_
                  case hyd3 => (intro w hSw; (try dsimp only at hSw); go_simp <;> with_reducible rfl)
                  (try simp only [Act.put, List.setIfInBounds_toArray, List.set_cons_zero, List.set_cons_succ])
                  refine wpAnyH_tk 4 (v := ?vd4) rfl (by kernel_rfl) (by kernel_rfl) (by kernel_rfl) (fun _ _ _ h => h) (by rfl) ?hyd4 (by assumption) ?_
                  case hyd4 => (intro w hSw; (try dsimp only at hSw); go_simp <;> with_reducible rfl)
                  (try simp only [Act.put, List.setIfInBounds_toArray, List.set_cons_zero, List.set_cons_succ])
                  refine wpAnyH_tk 5 (v := ?vd5) rfl (by kernel_rfl) (by kernel_rfl) (by kernel_rfl) (fun _ _ _ h => h) (by rfl) ?hyd5 (by assumption) ?_
                  case hyd5 => (intro w hSw; (try dsimp only at hSw); go_simp <;> with_reducible rfl)
                  (try simp only [Act.put, List.setIfInBounds_toArray, List.set_cons_zero, List.set_cons_succ])
                  refine wpAnyH_tk 6 (v := ?vd6) rfl (by kernel_rfl) (by kernel_rfl) (by kernel_rfl) (fun _ _ _ h => h) (by rfl) ?hyd6 (by assumption) ?_
                  case hyd6 => (intro w hSw; (try dsimp only at hSw); go_simp <;> with_reducible rfl)
                  (try simp only [Act.put, List.setIfInBounds_toArray, List.set_cons_zero, List.set_cons_succ])
                  refine wpAnyH_tk 7 (v := ?vd7) rfl (by kernel_rfl) (by kernel_rfl) (by kernel_rfl) (fun _ _ _ h => h) (by rfl) ?hyd7 (by assumption) ?_
                  case hyd7 => (intro w hSw; (try dsimp only at hSw); go_simp <;> with_reducible rfl)
                  (try simp only [Act.put, List.setIfInBounds_toArray, List.set_cons_zero, List.set_cons_succ])
                  refine wpAnyH_tk 8 (v := ?vd8) rfl (by kernel_rfl) (by kernel_rfl) (by kernel_rfl) (fun _ _ _ h => h) (by rfl) ?hyd8 (by assumption) ?_
                  case hyd8 => (intro w hSw; (try dsimp only at hSw); go_simp <;> with_reducible rfl)
                  (try simp only [Act.put, List.setIfInBounds_toArray, List.set_cons_zero, List.set_cons_succ])
                  refine wpAnyH_tk 9 (v := ?vd9) rfl (by kernel_rfl) (by kernel_rfl) (by kernel_rfl) (fun _ _ _ h => h) (by rfl) ?hyd9 (by assumption) ?_
                  case hyd9 => (intro w hSw; (try dsimp only at hSw); go_simp <;> with_reducible rfl)
                  (try simp only [Act.put, List.setIfInBounds_toArray, List.set_cons_zero, List.set_cons_succ])
                  refine wpAnyH_done (by kernel_rfl) ?_ _
                  clear hHeld
                  go_wp2
                  go_roundg (gk - 1)
                  case rel => exact ⟨j + 1, c + r.cost, t ||| bo, by have := Hj.out; omega, hk17, by go_num, by go_num, rfl, by omega, by omega, ht2, CS2, TN2, UP2, EC⟩
                  case measure => have := Hj.out; omega
        · have ek : l.take j = l := List.take_of_length_le (by omega)
          rw [ek] at CS TN
          have UP2 : Hid (∀ i, i < l.length → okAt rs l i) := fun i hi => UP.out i (by omega)
          have HIX : Hid (∀ i ∈ l, 0 ≤ i ∧ i < rs.length) := fun i hi => by
            obtain ⟨m, hm, rfl⟩ := List.getElem_of_mem hi
            have := (UP2.out m hm).1
            rw [fn_get hm] at this
            exact ⟨this.1, this.2.1⟩
          have HEd : Hid (∀ r ∈ edges rs l, r.a.toNat < N ∧ r.b.toNat < N) := edges_in HAll.out HIX.out
          have hmlt := meetN_lt (E := edges rs l) (fun r hr => by have := HEd.out r hr; omega) hz8 N
          have HF := hid (ref_ok HEd.out hN8 HN.out HZ1.out)
          obtain ⟨c0, c1⟩ := (HX.out.ext E.out).cells
          clear ek
          go_wp2_with (fail)
          refine (joined_any _ _ N rs l k _ (HV.out.ext (HE1.out.trans E.out)) (HL.out.ext (HE1.out.trans E.out)) HIX.out HAll.out hN8 HN.out (edges rs l) rfl).mono ?_
          rintro e w2 ⟨rfl, he⟩
          have HW := hid (HE1.out.trans (E.out.trans he))
          clear he c0 c1
          obtain ⟨m, hm⟩ : ∃ m, m = meetN (edges rs l) (2 ^ k) N := ⟨_, rfl⟩
          rw [← hm] at hmlt HF ⊢
          clear hm
          rw [← TN.out] at HF
          have a1 := bits_andn s m (by omega) (by omega)
          have a2 := bits_andn t m (by omega) (by omega)
          obtain ⟨p1, hp1⟩ : ∃ x, x = andn s m := ⟨_, rfl⟩
          obtain ⟨p2, hp2⟩ : ∃ x, x = andn t m := ⟨_, rfl⟩
          rw [← hp1] at a1 HF
          rw [← hp2] at a2 HF
          clear hp1 hp2
          by_cases e1 : p1 = 0
          · subst e1
            by_cases e2 : p2 = 0
            · subst e2
              have HR : Hid (treeP rs s l) := ⟨UP2.out, HF.out.1 ⟨rfl, rfl⟩⟩
              go_wp2
              go_ret2
              exact ⟨.inl ⟨HR.out, by rw [← CS.out]; rfl⟩, HW.out⟩
            · have e2b : ((p2 : Int) != 0) = true := by rw [bne_iff_ne]; omega
              have HR : Hid (¬ treeP rs s l) := fun g => e2 (HF.out.2 g.2).2
              clear e2
              go_wp2
              go_ret2
              exact ⟨.inr ⟨HR.out, rfl⟩, HW.out⟩
          · have e1b : ((p1 : Int) != 0) = true := by rw [bne_iff_ne]; omega
            have HR : Hid (¬ treeP rs s l) := fun g => e1 (HF.out.2 g.2).1
            clear e1
            go_wp2
            go_ret2
            exact ⟨.inr ⟨HR.out, rfl⟩, HW.out⟩

end Go.Proofs.YtkbkgkmogbkabaaDoor
