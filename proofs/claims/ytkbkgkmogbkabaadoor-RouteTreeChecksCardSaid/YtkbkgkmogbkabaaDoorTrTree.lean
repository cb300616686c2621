/-
  Contract of the program's tree, given the least bit.
-/
import Derived.Test.YtkbkgkmogbkabaaDoorTrTreePlain
import Derived.Test.YtkbkgkmogbkabaaDoorTrApart
import Derived.Test.YtkbkgkmogbkabaaDoorTrConn
import Derived.Test.YtkbkgkmogbkabaaDoorTrJoined
namespace Go.Proofs.YtkbkgkmogbkabaaDoor
open Go.RowKit

/-- What the least bit answers, in this world and in all that grow out of it. -/
def TZ (w : World) : Prop := ∀ w', Ext w w' → ∀ s : Nat, 0 < s → s < 256 → ∃ k : Nat, (s.testBit k = true ∧ ∀ j, j < k → s.testBit j = false) ∧ Calls Tryd.prog 56 #[.int .u64 (s : Int)] w' fun e w'' => e = .returned (.int .i64 k) ∧ w'' = w'
theorem TZ.ext {w w' : World} (h : TZ w) (e : Ext w w') : TZ w' := fun w2 e2 => h w2 (e.trans e2)

theorem bit_iff (s i : Nat) : (s : Int) / 2 ^ i % 2 = 1 ↔ s.testBit i = true := by
  have e : ((s : Int) / 2 ^ i % 2) = ((s / 2 ^ i % 2 : Nat) : Int) := by simp
  rw [e, Nat.testBit_eq_decide_div_mod_eq, decide_eq_true_iff]
  omega
theorem bit_lt {s i n : Nat} (hs : s < 2 ^ n) (h : s.testBit i = true) : i < n := by
  rcases Nat.lt_or_ge i n with g | g
  · exact g
  · exfalso
    rw [Nat.testBit_lt_two_pow (Nat.lt_of_lt_of_le hs (Nat.pow_le_pow_right (by decide) g))] at h
    simp at h
theorem connP_iff {E : List RoadD} {p : Nat → Int} (hp : Lab E p) {s k : Nat} (hs : s < 256) (hk : s.testBit k = true) : connP p s k ↔ ∀ x y, s.testBit x = true → s.testBit y = true → Conn E x y := by
  have h8 : ∀ x, s.testBit x = true → x < 8 := fun x hx => bit_lt (n := 8) (by exact hs) hx
  rw [← one_label hp (T := fun x => s.testBit x = true) h8 hk]
  unfold connP
  constructor
  · intro h x hx; exact h x (h8 x hx) ((bit_iff s x).2 hx)
  · intro h i _ hi; exact h i ((bit_iff s i).1 hi)

/-- In the middle: the first k roads are a forest in order. -/
def Upto (rs : List RoadD) (l : List Int) (k : Nat) : Prop := ∀ j, j < k → okAt rs l j

theorem touchN_lt {s : Nat} (hs : s < 256) : ∀ (E : List RoadD), (∀ r ∈ E, r.a.toNat < 8 ∧ r.b.toNat < 8) → touchN s E < 256 := by
  intro E
  induction E generalizing s with
  | nil => intro _; exact hs
  | cons r E ih =>
    intro h
    have hr := h r (List.mem_cons_self ..)
    exact ih (s := s ||| bothN r) (Nat.or_lt_two_pow (n := 8) hs (both_lt hr.1 hr.2)) (fun q hq => h q (List.mem_cons_of_mem _ hq))

/-- What tree answers. -/
def TreeAns (rs : List RoadD) (s : Nat) (l : List Int) (e : Ending) : Prop := (treeP rs s l ∧ e = .returned (.tuple #[.int .i64 (costL rs l), .bool true])) ∨ (¬ treeP rs s l ∧ e = .returned (.tuple #[.int .i64 0, .bool false]))

set_option maxRecDepth 20000 in
set_option maxHeartbeats 8000000 in
theorem tree_any (vr v : Value) (N : Nat) (rs : List RoadD) (l : List Int) (s : Nat) (w : World) (hv : Roads w vr rs) (hl : Ints w v l) (hok : ∀ r ∈ rs, roadOk N r = true) (hN8 : N ≤ 8) (hrl : rs.length ≤ 16) (hs0 : 0 < s) (hs : s < 2 ^ N) (hTZ : TZ w) :
    Calls Tryd.prog 31 #[.agg #[.int .i64 N, vr], .int .i64 s, v] w fun e w' => TreeAns rs s l e ∧ Ext w w' := by
  obtain ⟨ao, cap, rfl⟩ := hv.shape
  have HV := hid hv
  have HL := hid hl
  have HTZ := hid hTZ
  obtain ⟨hlen, al, cl, rfl, -⟩ := id hl
  have HAll := hid hok
  have X0 := hid (Box2.alloc w 31 (.int .i64 N) (.slice ao rs.length cap))
  clear hv hl hok hTZ
  go_enter Tryd.func31, Tryd.ntmps31
  go_wp2_with (fail)
  refine (apart_any _).mono ?_
  rintro e w1 ⟨rfl, he⟩
  have HE := hid ((Ext.ofAlloc w _).trans he)
  have HX := hid (X0.out.ext he)
  clear he X0
  go_wp2
  have hb : PBox (w1.alloc (.cells #[.int .i64 0, .int .i64 1, .int .i64 2, .int .i64 3, .int .i64 4, .int .i64 5, .int .i64 6, .int .i64 7] 69)) w1.heap.size (fun i => (i : Int)) := heap_alloc_new w1 _
  have hE1 := Ext.ofAlloc w1 (.cells #[.int .i64 0, .int .i64 1, .int .i64 2, .int .i64 3, .int .i64 4, .int .i64 5, .int .i64 6, .int .i64 7] 69)
  generalize w1.alloc (.cells #[.int .i64 0, .int .i64 1, .int .i64 2, .int .i64 3, .int .i64 4, .int .i64 5, .int .i64 6, .int .i64 7] 69) = W at hb hE1 ⊢
  have HB0 := hid hb
  have HE1 := hid hE1
  obtain ⟨gp, hgp⟩ : ∃ gp, gp = w1.heap.size := ⟨_, rfl⟩
  rw [← hgp] at HB0
  rw [← hgp]
  have HGP := hid hgp
  have s256 : s < 256 := by
    have h1 : (2 : Nat) ^ N ≤ 2 ^ 8 := Nat.pow_le_pow_right (by decide) hN8
    have e : (256 : Nat) = 2 ^ 8 := by decide
    omega
  clear hb hE1 hgp
  go_loopg [17, 9, 10] l.length (fun g i vc vt wr => ∃ (k : Nat) (c : Int) (t : Nat) (p : Nat → Int), k + g = l.length ∧ k ≤ 16 ∧ i = .int .i64 k ∧ vc = .int .i64 c ∧ vt = .int .i64 t ∧ 0 ≤ c ∧ c ≤ 50 * (k : Int) ∧ t < 256 ∧ Hid (c = costL rs (l.take k)) ∧ Hid (t = touchN s (edges rs (l.take k))) ∧ Hid (Upto rs l k) ∧ Hid (Lab (edges rs (l.take k)) p) ∧ Hid (PBox wr gp p) ∧ Hid (Ext w1 wr))
  case atStart => exact ⟨0, 0, s, _, by omega, by omega, rfl, rfl, rfl, by omega, by omega, s256, rfl, rfl, fun j hj => by omega, Lab.nil, HB0, HE1⟩
  case round =>
    clear HB0 HE1
    obtain ⟨k, c, t, p, hk, hk16, rfl, rfl, rfl, hc0, hc1, ht, CS, TN, UP, LAB, PB, E⟩ := hrel
    have hkl : k ≤ l.length := by omega
    have Hk := hid hk
    clear hk
    by_cases hlt : k < l.length
    · obtain ⟨bl, ol, rfl, -, hce⟩ := HL.out.get k hlt
      have dk := hce _ (HE.out.trans E.out)
      obtain ⟨c0, c1⟩ := (HX.out.ext E.out).cells
      obtain ⟨x, hx⟩ : ∃ x, x = fn l k := ⟨_, rfl⟩
      rw [← hx] at dk
      have HXX := hid hx
      have FAIL : Hid (¬ okAt rs l k → ¬ treeP rs s l) := fun h g => h (g.1 k hlt)
      clear hce hx
      by_cases x0 : x < 0
      · have HR := hid (FAIL.out (fun g => by have := g.1.1; rw [← HXX.out] at this; omega))
        go_wp2
        go_ret2
        exact ⟨.inr ⟨HR.out, rfl⟩, HE.out.trans E.out⟩
      · by_cases x1 : (rs.length : Int) ≤ x
        · have HR := hid (FAIL.out (fun g => by have := g.1.2.1; rw [← HXX.out] at this; omega))
          go_wp2
          go_ret2
          exact ⟨.inr ⟨HR.out, rfl⟩, HE.out.trans E.out⟩
        · obtain ⟨q, hq⟩ := Int.eq_ofNat_of_zero_le (show 0 ≤ x by omega)
          subst hq
          have hql : q < rs.length := by omega
          have hqi : (q : Int) < rs.length := by omega
          by_cases k0 : 0 < k
          · obtain ⟨bl', ol', hbe, -, hcp⟩ := HL.out.get (k - 1) (by omega)
            simp only [Option.some.injEq, Addr.mk.injEq, and_true] at hbe
            obtain ⟨rfl, rfl⟩ := hbe
            have dp := hcp _ (HE.out.trans E.out)
            obtain ⟨y, hy⟩ : ∃ y, y = fn l (k - 1) := ⟨_, rfl⟩
            rw [← hy] at dp
            have HY := hid hy
            clear hcp hy
            by_cases yx : (q : Int) ≤ y
            · have HR := hid (FAIL.out (fun g => by have := g.1.2.2 k0; rw [← HXX.out, ← HY.out] at this; omega))
              go_wp2
              go_ret2
              exact ⟨.inr ⟨HR.out, rfl⟩, HE.out.trans E.out⟩
            · have HI : Hid (0 ≤ fn l k ∧ fn l k < rs.length ∧ (0 < k → fn l (k - 1) < fn l k)) := by
                show _ ∧ _
                rw [← HXX.out, ← HY.out]
                exact ⟨by omega, by omega, fun _ => by omega⟩
              obtain ⟨bb, off, rfl, -, hcc⟩ := Roads.get HV.out q hql
              obtain ⟨r0, r1, r2⟩ := hcc _ (HE.out.trans E.out)
              have Htk : Hid (edges rs (l.take (k + 1)) = edges rs (l.take k) ++ [roadAt rs q]) := by
                show _ = _
                rw [List.take_succ_eq_append_getElem hlt]
                unfold edges
                rw [List.map_append, ← fn_get hlt, ← HXX.out]
                rfl
              have HQ : Hid (roadAt rs (fn l k).toNat = roadAt rs q) := by show _ = _; rw [← HXX.out]; rfl
              have hrok := roadOk_iff.1 (HAll.out _ (roadAt_mem hql))
              obtain ⟨q1, q2, q3, q4, -, q6, q7⟩ := hrok
              obtain ⟨r, hr⟩ : ∃ r, r = roadAt rs q := ⟨_, rfl⟩
              have HRQ : Hid (roadAt rs q = r) := hr.symm
              rw [← hr] at r0 r1 r2 Htk HQ q1 q2 q3 q4 q6 q7
              clear hr
              have ha8 : r.a < 8 := by omega
              have hb8 : r.b < 8 := by omega
              have hla : r.a.toNat < 8 := by omega
              have hlb : r.b.toNat < 8 := by omega
              go_wp2_with (fail)
              refine (join_any gp p r _ PB.out q1 ha8 q3 hb8).mono ?_
              rintro e w2 ⟨rfl, hpb, hon⟩
              have E2 := hid (hon.ext E.out (by rw [HGP.out]; exact Nat.le_refl _))
              have PB2 := hid hpb
              have HLI := hid (LAB.out r.a.toNat r.b.toNat hla hlb)
              have HLJ := hid (LAB.out.join hla hlb)
              clear hpb hon hcc c0 c1 dk r0 r1 r2 dp
              by_cases hj : p r.a.toNat = p r.b.toNat
              · have hjb : (p r.a.toNat != p r.b.toNat) = false := by rw [hj]; simp
                have HR := hid (FAIL.out (fun g => g.2 (by rw [HQ.out]; exact HLI.out.1 hj)))
                rw [hjb]
                clear hj hjb
                go_wp2
                go_ret2
                exact ⟨.inr ⟨HR.out, rfl⟩, HE.out.trans E2.out⟩
              · have hjb : (p r.a.toNat != p r.b.toNat) = true := by rw [bne_iff_ne]; exact hj
                have UP2 : Hid (Upto rs l (k + 1)) := fun j hj2 => by
                  by_cases e : j = k
                  · subst e
                    exact ⟨HI.out, by rw [HQ.out]; exact fun g => hj (HLI.out.2 g)⟩
                  · exact UP.out j (by omega)
                have hk17 : k + 1 ≤ 16 := by
                  have key : ∀ j, j < k + 1 → (j : Int) ≤ fn l j := by
                    intro j
                    induction j with
                    | zero => intro h; exact (UP2.out 0 h).1.1
                    | succ j ih =>
                      intro h
                      have h1 := ih (by omega)
                      have h2 := (UP2.out (j + 1) h).1.2.2 (by omega)
                      rw [Nat.add_sub_cancel] at h2
                      omega
                  have h1 := key k (by omega)
                  have h2 := HI.out.2.1
                  omega
                obtain ⟨c0, c1⟩ := (HX.out.ext E2.out).cells
                have hcc := (Roads.get HV.out q hql)
                obtain ⟨bb', off', hbe, -, hcc⟩ := hcc
                simp only [Option.some.injEq, Addr.mk.injEq, and_true] at hbe
                obtain ⟨rfl, rfl⟩ := hbe
                have hcc := hcc _ (HE.out.trans E2.out)
                rw [HRQ.out] at hcc
                obtain ⟨r0, r1, r2⟩ := hcc
                have hbl := both_lt hla hlb
                have pa : 2 ^ r.a.toNat < 2 ^ 62 := Nat.pow_lt_pow_right (by decide) (by omega)
                have pb : 2 ^ r.b.toNat < 2 ^ 62 := Nat.pow_lt_pow_right (by decide) (by omega)
                obtain ⟨xa, hxa⟩ : ∃ x, x = 2 ^ r.a.toNat := ⟨_, rfl⟩
                obtain ⟨xb, hxb⟩ : ∃ x, x = 2 ^ r.b.toNat := ⟨_, rfl⟩
                have ea : ((2 : Int) ^ r.a.toNat) = (xa : Int) := by rw [hxa]; simp
                have eb : ((2 : Int) ^ r.b.toNat) = (xb : Int) := by rw [hxb]; simp
                have wa : IntKind.i64.wrap (2 ^ r.a.toNat) = (xa : Int) := by rw [ea]; exact wraps_i64_62 _ (by omega) (by omega)
                have wb : IntKind.i64.wrap (2 ^ r.b.toNat) = (xb : Int) := by rw [eb]; exact wraps_i64_62 _ (by omega) (by omega)
                have wo : bits .or .i64 xa xb = (bothN r : Int) := by rw [bits_or_nat xa xb (by omega) (by omega), hxa, hxb]; rfl
                have wm : bits .or .i64 t (bothN r) = ((t ||| bothN r : Nat) : Int) := bits_or_nat t (bothN r) (by omega) (by omega)
                have ht2 : t ||| bothN r < 256 := Nat.or_lt_two_pow (n := 8) ht hbl
                have CS2 : Hid (c + r.cost = costL rs (l.take (k + 1))) := by
                  show _ = _
                  unfold costL
                  rw [Htk.out, List.foldl_append, CS.out]; rfl
                have TN2 : Hid (t ||| bothN r = touchN s (edges rs (l.take (k + 1)))) := by
                  show _ = _
                  unfold touchN
                  rw [Htk.out, List.foldl_append, TN.out]; rfl
                have LAB2 : Hid (Lab (edges rs (l.take (k + 1))) (joinL p r.a.toNat r.b.toNat)) := by
                  show Lab _ _
                  rw [Htk.out]; exact HLJ.out
                have hw1 : IntKind.i64.wrap (c + r.cost) = c + r.cost := wraps_i64_62 _ (by omega) (by omega)
                have E3 := hid E2.out.drew
                have PB3 := hid (PB2.out.ext ((Ext.refl w2).drew))
                rw [hjb]
                clear hj hjb pa pb hxa hxb ea eb hbl
                obtain ⟨bo, hbo⟩ : ∃ x, x = bothN r := ⟨_, rfl⟩
                rw [← hbo] at wo wm ht2 TN2
                clear hbo
                go_wp2
                refine wp_region_held_drew (S := (fun w' => w'.cell? ⟨w.heap.size, 1, none⟩ = some (.slice (some ⟨bb, off, none⟩) rs.length cap) ∧ w'.cell? ⟨bb, off + q * 3, none⟩ = some (.int .i64 r.a) ∧ w'.cell? ⟨bb, off + q * 3 + 1, none⟩ = some (.int .i64 r.b))) (by kernel_rfl) ?hSa0 (fun hHeld => ?_)
                case hSa0 => (first | (exact ⟨c1, r0, r1⟩) | ((try dsimp only); exact ⟨c1, r0, r1⟩))
                refine wpAnyH_tk 0 (v := ?va0) rfl (by kernel_rfl) (by kernel_rfl) (by kernel_rfl) (fun _ _ _ h => h) (by rfl) ?hya0 (by assumption) ?_
                case hya0 => (intro w hSw; (try dsimp only at hSw); go_simp <;> with_reducible rfl)
                (try simp only [Act.put, List.setIfInBounds_toArray, List.set_cons_zero, List.set_cons_succ])
                refine wpAnyH_tk 1 (v := ?va1) rfl (by kernel_rfl) (by kernel_rfl) (by kernel_rfl) (fun _ _ _ h => h) (by rfl) ?hya1 (by assumption) ?_
                case hya1 => (intro w hSw; (try dsimp only at hSw); go_simp <;> with_reducible rfl)
                (try simp only [Act.put, List.setIfInBounds_toArray, List.set_cons_zero, List.set_cons_succ])
                refine wpAnyH_tk 2 (v := ?va2) rfl (by kernel_rfl) (by kernel_rfl) (by kernel_rfl) (fun _ _ _ h => h) (by rfl) ?hya2 (by assumption) ?_
                case hya2 => (intro w hSw; (try dsimp only at hSw); go_simp <;> with_reducible rfl)
                (try simp only [Act.put, List.setIfInBounds_toArray, List.set_cons_zero, List.set_cons_succ])
                refine wpAnyH_tk 3 (v := ?va3) rfl (by kernel_rfl) (by kernel_rfl) (by kernel_rfl) (fun _ _ _ h => h) (by rfl) ?hya3 (by assumption) ?_
                case hya3 => (intro w hSw; (try dsimp only at hSw); go_simp <;> with_reducible rfl)
                (try simp only [Act.put, List.setIfInBounds_toArray, List.set_cons_zero, List.set_cons_succ])
                refine wpAnyH_tk 4 (v := ?va4) rfl (by kernel_rfl) (by kernel_rfl) (by kernel_rfl) (fun _ _ _ h => h) (by rfl) ?hya4 (by assumption) ?_
                case hya4 => (intro w hSw; (try dsimp only at hSw); go_simp <;> with_reducible rfl)
                (try simp only [Act.put, List.setIfInBounds_toArray, List.set_cons_zero, List.set_cons_succ])
                refine wpAnyH_tk 5 (v := ?va5) rfl (by kernel_rfl) (by kernel_rfl) (by kernel_rfl) (fun _ _ _ h => h) (by rfl) ?hya5 (by assumption) ?_
                case hya5 => (intro w hSw; (try dsimp only at hSw); go_simp <;> with_reducible rfl)
                (try simp only [Act.put, List.setIfInBounds_toArray, List.set_cons_zero, List.set_cons_succ])
                refine wpAnyH_tk 6 (v := ?va6) rfl (by kernel_rfl) (by kernel_rfl) (by kernel_rfl) (fun _ _ _ h => h) (by rfl) ?hya6 (by assumption) ?_
                case hya6 => (intro w hSw; (try dsimp only at hSw); go_simp <;> with_reducible rfl)
                (try simp only [Act.put, List.setIfInBounds_toArray, List.set_cons_zero, List.set_cons_succ])
                refine wpAnyH_tk 7 (v := ?va7) rfl (by kernel_rfl) (by kernel_rfl) (by kernel_rfl) (fun _ _ _ h => h) (by rfl) ?hya7 (by assumption) ?_
                case hya7 => (intro w hSw; (try dsimp only at hSw); go_simp <;> with_reducible rfl)
                (try simp only [Act.put, List.setIfInBounds_toArray, List.set_cons_zero, List.set_cons_succ])
                refine wpAnyH_tk 8 (v := ?va8) rfl (by kernel_rfl) (by kernel_rfl) (by kernel_rfl) (fun _ _ _ h => h) (by rfl) ?hya8 (by assumption) ?_
                case hya8 => (intro w hSw; (try dsimp only at hSw); go_simp <;> with_reducible rfl)
                (try simp only [Act.put, List.setIfInBounds_toArray, List.set_cons_zero, List.set_cons_succ])
                refine wpAnyH_tk 9 (v := ?va9) rfl (by kernel_rfl) (by kernel_rfl) (by kernel_rfl) (fun _ _ _ h => h) (by rfl) ?hya9 (by assumption) ?_
                case hya9 => (intro w hSw; (try dsimp only at hSw); go_simp <;> with_reducible rfl)
                (try simp only [Act.put, List.setIfInBounds_toArray, List.set_cons_zero, List.set_cons_succ])
                refine wpAnyH_tk 10 (v := ?va10) rfl (by kernel_rfl) (by kernel_rfl) (by kernel_rfl) (fun _ _ _ h => h) (by rfl) ?hya10 (by assumption) ?_
                case hya10 => (intro w hSw; (try dsimp only at hSw); go_simp <;> with_reducible rfl)
                (try simp only [Act.put, List.setIfInBounds_toArray, List.set_cons_zero, List.set_cons_succ])
                refine wpAnyH_tk 11 (v := ?va11) rfl (by kernel_rfl) (by kernel_rfl) (by kernel_rfl) (fun _ _ _ h => h) (by rfl) ?hya11 (by assumption) ?_
                case hya11 => (intro w hSw; (try dsimp only at hSw); go_simp <;> with_reducible rfl)
                (try simp only [Act.put, List.setIfInBounds_toArray, List.set_cons_zero, List.set_cons_succ])
                refine wpAnyH_tk 12 (v := ?va12) rfl (by kernel_rfl) (by kernel_rfl) (by kernel_rfl) (fun _ _ _ h => h) (by rfl) ?hya12 (by assumption) ?_
                case hya12 => (intro w hSw; (try dsimp only at hSw); go_simp <;> with_reducible rfl)
                (try simp only [Act.put, List.setIfInBounds_toArray, List.set_cons_zero, List.set_cons_succ])
                refine wpAnyH_tk 13 (v := ?va13) rfl (by kernel_rfl) (by kernel_rfl) (by kernel_rfl) (fun _ _ _ h => h) (by rfl) ?hya13 (by assumption) ?_
                case hya13 => (intro w hSw; (try dsimp only at hSw); go_simp <;> with_reducible rfl)
                (try simp only [Act.put, List.setIfInBounds_toArray, List.set_cons_zero, List.set_cons_succ])
                refine wpAnyH_tk 14 (v := ?va14) rfl (by kernel_rfl) (by kernel_rfl) (by kernel_rfl) (fun _ _ _ h => h) (by rfl) ?hya14 (by assumption) ?_
                case hya14 => (intro w hSw; (try dsimp only at hSw); go_simp <;> with_reducible rfl)
                (try simp only [Act.put, List.setIfInBounds_toArray, List.set_cons_zero, List.set_cons_succ])
                refine wpAnyH_tk 15 (v := ?va15) rfl (by kernel_rfl) (by kernel_rfl) (by kernel_rfl) (fun _ _ _ h => h) (by rfl) ?hya15 (by assumption) ?_
                case hya15 => (intro w hSw; (try dsimp only at hSw); go_simp <;> with_reducible rfl)
                (try simp only [Act.put, List.setIfInBounds_toArray, List.set_cons_zero, List.set_cons_succ])
                refine wpAnyH_tk 16 (v := ?va16) rfl (by kernel_rfl) (by kernel_rfl) (by kernel_rfl) (fun _ _ _ h => h) (by rfl) ?hya16 (by assumption) ?_
                case hya16 => (intro w hSw; (try dsimp only at hSw); go_simp <;> with_reducible rfl)
                (try simp only [Act.put, List.setIfInBounds_toArray, List.set_cons_zero, List.set_cons_succ])
                refine wpAnyH_tk 17 (v := ?va17) rfl (by kernel_rfl) (by kernel_rfl) (by kernel_rfl) (fun _ _ _ h => h) (by rfl) ?hya17 (by assumption) ?_
                case hya17 => (intro w hSw; (try dsimp only at hSw); go_simp <;> with_reducible rfl)
                (try simp only [Act.put, List.setIfInBounds_toArray, List.set_cons_zero, List.set_cons_succ])
                refine wpAnyH_done (by kernel_rfl) ?_ _
                clear hHeld r0 r1 r2 wa wb wo c0 c1
                go_wp2
                go_roundg (gk - 1)
                case rel => exact ⟨k + 1, c + r.cost, t ||| bo, joinL p r.a.toNat r.b.toNat, by have := Hk.out; omega, hk17, by go_num, by go_num, rfl, by omega, by omega, ht2, CS2, TN2, UP2, LAB2, PB3, E3⟩
                case measure => have := Hk.out; omega
          · have ek : k = 0 := by omega
            have hk0 : ¬ ((k : Int) > 0) := by omega
            have HI : Hid (0 ≤ fn l k ∧ fn l k < rs.length ∧ (0 < k → fn l (k - 1) < fn l k)) := by
              show _ ∧ _
              rw [← HXX.out]
              exact ⟨by omega, by omega, fun h => by omega⟩
            clear ek
            obtain ⟨bb, off, rfl, -, hcc⟩ := Roads.get HV.out q hql
            obtain ⟨r0, r1, r2⟩ := hcc _ (HE.out.trans E.out)
            have Htk : Hid (edges rs (l.take (k + 1)) = edges rs (l.take k) ++ [roadAt rs q]) := by
              show _ = _
              rw [List.take_succ_eq_append_getElem hlt]
              unfold edges
              rw [List.map_append, ← fn_get hlt, ← HXX.out]
              rfl
            have HQ : Hid (roadAt rs (fn l k).toNat = roadAt rs q) := by show _ = _; rw [← HXX.out]; rfl
            have hrok := roadOk_iff.1 (HAll.out _ (roadAt_mem hql))
            obtain ⟨q1, q2, q3, q4, -, q6, q7⟩ := hrok
            obtain ⟨r, hr⟩ : ∃ r, r = roadAt rs q := ⟨_, rfl⟩
            have HRQ : Hid (roadAt rs q = r) := hr.symm
            rw [← hr] at r0 r1 r2 Htk HQ q1 q2 q3 q4 q6 q7
            clear hr
            have ha8 : r.a < 8 := by omega
            have hb8 : r.b < 8 := by omega
            have hla : r.a.toNat < 8 := by omega
            have hlb : r.b.toNat < 8 := by omega
            go_wp2_with (fail)
            refine (join_any gp p r _ PB.out q1 ha8 q3 hb8).mono ?_
            rintro e w2 ⟨rfl, hpb, hon⟩
            have E2 := hid (hon.ext E.out (by rw [HGP.out]; exact Nat.le_refl _))
            have PB2 := hid hpb
            have HLI := hid (LAB.out r.a.toNat r.b.toNat hla hlb)
            have HLJ := hid (LAB.out.join hla hlb)
            clear hpb hon hcc c0 c1 dk r0 r1 r2
            by_cases hj : p r.a.toNat = p r.b.toNat
            · have hjb : (p r.a.toNat != p r.b.toNat) = false := by rw [hj]; simp
              have HR := hid (FAIL.out (fun g => g.2 (by rw [HQ.out]; exact HLI.out.1 hj)))
              rw [hjb]
              clear hj hjb
              go_wp2
              go_ret2
              exact ⟨.inr ⟨HR.out, rfl⟩, HE.out.trans E2.out⟩
            · have hjb : (p r.a.toNat != p r.b.toNat) = true := by rw [bne_iff_ne]; exact hj
              have UP2 : Hid (Upto rs l (k + 1)) := fun j hj2 => by
                by_cases e : j = k
                · subst e
                  exact ⟨HI.out, by rw [HQ.out]; exact fun g => hj (HLI.out.2 g)⟩
                · exact UP.out j (by omega)
              have hk17 : k + 1 ≤ 16 := by
                have key : ∀ j, j < k + 1 → (j : Int) ≤ fn l j := by
                  intro j
                  induction j with
                  | zero => intro h; exact (UP2.out 0 h).1.1
                  | succ j ih =>
                    intro h
                    have h1 := ih (by omega)
                    have h2 := (UP2.out (j + 1) h).1.2.2 (by omega)
                    rw [Nat.add_sub_cancel] at h2
                    omega
                have h1 := key k (by omega)
                have h2 := HI.out.2.1
                omega
              obtain ⟨c0, c1⟩ := (HX.out.ext E2.out).cells
              have hcc := (Roads.get HV.out q hql)
              obtain ⟨bb', off', hbe, -, hcc⟩ := hcc
              simp only [Option.some.injEq, Addr.mk.injEq, and_true] at hbe
              obtain ⟨rfl, rfl⟩ := hbe
              have hcc := hcc _ (HE.out.trans E2.out)
              rw [HRQ.out] at hcc
              obtain ⟨r0, r1, r2⟩ := hcc
              have hbl := both_lt hla hlb
              have pa : 2 ^ r.a.toNat < 2 ^ 62 := Nat.pow_lt_pow_right (by decide) (by omega)
              have pb : 2 ^ r.b.toNat < 2 ^ 62 := Nat.pow_lt_pow_right (by decide) (by omega)
              obtain ⟨xa, hxa⟩ : ∃ x, x = 2 ^ r.a.toNat := ⟨_, rfl⟩
              obtain ⟨xb, hxb⟩ : ∃ x, x = 2 ^ r.b.toNat := ⟨_, rfl⟩
              have ea : ((2 : Int) ^ r.a.toNat) = (xa : Int) := by rw [hxa]; simp
              have eb : ((2 : Int) ^ r.b.toNat) = (xb : Int) := by rw [hxb]; simp
              have wa : IntKind.i64.wrap (2 ^ r.a.toNat) = (xa : Int) := by rw [ea]; exact wraps_i64_62 _ (by omega) (by omega)
              have wb : IntKind.i64.wrap (2 ^ r.b.toNat) = (xb : Int) := by rw [eb]; exact wraps_i64_62 _ (by omega) (by omega)
              have wo : bits .or .i64 xa xb = (bothN r : Int) := by rw [bits_or_nat xa xb (by omega) (by omega), hxa, hxb]; rfl
              have wm : bits .or .i64 t (bothN r) = ((t ||| bothN r : Nat) : Int) := bits_or_nat t (bothN r) (by omega) (by omega)
              have ht2 : t ||| bothN r < 256 := Nat.or_lt_two_pow (n := 8) ht hbl
              have CS2 : Hid (c + r.cost = costL rs (l.take (k + 1))) := by
                show _ = _
                unfold costL
                rw [Htk.out, List.foldl_append, CS.out]; rfl
              have TN2 : Hid (t ||| bothN r = touchN s (edges rs (l.take (k + 1)))) := by
                show _ = _
                unfold touchN
                rw [Htk.out, List.foldl_append, TN.out]; rfl
              have LAB2 : Hid (Lab (edges rs (l.take (k + 1))) (joinL p r.a.toNat r.b.toNat)) := by
                show Lab _ _
                rw [Htk.out]; exact HLJ.out
              have hw1 : IntKind.i64.wrap (c + r.cost) = c + r.cost := wraps_i64_62 _ (by omega) (by omega)
              have E3 := hid E2.out.drew
              have PB3 := hid (PB2.out.ext ((Ext.refl w2).drew))
              rw [hjb]
              clear hj hjb pa pb hxa hxb ea eb hbl
              obtain ⟨bo, hbo⟩ : ∃ x, x = bothN r := ⟨_, rfl⟩
              rw [← hbo] at wo wm ht2 TN2
              clear hbo
              go_wp2
              refine wp_region_held_drew (S := (fun w' => w'.cell? ⟨w.heap.size, 1, none⟩ = some (.slice (some ⟨bb, off, none⟩) rs.length cap) ∧ w'.cell? ⟨bb, off + q * 3, none⟩ = some (.int .i64 r.a) ∧ w'.cell? ⟨bb, off + q * 3 + 1, none⟩ = some (.int .i64 r.b))) (by kernel_rfl) ?hSb0 (fun hHeld => ?_)
              case hSb0 => (first | (exact ⟨c1, r0, r1⟩) | ((try dsimp only); exact ⟨c1, r0, r1⟩))
              refine wpAnyH_tk 0 (v := ?vb0) rfl (by kernel_rfl) (by kernel_rfl) (by kernel_rfl) (fun _ _ _ h => h) (by rfl) ?hyb0 (by assumption) ?_
              case hyb0 => (intro w hSw; (try dsimp only at hSw); go_simp <;> with_reducible rfl)
              (try simp only [Act.put, List.setIfInBounds_toArray, List.set_cons_zero, List.set_cons_succ])
              refine wpAnyH_tk 1 (v := ?vb1) rfl (by kernel_rfl) (by kernel_rfl) (by kernel_rfl) (fun _ _ _ h => h) (by rfl) ?hyb1 (by assumption) ?_
              case hyb1 => (intro w hSw; (try dsimp only at hSw); go_simp <;> with_reducible rfl)
              (try simp only [Act.put, List.setIfInBounds_toArray, List.set_cons_zero, List.set_cons_succ])
              refine wpAnyH_tk 2 (v := ?vb2) rfl (by kernel_rfl) (by kernel_rfl) (by kernel_rfl) (fun _ _ _ h => h) (by rfl) ?hyb2 (by assumption) ?_
              case hyb2 => (intro w hSw; (try dsimp only at hSw); go_simp <;> with_reducible rfl)
              (try simp only [Act.put, List.setIfInBounds_toArray, List.set_cons_zero, List.set_cons_succ])
              refine wpAnyH_tk 3 (v := ?vb3) rfl (by kernel_rfl) (by kernel_rfl) (by kernel_rfl) (fun _ _ _ h => h) (by rfl) ?hyb3 (by assumption) ?_
              case hyb3 => (intro w hSw; (try dsimp only at hSw); go_simp <;> with_reducible rfl)
              (try simp only [Act.put, List.setIfInBounds_toArray, List.set_cons_zero, List.set_cons_succ])
              refine wpAnyH_tk 4 (v := ?vb4) rfl (by kernel_rfl) (by kernel_rfl) (by kernel_rfl) (fun _ _ _ h => h) (by rfl) ?hyb4 (by assumption) ?_
              case hyb4 => (intro w hSw; (try dsimp only at hSw); go_simp <;> with_reducible rfl)
              (try simp only [Act.put, List.setIfInBounds_toArray, List.set_cons_zero, List.set_cons_succ])
              refine wpAnyH_tk 5 (v := ?vb5) rfl (by kernel_rfl) (by kernel_rfl) (by kernel_rfl) (fun _ _ _ h => h) (by rfl) ?hyb5 (by assumption) ?_
              case hyb5 => (intro w hSw; (try dsimp only at hSw); go_simp <;> with_reducible rfl)
              (try simp only [Act.put, List.setIfInBounds_toArray, List.set_cons_zero, List.set_cons_succ])
              refine wpAnyH_tk 6 (v := ?vb6) rfl (by kernel_rfl) (by kernel_rfl) (by kernel_rfl) (fun _ _ _ h => h) (by rfl) ?hyb6 (by assumption) ?_
              case hyb6 => (intro w hSw; (try dsimp only at hSw); go_simp <;> with_reducible rfl)
              (try simp only [Act.put, List.setIfInBounds_toArray, List.set_cons_zero, List.set_cons_succ])
              refine wpAnyH_tk 7 (v := ?vb7) rfl (by kernel_rfl) (by kernel_rfl) (by kernel_rfl) (fun _ _ _ h => h) (by rfl) ?hyb7 (by assumption) ?_
              case hyb7 => (intro w hSw; (try dsimp only at hSw); go_simp <;> with_reducible rfl)
              (try simp only [Act.put, List.setIfInBounds_toArray, List.set_cons_zero, List.set_cons_succ])
              refine wpAnyH_tk 8 (v := ?vb8) rfl (by kernel_rfl) (by kernel_rfl) (by kernel_rfl) (fun _ _ _ h => h) (by rfl) ?hyb8 (by assumption) ?_
              case hyb8 => (intro w hSw; (try dsimp only at hSw); go_simp <;> with_reducible rfl)
              (try simp only [Act.put, List.setIfInBounds_toArray, List.set_cons_zero, List.set_cons_succ])
              refine wpAnyH_tk 9 (v := ?vb9) rfl (by kernel_rfl) (by kernel_rfl) (by kernel_rfl) (fun _ _ _ h => h) (by rfl) ?hyb9 (by assumption) ?_
              case hyb9 => (intro w hSw; (try dsimp only at hSw); go_simp <;> with_reducible rfl)
              (try simp only [Act.put, List.setIfInBounds_toArray, List.set_cons_zero, List.set_cons_succ])
              refine wpAnyH_tk 10 (v := ?vb10) rfl (by kernel_rfl) (by kernel_rfl) (by kernel_rfl) (fun _ _ _ h => h) (by rfl) ?hyb10 (by assumption) ?_
              case hyb10 => (intro w hSw; (try dsimp only at hSw); go_simp <;> with_reducible rfl)
              (try simp only [Act.put, List.setIfInBounds_toArray, List.set_cons_zero, List.set_cons_succ])
              refine wpAnyH_tk 11 (v := ?vb11) rfl (by kernel_rfl) (by kernel_rfl) (by kernel_rfl) (fun _ _ _ h => h) (by rfl) ?hyb11 (by assumption) ?_
              case hyb11 => (intro w hSw; (try dsimp only at hSw); go_simp <;> with_reducible rfl)
              (try simp only [Act.put, List.setIfInBounds_toArray, List.set_cons_zero, List.set_cons_succ])
              refine wpAnyH_tk 12 (v := ?vb12) rfl (by kernel_rfl) (by kernel_rfl) (by kernel_rfl) (fun _ _ _ h => h) (by rfl) ?hyb12 (by assumption) ?_
              case hyb12 => (intro w hSw; (try dsimp only at hSw); go_simp <;> with_reducible rfl)
              (try simp only [Act.put, List.setIfInBounds_toArray, List.set_cons_zero, List.set_cons_succ])
              refine wpAnyH_tk 13 (v := ?vb13) rfl (by kernel_rfl) (by kernel_rfl) (by kernel_rfl) (fun _ _ _ h => h) (by rfl) ?hyb13 (by assumption) ?_
              case hyb13 => (intro w hSw; (try dsimp only at hSw); go_simp <;> with_reducible rfl)
              (try simp only [Act.put, List.setIfInBounds_toArray, List.set_cons_zero, List.set_cons_succ])
              refine wpAnyH_tk 14 (v := ?vb14) rfl (by kernel_rfl) (by kernel_rfl) (by kernel_rfl) (fun _ _ _ h => h) (by rfl) ?hyb14 (by assumption) ?_
              case hyb14 => (intro w hSw; (try dsimp only at hSw); go_simp <;> with_reducible rfl)
              (try simp only [Act.put, List.setIfInBounds_toArray, List.set_cons_zero, List.set_cons_succ])
              refine wpAnyH_tk 15 (v := ?vb15) rfl (by kernel_rfl) (by kernel_rfl) (by kernel_rfl) (fun _ _ _ h => h) (by rfl) ?hyb15 (by assumption) ?_
              case hyb15 => (intro w hSw; (try dsimp only at hSw); go_simp <;> with_reducible rfl)
              (try simp only [Act.put, List.setIfInBounds_toArray, List.set_cons_zero, List.set_cons_succ])
              refine wpAnyH_tk 16 (v := ?vb16) rfl (by kernel_rfl) (by kernel_rfl) (by kernel_rfl) (fun _ _ _ h => h) (by rfl) ?hyb16 (by assumption) ?_
              case hyb16 => (intro w hSw; (try dsimp only at hSw); go_simp <;> with_reducible rfl)
              (try simp only [Act.put, List.setIfInBounds_toArray, List.set_cons_zero, List.set_cons_succ])
              refine wpAnyH_tk 17 (v := ?vb17) rfl (by kernel_rfl) (by kernel_rfl) (by kernel_rfl) (fun _ _ _ h => h) (by rfl) ?hyb17 (by assumption) ?_
              case hyb17 => (intro w hSw; (try dsimp only at hSw); go_simp <;> with_reducible rfl)
              (try simp only [Act.put, List.setIfInBounds_toArray, List.set_cons_zero, List.set_cons_succ])
              refine wpAnyH_done (by kernel_rfl) ?_ _
              clear hHeld r0 r1 r2 wa wb wo c0 c1
              go_wp2
              go_roundg (gk - 1)
              case rel => exact ⟨k + 1, c + r.cost, t ||| bo, joinL p r.a.toNat r.b.toNat, by have := Hk.out; omega, hk17, by go_num, by go_num, rfl, by omega, by omega, ht2, CS2, TN2, UP2, LAB2, PB3, E3⟩
              case measure => have := Hk.out; omega
    · have ek : l.take k = l := List.take_of_length_le (by omega)
      rw [ek] at CS TN LAB
      have UP2 : Hid (∀ j, j < l.length → okAt rs l j) := fun j hj => UP.out j (by omega)
      obtain ⟨z, ⟨hz1, hz2⟩, HTC⟩ := (HTZ.out.ext (HE.out.trans E.out)) wr (Ext.refl _) t (by
        rcases Nat.eq_zero_or_pos t with h | h
        · exfalso
          obtain ⟨i, hi⟩ := Nat.exists_testBit_of_ne_zero (show s ≠ 0 by omega)
          have := (touchN_bit (edges rs l) s i).2 (.inl hi)
          rw [← TN.out, h] at this
          simp at this
        · exact h) ht
      have hz8 : z < 8 := bit_lt (n := 8) (by exact ht) hz1
      have hti : (0 : Int) < t := by
        rcases Nat.eq_zero_or_pos t with h | h
        · rw [h] at hz1; simp at hz1
        · omega
      have hti2 : (t : Int) < 256 := by omega
      have dec : Decidable (connP p t z) := Classical.propDecidable _
      have HF : Hid (connP p t z ↔ treeP rs s l) := by
        show _ ↔ _
        rw [connP_iff LAB.out ht hz1]
        unfold treeP
        constructor
        · intro h
          refine ⟨UP2.out, fun x y hx hy => h x y ?_ ?_⟩
          · rw [TN.out, touchN_bit]; exact hx
          · rw [TN.out, touchN_bit]; exact hy
        · intro h x y hx hy
          rw [TN.out, touchN_bit] at hx hy
          exact h.2 x y hx hy
      have HTC2 := hid HTC
      have HZ := hid hz1
      clear ek HTC hz1 hz2
      go_wp2_with (fail)
      refine (connected_any gp p t z _ PB.out hti hti2 hz8 HTC2.out (dec := dec)).mono ?_
      by_cases hc : connP p t z
      · rw [decide_eq_true hc]
        rintro e w2 ⟨rfl, he⟩
        have HR := hid (HF.out.1 hc)
        have HW := hid (HE.out.trans (E.out.trans he))
        clear he hc
        go_wp2
        go_ret2
        exact ⟨.inl ⟨HR.out, by rw [← CS.out]; rfl⟩, HW.out⟩
      · rw [decide_eq_false hc]
        rintro e w2 ⟨rfl, he⟩
        have HR := hid (fun g => hc (HF.out.2 g))
        have HW := hid (HE.out.trans (E.out.trans he))
        clear he hc
        go_wp2
        go_ret2
        exact ⟨.inr ⟨HR.out, rfl⟩, HW.out⟩

end Go.Proofs.YtkbkgkmogbkabaaDoor
