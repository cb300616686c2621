/-
  Texts of this claim, part 12: SnSteiner, SnReach, SnLaw, SnBest, SnTree, SnCost.
-/
import Derived.Test.YtkbkgkmogbkabaaDoorK11
/-
  Contract of steiner: its walk.
-/
namespace Go.Proofs.YtkbkgkmogbkabaaDoor
open Go.RowKit

def curT (T : Nat → Nat → Int) (k : Nat) (f : Nat → Int) : Nat → Nat → Int := fun a => if a = k then f else T a
theorem curT_at (T : Nat → Nat → Int) (k : Nat) (f : Nat → Int) : curT T k f k = f := by unfold curT; rw [if_pos rfl]
theorem curT_ne {T : Nat → Nat → Int} {k p : Nat} {f : Nat → Int} (h : p ≠ k) : curT T k f p = T p := by unfold curT; rw [if_neg h]
theorem curT_set (T : Nat → Nat → Int) (k : Nat) (f : Nat → Int) (v : Nat) (x : Int) : updM (curT T k f) k v x = curT T k (updF f v x) := by
  funext a
  unfold updM
  by_cases e : a = k
  · subst e; rw [if_pos rfl, curT_at, curT_at]
  · rw [if_neg e, curT_ne e, curT_ne e]
theorem updF_updF (f : Nat → Int) (v : Nat) (x y : Int) : updF (updF f v x) v y = updF f v y := by
  funext a
  unfold updF
  by_cases e : a = v
  · rw [if_pos e, if_pos e]
  · rw [if_neg e, if_neg e, if_neg e]
theorem updF_self (f : Nat → Int) (v : Nat) : updF f v (f v) = f := by
  funext a
  unfold updF
  by_cases e : a = v
  · rw [if_pos e, e]
  · rw [if_neg e]
theorem updF_at (f : Nat → Int) (v : Nat) (x : Int) : updF f v x v = x := by unfold updF; rw [if_pos rfl]
/-- The first v are g, the others f. -/
def upF (g f : Nat → Int) (v : Nat) : Nat → Int := fun y => if y < v then g y else f y
theorem upF_at (g f : Nat → Int) (v : Nat) : upF g f v v = f v := by unfold upF; rw [if_neg (by omega)]
theorem upF_succ (g f : Nat → Int) (v : Nat) : updF (upF g f v) v (g v) = upF g f (v + 1) := by
  funext a
  unfold updF upF
  by_cases e : a = v
  · subst e; rw [if_pos rfl, if_pos (by omega)]
  · rw [if_neg e]
    have : (a < v + 1) ↔ a < v := by omega
    simp only [this]
theorem IntBlock.rowc {w : World} {g n : Nat} {f : Nat → Int} (h : IntBlock w g (rowL n f)) {v : Nat} (hv : v < n) : w.cell? ⟨g, v, none⟩ = some (.int .i64 (f v)) := by
  have := h.cell (i := v) (by rw [rowL_len]; exact hv)
  rwa [rowL_fn hv] at this
theorem set_keep {w : World} {g g2 i j : Nat} {u : Value} (h : g2 ≠ g) {x : Value} (hx : w.cell? ⟨g2, j, none⟩ = some x) : (w.setCell ⟨g, i, none⟩ u).cell? ⟨g2, j, none⟩ = some x := by
  rw [World.cell?_setCell_other (h := by simp)]; exact hx
/-- Where a slice of the call's own begins. -/
theorem own_at {B : Nat} {w : World} {u : Value} {xs : List Int} (h : OwnI B w u xs) {gc off n c : Nat} (e : u = .slice (some ⟨gc, off, none⟩) n c) : B ≤ gc ∧ off = 0 := by
  obtain ⟨-, ⟨h, -⟩ | ⟨g, cap, cur, h, hg, -⟩⟩ := h
  · rw [h] at e; simp at e
  · rw [h] at e
    simp only [Value.slice.injEq, Option.some.injEq, Addr.mk.injEq, and_true] at e
    omega
/-- The cells of a block read as f. -/
def CellsAt (w : World) (g n : Nat) (f : Nat → Int) : Prop := ∀ u, u < n → w.cell? ⟨g, u, none⟩ = some (.int .i64 (f u))
theorem CellsAt.set {w : World} {g n : Nat} {f : Nat → Int} (h : CellsAt w g n f) {g2 i : Nat} (hg : g ≠ g2) (u : Value) : CellsAt (w.setCell ⟨g2, i, none⟩ u) g n f := fun a ha => set_keep hg (h a ha)
theorem CellsAt.ext {w w' : World} {g n : Nat} {f : Nat → Int} (h : CellsAt w g n f) (e : Ext w w') : CellsAt w' g n f := fun a ha => e.cell (h a ha)
theorem rowL_congr {n : Nat} {f g : Nat → Int} (h : ∀ j, j < n → f j = g j) : rowL n f = rowL n g := by
  unfold rowL
  exact List.map_congr_left fun j hj => h j (List.mem_range.1 hj)

theorem single_log {k z : Nat} (hk : k < 256) (hs : k &&& (k - 1) = 0) (hz : k.testBit z = true) : z = Nat.log2 k := by
  have key : ∀ k : Fin 256, k.val &&& (k.val - 1) = 0 → ∀ z : Fin 8, k.val.testBit z.val = true → z.val = Nat.log2 k.val := by decide +kernel
  have hz8 : z < 8 := bit_lt (n := 8) (by exact hk) hz
  exact key ⟨k, hk⟩ hs ⟨z, hz8⟩ hz

def steinerV (rs : List RoadD) (N s : Nat) : Int := minI (rowL N (tabTo s (fw (costTo rs) N) N (2 ^ N) s))

set_option maxRecDepth 20000 in
set_option maxHeartbeats 16000000 in
theorem steiner_any (vr : Value) (N : Nat) (rs : List RoadD) (s : Nat) (w : World) (hv : Roads w vr rs) (hN1 : 1 ≤ N) (hN : N ≤ 8) (hl : rs.length ≤ 16) (hok : ∀ r ∈ rs, roadOk N r = true) (hs0 : 0 < s) (hs : s < 2 ^ N) (hTZ : TZ w) :
    Calls Tryd.prog 45 #[.agg #[.int .i64 N, vr], .int .i64 s] w fun e w' => e = .returned (.int .i64 (steinerV rs N s)) ∧ Ext w w' := by
  obtain ⟨ao, cap, rfl⟩ := hv.shape
  have HV := hid hv
  have Hok := hid hok
  have HTZ := hid hTZ
  have hG : Good N (fw (costTo rs) N) := (costs_tab hok).good (by unfold far; omega) |>.fw N (Nat.le_refl N)
  have HG := hid hG
  have X0 := hid (Box2.alloc w 31 (.int .i64 N) (.slice ao rs.length cap))
  obtain ⟨M, hM⟩ : ∃ M, M = 2 ^ N := ⟨_, rfl⟩
  have hM256 : M ≤ 256 := by
    have h1 : (2 : Nat) ^ N ≤ 2 ^ 8 := Nat.pow_le_pow_right (by decide) hN
    have e : (256 : Nat) = 2 ^ 8 := by decide
    omega
  have hsM : s < M := by omega
  have hsh : wrap64 (2 ^ N) = (M : Int) := by
    have e : ((2 : Int) ^ N) = ((2 ^ N : Nat) : Int) := by simp
    rw [e, ← hM]; exact IntWalk.wrap64_in _ (by omega)
  have HSH := hid hsh
  have HMM := hid hM
  have hmk := run_make_row' (P := Tryd.prog) 52 25 (.slice none 0 0) 24 Tryd.underlying52 info_ints rfl .i64 .i64 M (by omega) (by omega)
  have HMK := hid hmk
  clear hv hok hG hTZ hsh hs hM hmk
  go_enter Tryd.func45, Tryd.ntmps45
  go_wp2_with (fail)
  refine (distances_any _ N rs _ (Roads.ext HV.out (Ext.ofAlloc _ _)) hN1 hN hl Hok.out ((costs_tab Hok.out).good (by unfold far; omega))).mono ?_
  rintro e w2 ⟨v, rfl, hm, he⟩
  obtain ⟨bd, cd, rfl, -⟩ := hm.head (by omega)
  have MD := hid (hm.base (Nat.zero_le _))
  have HE := hid ((Ext.ofAlloc w _).trans he)
  obtain ⟨c0, c1⟩ := (X0.out.ext he).cells
  have HX := hid (X0.out.ext he)
  obtain ⟨Dm, hDm⟩ : ∃ Dm, Dm = fw (costTo rs) N := ⟨_, rfl⟩
  rw [← hDm] at MD HG
  have HD := hid hDm
  have hsh := HSH.out
  have hmk := HMK.out
  clear he hm X0 hDm
  go_wp2
  have hh := HalfR.zero (B := w2.heap.size) (M := M) (n := N) w2 (tabTo s Dm N 0) (Nat.le_refl _) (by omega)
  have hE3 := Ext.ofAlloc w2 (.cells (madeCells #[Value.slice none 0 0] M) 25)
  generalize w2.alloc (.cells (madeCells #[Value.slice none 0 0] M) 25) = W3 at hh hE3 ⊢
  obtain ⟨tb, htb⟩ : ∃ t, t = w2.heap.size := ⟨_, rfl⟩
  rw [← htb] at hh ⊢
  have HTB := hid htb
  have HH := hid hh
  have HE3 := hid hE3
  clear hh hE3 htb c0 c1 hsh hmk
  go_loopg [21] M (fun g i wr => ∃ k : Nat, k + g = M ∧ i = .int .i64 k ∧ Hid (HalfR tb wr (.slice (some ⟨tb, 0, none⟩) M M) k M N (tabTo s Dm N k)) ∧ Hid (Ext w2 wr))
  case atStart => exact ⟨0, by omega, rfl, HH, HE3⟩
  case round =>
    clear HH HE3
    obtain ⟨k, hk, rfl, HALF, E⟩ := hrel
    have hkM : k ≤ M := by omega
    have Hk := hid hk
    clear hk
    by_cases hlt : k < M
    · have hki : (k : Int) < M := by omega
      have hk256 : k < 256 := by omega
      obtain ⟨c0, c1⟩ := (HX.out.ext E.out).cells
      obtain ⟨d0, fr, hBt⟩ := HALF.out.next hlt
      have hbw : tb < wr.heap.size := World.block_lt_of_cell? _ _ d0
      have hfar : Ints (wr.alloc (.cells #[.int .i64 1048576] 3)) (.slice (some ⟨wr.heap.size, 0, none⟩) 1 1) [far] := OwnI.ints (World.ownsRow_lit (base := 0) (e := 3) (size := 1) wr #[.int .i64 1048576] 1 (Nat.zero_le _) (by decide) rfl) (by simp)
      have HF := hid hfar
      replace c0 := (Ext.ofAlloc wr (.cells #[.int .i64 1048576] 3)).cell c0
      have HD0 := hid d0
      have HFR := hid fr
      clear hfar fr c1 d0
      go_wp2_with (fail)
      refine (Repeat_any _ far N _ HF.out hN).mono ?_
      rintro e w4 ⟨g, rfl, hg, hb, he⟩
      rw [rowL_rep] at hb
      have HW4 := hid ((Ext.ofAlloc wr (.cells #[.int .i64 1048576] 3)).trans he)
      have d0 := HW4.out.cell HD0.out
      have fr := frozen_ext HW4.out HD0.out HFR.out
      have hh2 := HALF.out.make hlt HW4.out (g := g) (by simp at hg; omega) (by omega) hb
      have HH2 := hid hh2
      have HE2 := hid ((E.out.trans HW4.out).setCell (show w2.heap.size ≤ tb by rw [HTB.out]; exact Nat.le_refl _) k (.slice (some ⟨g, 0, none⟩) N N))
      clear he hb hg hh2 HF HALF E
      obtain ⟨an, han⟩ : ∃ x, x = andn k s := ⟨_, rfl⟩
      have wa : bits .andNot .i64 k s = (an : Int) := by rw [bits_andn k s (by omega) (by omega), han]
      have HAN := hid han
      clear han
      have hnew : newRow s Dm N (tabTo s Dm N k) k = (if an ≠ 0 ∨ k = 0 then fun _ => far else closeV Dm N (mergeV (tabTo s Dm N k) Dm k)) := by unfold newRow; rw [HAN.out]
      have HNEW := hid hnew
      have Hnext : Hid (tabTo s Dm N (k + 1) = fun a => if a = k then newRow s Dm N (tabTo s Dm N k) k else tabTo s Dm N k a) := rfl
      clear hnew
      by_cases ha : an = 0
      · subst ha
        by_cases hk0 : k = 0
        · have HR : Hid (tabTo s Dm N (k + 1) = fun a => if a = k then (fun _ => far) else tabTo s Dm N k a) := by
            show _ = _
            rw [Hnext.out, HNEW.out, if_pos (Or.inr hk0)]
          have hkb : ((k : Int) == 0) = true := beq_iff_eq.2 (by omega)
          rw [← HR.out] at HH2
          clear hk0
          go_wp2
          go_roundg (M - (k + 1))
          case rel => exact ⟨k + 1, by omega, by go_num, HH2.out, HE2.out⟩
          case measure => have := Hk.out; omega
        · have hk0i : ¬ (k : Int) = 0 := by omega
          have hkb : ((k : Int) == 0) = false := beq_eq_false_iff_ne.2 hk0i
          have hkpos : 0 < k := by omega
          have HNW : Hid (newRow s Dm N (tabTo s Dm N k) k = closeV Dm N (mergeV (tabTo s Dm N k) Dm k)) := by
            show _ = _
            rw [HNEW.out, if_neg (by omega)]
          obtain ⟨T, hT⟩ : ∃ T, T = tabTo s Dm N k := ⟨_, rfl⟩
          rw [← hT] at HH2 HNW Hnext
          have HT := hid hT
          have hBdT : BdL N T := by rw [hT]; exact tab_bd HG.out k (by rw [← HMM.out]; exact hkM)
          have HBD := hid hBdT
          have HH3 : Hid (HalfR tb (w4.setCell ⟨tb, k, none⟩ (.slice (some ⟨g, 0, none⟩) N N)) (.slice (some ⟨tb, 0, none⟩) M M) (k + 1) M N (curT T k (upF (mergeV T Dm k) (fun _ => far) 0))) := HH2.out
          have hsub : IntKind.i64.wrap ((k : Int) - 1) = ((k - 1 : Nat) : Int) := by rw [IntKind.wrap_i64]; omega
          have hsub2 : wrap64 ((k : Int) - 1) = ((k - 1 : Nat) : Int) := by rw [IntWalk.wrap64_in _ (by omega)]; omega
          have wand : bits .and .i64 k ((k - 1 : Nat) : Int) = ((k &&& (k - 1) : Nat) : Int) := bits_and_nat k (k - 1) (by omega) (by omega)
          have wand2 : bits .and .i64 ((k - 1 : Nat) : Int) k = (((k - 1) &&& k : Nat) : Int) := bits_and_nat (k - 1) k (by omega) (by omega)
          have WAND := hid wand
          have WAND2 := hid wand2
          clear HH2 hT hBdT hk0 HD0 HFR hk0i wand wand2
          have cn0 := (HX.out.ext HE2.out).cells.1
          have E5 := HE2
          go_wp2
          generalize w4.setCell ⟨tb, k, none⟩ (.slice (some ⟨g, 0, none⟩) N N) = W5 at HH3 HE2 E5 cn0 ⊢
          clear d0 fr cn0 c0 HE2 wa
          go_loopg [41] N (fun g i wr => ∃ v : Nat, v + g = N ∧ i = .int .i64 v ∧ Hid (HalfR tb wr (.slice (some ⟨tb, 0, none⟩) M M) (k + 1) M N (curT T k (upF (mergeV T Dm k) (fun _ => far) v))) ∧ Hid (Ext w2 wr))
          case atStart => exact ⟨0, by omega, rfl, HH3, E5⟩
          case round =>
            clear HH3 E5
            obtain ⟨v, hv, rfl, HALF, E⟩ := hrel
            have hvN : v ≤ N := by omega
            have Hv := hid hv
            clear hv
            by_cases hvl : v < N
            · have hvi : (v : Int) < N := by omega
              by_cases h1 : k &&& (k - 1) = 0
              · have wand := WAND.out
                rw [h1] at wand
                have HSG := hid h1
                obtain ⟨z, ⟨hz1, hz2⟩, hTC⟩ := HTZ.out wr.drew ((HE.out.trans E.out).drew) k (by omega) hk256
                have hzl := single_log hk256 h1 hz1
                have HZL := hid hzl
                have hzN : z < N := by
                  have h3 : k < 2 ^ N := by rw [← HMM.out]; exact hlt
                  exact bit_lt h3 hz1
                have HTC := hid hTC
                obtain ⟨gd, cz, bz, -⟩ := MD.out.row hzN
                have cz' := E.out.cell cz
                have dz' := (bz.ext E.out).rowc hvl
                have hbdl : bd < w2.heap.size := World.block_lt_of_cell? _ _ cz
                have hgdl : gd < w2.heap.size := bz.lt
                obtain ⟨gm, cm, bm, hBm, hne, -, hset⟩ := HALF.out.row (k := k) (by omega)
                have hTB := HTB.out
                have dm := bm.rowc hvl
                have fm := bm.free v
                obtain ⟨y, hy⟩ : ∃ y, y = Dm z v := ⟨_, rfl⟩
                rw [← hy] at dz'
                have hs1 := hset v y hvl
                rw [curT_set] at hs1
                have q1 := set_keep (w := wr) (g := gm) (i := v) (u := .int .i64 y) (show tb ≠ gm from hne) cm
                have q2 := set_keep (w := wr) (g := gm) (i := v) (u := .int .i64 y) (show bd ≠ gm by omega) cz'
                have q3 := set_keep (w := wr) (g := gm) (i := v) (u := .int .i64 y) (show gd ≠ gm by omega) dz'
                have HBV : Hid (baseV Dm k v = y) := by
                  show _ = _
                  unfold baseV
                  rw [if_pos HSG.out, ← HZL.out, hy]
                have HS1 : Hid (HalfR tb ((wr.setCell ⟨gm, v, none⟩ (.int .i64 y)).drew) (.slice (some ⟨tb, 0, none⟩) M M) (k + 1) M N (curT T k (updF (upF (mergeV T Dm k) (fun _ => far) v) v (baseV Dm k v)))) := by
                  rw [HBV.out]; exact hs1.ext ((Ext.refl _).drew)
                have HE6 := hid (E.out.setCell (show w2.heap.size ≤ gm by omega) v (.int .i64 y)).drew
                have hwr : IntKind.u64.wrap (k : Int) = (k : Int) := by rw [IntKind.wrap_u64]; omega
                have hzi : (z : Int) < N := by omega
                clear hz1 hz2 hTC cz bz bm hset hs1 hy hzl h1 hne hBm hbdl hgdl hTB
                go_wp2
                refine wp_region_held_drew (S := (fun w' => w'.cell? ⟨tb, k, none⟩ = some (.slice (some ⟨gm, 0, none⟩) N N) ∧ w'.cell? ⟨bd, z, none⟩ = some (.slice (some ⟨gd, 0, none⟩) N N) ∧ w'.cell? ⟨gd, v, none⟩ = some (.int .i64 y))) (by kernel_rfl) ?hSa0 (fun hHeld => ?_)
                case hSa0 => (first | (first | exact ⟨cm, cz', dz'⟩ | exact ⟨q1, q2, q3⟩) | ((try dsimp only); first | exact ⟨cm, cz', dz'⟩ | exact ⟨q1, q2, q3⟩))
                refine wpAnyH_tk 0 (v := ?va0) rfl (by kernel_rfl) (by kernel_rfl) (by kernel_rfl) (fun _ _ _ h => h) (by rfl) ?hya0 (by assumption) ?_
                case hya0 => (intro w hSw; (try dsimp only at hSw); go_simp <;> with_reducible rfl)
                (try simp only [Act.put, List.setIfInBounds_toArray, List.set_cons_zero, List.set_cons_succ])
                refine wpAnyH_tk 1 (v := ?va1) rfl (by kernel_rfl) (by kernel_rfl) (by kernel_rfl) (fun _ _ _ h => h) (by rfl) ?hya1 (by assumption) ?_
                case hya1 => (intro w hSw; (try dsimp only at hSw); go_simp <;> with_reducible rfl)
                (try simp only [Act.put, List.setIfInBounds_toArray, List.set_cons_zero, List.set_cons_succ])
                refine wpAnyH_tk 2 (v := ?va2) rfl (by kernel_rfl) (by kernel_rfl) (by kernel_rfl) (fun _ _ _ h => h) (by rfl) ?hya2 (by assumption) ?_
                case hya2 => (intro w hSw; (try dsimp only at hSw); go_simp <;> with_reducible rfl)
                (try simp only [Act.put, List.setIfInBounds_toArray, List.set_cons_zero, List.set_cons_succ])
                refine wpAnyH_tk 3 (v := ?va3) rfl (by kernel_rfl) (by kernel_rfl) (by kernel_rfl) (fun _ _ _ h => h) (by rfl) ?hya3 (by assumption) ?_
                case hya3 => (intro w hSw; (try dsimp only at hSw); go_simp <;> with_reducible rfl)
                (try simp only [Act.put, List.setIfInBounds_toArray, List.set_cons_zero, List.set_cons_succ])
                refine wpAnyH_tk 4 (v := ?va4) rfl (by kernel_rfl) (by kernel_rfl) (by kernel_rfl) (fun _ _ _ h => h) (by rfl) ?hya4 (by assumption) ?_
                case hya4 => (intro w hSw; (try dsimp only at hSw); go_simp <;> with_reducible rfl)
                (try simp only [Act.put, List.setIfInBounds_toArray, List.set_cons_zero, List.set_cons_succ])
                refine wpAnyH_tk 5 (v := ?va5) rfl (by kernel_rfl) (by kernel_rfl) (by kernel_rfl) (fun _ _ _ h => h) (by rfl) ?hya5 (by assumption) ?_
                case hya5 => (intro w hSw; (try dsimp only at hSw); go_simp <;> with_reducible rfl)
                (try simp only [Act.put, List.setIfInBounds_toArray, List.set_cons_zero, List.set_cons_succ])
                refine wpAnyH_tk 6 (v := ?va6) rfl (by kernel_rfl) (by kernel_rfl) (by kernel_rfl) (fun _ _ _ h => h) (by rfl) ?hya6 (by assumption) ?_
                case hya6 => (intro w hSw; (try dsimp only at hSw); go_simp <;> with_reducible rfl)
                (try simp only [Act.put, List.setIfInBounds_toArray, List.set_cons_zero, List.set_cons_succ])
                refine wpAnyH_tk 7 (v := ?va7) rfl (by kernel_rfl) (by kernel_rfl) (by kernel_rfl) (fun _ _ _ h => h) (by rfl) ?hya7 (by assumption) ?_
                case hya7 => (intro w hSw; (try dsimp only at hSw); go_simp <;> with_reducible rfl)
                (try simp only [Act.put, List.setIfInBounds_toArray, List.set_cons_zero, List.set_cons_succ])
                refine wpAnyH_tk 11 (v := ?va11) rfl (by kernel_rfl) (by kernel_rfl) (by kernel_rfl) (fun _ _ _ h => h) (by rfl) ?hya11 (by assumption) ?_
                case hya11 => (intro w hSw; (try dsimp only at hSw); go_simp <;> with_reducible rfl)
                (try simp only [Act.put, List.setIfInBounds_toArray, List.set_cons_zero, List.set_cons_succ])
                refine wpAnyH_one 8 rfl (by kernel_rfl) (by rfl) (fun K hK => ?_)
                go_simp
                (refine HTC.out.mono ?_; rintro e wB ⟨rfl, rfl⟩)
                refine hK.out _ _ ?hSa9 (fun hHeld => ?_)
                case hSa9 => (first | (first | exact ⟨cm, cz', dz'⟩ | exact ⟨q1, q2, q3⟩) | ((try dsimp only); first | exact ⟨cm, cz', dz'⟩ | exact ⟨q1, q2, q3⟩))
                clear hK K
                (try simp only [Act.put, List.setIfInBounds_toArray, List.set_cons_zero, List.set_cons_succ])
                refine wpAnyH_tk 9 (v := ?va9) rfl (by kernel_rfl) (by kernel_rfl) (by kernel_rfl) (fun _ _ _ h => h) (by rfl) ?hya9 (by assumption) ?_
                case hya9 => (intro w hSw; (try dsimp only at hSw); go_simp <;> with_reducible rfl)
                (try simp only [Act.put, List.setIfInBounds_toArray, List.set_cons_zero, List.set_cons_succ])
                refine wpAnyH_tk 10 (v := ?va10) rfl (by kernel_rfl) (by kernel_rfl) (by kernel_rfl) (fun _ _ _ h => h) (by rfl) ?hya10 (by assumption) ?_
                case hya10 => (intro w hSw; (try dsimp only at hSw); go_simp <;> with_reducible rfl)
                (try simp only [Act.put, List.setIfInBounds_toArray, List.set_cons_zero, List.set_cons_succ])
                refine wpAnyH_tk 12 (v := ?va12) rfl (by kernel_rfl) (by kernel_rfl) (by kernel_rfl) (fun _ _ _ h => h) (by rfl) ?hya12 (by assumption) ?_
                case hya12 => (intro w hSw; (try dsimp only at hSw); go_simp <;> with_reducible rfl)
                (try simp only [Act.put, List.setIfInBounds_toArray, List.set_cons_zero, List.set_cons_succ])
                refine wpAnyH_tk 13 (v := ?va13) rfl (by kernel_rfl) (by kernel_rfl) (by kernel_rfl) (fun _ _ _ h => h) (by rfl) ?hya13 (by assumption) ?_
                case hya13 => (intro w hSw; (try dsimp only at hSw); go_simp <;> with_reducible rfl)
                (try simp only [Act.put, List.setIfInBounds_toArray, List.set_cons_zero, List.set_cons_succ])
                refine wpAnyH_tk 14 (v := ?va14) rfl (by kernel_rfl) (by kernel_rfl) (by kernel_rfl) (fun _ _ _ h => h) (by rfl) ?hya14 (by assumption) ?_
                case hya14 => (intro w hSw; (try dsimp only at hSw); go_simp <;> with_reducible rfl)
                (try simp only [Act.put, List.setIfInBounds_toArray, List.set_cons_zero, List.set_cons_succ])
                refine wpAnyH_one 15 rfl (by kernel_rfl) (by rfl) (fun K hK => ?_)
                go_simp
                (skip)
                refine hK.out _ _ ?hSa16 (fun hHeld => ?_)
                case hSa16 => (first | (first | exact ⟨cm, cz', dz'⟩ | exact ⟨q1, q2, q3⟩) | ((try dsimp only); first | exact ⟨cm, cz', dz'⟩ | exact ⟨q1, q2, q3⟩))
                clear hK K
                (try simp only [Act.put, List.setIfInBounds_toArray, List.set_cons_zero, List.set_cons_succ])
                refine wpAnyH_done (by kernel_rfl) ?_ _
                clear hHeld cz' dz' cm dm fm q1 q2 q3 hwr wand
                generalize (wr.setCell ⟨gm, v, none⟩ (.int .i64 y)).drew = W6 at HS1 HE6 ⊢
                have wand2 := WAND2.out
                go_wp2
                clear wand2
                obtain ⟨p0, hp0⟩ : ∃ p, p = (k - 1) &&& k := ⟨_, rfl⟩
                have HP0 := hid hp0
                rw [← hp0]
                clear hp0
                go_loopg [9] 256 (fun g i wr => ∃ (f p : Nat) (x : Int), p ≤ g ∧ p ≤ f ∧ f ≤ 256 ∧ i = .int .i64 p ∧ p < k ∧ Hid (p &&& k = p) ∧ Hid (foldMn (partV T k v) (partsF k f p) x = mergeV T Dm k v) ∧ 0 ≤ x ∧ x ≤ far ∧ Hid (HalfR tb wr (.slice (some ⟨tb, 0, none⟩) M M) (k + 1) M N (curT T k (updF (upF (mergeV T Dm k) (fun _ => far) v) v x))) ∧ Hid (Ext w2 wr))
                case atStart =>
                  have hp1 : p0 ≤ k - 1 := by rw [HP0.out]; exact Nat.and_le_left
                  have hbb : 0 ≤ baseV Dm k v ∧ baseV Dm k v ≤ far := by
                    unfold baseV
                    split
                    · have hl : Nat.log2 k < N := (Nat.log2_lt (by omega)).2 (by rw [← HMM.out]; exact hlt)
                      exact ⟨HG.out.lo _ _ hl hvl, HG.out.hi _ _ hl hvl⟩
                    · unfold far; omega
                  exact ⟨256, p0, baseV Dm k v, by omega, by omega, by omega, rfl, by omega, by show _ = _; rw [HP0.out, Nat.and_assoc, Nat.and_self], by show _ = _; unfold mergeV partsOf; rw [HP0.out], hbb.1, hbb.2, HS1, HE6⟩
                case round =>
                  clear HS1 HE6
                  obtain ⟨f, p, x, hpg, hpf, hf6, rfl, hpk, HPK, HFM, hx0, hx1, HALF, E⟩ := hrel
                  by_cases hp : 0 < p
                  · have hpi : (0 : Int) < p := by omega
                    have hpM : (p : Int) < M := by omega
                    obtain ⟨f', rfl⟩ : ∃ f', f = f' + 1 := ⟨f - 1, by omega⟩
                    obtain ⟨hq0, hqk⟩ := andn_mem HPK.out hp hpk
                    have wan : bits .andNot .i64 k p = ((andn k p : Nat) : Int) := bits_andn k p (by omega) (by omega)
                    obtain ⟨q, hq⟩ : ∃ q, q = andn k p := ⟨_, rfl⟩
                    rw [← hq] at wan hq0 hqk
                    have hqM : (q : Int) < M := by omega
                    obtain ⟨gm, cm, bm, hBm, hne, hoth, hset⟩ := HALF.out.row (k := k) (by omega)
                    obtain ⟨gp, hgp, cp, bp⟩ := hoth p (by omega) (by omega)
                    obtain ⟨gq, hgq, cq, bq⟩ := hoth q (by omega) (by omega)
                    have dm := bm.rowc hvl
                    rw [curT_at, updF_at] at dm
                    have fm := bm.free v
                    have dp := bp.rowc hvl
                    rw [curT_ne (by omega)] at dp
                    have dq := bq.rowc hvl
                    rw [curT_ne (by omega)] at dq
                    obtain ⟨b1, b2⟩ := HBD.out p v hvl
                    obtain ⟨b3, b4⟩ := HBD.out q v hvl
                    have hstep : foldMn (partV T k v) (partsF k (f' + 1) p) x = foldMn (partV T k v) (partsF k f' ((p - 1) &&& k)) (if T p v + T q v < x then T p v + T q v else x) := by
                      have e : partsF k (f' + 1) p = p :: partsF k f' ((p - 1) &&& k) := by
                        show (if p = 0 then [] else _) = _
                        rw [if_neg (by omega)]
                      rw [e, hq]; rfl
                    have HSTEP := hid hstep
                    obtain ⟨y1, hy1⟩ : ∃ y, y = T p v := ⟨_, rfl⟩
                    obtain ⟨y2, hy2⟩ : ∃ y, y = T q v := ⟨_, rfl⟩
                    rw [← hy1] at dp b1 b2
                    rw [← hy2] at dq b3 b4
                    rw [← hy1, ← hy2] at HSTEP
                    have hw1 : IntKind.i64.wrap (y1 + y2) = y1 + y2 := by unfold far at b2 b4; rw [IntKind.wrap_i64]; omega
                    obtain ⟨nx, hnx⟩ : ∃ y, y = (if y1 + y2 < x then y1 + y2 else x) := ⟨_, rfl⟩
                    rw [← hnx] at HSTEP
                    have hnb : 0 ≤ nx ∧ nx ≤ far := by rw [hnx]; split <;> omega
                    have HNB := hid hnb
                    have hs1 := hset v nx hvl
                    rw [curT_set, updF_updF] at hs1
                    have q1 := set_keep (w := wr) (g := gm) (i := v) (u := .int .i64 nx) (show tb ≠ gm from hne) cm
                    have q2 := set_keep (w := wr) (g := gm) (i := v) (u := .int .i64 nx) (show tb ≠ gm from hne) cp
                    have q3 := set_keep (w := wr) (g := gm) (i := v) (u := .int .i64 nx) (show tb ≠ gm from hne) cq
                    have q4 := set_keep (w := wr) (g := gm) (i := v) (u := .int .i64 nx) hgp dp
                    have q5 := set_keep (w := wr) (g := gm) (i := v) (u := .int .i64 nx) hgq dq
                    have HS1 := hid (hs1.ext ((Ext.refl _).drew))
                    have hTB := HTB.out
                    have HE6 := hid (E.out.setCell (show w2.heap.size ≤ gm by omega) v (.int .i64 nx)).drew
                    have hsubp : wrap64 ((p : Int) - 1) = ((p - 1 : Nat) : Int) := by rw [IntWalk.wrap64_in _ (by omega)]; omega
                    have wandp : bits .and .i64 ((p : Int) - 1) k = (((p - 1) &&& k : Nat) : Int) := by
                      rw [show (p : Int) - 1 = ((p - 1 : Nat) : Int) by omega]; exact bits_and_nat (p - 1) k (by omega) (by omega)
                    have HWP := hid wandp
                    have HSP := hid hsubp
                    rw [hnx] at q1 q2 q3 q4 q5 HS1 HE6
                    have HNX := hid hnx
                    clear bm bp bq hoth hset hs1 hne hBm hy1 hy2 hnx b1 b2 b3 b4 HALF E hstep hq hnb hTB wandp hsubp
                    go_wp2
                    refine wp_region_held_drew (S := (fun w' => w'.cell? ⟨tb, k, none⟩ = some (.slice (some ⟨gm, 0, none⟩) N N) ∧ w'.cell? ⟨tb, p, none⟩ = some (.slice (some ⟨gp, 0, none⟩) N N) ∧ w'.cell? ⟨tb, q, none⟩ = some (.slice (some ⟨gq, 0, none⟩) N N) ∧ w'.cell? ⟨gp, v, none⟩ = some (.int .i64 y1) ∧ w'.cell? ⟨gq, v, none⟩ = some (.int .i64 y2))) (by kernel_rfl) ?hSb0 (fun hHeld => ?_)
                    case hSb0 => (first | (first | exact ⟨cm, cp, cq, dp, dq⟩ | exact ⟨q1, q2, q3, q4, q5⟩) | ((try dsimp only); first | exact ⟨cm, cp, cq, dp, dq⟩ | exact ⟨q1, q2, q3, q4, q5⟩))
                    refine wpAnyH_tk 0 (v := ?vb0) rfl (by kernel_rfl) (by kernel_rfl) (by kernel_rfl) (fun _ _ _ h => h) (by rfl) ?hyb0 (by assumption) ?_
                    case hyb0 => (intro w hSw; (try dsimp only at hSw); go_simp <;> with_reducible rfl)
                    (try simp only [Act.put, List.setIfInBounds_toArray, List.set_cons_zero, List.set_cons_succ])
                    refine wpAnyH_tk 1 (v := ?vb1) rfl (by kernel_rfl) (by kernel_rfl) (by kernel_rfl) (fun _ _ _ h => h) (by rfl) ?hyb1 (by assumption) ?_
                    case hyb1 => (intro w hSw; (try dsimp only at hSw); go_simp <;> with_reducible rfl)
                    (try simp only [Act.put, List.setIfInBounds_toArray, List.set_cons_zero, List.set_cons_succ])
                    refine wpAnyH_tk 2 (v := ?vb2) rfl (by kernel_rfl) (by kernel_rfl) (by kernel_rfl) (fun _ _ _ h => h) (by rfl) ?hyb2 (by assumption) ?_
                    case hyb2 => (intro w hSw; (try dsimp only at hSw); go_simp <;> with_reducible rfl)
                    (try simp only [Act.put, List.setIfInBounds_toArray, List.set_cons_zero, List.set_cons_succ])
                    refine wpAnyH_tk 3 (v := ?vb3) rfl (by kernel_rfl) (by kernel_rfl) (by kernel_rfl) (fun _ _ _ h => h) (by rfl) ?hyb3 (by assumption) ?_
                    case hyb3 => (intro w hSw; (try dsimp only at hSw); go_simp <;> with_reducible rfl)
                    (try simp only [Act.put, List.setIfInBounds_toArray, List.set_cons_zero, List.set_cons_succ])
                    refine wpAnyH_tk 4 (v := ?vb4) rfl (by kernel_rfl) (by kernel_rfl) (by kernel_rfl) (fun _ _ _ h => h) (by rfl) ?hyb4 (by assumption) ?_
                    case hyb4 => (intro w hSw; (try dsimp only at hSw); go_simp <;> with_reducible rfl)
                    (try simp only [Act.put, List.setIfInBounds_toArray, List.set_cons_zero, List.set_cons_succ])
                    refine wpAnyH_tk 5 (v := ?vb5) rfl (by kernel_rfl) (by kernel_rfl) (by kernel_rfl) (fun _ _ _ h => h) (by rfl) ?hyb5 (by assumption) ?_
                    case hyb5 => (intro w hSw; (try dsimp only at hSw); go_simp <;> with_reducible rfl)
                    (try simp only [Act.put, List.setIfInBounds_toArray, List.set_cons_zero, List.set_cons_succ])
                    refine wpAnyH_tk 6 (v := ?vb6) rfl (by kernel_rfl) (by kernel_rfl) (by kernel_rfl) (fun _ _ _ h => h) (by rfl) ?hyb6 (by assumption) ?_
                    case hyb6 => (intro w hSw; (try dsimp only at hSw); go_simp <;> with_reducible rfl)
                    (try simp only [Act.put, List.setIfInBounds_toArray, List.set_cons_zero, List.set_cons_succ])
                    refine wpAnyH_tk 7 (v := ?vb7) rfl (by kernel_rfl) (by kernel_rfl) (by kernel_rfl) (fun _ _ _ h => h) (by rfl) ?hyb7 (by assumption) ?_
                    case hyb7 => (intro w hSw; (try dsimp only at hSw); go_simp <;> with_reducible rfl)
                    (try simp only [Act.put, List.setIfInBounds_toArray, List.set_cons_zero, List.set_cons_succ])
                    refine wpAnyH_tk 8 (v := ?vb8) rfl (by kernel_rfl) (by kernel_rfl) (by kernel_rfl) (fun _ _ _ h => h) (by rfl) ?hyb8 (by assumption) ?_
                    case hyb8 => (intro w hSw; (try dsimp only at hSw); go_simp <;> with_reducible rfl)
                    (try simp only [Act.put, List.setIfInBounds_toArray, List.set_cons_zero, List.set_cons_succ])
                    refine wpAnyH_tk 9 (v := ?vb9) rfl (by kernel_rfl) (by kernel_rfl) (by kernel_rfl) (fun _ _ _ h => h) (by rfl) ?hyb9 (by assumption) ?_
                    case hyb9 => (intro w hSw; (try dsimp only at hSw); go_simp <;> with_reducible rfl)
                    (try simp only [Act.put, List.setIfInBounds_toArray, List.set_cons_zero, List.set_cons_succ])
                    refine wpAnyH_tk 10 (v := ?vb10) rfl (by kernel_rfl) (by kernel_rfl) (by kernel_rfl) (fun _ _ _ h => h) (by rfl) ?hyb10 (by assumption) ?_
                    case hyb10 => (intro w hSw; (try dsimp only at hSw); go_simp <;> with_reducible rfl)
                    (try simp only [Act.put, List.setIfInBounds_toArray, List.set_cons_zero, List.set_cons_succ])
                    refine wpAnyH_tk 12 (v := ?vb12) rfl (by kernel_rfl) (by kernel_rfl) (by kernel_rfl) (fun _ _ _ h => h) (by rfl) ?hyb12 (by assumption) ?_
                    case hyb12 => (intro w hSw; (try dsimp only at hSw); go_simp <;> with_reducible rfl)
                    (try simp only [Act.put, List.setIfInBounds_toArray, List.set_cons_zero, List.set_cons_succ])
                    refine wpAnyH_tk 13 (v := ?vb13) rfl (by kernel_rfl) (by kernel_rfl) (by kernel_rfl) (fun _ _ _ h => h) (by rfl) ?hyb13 (by assumption) ?_
                    case hyb13 => (intro w hSw; (try dsimp only at hSw); go_simp <;> with_reducible rfl)
                    (try simp only [Act.put, List.setIfInBounds_toArray, List.set_cons_zero, List.set_cons_succ])
                    refine wpAnyH_tk 14 (v := ?vb14) rfl (by kernel_rfl) (by kernel_rfl) (by kernel_rfl) (fun _ _ _ h => h) (by rfl) ?hyb14 (by assumption) ?_
                    case hyb14 => (intro w hSw; (try dsimp only at hSw); go_simp <;> with_reducible rfl)
                    (try simp only [Act.put, List.setIfInBounds_toArray, List.set_cons_zero, List.set_cons_succ])
                    refine wpAnyH_tk 15 (v := ?vb15) rfl (by kernel_rfl) (by kernel_rfl) (by kernel_rfl) (fun _ _ _ h => h) (by rfl) ?hyb15 (by assumption) ?_
                    case hyb15 => (intro w hSw; (try dsimp only at hSw); go_simp <;> with_reducible rfl)
                    (try simp only [Act.put, List.setIfInBounds_toArray, List.set_cons_zero, List.set_cons_succ])
                    refine wpAnyH_tk 16 (v := ?vb16) rfl (by kernel_rfl) (by kernel_rfl) (by kernel_rfl) (fun _ _ _ h => h) (by rfl) ?hyb16 (by assumption) ?_
                    case hyb16 => (intro w hSw; (try dsimp only at hSw); go_simp <;> with_reducible rfl)
                    (try simp only [Act.put, List.setIfInBounds_toArray, List.set_cons_zero, List.set_cons_succ])
                    refine wpAnyH_tk 17 (v := ?vb17) rfl (by kernel_rfl) (by kernel_rfl) (by kernel_rfl) (fun _ _ _ h => h) (by rfl) ?hyb17 (by assumption) ?_
                    case hyb17 => (intro w hSw; (try dsimp only at hSw); go_simp <;> with_reducible rfl)
                    (try simp only [Act.put, List.setIfInBounds_toArray, List.set_cons_zero, List.set_cons_succ])
                    refine wpAnyH_tk 18 (v := ?vb18) rfl (by kernel_rfl) (by kernel_rfl) (by kernel_rfl) (fun _ _ _ h => h) (by rfl) ?hyb18 (by assumption) ?_
                    case hyb18 => (intro w hSw; (try dsimp only at hSw); go_simp <;> with_reducible rfl)
                    (try simp only [Act.put, List.setIfInBounds_toArray, List.set_cons_zero, List.set_cons_succ])
                    refine wpAnyH_tk 19 (v := ?vb19) rfl (by kernel_rfl) (by kernel_rfl) (by kernel_rfl) (fun _ _ _ h => h) (by rfl) ?hyb19 (by assumption) ?_
                    case hyb19 => (intro w hSw; (try dsimp only at hSw); go_simp <;> with_reducible rfl)
                    (try simp only [Act.put, List.setIfInBounds_toArray, List.set_cons_zero, List.set_cons_succ])
                    refine wpAnyH_tk 20 (v := ?vb20) rfl (by kernel_rfl) (by kernel_rfl) (by kernel_rfl) (fun _ _ _ h => h) (by rfl) ?hyb20 (by assumption) ?_
                    case hyb20 => (intro w hSw; (try dsimp only at hSw); go_simp <;> with_reducible rfl)
                    (try simp only [Act.put, List.setIfInBounds_toArray, List.set_cons_zero, List.set_cons_succ])
                    refine wpAnyH_tk 21 (v := ?vb21) rfl (by kernel_rfl) (by kernel_rfl) (by kernel_rfl) (fun _ _ _ h => h) (by rfl) ?hyb21 (by assumption) ?_
                    case hyb21 => (intro w hSw; (try dsimp only at hSw); go_simp <;> with_reducible rfl)
                    (try simp only [Act.put, List.setIfInBounds_toArray, List.set_cons_zero, List.set_cons_succ])
                    refine wpAnyH_tk 22 (v := ?vb22) rfl (by kernel_rfl) (by kernel_rfl) (by kernel_rfl) (fun _ _ _ h => h) (by rfl) ?hyb22 (by assumption) ?_
                    case hyb22 => (intro w hSw; (try dsimp only at hSw); go_simp <;> with_reducible rfl)
                    (try simp only [Act.put, List.setIfInBounds_toArray, List.set_cons_zero, List.set_cons_succ])
                    refine wpAnyH_tk 23 (v := ?vb23) rfl (by kernel_rfl) (by kernel_rfl) (by kernel_rfl) (fun _ _ _ h => h) (by rfl) ?hyb23 (by assumption) ?_
                    case hyb23 => (intro w hSw; (try dsimp only at hSw); go_simp <;> with_reducible rfl)
                    (try simp only [Act.put, List.setIfInBounds_toArray, List.set_cons_zero, List.set_cons_succ])
                    refine wpAnyH_tk 24 (v := ?vb24) rfl (by kernel_rfl) (by kernel_rfl) (by kernel_rfl) (fun _ _ _ h => h) (by rfl) ?hyb24 (by assumption) ?_
                    case hyb24 => (intro w hSw; (try dsimp only at hSw); go_simp <;> with_reducible rfl)
                    (try simp only [Act.put, List.setIfInBounds_toArray, List.set_cons_zero, List.set_cons_succ])
                    refine wpAnyH_tk 25 (v := ?vb25) rfl (by kernel_rfl) (by kernel_rfl) (by kernel_rfl) (fun _ _ _ h => h) (by rfl) ?hyb25 (by assumption) ?_
                    case hyb25 => (intro w hSw; (try dsimp only at hSw); go_simp <;> with_reducible rfl)
                    (try simp only [Act.put, List.setIfInBounds_toArray, List.set_cons_zero, List.set_cons_succ])
                    refine wpAnyH_tk 26 (v := ?vb26) rfl (by kernel_rfl) (by kernel_rfl) (by kernel_rfl) (fun _ _ _ h => h) (by rfl) ?hyb26 (by assumption) ?_
                    case hyb26 => (intro w hSw; (try dsimp only at hSw); go_simp <;> with_reducible rfl)
                    (try simp only [Act.put, List.setIfInBounds_toArray, List.set_cons_zero, List.set_cons_succ])
                    refine wpAnyH_tk 27 (v := ?vb27) rfl (by kernel_rfl) (by kernel_rfl) (by kernel_rfl) (fun _ _ _ h => h) (by rfl) ?hyb27 (by assumption) ?_
                    case hyb27 => (intro w hSw; (try dsimp only at hSw); go_simp <;> with_reducible rfl)
                    (try simp only [Act.put, List.setIfInBounds_toArray, List.set_cons_zero, List.set_cons_succ])
                    refine wpAnyH_tk 28 (v := ?vb28) rfl (by kernel_rfl) (by kernel_rfl) (by kernel_rfl) (fun _ _ _ h => h) (by rfl) ?hyb28 (by assumption) ?_
                    case hyb28 => (intro w hSw; (try dsimp only at hSw); go_simp <;> with_reducible rfl)
                    (try simp only [Act.put, List.setIfInBounds_toArray, List.set_cons_zero, List.set_cons_succ])
                    refine wpAnyH_one 11 rfl (by kernel_rfl) (by rfl) (fun K hK => ?_)
                    go_simp
                    (skip)
                    refine hK.out _ _ ?hSb12 (fun hHeld => ?_)
                    case hSb12 => (first | (first | exact ⟨cm, cp, cq, dp, dq⟩ | exact ⟨q1, q2, q3, q4, q5⟩) | ((try dsimp only); first | exact ⟨cm, cp, cq, dp, dq⟩ | exact ⟨q1, q2, q3, q4, q5⟩))
                    clear hK K
                    (try simp only [Act.put, List.setIfInBounds_toArray, List.set_cons_zero, List.set_cons_succ])
                    refine wpAnyH_tk 29 (v := ?vb29) rfl (by kernel_rfl) (by kernel_rfl) (by kernel_rfl) (fun _ _ _ h => h) (by rfl) ?hyb29 (by assumption) ?_
                    case hyb29 => (intro w hSw; (try dsimp only at hSw); go_simp <;> with_reducible rfl)
                    (try simp only [Act.put, List.setIfInBounds_toArray, List.set_cons_zero, List.set_cons_succ])
                    refine wpAnyH_tk 30 (v := ?vb30) rfl (by kernel_rfl) (by kernel_rfl) (by kernel_rfl) (fun _ _ _ h => h) (by rfl) ?hyb30 (by assumption) ?_
                    case hyb30 => (intro w hSw; (try dsimp only at hSw); go_simp <;> with_reducible rfl)
                    (try simp only [Act.put, List.setIfInBounds_toArray, List.set_cons_zero, List.set_cons_succ])
                    refine wpAnyH_one 31 rfl (by kernel_rfl) (by rfl) (fun K hK => ?_)
                    go_simp
                    (skip)
                    refine hK.out _ _ ?hSb32 (fun hHeld => ?_)
                    case hSb32 => (first | (first | exact ⟨cm, cp, cq, dp, dq⟩ | exact ⟨q1, q2, q3, q4, q5⟩) | ((try dsimp only); first | exact ⟨cm, cp, cq, dp, dq⟩ | exact ⟨q1, q2, q3, q4, q5⟩))
                    clear hK K
                    (try simp only [Act.put, List.setIfInBounds_toArray, List.set_cons_zero, List.set_cons_succ])
                    refine wpAnyH_done (by kernel_rfl) ?_ _
                    clear hHeld cm cp cq dm dp dq fm q1 q2 q3 q4 q5 hw1 wan
                    have HNX2 : Hid ((if y1 + y2 < x then y1 + y2 else x) = nx) := HNX.out.symm
                    generalize (if y1 + y2 < x then y1 + y2 else x) = nx2 at HS1 HE6 HNX2 ⊢
                    obtain rfl := HNX2.out
                    have wandp := HWP.out
                    have hsubp := HSP.out
                    go_wp2
                    go_roundg (gk - 1)
                    case rel => exact ⟨f', (p - 1) &&& k, _, by have : (p - 1) &&& k ≤ p - 1 := Nat.and_le_left; omega, by have : (p - 1) &&& k ≤ p - 1 := Nat.and_le_left; omega, by omega, rfl, by have : (p - 1) &&& k ≤ p - 1 := Nat.and_le_left; omega, by show _ = _; rw [Nat.and_assoc, Nat.and_self], by show _ = _; rw [← HSTEP.out]; exact HFM.out, HNB.out.1, HNB.out.2, HS1.out, HE6.out⟩
                    case measure => omega
                  · have ep : p = 0 := by omega
                    subst ep
                    have HX2 : Hid (x = mergeV T Dm k v) := by
                      show _ = _
                      rw [← HFM.out]
                      cases f with
                      | zero => rfl
                      | succ f => rfl
                    have HH5 : Hid (HalfR tb wr (.slice (some ⟨tb, 0, none⟩) M M) (k + 1) M N (curT T k (upF (mergeV T Dm k) (fun _ => far) (v + 1)))) := by
                      rw [← upF_succ, ← HX2.out]; exact HALF.out
                    go_wp2
                    go_roundg (N - (v + 1))
                    case rel => exact ⟨v + 1, by omega, by go_num, HH5.out, E.out⟩
                    case measure => have := Hv.out; omega
              · have wand := WAND.out
                have hnz : ((k &&& (k - 1) : Nat) : Int) ≠ 0 := by omega
                have hnb : (((k &&& (k - 1) : Nat) : Int) == 0) = false := beq_eq_false_iff_ne.2 hnz
                have HS1 : Hid (HalfR tb wr (.slice (some ⟨tb, 0, none⟩) M M) (k + 1) M N (curT T k (updF (upF (mergeV T Dm k) (fun _ => far) v) v (baseV Dm k v)))) := by
                  have e : baseV Dm k v = upF (mergeV T Dm k) (fun _ => far) v v := by
                    rw [upF_at]; unfold baseV; rw [if_neg h1]
                  rw [e, updF_self]; exact HALF.out
                have HE6 := hid E.out
                have wand2 := WAND2.out
                clear h1 hnz
                go_wp2
                clear wand2 wand hnb
                obtain ⟨p0, hp0⟩ : ∃ p, p = (k - 1) &&& k := ⟨_, rfl⟩
                have HP0 := hid hp0
                rw [← hp0]
                clear hp0
                go_loopg [9] 256 (fun g i wr => ∃ (f p : Nat) (x : Int), p ≤ g ∧ p ≤ f ∧ f ≤ 256 ∧ i = .int .i64 p ∧ p < k ∧ Hid (p &&& k = p) ∧ Hid (foldMn (partV T k v) (partsF k f p) x = mergeV T Dm k v) ∧ 0 ≤ x ∧ x ≤ far ∧ Hid (HalfR tb wr (.slice (some ⟨tb, 0, none⟩) M M) (k + 1) M N (curT T k (updF (upF (mergeV T Dm k) (fun _ => far) v) v x))) ∧ Hid (Ext w2 wr))
                case atStart =>
                  have hp1 : p0 ≤ k - 1 := by rw [HP0.out]; exact Nat.and_le_left
                  have hbb : 0 ≤ baseV Dm k v ∧ baseV Dm k v ≤ far := by
                    unfold baseV
                    split
                    · have hl : Nat.log2 k < N := (Nat.log2_lt (by omega)).2 (by rw [← HMM.out]; exact hlt)
                      exact ⟨HG.out.lo _ _ hl hvl, HG.out.hi _ _ hl hvl⟩
                    · unfold far; omega
                  exact ⟨256, p0, baseV Dm k v, by omega, by omega, by omega, rfl, by omega, by show _ = _; rw [HP0.out, Nat.and_assoc, Nat.and_self], by show _ = _; unfold mergeV partsOf; rw [HP0.out], hbb.1, hbb.2, HS1, HE6⟩
                case round =>
                  clear HS1 HE6
                  obtain ⟨f, p, x, hpg, hpf, hf6, rfl, hpk, HPK, HFM, hx0, hx1, HALF, E⟩ := hrel
                  by_cases hp : 0 < p
                  · have hpi : (0 : Int) < p := by omega
                    have hpM : (p : Int) < M := by omega
                    obtain ⟨f', rfl⟩ : ∃ f', f = f' + 1 := ⟨f - 1, by omega⟩
                    obtain ⟨hq0, hqk⟩ := andn_mem HPK.out hp hpk
                    have wan : bits .andNot .i64 k p = ((andn k p : Nat) : Int) := bits_andn k p (by omega) (by omega)
                    obtain ⟨q, hq⟩ : ∃ q, q = andn k p := ⟨_, rfl⟩
                    rw [← hq] at wan hq0 hqk
                    have hqM : (q : Int) < M := by omega
                    obtain ⟨gm, cm, bm, hBm, hne, hoth, hset⟩ := HALF.out.row (k := k) (by omega)
                    obtain ⟨gp, hgp, cp, bp⟩ := hoth p (by omega) (by omega)
                    obtain ⟨gq, hgq, cq, bq⟩ := hoth q (by omega) (by omega)
                    have dm := bm.rowc hvl
                    rw [curT_at, updF_at] at dm
                    have fm := bm.free v
                    have dp := bp.rowc hvl
                    rw [curT_ne (by omega)] at dp
                    have dq := bq.rowc hvl
                    rw [curT_ne (by omega)] at dq
                    obtain ⟨b1, b2⟩ := HBD.out p v hvl
                    obtain ⟨b3, b4⟩ := HBD.out q v hvl
                    have hstep : foldMn (partV T k v) (partsF k (f' + 1) p) x = foldMn (partV T k v) (partsF k f' ((p - 1) &&& k)) (if T p v + T q v < x then T p v + T q v else x) := by
                      have e : partsF k (f' + 1) p = p :: partsF k f' ((p - 1) &&& k) := by
                        show (if p = 0 then [] else _) = _
                        rw [if_neg (by omega)]
                      rw [e, hq]; rfl
                    have HSTEP := hid hstep
                    obtain ⟨y1, hy1⟩ : ∃ y, y = T p v := ⟨_, rfl⟩
                    obtain ⟨y2, hy2⟩ : ∃ y, y = T q v := ⟨_, rfl⟩
                    rw [← hy1] at dp b1 b2
                    rw [← hy2] at dq b3 b4
                    rw [← hy1, ← hy2] at HSTEP
                    have hw1 : IntKind.i64.wrap (y1 + y2) = y1 + y2 := by unfold far at b2 b4; rw [IntKind.wrap_i64]; omega
                    obtain ⟨nx, hnx⟩ : ∃ y, y = (if y1 + y2 < x then y1 + y2 else x) := ⟨_, rfl⟩
                    rw [← hnx] at HSTEP
                    have hnb : 0 ≤ nx ∧ nx ≤ far := by rw [hnx]; split <;> omega
                    have HNB := hid hnb
                    have hs1 := hset v nx hvl
                    rw [curT_set, updF_updF] at hs1
                    have q1 := set_keep (w := wr) (g := gm) (i := v) (u := .int .i64 nx) (show tb ≠ gm from hne) cm
                    have q2 := set_keep (w := wr) (g := gm) (i := v) (u := .int .i64 nx) (show tb ≠ gm from hne) cp
                    have q3 := set_keep (w := wr) (g := gm) (i := v) (u := .int .i64 nx) (show tb ≠ gm from hne) cq
                    have q4 := set_keep (w := wr) (g := gm) (i := v) (u := .int .i64 nx) hgp dp
                    have q5 := set_keep (w := wr) (g := gm) (i := v) (u := .int .i64 nx) hgq dq
                    have HS1 := hid (hs1.ext ((Ext.refl _).drew))
                    have hTB := HTB.out
                    have HE6 := hid (E.out.setCell (show w2.heap.size ≤ gm by omega) v (.int .i64 nx)).drew
                    have hsubp : wrap64 ((p : Int) - 1) = ((p - 1 : Nat) : Int) := by rw [IntWalk.wrap64_in _ (by omega)]; omega
                    have wandp : bits .and .i64 ((p : Int) - 1) k = (((p - 1) &&& k : Nat) : Int) := by
                      rw [show (p : Int) - 1 = ((p - 1 : Nat) : Int) by omega]; exact bits_and_nat (p - 1) k (by omega) (by omega)
                    have HWP := hid wandp
                    have HSP := hid hsubp
                    rw [hnx] at q1 q2 q3 q4 q5 HS1 HE6
                    have HNX := hid hnx
                    clear bm bp bq hoth hset hs1 hne hBm hy1 hy2 hnx b1 b2 b3 b4 HALF E hstep hq hnb hTB wandp hsubp
                    go_wp2
                    refine wp_region_held_drew (S := (fun w' => w'.cell? ⟨tb, k, none⟩ = some (.slice (some ⟨gm, 0, none⟩) N N) ∧ w'.cell? ⟨tb, p, none⟩ = some (.slice (some ⟨gp, 0, none⟩) N N) ∧ w'.cell? ⟨tb, q, none⟩ = some (.slice (some ⟨gq, 0, none⟩) N N) ∧ w'.cell? ⟨gp, v, none⟩ = some (.int .i64 y1) ∧ w'.cell? ⟨gq, v, none⟩ = some (.int .i64 y2))) (by kernel_rfl) ?hSc0 (fun hHeld => ?_)
                    case hSc0 => (first | (first | exact ⟨cm, cp, cq, dp, dq⟩ | exact ⟨q1, q2, q3, q4, q5⟩) | ((try dsimp only); first | exact ⟨cm, cp, cq, dp, dq⟩ | exact ⟨q1, q2, q3, q4, q5⟩))
                    refine wpAnyH_tk 0 (v := ?vc0) rfl (by kernel_rfl) (by kernel_rfl) (by kernel_rfl) (fun _ _ _ h => h) (by rfl) ?hyc0 (by assumption) ?_
                    case hyc0 => (intro w hSw; (try dsimp only at hSw); go_simp <;> with_reducible rfl)
                    (try simp only [Act.put, List.setIfInBounds_toArray, List.set_cons_zero, List.set_cons_succ])
                    refine wpAnyH_tk 1 (v := ?vc1) rfl (by kernel_rfl) (by kernel_rfl) (by kernel_rfl) (fun _ _ _ h => h) (by rfl) ?hyc1 (by assumption) ?_
                    case hyc1 => (intro w hSw; (try dsimp only at hSw); go_simp <;> with_reducible rfl)
                    (try simp only [Act.put, List.setIfInBounds_toArray, List.set_cons_zero, List.set_cons_succ])
                    refine wpAnyH_tk 2 (v := ?vc2) rfl (by kernel_rfl) (by kernel_rfl) (by kernel_rfl) (fun _ _ _ h => h) (by rfl) ?hyc2 (by assumption) ?_
                    case hyc2 => (intro w hSw; (try dsimp only at hSw); go_simp <;> with_reducible rfl)
                    (try simp only [Act.put, List.setIfInBounds_toArray, List.set_cons_zero, List.set_cons_succ])
                    refine wpAnyH_tk 3 (v := ?vc3) rfl (by kernel_rfl) (by kernel_rfl) (by kernel_rfl) (fun _ _ _ h => h) (by rfl) ?hyc3 (by assumption) ?_
                    case hyc3 => (intro w hSw; (try dsimp only at hSw); go_simp <;> with_reducible rfl)
                    (try simp only [Act.put, List.setIfInBounds_toArray, List.set_cons_zero, List.set_cons_succ])
                    refine wpAnyH_tk 4 (v := ?vc4) rfl (by kernel_rfl) (by kernel_rfl) (by kernel_rfl) (fun _ _ _ h => h) (by rfl) ?hyc4 (by assumption) ?_
                    case hyc4 => (intro w hSw; (try dsimp only at hSw); go_simp <;> with_reducible rfl)
                    (try simp only [Act.put, List.setIfInBounds_toArray, List.set_cons_zero, List.set_cons_succ])
                    refine wpAnyH_tk 5 (v := ?vc5) rfl (by kernel_rfl) (by kernel_rfl) (by kernel_rfl) (fun _ _ _ h => h) (by rfl) ?hyc5 (by assumption) ?_
                    case hyc5 => (intro w hSw; (try dsimp only at hSw); go_simp <;> with_reducible rfl)
                    (try simp only [Act.put, List.setIfInBounds_toArray, List.set_cons_zero, List.set_cons_succ])
                    refine wpAnyH_tk 6 (v := ?vc6) rfl (by kernel_rfl) (by kernel_rfl) (by kernel_rfl) (fun _ _ _ h => h) (by rfl) ?hyc6 (by assumption) ?_
                    case hyc6 => (intro w hSw; (try dsimp only at hSw); go_simp <;> with_reducible rfl)
                    (try simp only [Act.put, List.setIfInBounds_toArray, List.set_cons_zero, List.set_cons_succ])
                    refine wpAnyH_tk 7 (v := ?vc7) rfl (by kernel_rfl) (by kernel_rfl) (by kernel_rfl) (fun _ _ _ h => h) (by rfl) ?hyc7 (by assumption) ?_
                    case hyc7 => (intro w hSw; (try dsimp only at hSw); go_simp <;> with_reducible rfl)
                    (try simp only [Act.put, List.setIfInBounds_toArray, List.set_cons_zero, List.set_cons_succ])
                    refine wpAnyH_tk 8 (v := ?vc8) rfl (by kernel_rfl) (by kernel_rfl) (by kernel_rfl) (fun _ _ _ h => h) (by rfl) ?hyc8 (by assumption) ?_
                    case hyc8 => (intro w hSw; (try dsimp only at hSw); go_simp <;> with_reducible rfl)
                    (try simp only [Act.put, List.setIfInBounds_toArray, List.set_cons_zero, List.set_cons_succ])
                    refine wpAnyH_tk 9 (v := ?vc9) rfl (by kernel_rfl) (by kernel_rfl) (by kernel_rfl) (fun _ _ _ h => h) (by rfl) ?hyc9 (by assumption) ?_
                    case hyc9 => (intro w hSw; (try dsimp only at hSw); go_simp <;> with_reducible rfl)
                    (try simp only [Act.put, List.setIfInBounds_toArray, List.set_cons_zero, List.set_cons_succ])
                    refine wpAnyH_tk 10 (v := ?vc10) rfl (by kernel_rfl) (by kernel_rfl) (by kernel_rfl) (fun _ _ _ h => h) (by rfl) ?hyc10 (by assumption) ?_
                    case hyc10 => (intro w hSw; (try dsimp only at hSw); go_simp <;> with_reducible rfl)
                    (try simp only [Act.put, List.setIfInBounds_toArray, List.set_cons_zero, List.set_cons_succ])
                    refine wpAnyH_tk 12 (v := ?vc12) rfl (by kernel_rfl) (by kernel_rfl) (by kernel_rfl) (fun _ _ _ h => h) (by rfl) ?hyc12 (by assumption) ?_
                    case hyc12 => (intro w hSw; (try dsimp only at hSw); go_simp <;> with_reducible rfl)
                    (try simp only [Act.put, List.setIfInBounds_toArray, List.set_cons_zero, List.set_cons_succ])
                    refine wpAnyH_tk 13 (v := ?vc13) rfl (by kernel_rfl) (by kernel_rfl) (by kernel_rfl) (fun _ _ _ h => h) (by rfl) ?hyc13 (by assumption) ?_
                    case hyc13 => (intro w hSw; (try dsimp only at hSw); go_simp <;> with_reducible rfl)
                    (try simp only [Act.put, List.setIfInBounds_toArray, List.set_cons_zero, List.set_cons_succ])
                    refine wpAnyH_tk 14 (v := ?vc14) rfl (by kernel_rfl) (by kernel_rfl) (by kernel_rfl) (fun _ _ _ h => h) (by rfl) ?hyc14 (by assumption) ?_
                    case hyc14 => (intro w hSw; (try dsimp only at hSw); go_simp <;> with_reducible rfl)
                    (try simp only [Act.put, List.setIfInBounds_toArray, List.set_cons_zero, List.set_cons_succ])
                    refine wpAnyH_tk 15 (v := ?vc15) rfl (by kernel_rfl) (by kernel_rfl) (by kernel_rfl) (fun _ _ _ h => h) (by rfl) ?hyc15 (by assumption) ?_
                    case hyc15 => (intro w hSw; (try dsimp only at hSw); go_simp <;> with_reducible rfl)
                    (try simp only [Act.put, List.setIfInBounds_toArray, List.set_cons_zero, List.set_cons_succ])
                    refine wpAnyH_tk 16 (v := ?vc16) rfl (by kernel_rfl) (by kernel_rfl) (by kernel_rfl) (fun _ _ _ h => h) (by rfl) ?hyc16 (by assumption) ?_
                    case hyc16 => (intro w hSw; (try dsimp only at hSw); go_simp <;> with_reducible rfl)
                    (try simp only [Act.put, List.setIfInBounds_toArray, List.set_cons_zero, List.set_cons_succ])
                    refine wpAnyH_tk 17 (v := ?vc17) rfl (by kernel_rfl) (by kernel_rfl) (by kernel_rfl) (fun _ _ _ h => h) (by rfl) ?hyc17 (by assumption) ?_
                    case hyc17 => (intro w hSw; (try dsimp only at hSw); go_simp <;> with_reducible rfl)
                    (try simp only [Act.put, List.setIfInBounds_toArray, List.set_cons_zero, List.set_cons_succ])
                    refine wpAnyH_tk 18 (v := ?vc18) rfl (by kernel_rfl) (by kernel_rfl) (by kernel_rfl) (fun _ _ _ h => h) (by rfl) ?hyc18 (by assumption) ?_
                    case hyc18 => (intro w hSw; (try dsimp only at hSw); go_simp <;> with_reducible rfl)
                    (try simp only [Act.put, List.setIfInBounds_toArray, List.set_cons_zero, List.set_cons_succ])
                    refine wpAnyH_tk 19 (v := ?vc19) rfl (by kernel_rfl) (by kernel_rfl) (by kernel_rfl) (fun _ _ _ h => h) (by rfl) ?hyc19 (by assumption) ?_
                    case hyc19 => (intro w hSw; (try dsimp only at hSw); go_simp <;> with_reducible rfl)
                    (try simp only [Act.put, List.setIfInBounds_toArray, List.set_cons_zero, List.set_cons_succ])
                    refine wpAnyH_tk 20 (v := ?vc20) rfl (by kernel_rfl) (by kernel_rfl) (by kernel_rfl) (fun _ _ _ h => h) (by rfl) ?hyc20 (by assumption) ?_
                    case hyc20 => (intro w hSw; (try dsimp only at hSw); go_simp <;> with_reducible rfl)
                    (try simp only [Act.put, List.setIfInBounds_toArray, List.set_cons_zero, List.set_cons_succ])
                    refine wpAnyH_tk 21 (v := ?vc21) rfl (by kernel_rfl) (by kernel_rfl) (by kernel_rfl) (fun _ _ _ h => h) (by rfl) ?hyc21 (by assumption) ?_
                    case hyc21 => (intro w hSw; (try dsimp only at hSw); go_simp <;> with_reducible rfl)
                    (try simp only [Act.put, List.setIfInBounds_toArray, List.set_cons_zero, List.set_cons_succ])
                    refine wpAnyH_tk 22 (v := ?vc22) rfl (by kernel_rfl) (by kernel_rfl) (by kernel_rfl) (fun _ _ _ h => h) (by rfl) ?hyc22 (by assumption) ?_
                    case hyc22 => (intro w hSw; (try dsimp only at hSw); go_simp <;> with_reducible rfl)
                    (try simp only [Act.put, List.setIfInBounds_toArray, List.set_cons_zero, List.set_cons_succ])
                    refine wpAnyH_tk 23 (v := ?vc23) rfl (by kernel_rfl) (by kernel_rfl) (by kernel_rfl) (fun _ _ _ h => h) (by rfl) ?hyc23 (by assumption) ?_
                    case hyc23 => (intro w hSw; (try dsimp only at hSw); go_simp <;> with_reducible rfl)
                    (try simp only [Act.put, List.setIfInBounds_toArray, List.set_cons_zero, List.set_cons_succ])
                    refine wpAnyH_tk 24 (v := ?vc24) rfl (by kernel_rfl) (by kernel_rfl) (by kernel_rfl) (fun _ _ _ h => h) (by rfl) ?hyc24 (by assumption) ?_
                    case hyc24 => (intro w hSw; (try dsimp only at hSw); go_simp <;> with_reducible rfl)
                    (try simp only [Act.put, List.setIfInBounds_toArray, List.set_cons_zero, List.set_cons_succ])
                    refine wpAnyH_tk 25 (v := ?vc25) rfl (by kernel_rfl) (by kernel_rfl) (by kernel_rfl) (fun _ _ _ h => h) (by rfl) ?hyc25 (by assumption) ?_
                    case hyc25 => (intro w hSw; (try dsimp only at hSw); go_simp <;> with_reducible rfl)
                    (try simp only [Act.put, List.setIfInBounds_toArray, List.set_cons_zero, List.set_cons_succ])
                    refine wpAnyH_tk 26 (v := ?vc26) rfl (by kernel_rfl) (by kernel_rfl) (by kernel_rfl) (fun _ _ _ h => h) (by rfl) ?hyc26 (by assumption) ?_
                    case hyc26 => (intro w hSw; (try dsimp only at hSw); go_simp <;> with_reducible rfl)
                    (try simp only [Act.put, List.setIfInBounds_toArray, List.set_cons_zero, List.set_cons_succ])
                    refine wpAnyH_tk 27 (v := ?vc27) rfl (by kernel_rfl) (by kernel_rfl) (by kernel_rfl) (fun _ _ _ h => h) (by rfl) ?hyc27 (by assumption) ?_
                    case hyc27 => (intro w hSw; (try dsimp only at hSw); go_simp <;> with_reducible rfl)
                    (try simp only [Act.put, List.setIfInBounds_toArray, List.set_cons_zero, List.set_cons_succ])
                    refine wpAnyH_tk 28 (v := ?vc28) rfl (by kernel_rfl) (by kernel_rfl) (by kernel_rfl) (fun _ _ _ h => h) (by rfl) ?hyc28 (by assumption) ?_
                    case hyc28 => (intro w hSw; (try dsimp only at hSw); go_simp <;> with_reducible rfl)
                    (try simp only [Act.put, List.setIfInBounds_toArray, List.set_cons_zero, List.set_cons_succ])
                    refine wpAnyH_one 11 rfl (by kernel_rfl) (by rfl) (fun K hK => ?_)
                    go_simp
                    (skip)
                    refine hK.out _ _ ?hSc12 (fun hHeld => ?_)
                    case hSc12 => (first | (first | exact ⟨cm, cp, cq, dp, dq⟩ | exact ⟨q1, q2, q3, q4, q5⟩) | ((try dsimp only); first | exact ⟨cm, cp, cq, dp, dq⟩ | exact ⟨q1, q2, q3, q4, q5⟩))
                    clear hK K
                    (try simp only [Act.put, List.setIfInBounds_toArray, List.set_cons_zero, List.set_cons_succ])
                    refine wpAnyH_tk 29 (v := ?vc29) rfl (by kernel_rfl) (by kernel_rfl) (by kernel_rfl) (fun _ _ _ h => h) (by rfl) ?hyc29 (by assumption) ?_
                    case hyc29 => (intro w hSw; (try dsimp only at hSw); go_simp <;> with_reducible rfl)
                    (try simp only [Act.put, List.setIfInBounds_toArray, List.set_cons_zero, List.set_cons_succ])
                    refine wpAnyH_tk 30 (v := ?vc30) rfl (by kernel_rfl) (by kernel_rfl) (by kernel_rfl) (fun _ _ _ h => h) (by rfl) ?hyc30 (by assumption) ?_
                    case hyc30 => (intro w hSw; (try dsimp only at hSw); go_simp <;> with_reducible rfl)
                    (try simp only [Act.put, List.setIfInBounds_toArray, List.set_cons_zero, List.set_cons_succ])
                    refine wpAnyH_one 31 rfl (by kernel_rfl) (by rfl) (fun K hK => ?_)
                    go_simp
                    (skip)
                    refine hK.out _ _ ?hSc32 (fun hHeld => ?_)
                    case hSc32 => (first | (first | exact ⟨cm, cp, cq, dp, dq⟩ | exact ⟨q1, q2, q3, q4, q5⟩) | ((try dsimp only); first | exact ⟨cm, cp, cq, dp, dq⟩ | exact ⟨q1, q2, q3, q4, q5⟩))
                    clear hK K
                    (try simp only [Act.put, List.setIfInBounds_toArray, List.set_cons_zero, List.set_cons_succ])
                    refine wpAnyH_done (by kernel_rfl) ?_ _
                    clear hHeld cm cp cq dm dp dq fm q1 q2 q3 q4 q5 hw1 wan
                    have HNX2 : Hid ((if y1 + y2 < x then y1 + y2 else x) = nx) := HNX.out.symm
                    generalize (if y1 + y2 < x then y1 + y2 else x) = nx2 at HS1 HE6 HNX2 ⊢
                    obtain rfl := HNX2.out
                    have wandp := HWP.out
                    have hsubp := HSP.out
                    go_wp2
                    go_roundg (gk - 1)
                    case rel => exact ⟨f', (p - 1) &&& k, _, by have : (p - 1) &&& k ≤ p - 1 := Nat.and_le_left; omega, by have : (p - 1) &&& k ≤ p - 1 := Nat.and_le_left; omega, by omega, rfl, by have : (p - 1) &&& k ≤ p - 1 := Nat.and_le_left; omega, by show _ = _; rw [Nat.and_assoc, Nat.and_self], by show _ = _; rw [← HSTEP.out]; exact HFM.out, HNB.out.1, HNB.out.2, HS1.out, HE6.out⟩
                    case measure => omega
                  · have ep : p = 0 := by omega
                    subst ep
                    have HX2 : Hid (x = mergeV T Dm k v) := by
                      show _ = _
                      rw [← HFM.out]
                      cases f with
                      | zero => rfl
                      | succ f => rfl
                    have HH5 : Hid (HalfR tb wr (.slice (some ⟨tb, 0, none⟩) M M) (k + 1) M N (curT T k (upF (mergeV T Dm k) (fun _ => far) (v + 1)))) := by
                      rw [← upF_succ, ← HX2.out]; exact HALF.out
                    go_wp2
                    go_roundg (N - (v + 1))
                    case rel => exact ⟨v + 1, by omega, by go_num, HH5.out, E.out⟩
                    case measure => have := Hv.out; omega
            · have ev : v = N := by omega
              have HHM : Hid (HalfR tb wr (.slice (some ⟨tb, 0, none⟩) M M) (k + 1) M N (curT T k (upF (closeV Dm N (mergeV T Dm k)) (mergeV T Dm k) 0))) := by
                refine HALF.out.congr (fun a b ha hb => ?_)
                unfold curT
                by_cases e : a = k
                · rw [if_pos e, if_pos e]; unfold upF; rw [if_pos (by omega), if_neg (by omega)]
                · rw [if_neg e, if_neg e]
              obtain ⟨gm, cm, bm, hBm, hne, -, -⟩ := HHM.out.row (k := k) (by omega)
              have hgml := bm.lt
              have hIm : Ints wr (.slice (some ⟨gm, 0, none⟩) N N) (rowL N (mergeV T Dm k)) := by
                have e : (curT T k (upF (closeV Dm N (mergeV T Dm k)) (mergeV T Dm k) 0)) k = mergeV T Dm k := by
                  rw [curT_at]; funext y; unfold upF; rw [if_neg (by omega)]
                rw [e] at bm
                exact bm.ints (by rw [rowL_len]) (by rw [rowL_len]; omega)
              have HIM := hid hIm
              have HNe := hid hne
              have hvi : ¬ ((v : Int) < N) := by omega
              clear hIm bm ev hvl HALF
              go_wp2_with (fail)
              refine (Clone_any _ _ _ HIM.out).mono ?_
              rintro e w7 ⟨u, rfl, hu, he⟩
              obtain ⟨-, auo, cuo, hue, hcu, hcc⟩ := hu.ints (by rw [rowL_len]; omega)
              obtain ⟨gc, off, rfl, -⟩ := hcc 0 (by rw [rowL_len]; omega)
              obtain ⟨hgc, hoff⟩ : wr.heap.size ≤ gc ∧ off = 0 := own_at hu hue
              subst hoff
              rw [rowL_len] at hue hcu
              subst hue
              have HCL : Hid (CellsAt w7 gc N (mergeV T Dm k)) := by
                intro a ha
                obtain ⟨b2, o2, hbo, hc2⟩ := hcc a (by rw [rowL_len]; exact ha)
                simp only [Option.some.injEq, Addr.mk.injEq, and_true] at hbo
                obtain ⟨rfl, rfl⟩ := hbo
                rw [Nat.zero_add] at hc2
                rw [hc2, ← fn_get, rowL_fn ha]
              have hgcm : gc ≠ gm := by omega
              have HH7 := hid (HHM.out.ext he)
              have HE7 := hid (E.out.trans he)
              have HC7 := hid (he.cell cm)
              have HGM := hid hBm
              have cn0 := (HX.out.ext HE7.out).cells.1
              clear hu hcc he cm hBm HHM hgc hgml hcu
              go_wp2
              clear cn0
              go_loopg [113] N (fun g i wr => ∃ v : Nat, v + g = N ∧ i = .int .i64 v ∧ Hid (HalfR tb wr (.slice (some ⟨tb, 0, none⟩) M M) (k + 1) M N (curT T k (upF (closeV Dm N (mergeV T Dm k)) (mergeV T Dm k) v))) ∧ Hid (CellsAt wr gc N (mergeV T Dm k)) ∧ Hid (wr.cell? ⟨tb, k, none⟩ = some (.slice (some ⟨gm, 0, none⟩) N N)) ∧ Hid (Ext w2 wr))
              case atStart => exact ⟨0, by omega, rfl, HH7, HCL, HC7, HE7⟩
              case round =>
                clear HH7 HCL HC7 HE7 E Hv hvN
                obtain ⟨v, hv, rfl, HALF, CL, CT, E⟩ := hrel
                have hvN : v ≤ N := by omega
                have Hv := hid hv
                clear hv
                have cn0 := (HX.out.ext E.out).cells.1
                by_cases hvl : v < N
                · have hvi : (v : Int) < N := by omega
                  go_wp2
                  clear cn0
                  go_loopg [118] N (fun g i wr => ∃ u : Nat, u + g = N ∧ i = .int .i64 u ∧ Hid (HalfR tb wr (.slice (some ⟨tb, 0, none⟩) M M) (k + 1) M N (curT T k (updF (upF (closeV Dm N (mergeV T Dm k)) (mergeV T Dm k) v) v (foldMn (fun u => mergeV T Dm k u + Dm u v) (List.range u) (mergeV T Dm k v))))) ∧ Hid (CellsAt wr gc N (mergeV T Dm k)) ∧ Hid (wr.cell? ⟨tb, k, none⟩ = some (.slice (some ⟨gm, 0, none⟩) N N)) ∧ Hid (Ext w2 wr))
                  case atStart => exact ⟨0, by omega, rfl, by
                    have e : foldMn (fun u => mergeV T Dm k u + Dm u v) (List.range 0) (mergeV T Dm k v) = upF (closeV Dm N (mergeV T Dm k)) (mergeV T Dm k) v v := by rw [upF_at]; rfl
                    rw [e, updF_self]; exact HALF, CL, CT, E⟩
                  case round =>
                    clear HALF CL CT E
                    obtain ⟨u, hu, rfl, HALF, CL, CT, E⟩ := hrel
                    have huN : u ≤ N := by omega
                    have Hu := hid hu
                    clear hu
                    by_cases hul : u < N
                    · have hui : (u : Int) < N := by omega
                      obtain ⟨gd, cz, bz, -⟩ := MD.out.row hul
                      have cz' := E.out.cell cz
                      have dz' := (bz.ext E.out).rowc hvl
                      have hbdl : bd < w2.heap.size := World.block_lt_of_cell? _ _ cz
                      have hgdl : gd < w2.heap.size := bz.lt
                      obtain ⟨gm2, cm, bm, hBm, hne, -, hset⟩ := HALF.out.row (k := k) (by omega)
                      obtain rfl : gm = gm2 := by
                        have := CT.out.symm.trans cm
                        simpa using this
                      have hTB := HTB.out
                      have dm := bm.rowc hvl
                      rw [curT_at, updF_at] at dm
                      have fm := bm.free v
                      have dc := CL.out u hul
                      obtain ⟨x, hx⟩ : ∃ x, x = foldMn (fun u => mergeV T Dm k u + Dm u v) (List.range u) (mergeV T Dm k v) := ⟨_, rfl⟩
                      rw [← hx] at dm
                      obtain ⟨b1, b2⟩ := mergeV_bd HBD.out HG.out (by omega) (show k < 2 ^ N by rw [← HMM.out]; exact hlt) hul
                      have b3 := HG.out.lo u v hul hvl
                      have b4 := HG.out.hi u v hul hvl
                      have HFS : Hid (foldMn (fun u => mergeV T Dm k u + Dm u v) (List.range (u + 1)) (mergeV T Dm k v) = (if mergeV T Dm k u + Dm u v < x then mergeV T Dm k u + Dm u v else x)) := by
                        show _ = _
                        rw [hx]
                        unfold foldMn
                        rw [List.range_succ, List.foldl_append]
                        rfl
                      obtain ⟨y1, hy1⟩ : ∃ y, y = mergeV T Dm k u := ⟨_, rfl⟩
                      obtain ⟨y2, hy2⟩ : ∃ y, y = Dm u v := ⟨_, rfl⟩
                      rw [← hy1] at dc b1 b2
                      rw [← hy1, ← hy2] at HFS
                      rw [← hy2] at dz' b3 b4
                      have hw1 : IntKind.i64.wrap (y1 + y2) = y1 + y2 := by unfold far at b2 b4; rw [IntKind.wrap_i64]; omega
                      obtain ⟨nx, hnx⟩ : ∃ y, y = (if y1 + y2 < x then y1 + y2 else x) := ⟨_, rfl⟩
                      rw [← hnx] at HFS
                      have hs1 := hset v nx hvl
                      rw [curT_set, updF_updF] at hs1
                      have q1 := set_keep (w := wr) (g := gm) (i := v) (u := .int .i64 nx) (show tb ≠ gm from hne) cm
                      have q2 := set_keep (w := wr) (g := gm) (i := v) (u := .int .i64 nx) (show bd ≠ gm by omega) cz'
                      have q3 := set_keep (w := wr) (g := gm) (i := v) (u := .int .i64 nx) (show gd ≠ gm by omega) dz'
                      have q4 := set_keep (w := wr) (g := gm) (i := v) (u := .int .i64 nx) hgcm dc
                      have HS1 := hid (hs1.ext ((Ext.refl _).drew))
                      have HE6 := hid (E.out.setCell (show w2.heap.size ≤ gm by omega) v (.int .i64 nx)).drew
                      have HCL := hid ((CL.out.set hgcm (i := v) (.int .i64 nx)).ext ((Ext.refl _).drew))
                      have HCT := hid q1
                      rw [hnx] at q1 q2 q3 q4 HS1 HE6 HCL HCT
                      have HNX := hid hnx
                      clear cz bz bm hset hs1 hx hne hBm hbdl hgdl hTB hy1 hy2 hnx b1 b2 b3 b4 HALF CL CT
                      go_wp2
                      refine wp_region_held_drew (S := (fun w' => w'.cell? ⟨tb, k, none⟩ = some (.slice (some ⟨gm, 0, none⟩) N N) ∧ w'.cell? ⟨bd, u, none⟩ = some (.slice (some ⟨gd, 0, none⟩) N N) ∧ w'.cell? ⟨gd, v, none⟩ = some (.int .i64 y2) ∧ w'.cell? ⟨gc, u, none⟩ = some (.int .i64 y1))) (by kernel_rfl) ?hSd0 (fun hHeld => ?_)
                      case hSd0 => (first | (first | exact ⟨cm, cz', dz', dc⟩ | exact ⟨q1, q2, q3, q4⟩) | ((try dsimp only); first | exact ⟨cm, cz', dz', dc⟩ | exact ⟨q1, q2, q3, q4⟩))
                      refine wpAnyH_tk 0 (v := ?vd0) rfl (by kernel_rfl) (by kernel_rfl) (by kernel_rfl) (fun _ _ _ h => h) (by rfl) ?hyd0 (by assumption) ?_
                      case hyd0 => (intro w hSw; (try dsimp only at hSw); go_simp <;> with_reducible rfl)
                      (try simp only [Act.put, List.setIfInBounds_toArray, List.set_cons_zero, List.set_cons_succ])
                      refine wpAnyH_tk 1 (v := ?vd1) rfl (by kernel_rfl) (by kernel_rfl) (by kernel_rfl) (fun _ _ _ h => h) (by rfl) ?hyd1 (by assumption) ?_
                      case hyd1 => (intro w hSw; (try dsimp only at hSw); go_simp <;> with_reducible rfl)
                      (try simp only [Act.put, List.setIfInBounds_toArray, List.set_cons_zero, List.set_cons_succ])
                      refine wpAnyH_tk 2 (v := ?vd2) rfl (by kernel_rfl) (by kernel_rfl) (by kernel_rfl) (fun _ _ _ h => h) (by rfl) ?hyd2 (by assumption) ?_
                      case hyd2 => (intro w hSw; (try dsimp only at hSw); go_simp <;> with_reducible rfl)
                      (try simp only [Act.put, List.setIfInBounds_toArray, List.set_cons_zero, List.set_cons_succ])
                      refine wpAnyH_tk 3 (v := ?vd3) rfl (by kernel_rfl) (by kernel_rfl) (by kernel_rfl) (fun _ _ _ h => h) (by rfl) ?hyd3 (by assumption) ?_
                      case hyd3 => (intro w hSw; (try dsimp only at hSw); go_simp <;> with_reducible rfl)
                      (try simp only [Act.put, List.setIfInBounds_toArray, List.set_cons_zero, List.set_cons_succ])
                      refine wpAnyH_tk 4 (v := ?vd4) rfl (by kernel_rfl) (by kernel_rfl) (by kernel_rfl) (fun _ _ _ h => h) (by rfl) ?hyd4 (by assumption) ?_
                      case hyd4 => (intro w hSw; (try dsimp only at hSw); go_simp <;> with_reducible rfl)
                      (try simp only [Act.put, List.setIfInBounds_toArray, List.set_cons_zero, List.set_cons_succ])
                      refine wpAnyH_tk 5 (v := ?vd5) rfl (by kernel_rfl) (by kernel_rfl) (by kernel_rfl) (fun _ _ _ h => h) (by rfl) ?hyd5 (by assumption) ?_
                      case hyd5 => (intro w hSw; (try dsimp only at hSw); go_simp <;> with_reducible rfl)
                      (try simp only [Act.put, List.setIfInBounds_toArray, List.set_cons_zero, List.set_cons_succ])
                      refine wpAnyH_tk 6 (v := ?vd6) rfl (by kernel_rfl) (by kernel_rfl) (by kernel_rfl) (fun _ _ _ h => h) (by rfl) ?hyd6 (by assumption) ?_
                      case hyd6 => (intro w hSw; (try dsimp only at hSw); go_simp <;> with_reducible rfl)
                      (try simp only [Act.put, List.setIfInBounds_toArray, List.set_cons_zero, List.set_cons_succ])
                      refine wpAnyH_tk 7 (v := ?vd7) rfl (by kernel_rfl) (by kernel_rfl) (by kernel_rfl) (fun _ _ _ h => h) (by rfl) ?hyd7 (by assumption) ?_
                      case hyd7 => (intro w hSw; (try dsimp only at hSw); go_simp <;> with_reducible rfl)
                      (try simp only [Act.put, List.setIfInBounds_toArray, List.set_cons_zero, List.set_cons_succ])
                      refine wpAnyH_tk 8 (v := ?vd8) rfl (by kernel_rfl) (by kernel_rfl) (by kernel_rfl) (fun _ _ _ h => h) (by rfl) ?hyd8 (by assumption) ?_
                      case hyd8 => (intro w hSw; (try dsimp only at hSw); go_simp <;> with_reducible rfl)
                      (try simp only [Act.put, List.setIfInBounds_toArray, List.set_cons_zero, List.set_cons_succ])
                      refine wpAnyH_tk 9 (v := ?vd9) rfl (by kernel_rfl) (by kernel_rfl) (by kernel_rfl) (fun _ _ _ h => h) (by rfl) ?hyd9 (by assumption) ?_
                      case hyd9 => (intro w hSw; (try dsimp only at hSw); go_simp <;> with_reducible rfl)
                      (try simp only [Act.put, List.setIfInBounds_toArray, List.set_cons_zero, List.set_cons_succ])
                      refine wpAnyH_tk 10 (v := ?vd10) rfl (by kernel_rfl) (by kernel_rfl) (by kernel_rfl) (fun _ _ _ h => h) (by rfl) ?hyd10 (by assumption) ?_
                      case hyd10 => (intro w hSw; (try dsimp only at hSw); go_simp <;> with_reducible rfl)
                      (try simp only [Act.put, List.setIfInBounds_toArray, List.set_cons_zero, List.set_cons_succ])
                      refine wpAnyH_tk 12 (v := ?vd12) rfl (by kernel_rfl) (by kernel_rfl) (by kernel_rfl) (fun _ _ _ h => h) (by rfl) ?hyd12 (by assumption) ?_
                      case hyd12 => (intro w hSw; (try dsimp only at hSw); go_simp <;> with_reducible rfl)
                      (try simp only [Act.put, List.setIfInBounds_toArray, List.set_cons_zero, List.set_cons_succ])
                      refine wpAnyH_tk 13 (v := ?vd13) rfl (by kernel_rfl) (by kernel_rfl) (by kernel_rfl) (fun _ _ _ h => h) (by rfl) ?hyd13 (by assumption) ?_
                      case hyd13 => (intro w hSw; (try dsimp only at hSw); go_simp <;> with_reducible rfl)
                      (try simp only [Act.put, List.setIfInBounds_toArray, List.set_cons_zero, List.set_cons_succ])
                      refine wpAnyH_tk 14 (v := ?vd14) rfl (by kernel_rfl) (by kernel_rfl) (by kernel_rfl) (fun _ _ _ h => h) (by rfl) ?hyd14 (by assumption) ?_
                      case hyd14 => (intro w hSw; (try dsimp only at hSw); go_simp <;> with_reducible rfl)
                      (try simp only [Act.put, List.setIfInBounds_toArray, List.set_cons_zero, List.set_cons_succ])
                      refine wpAnyH_tk 15 (v := ?vd15) rfl (by kernel_rfl) (by kernel_rfl) (by kernel_rfl) (fun _ _ _ h => h) (by rfl) ?hyd15 (by assumption) ?_
                      case hyd15 => (intro w hSw; (try dsimp only at hSw); go_simp <;> with_reducible rfl)
                      (try simp only [Act.put, List.setIfInBounds_toArray, List.set_cons_zero, List.set_cons_succ])
                      refine wpAnyH_tk 16 (v := ?vd16) rfl (by kernel_rfl) (by kernel_rfl) (by kernel_rfl) (fun _ _ _ h => h) (by rfl) ?hyd16 (by assumption) ?_
                      case hyd16 => (intro w hSw; (try dsimp only at hSw); go_simp <;> with_reducible rfl)
                      (try simp only [Act.put, List.setIfInBounds_toArray, List.set_cons_zero, List.set_cons_succ])
                      refine wpAnyH_tk 17 (v := ?vd17) rfl (by kernel_rfl) (by kernel_rfl) (by kernel_rfl) (fun _ _ _ h => h) (by rfl) ?hyd17 (by assumption) ?_
                      case hyd17 => (intro w hSw; (try dsimp only at hSw); go_simp <;> with_reducible rfl)
                      (try simp only [Act.put, List.setIfInBounds_toArray, List.set_cons_zero, List.set_cons_succ])
                      refine wpAnyH_tk 18 (v := ?vd18) rfl (by kernel_rfl) (by kernel_rfl) (by kernel_rfl) (fun _ _ _ h => h) (by rfl) ?hyd18 (by assumption) ?_
                      case hyd18 => (intro w hSw; (try dsimp only at hSw); go_simp <;> with_reducible rfl)
                      (try simp only [Act.put, List.setIfInBounds_toArray, List.set_cons_zero, List.set_cons_succ])
                      refine wpAnyH_tk 19 (v := ?vd19) rfl (by kernel_rfl) (by kernel_rfl) (by kernel_rfl) (fun _ _ _ h => h) (by rfl) ?hyd19 (by assumption) ?_
                      case hyd19 => (intro w hSw; (try dsimp only at hSw); go_simp <;> with_reducible rfl)
                      (try simp only [Act.put, List.setIfInBounds_toArray, List.set_cons_zero, List.set_cons_succ])
                      refine wpAnyH_tk 20 (v := ?vd20) rfl (by kernel_rfl) (by kernel_rfl) (by kernel_rfl) (fun _ _ _ h => h) (by rfl) ?hyd20 (by assumption) ?_
                      case hyd20 => (intro w hSw; (try dsimp only at hSw); go_simp <;> with_reducible rfl)
                      (try simp only [Act.put, List.setIfInBounds_toArray, List.set_cons_zero, List.set_cons_succ])
                      refine wpAnyH_tk 21 (v := ?vd21) rfl (by kernel_rfl) (by kernel_rfl) (by kernel_rfl) (fun _ _ _ h => h) (by rfl) ?hyd21 (by assumption) ?_
                      case hyd21 => (intro w hSw; (try dsimp only at hSw); go_simp <;> with_reducible rfl)
                      (try simp only [Act.put, List.setIfInBounds_toArray, List.set_cons_zero, List.set_cons_succ])
                      refine wpAnyH_tk 22 (v := ?vd22) rfl (by kernel_rfl) (by kernel_rfl) (by kernel_rfl) (fun _ _ _ h => h) (by rfl) ?hyd22 (by assumption) ?_
                      case hyd22 => (intro w hSw; (try dsimp only at hSw); go_simp <;> with_reducible rfl)
                      (try simp only [Act.put, List.setIfInBounds_toArray, List.set_cons_zero, List.set_cons_succ])
                      refine wpAnyH_tk 23 (v := ?vd23) rfl (by kernel_rfl) (by kernel_rfl) (by kernel_rfl) (fun _ _ _ h => h) (by rfl) ?hyd23 (by assumption) ?_
                      case hyd23 => (intro w hSw; (try dsimp only at hSw); go_simp <;> with_reducible rfl)
                      (try simp only [Act.put, List.setIfInBounds_toArray, List.set_cons_zero, List.set_cons_succ])
                      refine wpAnyH_one 11 rfl (by kernel_rfl) (by rfl) (fun K hK => ?_)
                      go_simp
                      (skip)
                      refine hK.out _ _ ?hSd12 (fun hHeld => ?_)
                      case hSd12 => (first | (first | exact ⟨cm, cz', dz', dc⟩ | exact ⟨q1, q2, q3, q4⟩) | ((try dsimp only); first | exact ⟨cm, cz', dz', dc⟩ | exact ⟨q1, q2, q3, q4⟩))
                      clear hK K
                      (try simp only [Act.put, List.setIfInBounds_toArray, List.set_cons_zero, List.set_cons_succ])
                      refine wpAnyH_tk 24 (v := ?vd24) rfl (by kernel_rfl) (by kernel_rfl) (by kernel_rfl) (fun _ _ _ h => h) (by rfl) ?hyd24 (by assumption) ?_
                      case hyd24 => (intro w hSw; (try dsimp only at hSw); go_simp <;> with_reducible rfl)
                      (try simp only [Act.put, List.setIfInBounds_toArray, List.set_cons_zero, List.set_cons_succ])
                      refine wpAnyH_tk 25 (v := ?vd25) rfl (by kernel_rfl) (by kernel_rfl) (by kernel_rfl) (fun _ _ _ h => h) (by rfl) ?hyd25 (by assumption) ?_
                      case hyd25 => (intro w hSw; (try dsimp only at hSw); go_simp <;> with_reducible rfl)
                      (try simp only [Act.put, List.setIfInBounds_toArray, List.set_cons_zero, List.set_cons_succ])
                      refine wpAnyH_one 26 rfl (by kernel_rfl) (by rfl) (fun K hK => ?_)
                      go_simp
                      (skip)
                      refine hK.out _ _ ?hSd27 (fun hHeld => ?_)
                      case hSd27 => (first | (first | exact ⟨cm, cz', dz', dc⟩ | exact ⟨q1, q2, q3, q4⟩) | ((try dsimp only); first | exact ⟨cm, cz', dz', dc⟩ | exact ⟨q1, q2, q3, q4⟩))
                      clear hK K
                      (try simp only [Act.put, List.setIfInBounds_toArray, List.set_cons_zero, List.set_cons_succ])
                      refine wpAnyH_done (by kernel_rfl) ?_ _
                      clear hHeld cz' dz' cm dm fm q1 q2 q3 q4 hw1 dc
                      have HNX2 : Hid ((if y1 + y2 < x then y1 + y2 else x) = nx) := HNX.out.symm
                      generalize (if y1 + y2 < x then y1 + y2 else x) = nx2 at HS1 HE6 HCL HCT HNX2 ⊢
                      obtain rfl := HNX2.out
                      go_wp2
                      go_roundg (gk - 1)
                      case rel => exact ⟨u + 1, by have := Hu.out; omega, by go_num, by rw [HFS.out]; exact HS1, HCL, HCT, HE6⟩
                      case measure => have := Hu.out; omega
                    · have eu : u = N := by omega
                      have HH8 : Hid (HalfR tb wr (.slice (some ⟨tb, 0, none⟩) M M) (k + 1) M N (curT T k (upF (closeV Dm N (mergeV T Dm k)) (mergeV T Dm k) (v + 1)))) := by
                        rw [← upF_succ]
                        have e : closeV Dm N (mergeV T Dm k) v = foldMn (fun u => mergeV T Dm k u + Dm u v) (List.range u) (mergeV T Dm k v) := by rw [eu]; rfl
                        rw [e]; exact HALF.out
                      have hui : ¬ ((u : Int) < N) := by omega
                      clear eu hul
                      go_wp2
                      go_roundg (N - (v + 1))
                      case rel => exact ⟨v + 1, by omega, by go_num, HH8.out, CL.out, CT.out, E.out⟩
                      case measure => have := Hv.out; omega
                · have HH9 : Hid (HalfR tb wr (.slice (some ⟨tb, 0, none⟩) M M) (k + 1) M N (tabTo s Dm N (k + 1))) := by
                    rw [Hnext.out, HNW.out]
                    refine HALF.out.congr (fun a b ha hb => ?_)
                    unfold curT
                    by_cases e : a = k
                    · rw [if_pos e, if_pos e]; unfold upF; rw [if_pos (by omega)]
                    · rw [if_neg e, if_neg e]
                  clear cn0
                  go_wp2
                  go_roundg (M - (k + 1))
                  case rel => exact ⟨k + 1, by omega, by go_num, HH9.out, E.out⟩
                  case measure => have := Hk.out; omega
      · have HR : Hid (tabTo s Dm N (k + 1) = fun a => if a = k then (fun _ => far) else tabTo s Dm N k a) := by
          show _ = _
          rw [Hnext.out, HNEW.out, if_pos (Or.inl ha)]
        have hai : ¬ (an : Int) = 0 := by omega
        have hab : ((an : Int) != 0) = true := by rw [bne_iff_ne]; exact hai
        rw [← HR.out] at HH2
        clear ha hai
        go_wp2
        go_roundg (M - (k + 1))
        case rel => exact ⟨k + 1, by omega, by go_num, HH2.out, HE2.out⟩
        case measure => have := Hk.out; omega
    · have ek : k = M := by omega
      have hsi : (s : Int) < M := by omega
      have h1 := HALF.out
      rw [ek] at h1
      obtain ⟨gs, cs, bs, -, -, -, -⟩ := h1.row (k := s) hsM
      have hI := bs.ints (n := N) (by rw [rowL_len]) (by rw [rowL_len]; omega)
      have HI := hid hI
      have HLen : Hid (0 < (rowL N (tabTo s Dm N M s)).length) := by show 0 < _; rw [rowL_len]; omega
      clear h1 ek bs hI
      go_wp2_with (fail)
      refine (Min_any _ _ _ HI.out HLen.out).mono ?_
      rintro e w8 ⟨rfl, rfl⟩
      have HRes : Hid (minI (rowL N (tabTo s Dm N M s)) = steinerV rs N s) := by
        show _ = _
        unfold steinerV
        rw [← HD.out, ← HMM.out]
      rw [HRes.out]
      clear cs
      go_wp2
      go_ret
      exact ⟨rfl, HE.out.trans E.out⟩

end Go.Proofs.YtkbkgkmogbkabaaDoor

/-
  Contract of reachable.
-/
namespace Go.Proofs.YtkbkgkmogbkabaaDoor
open Go.RowKit

/-- All stops of a set are connected by roads. -/
def Cn (F : List RoadD) (s : Nat) : Prop := ∀ x y, s.testBit x = true → s.testBit y = true → Conn F x y
def ReachAns (rs : List RoadD) (s : Nat) (e : Ending) : Prop := (Cn rs s ∧ e = .returned (.bool true)) ∨ (¬ Cn rs s ∧ e = .returned (.bool false))

set_option maxRecDepth 20000 in
set_option maxHeartbeats 8000000 in
theorem reachable_any (vr : Value) (N : Nat) (rs : List RoadD) (s : Nat) (w : World) (hv : Roads w vr rs) (hok : ∀ r ∈ rs, roadOk N r = true) (hrl : rs.length ≤ 16) (hN8 : N ≤ 8) (hs0 : 0 < s) (hs : s < 2 ^ N) (hTZ : TZ w) :
    Calls Tryd.prog 35 #[.agg #[.int .i64 N, vr], .int .i64 s] w fun e w' => ReachAns rs s e ∧ Ext w w' := by
  obtain ⟨ao, cap, rfl⟩ := hv.shape
  have HV := hid hv
  have HTZ := hid hTZ
  have HAll := hid hok
  have X0 := hid (Box2.alloc w 31 (.int .i64 N) (.slice ao rs.length cap))
  have s256 : s < 256 := by
    have h1 : (2 : Nat) ^ N ≤ 2 ^ 8 := Nat.pow_le_pow_right (by decide) hN8
    have e : (256 : Nat) = 2 ^ 8 := by decide
    omega
  clear hv hok hTZ hs
  go_enter Tryd.func35, Tryd.ntmps35
  go_wp2_with (fail)
  refine (apart_any _).mono ?_
  rintro e w1 ⟨rfl, he⟩
  have HE := hid ((Ext.ofAlloc w _).trans he)
  have HX := hid (X0.out.ext he)
  have hb : PBox (w1.alloc (.cells #[.int .i64 0, .int .i64 1, .int .i64 2, .int .i64 3, .int .i64 4, .int .i64 5, .int .i64 6, .int .i64 7] 69)) w1.heap.size (fun i => (i : Int)) := heap_alloc_new w1 _
  have hE1 := Ext.ofAlloc w1 (.cells #[.int .i64 0, .int .i64 1, .int .i64 2, .int .i64 3, .int .i64 4, .int .i64 5, .int .i64 6, .int .i64 7] 69)
  obtain ⟨c0, c1⟩ := (HX.out.ext hE1).cells
  clear he X0
  go_wp2
  clear c0 c1
  generalize w1.alloc (.cells #[.int .i64 0, .int .i64 1, .int .i64 2, .int .i64 3, .int .i64 4, .int .i64 5, .int .i64 6, .int .i64 7] 69) = W at hb hE1 ⊢
  have HB0 := hid hb
  have HE1 := hid hE1
  obtain ⟨gp, hgp⟩ : ∃ gp, gp = w1.heap.size := ⟨_, rfl⟩
  rw [← hgp] at HB0
  rw [← hgp]
  have HGP := hid hgp
  clear hb hE1 hgp
  go_loopg [12] rs.length (fun g i wr => ∃ (k : Nat) (p : Nat → Int), k + g = rs.length ∧ i = .int .i64 k ∧ Hid (Lab (rs.take k) p) ∧ Hid (PBox wr gp p) ∧ Hid (Ext w1 wr))
  case atStart => exact ⟨0, _, by omega, rfl, Lab.nil, HB0, HE1⟩
  case round =>
    clear HB0 HE1
    obtain ⟨k, p, hk, rfl, LAB, PB, E⟩ := hrel
    have hkl : k ≤ rs.length := by omega
    have Hk := hid hk
    clear hk
    by_cases hlt : k < rs.length
    · obtain ⟨bb, off, rfl, -, hcc⟩ := Roads.get HV.out k hlt
      obtain ⟨r0, r1, r2⟩ := hcc _ (HE.out.trans E.out)
      have Htk : Hid (rs.take (k + 1) = rs.take k ++ [roadAt rs k]) := by
        show _ = _
        rw [List.take_succ_eq_append_getElem hlt, roadAt_get hlt]
      obtain ⟨q1, q2, q3, q4, -, q6, q7⟩ := roadOk_iff.1 (HAll.out _ (roadAt_mem hlt))
      obtain ⟨r, hr⟩ : ∃ r, r = roadAt rs k := ⟨_, rfl⟩
      rw [← hr] at r0 r1 r2 Htk q1 q2 q3 q4 q6 q7
      have ha8 : r.a < 8 := by omega
      have hb8 : r.b < 8 := by omega
      have hla : r.a.toNat < 8 := by omega
      have hlb : r.b.toNat < 8 := by omega
      have EA := hid (Ext.ofAlloc wr (.cells #[.int .i64 r.a, .int .i64 r.b, .int .i64 r.cost] 55))
      obtain ⟨z0, z1, z2⟩ := (Box3.alloc wr 55 (.int .i64 r.a) (.int .i64 r.b) (.int .i64 r.cost)).cells
      clear hr hcc
      go_wp2_with (fail)
      refine (join_any gp p r _ (PB.out.ext EA.out) q1 ha8 q3 hb8).mono ?_
      rintro e w2 ⟨rfl, hpb, hon⟩
      have E2 := hid (hon.ext (E.out.trans EA.out) (by rw [HGP.out]; exact Nat.le_refl _))
      have PB2 := hid hpb
      have HLJ : Hid (Lab (rs.take (k + 1)) (joinL p r.a.toNat r.b.toNat)) := by
        show Lab _ _
        rw [Htk.out]; exact LAB.out.join hla hlb
      clear hpb hon r0 r1 r2 z0 z1 z2
      go_wp2
      go_roundg (gk - 1)
      case rel => exact ⟨k + 1, _, by have := Hk.out; omega, by go_num, HLJ, PB2, E2⟩
      case measure => have := Hk.out; omega
    · have ek : rs.take k = rs := List.take_of_length_le (by omega)
      rw [ek] at LAB
      obtain ⟨z, ⟨hz1, hz2⟩, HTC⟩ := (HTZ.out.ext (HE.out.trans E.out)) wr (Ext.refl _) s hs0 s256
      have hz8 : z < 8 := bit_lt (n := 8) (by exact s256) hz1
      have hti : (0 : Int) < s := by omega
      have hti2 : (s : Int) < 256 := by omega
      have dec : Decidable (connP p s z) := Classical.propDecidable _
      have HF : Hid (connP p s z ↔ Cn rs s) := connP_iff LAB.out s256 hz1
      have HTC2 := hid HTC
      have hki : ¬ ((k : Int) < rs.length) := by omega
      clear ek HTC hz1 hz2 hlt
      go_wp2_with (fail)
      refine (connected_any gp p s z _ PB.out hti hti2 hz8 HTC2.out (dec := dec)).mono ?_
      by_cases hc : connP p s z
      · rw [decide_eq_true hc]
        rintro e w2 ⟨rfl, he⟩
        have HR := hid (HF.out.1 hc)
        have HW := hid (HE.out.trans (E.out.trans he))
        clear he hc
        go_wp2
        go_ret
        exact ⟨.inl ⟨HR.out, rfl⟩, HW.out⟩
      · rw [decide_eq_false hc]
        rintro e w2 ⟨rfl, he⟩
        have HR := hid (fun g => hc (HF.out.2 g))
        have HW := hid (HE.out.trans (E.out.trans he))
        clear he hc
        go_wp2
        go_ret
        exact ⟨.inr ⟨HR.out, rfl⟩, HW.out⟩

end Go.Proofs.YtkbkgkmogbkabaaDoor

/-
  steiner's answer is the least sum of costs of roads that connect the stops, in plain Lean.
-/
namespace Go.Proofs.YtkbkgkmogbkabaaDoor
open Go.RowKit

def goP (m a : Nat) : Nat → Nat → Bool
  | 0, _ => false
  | f + 1, p => if p = 0 then false else (p == a || goP m a f ((p - 1) &&& m))
theorem goP_in {m a : Nat} : ∀ (f p : Nat), goP m a f p = true → a ∈ partsF m f p
  | 0, _, h => by simp [goP] at h
  | f + 1, p, h => by
    unfold goP at h
    unfold partsF
    split at h
    · simp at h
    · rename_i hp
      rw [if_neg hp]
      rw [Bool.or_eq_true, beq_iff_eq] at h
      rcases h with rfl | h
      · exact List.mem_cons_self ..
      · exact List.mem_cons_of_mem _ (goP_in f _ h)
theorem parts_chk : ((List.range 256).all fun m => (List.range m).all fun a => (a == 0) || (a &&& m != a) || goP m a 256 ((m - 1) &&& m)) = true := by decide +kernel
theorem parts_all {m a : Nat} (hm : m < 256) (h1 : a &&& m = a) (h0 : 0 < a) (h2 : a < m) : a ∈ partsOf m := by
  have h := List.all_eq_true.1 parts_chk m (List.mem_range.2 hm)
  have h := List.all_eq_true.1 h a (List.mem_range.2 h2)
  rw [Bool.or_eq_true, Bool.or_eq_true, beq_iff_eq, bne_iff_ne] at h
  rcases h with (h | h) | h
  · omega
  · exact absurd h1 h
  · exact goP_in _ _ h
theorem mask_ex (P : Nat → Prop) : ∀ n, ∃ a, a < 2 ^ n ∧ ∀ x, a.testBit x = true ↔ (x < n ∧ P x)
  | 0 => ⟨0, by simp, fun x => by simp⟩
  | n + 1 => by
    obtain ⟨a, ha, hx⟩ := mask_ex P n
    have h2 : a < 2 ^ (n + 1) := Nat.lt_of_lt_of_le ha (Nat.pow_le_pow_right (by decide) (by omega))
    by_cases h : P n
    · refine ⟨a ||| 2 ^ n, Nat.or_lt_two_pow h2 (Nat.pow_lt_pow_right (by decide) (by omega)), fun x => ?_⟩
      rw [Nat.testBit_or, Bool.or_eq_true, hx, Nat.testBit_two_pow, decide_eq_true_iff]
      constructor
      · rintro (⟨h1, h2⟩ | rfl)
        · exact ⟨by omega, h2⟩
        · exact ⟨by omega, h⟩
      · rintro ⟨h1, h2⟩
        by_cases e : n = x
        · exact .inr e
        · exact .inl ⟨by omega, h2⟩
    · refine ⟨a, h2, fun x => ?_⟩
      rw [hx]
      constructor
      · rintro ⟨h1, h3⟩; exact ⟨by omega, h3⟩
      · rintro ⟨h1, h3⟩
        refine ⟨?_, h3⟩
        by_cases e : x = n
        · subst e; exact absurd h3 h
        · omega
theorem and_eq_sub {a m : Nat} (h : ∀ x, a.testBit x = true → m.testBit x = true) : a &&& m = a := by
  apply Nat.eq_of_testBit_eq
  intro i
  rw [Nat.testBit_and]
  cases e : a.testBit i
  · rfl
  · rw [h i e]; rfl
theorem sub_lt {a m : Nat} (h : ∀ x, a.testBit x = true → m.testBit x = true) {y : Nat} (hy : m.testBit y = true) (hy2 : ¬ a.testBit y = true) : a < m := by
  have h1 := and_eq_sub h
  have h2 : a &&& m ≤ m := Nat.and_le_right
  rcases Nat.lt_or_ge a m with g | g
  · exact g
  · have e : a = m := by omega
    rw [e] at hy2
    exact absurd hy hy2
theorem bit_pos {a x : Nat} (h : a.testBit x = true) : 0 < a := by
  rcases Nat.eq_zero_or_pos a with e | e
  · rw [e] at h; simp at h
  · exact e

section
variable {rs : List RoadD} {N : Nat} (hr : ∀ r ∈ rs, roadOk N r = true) (hN : N ≤ 8)

include hr in
theorem cost_real {i j : Nat} (hi : i < N) (hj : j < N) (hf : costTo rs i j < far) : ∃ F : List RoadD, (∀ r ∈ F, r ∈ rs) ∧ sumC F ≤ costTo rs i j ∧ Conn F i j := by
  by_cases e : i = j
  · subst e
    refine ⟨[], fun r h => by simp at h, ?_, .refl⟩
    rw [(costs_tab hr).diag i hi]; exact Int.le_refl _
  · obtain ⟨h1, h2, h3⟩ := stepR_val hr e
    have h4 : 0 ≤ stepR rs i j := by
      rcases Int.lt_or_le (stepR rs i j) 0 with g | g
      · rw [h1] at hf
        unfold ff at hf
        rw [if_pos g] at hf
        omega
      · exact g
    have h5 : costTo rs i j = stepR rs i j := by rw [h1]; unfold ff; rw [if_neg (by omega)]
    rcases step_road rs i j (-1) h4 with g | ⟨r, hrm, hj2, hc⟩
    · exfalso
      have : stepR rs i j = -1 := g
      omega
    · refine ⟨[r], fun q hq => by simp at hq; subst hq; exact hrm, ?_, ?_⟩
      · show r.cost + 0 ≤ _
        rw [h5]
        have : r.cost = stepR rs i j := hc
        omega
      · unfold joinsB at hj2
        rw [decide_eq_true_iff] at hj2
        refine Conn.step .refl ⟨r, by simp, ?_⟩
        rcases hj2 with ⟨a, b⟩ | ⟨a, b⟩
        · exact .inl ⟨by omega, by omega⟩
        · exact .inr ⟨by omega, by omega⟩

theorem Conn.left {E F : List RoadD} {a b : Nat} (h : Conn E a b) : Conn (E ++ F) a b := h.mono (fun _ hr => List.mem_append_left _ hr)
theorem Conn.right {E F : List RoadD} {a b : Nat} (h : Conn F a b) : Conn (E ++ F) a b := h.mono (fun _ hr => List.mem_append_right _ hr)

include hr in
theorem fw_real : ∀ k, k ≤ N → ∀ i j, i < N → j < N → fw (costTo rs) k i j < far → ∃ F : List RoadD, (∀ r ∈ F, r ∈ rs) ∧ sumC F ≤ fw (costTo rs) k i j ∧ Conn F i j
  | 0, _, i, j, hi, hj, hf => cost_real hr hi hj hf
  | k + 1, hk, i, j, hi, hj, hf => by
    have hkN : k < N := by omega
    have T := (costs_tab hr).fw k (by omega)
    have l1 := T.lo hi hkN
    have l2 := T.lo hkN hj
    have e : fw (costTo rs) (k + 1) i j = mn (fw (costTo rs) k i j) (fw (costTo rs) k i k + fw (costTo rs) k k j) := rfl
    rw [e] at hf ⊢
    rcases mn_or (fw (costTo rs) k i j) (fw (costTo rs) k i k + fw (costTo rs) k k j) with h | h
    · rw [h] at hf ⊢
      exact fw_real k (by omega) i j hi hj hf
    · rw [h] at hf ⊢
      obtain ⟨F1, a1, a2, a3⟩ := fw_real k (by omega) i k hi hkN (by omega)
      obtain ⟨F2, b1, b2, b3⟩ := fw_real k (by omega) k j hkN hj (by omega)
      refine ⟨F1 ++ F2, fun r hr => ?_, by rw [sumC_app]; omega, a3.left.trans b3.right⟩
      rcases List.mem_append.1 hr with g | g
      · exact a1 r g
      · exact b1 r g

include hr in
theorem dist_edge {r : RoadD} (hm : r ∈ rs) : fw (costTo rs) N r.a.toNat r.b.toNat ≤ r.cost ∧ fw (costTo rs) N r.b.toNat r.a.toNat ≤ r.cost := by
  obtain ⟨p1, p2, p3, p4, -, -, -⟩ := roadOk_iff.1 (hr r hm)
  have h1 := fw_le (costTo rs) 0 r.a.toNat r.b.toNat N
  rw [Nat.zero_add] at h1
  have h2 := cost_road hr hm
  have h3 : fw (costTo rs) 0 r.a.toNat r.b.toNat = costTo rs r.a.toNat r.b.toNat := rfl
  have h4 := ((costs_tab hr).fw N (Nat.le_refl _)).sym r.a.toNat r.b.toNat (by omega) (by omega)
  omega
include hr in
theorem dist_tri {i j m : Nat} (hi : i < N) (hj : j < N) (hm : m < N) : fw (costTo rs) N i j ≤ fw (costTo rs) N i m + fw (costTo rs) N m j := tri (costs_tab hr) N (Nat.le_refl _) i j m hi hj hm
include hr in
theorem dist_diag {i : Nat} (hi : i < N) : fw (costTo rs) N i i = 0 := ((costs_tab hr).fw N (Nat.le_refl _)).diag i hi
include hr in
theorem dist_good : Good N (fw (costTo rs) N) := ((costs_tab hr).good (by unfold far; omega)).fw N (Nat.le_refl _)

/-- The table when all is done. -/
def tabS (rs : List RoadD) (N s m : Nat) : Nat → Int := tabTo s (fw (costTo rs) N) N (2 ^ N) m

variable {s : Nat}
theorem tabS_row {m : Nat} (h0 : 0 < m) (hm : m < 2 ^ N) (hs : ∀ x, m.testBit x = true → s.testBit x = true) :
    tabS rs N s m = closeV (fw (costTo rs) N) N (mergeV (tabTo s (fw (costTo rs) N) N m) (fw (costTo rs) N) m) := by
  unfold tabS
  rw [tab_row hm]
  unfold newRow
  rw [if_neg]
  rintro (h | h)
  · exact h ((andn_zero m s).2 hs)
  · omega
theorem tabS_lt {m a : Nat} (hm : m < 2 ^ N) (ha : a < m) : tabTo s (fw (costTo rs) N) N m a = tabS rs N s a := by
  unfold tabS
  rw [tab_row ha, tab_row (show a < 2 ^ N by omega)]
theorem tabS_merge {m v : Nat} (h0 : 0 < m) (hm : m < 2 ^ N) (hs : ∀ x, m.testBit x = true → s.testBit x = true) :
    tabS rs N s m v ≤ mergeV (tabTo s (fw (costTo rs) N) N m) (fw (costTo rs) N) m v := by
  rw [tabS_row h0 hm hs]
  exact (foldMn_le _ _ _).1
include hN in
theorem tabS_add {a b v : Nat} (ha : 0 < a) (hb : 0 < b) (hm : a ||| b < 2 ^ N) (hd : ∀ x, a.testBit x = true → ¬ b.testBit x = true) (hs : ∀ x, (a ||| b).testBit x = true → s.testBit x = true) :
    tabS rs N s (a ||| b) v ≤ tabS rs N s a v + tabS rs N s b v := by
  have hsa : ∀ x, a.testBit x = true → (a ||| b).testBit x = true := fun x hx => by rw [Nat.testBit_or, hx]; rfl
  have hsb : ∀ x, b.testBit x = true → (a ||| b).testBit x = true := fun x hx => by rw [Nat.testBit_or, hx, Bool.or_true]
  obtain ⟨y, hy⟩ := Nat.exists_testBit_of_ne_zero (show b ≠ 0 by omega)
  obtain ⟨z, hz⟩ := Nat.exists_testBit_of_ne_zero (show a ≠ 0 by omega)
  have la : a < a ||| b := sub_lt hsa (hsb y hy) (fun g => hd y g hy)
  have lb : b < a ||| b := sub_lt hsb (hsa z hz) (fun g => hd z hz g)
  have h256 : a ||| b < 256 := by
    have h1 : (2 : Nat) ^ N ≤ 2 ^ 8 := Nat.pow_le_pow_right (by decide) hN
    have e : (256 : Nat) = 2 ^ 8 := by decide
    omega
  have hp : a ∈ partsOf (a ||| b) := parts_all h256 (and_eq_sub hsa) ha la
  have hn : andn (a ||| b) a = b := by
    apply Nat.eq_of_testBit_eq
    intro i
    rw [andn_bit, Nat.testBit_or]
    cases e1 : a.testBit i <;> cases e2 : b.testBit i
    · rfl
    · rfl
    · rfl
    · exact absurd e2 (hd i e1)
  have h1 := tabS_merge (rs := rs) (v := v) (by omega) hm hs
  have h2 := (foldMn_le (partV (tabTo s (fw (costTo rs) N) N (a ||| b)) (a ||| b) v) (partsOf (a ||| b)) (baseV (fw (costTo rs) N) (a ||| b) v)).2.1 a hp
  have h3 : partV (tabTo s (fw (costTo rs) N) N (a ||| b)) (a ||| b) v a = tabS rs N s a v + tabS rs N s b v := by
    unfold partV
    rw [hn, tabS_lt hm la, tabS_lt hm lb]
  rw [h3] at h2
  exact Int.le_trans h1 h2
theorem log_two (x : Nat) : Nat.log2 (2 ^ x) = x := Nat.log2_two_pow
theorem two_pow_and {x : Nat} : 2 ^ x &&& (2 ^ x - 1) = 0 := by
  apply Nat.eq_of_testBit_eq
  intro i
  rw [Nat.testBit_and, Nat.testBit_two_pow, Nat.testBit_two_pow_sub_one, Nat.zero_testBit]
  rw [Bool.and_eq_false_iff]
  by_cases h : x = i
  · right; rw [decide_eq_false_iff_not]; omega
  · left; rw [decide_eq_false_iff_not]; exact h
include hr in
theorem tabS_one {x : Nat} (hx : x < N) (hs : s.testBit x = true) : tabS rs N s (2 ^ x) x ≤ 0 := by
  have h1 : tabS rs N s (2 ^ x) x ≤ _ := tabS_merge (Nat.pow_pos (by decide)) (Nat.pow_lt_pow_right (by decide) hx) (fun y hy => by
    rw [Nat.testBit_two_pow, decide_eq_true_iff] at hy
    subst hy; exact hs)
  have h2 := (foldMn_le (partV (tabTo s (fw (costTo rs) N) N (2 ^ x)) (2 ^ x) x) (partsOf (2 ^ x)) (baseV (fw (costTo rs) N) (2 ^ x) x)).1
  have h3 : baseV (fw (costTo rs) N) (2 ^ x) x = 0 := by
    unfold baseV
    rw [if_pos two_pow_and, log_two, dist_diag hr hx]
  unfold mergeV at h1
  omega
include hr in
theorem tabS_close {m u v : Nat} (h0 : 0 < m) (hm : m < 2 ^ N) (hs : ∀ x, m.testBit x = true → s.testBit x = true) (hu : u < N) (hv : v < N) :
    tabS rs N s m v ≤ tabS rs N s m u + fw (costTo rs) N u v := by
  rw [tabS_row h0 hm hs]
  generalize mergeV (tabTo s (fw (costTo rs) N) N m) (fw (costTo rs) N) m = M
  obtain ⟨a1, a2, -⟩ := foldMn_le (fun w => M w + fw (costTo rs) N w v) (List.range N) (M v)
  obtain ⟨-, -, b3⟩ := foldMn_le (fun w => M w + fw (costTo rs) N w u) (List.range N) (M u)
  unfold closeV
  rcases b3 with h | ⟨w, hw, h⟩
  · rw [h]; exact a2 u (List.mem_range.2 hu)
  · have hwN := List.mem_range.1 hw
    have q1 := a2 w hw
    have q2 := dist_tri hr hwN hv hu
    rw [h]
    omega

/-- At most the sum of the costs of what connects. -/
theorem tabS_le (hr : ∀ r ∈ rs, roadOk N r = true) (hN : N ≤ 8) {m : Nat} (h0 : 0 < m) (hm : m < 2 ^ N) (hs : ∀ x, m.testBit x = true → s.testBit x = true) {F : List RoadD} (hF : ∀ r ∈ F, r ∈ rs) {v : Nat} (hv : v < N) (hc : ∀ x, m.testBit x = true → Conn F v x) :
    tabS rs N s m v ≤ sumC F := by
  have main := rel_tree (Rel := fun S v c => v < N → ∀ m, 0 < m → m < 2 ^ N → (∀ x, m.testBit x = true ↔ S x) → (∀ x, m.testBit x = true → s.testBit x = true) → tabS rs N s m v ≤ c) (G := fun r => r ∈ rs)
    (fun r hm => by have := roadOk_iff.1 (hr r hm); omega)
    (by intro S v c c' h hc hv m a b d e; exact Int.le_trans (h hv m a b d e) hc)
    (fun S v hS hv m a b d e => by
      have hm2 : m = 2 ^ v := by
        apply Nat.eq_of_testBit_eq
        intro i
        rw [Bool.eq_iff_iff, d i, hS i, Nat.testBit_two_pow, decide_eq_true_iff]
        exact ⟨fun h => h.symm, fun h => h.symm⟩
      subst hm2
      exact tabS_one hr hv (e v (by rw [Nat.testBit_two_pow]; simp)))
    (fun S c r hrm => by
      obtain ⟨p1, p2, p3, p4, -, -, -⟩ := roadOk_iff.1 (hr r hrm)
      have ha : r.a.toNat < N := by omega
      have hb : r.b.toNat < N := by omega
      obtain ⟨e1, e2⟩ := dist_edge hr hrm
      constructor
      · intro h hv m a b d e
        have h1 := h ha m a b d e
        have h2 := tabS_close (rs := rs) (s := s) hr a b e ha hb
        omega
      · intro h hv m a b d e
        have h1 := h hb m a b d e
        have h2 := tabS_close (rs := rs) (s := s) hr a b e hb ha
        omega)
    (fun A B v c c' hA hB hd h1 h2 hv m a b d e => by
      obtain ⟨ma, la, xa⟩ := mask_ex A N
      obtain ⟨mb, lb, xb⟩ := mask_ex B N
      have ia : ∀ x, ma.testBit x = true ↔ A x := fun x => by
        rw [xa]
        constructor
        · exact fun h => h.2
        · intro h; exact ⟨bit_lt b ((d x).2 (.inl h)), h⟩
      have ib : ∀ x, mb.testBit x = true ↔ B x := fun x => by
        rw [xb]
        constructor
        · exact fun h => h.2
        · intro h; exact ⟨bit_lt b ((d x).2 (.inr h)), h⟩
      have em : ma ||| mb = m := by
        apply Nat.eq_of_testBit_eq
        intro i
        rw [Bool.eq_iff_iff, Nat.testBit_or, Bool.or_eq_true, ia, ib, d]
      obtain ⟨x, hx⟩ := hA
      obtain ⟨y, hy⟩ := hB
      have pa : 0 < ma := bit_pos ((ia x).2 hx)
      have pb : 0 < mb := bit_pos ((ib y).2 hy)
      have sa : ∀ x, ma.testBit x = true → s.testBit x = true := fun x hx => e x ((d x).2 (.inl ((ia x).1 hx)))
      have sb : ∀ x, mb.testBit x = true → s.testBit x = true := fun x hx => e x ((d x).2 (.inr ((ib x).1 hx)))
      have r1 := h1 hv ma pa la ia sa
      have r2 := h2 hv mb pb lb ib sb
      subst em
      have r3 := tabS_add (rs := rs) (v := v) hN pa pb b (fun x hx hx2 => hd x ((ia x).1 hx) ((ib x).1 hx2)) e
      omega)
  obtain ⟨y, hy⟩ := Nat.exists_testBit_of_ne_zero (show m ≠ 0 by omega)
  exact main F.length F (Nat.le_refl _) hF (fun x => m.testBit x = true) v ⟨y, hy⟩ hc hv m h0 hm (fun x => Iff.rfl) hs

/-- What is less than far is the sum of costs of roads that connect. -/
def Real (rs : List RoadD) (m v : Nat) (c : Int) : Prop := ∃ F : List RoadD, (∀ r ∈ F, r ∈ rs) ∧ sumC F ≤ c ∧ ∀ x, m.testBit x = true → Conn F v x
theorem tabS_real (hr : ∀ r ∈ rs, roadOk N r = true) (hN : N ≤ 8) : ∀ n m, m ≤ n → 0 < m → m < 2 ^ N → (∀ x, m.testBit x = true → s.testBit x = true) → ∀ v, v < N → tabS rs N s m v < far → Real rs m v (tabS rs N s m v)
  | 0, m, h1, h0, _, _, _, _, _ => by omega
  | n + 1, m, h1, h0, hm, hs, v, hv, hf => by
    have G := dist_good hr
    have BD : BdL N (tabTo s (fw (costTo rs) N) N m) := tab_bd G m (by omega)
    have hmerge : ∀ u, u < N → mergeV (tabTo s (fw (costTo rs) N) N m) (fw (costTo rs) N) m u < far → Real rs m u (mergeV (tabTo s (fw (costTo rs) N) N m) (fw (costTo rs) N) m u) := by
      intro u hu hf2
      obtain ⟨-, -, h3⟩ := foldMn_le (partV (tabTo s (fw (costTo rs) N) N m) m u) (partsOf m) (baseV (fw (costTo rs) N) m u)
      unfold mergeV at hf2 ⊢
      rcases h3 with h | ⟨p, hp, h⟩
      · rw [h] at hf2 ⊢
        unfold baseV at hf2 ⊢
        by_cases c : m &&& (m - 1) = 0
        · rw [if_pos c] at hf2 ⊢
          have hl : Nat.log2 m < N := (Nat.log2_lt (by omega)).2 hm
          obtain ⟨F, a1, a2, a3⟩ := fw_real hr N (Nat.le_refl _) _ _ hl hu hf2
          refine ⟨F, a1, a2, fun x hx => ?_⟩
          have h256 : m < 256 := by
            have h1 : (2 : Nat) ^ N ≤ 2 ^ 8 := Nat.pow_le_pow_right (by decide) hN
            have e : (256 : Nat) = 2 ^ 8 := by decide
            omega
          rw [single_log h256 c hx]
          exact a3.symm
        · rw [if_neg c] at hf2; omega
      · rw [h] at hf2 ⊢
        obtain ⟨p1, p2, p3⟩ := partsOf_in h0 hp
        obtain ⟨q1, q2⟩ := andn_mem p1 p2 p3
        have bp : ∀ x, p.testBit x = true → m.testBit x = true := fun x hx => by
          rw [← p1, Nat.testBit_and, Bool.and_eq_true] at hx; exact hx.2
        have bq : ∀ x, (andn m p).testBit x = true → m.testBit x = true := fun x hx => by
          rw [andn_bit, Bool.and_eq_true] at hx; exact hx.1
        unfold partV at hf2 ⊢
        have l1 := BD p u hu
        have l2 := BD (andn m p) u hu
        rw [tabS_lt hm p3] at hf2 l1 ⊢
        rw [tabS_lt hm q2] at hf2 l2 ⊢
        obtain ⟨F1, a1, a2, a3⟩ := tabS_real hr hN n p (by omega) p2 (by omega) (fun x hx => hs x (bp x hx)) u hu (by omega)
        obtain ⟨F2, b1, b2, b3⟩ := tabS_real hr hN n (andn m p) (by omega) q1 (by omega) (fun x hx => hs x (bq x hx)) u hu (by omega)
        refine ⟨F1 ++ F2, fun r hr => ?_, by rw [sumC_app]; omega, fun x hx => ?_⟩
        · rcases List.mem_append.1 hr with g | g
          · exact a1 r g
          · exact b1 r g
        · by_cases c : p.testBit x = true
          · exact (a3 x c).left
          · refine (b3 x ?_).right
            rw [andn_bit, hx, Bool.eq_false_iff.2 c]; rfl
    rw [tabS_row h0 hm hs] at hf ⊢
    obtain ⟨-, -, h3⟩ := foldMn_le (fun w => mergeV (tabTo s (fw (costTo rs) N) N m) (fw (costTo rs) N) m w + fw (costTo rs) N w v) (List.range N) (mergeV (tabTo s (fw (costTo rs) N) N m) (fw (costTo rs) N) m v)
    unfold closeV at hf ⊢
    rcases h3 with h | ⟨u, hu, h⟩
    · rw [h] at hf ⊢
      exact hmerge v hv hf
    · rw [h] at hf ⊢
      have huN := List.mem_range.1 hu
      have l1 := mergeV_bd BD G h0 hm huN
      have l2 := G.lo u v huN hv
      replace hf : mergeV (tabTo s (fw (costTo rs) N) N m) (fw (costTo rs) N) m u + fw (costTo rs) N u v < far := hf
      obtain ⟨F1, a1, a2, a3⟩ := hmerge u huN (by omega)
      obtain ⟨F2, b1, b2, b3⟩ := fw_real hr N (Nat.le_refl _) u v huN hv (by omega)
      refine ⟨F1 ++ F2, fun r hr => ?_, by rw [sumC_app]; show _ ≤ _ + _; omega, fun x hx => b3.symm.right.trans (a3 x hx).left⟩
      rcases List.mem_append.1 hr with g | g
      · exact a1 r g
      · exact b1 r g
end

theorem foldl_min_le : ∀ (l : List Int) (a : Int), l.foldl min a ≤ a ∧ (∀ x ∈ l, l.foldl min a ≤ x) ∧ (l.foldl min a = a ∨ l.foldl min a ∈ l)
  | [], a => ⟨Int.le_refl _, fun x h => by simp at h, .inl rfl⟩
  | b :: l, a => by
    obtain ⟨h1, h2, h3⟩ := foldl_min_le l (min a b)
    have e : (b :: l).foldl min a = l.foldl min (min a b) := rfl
    rw [e]
    refine ⟨by omega, fun x hx => ?_, ?_⟩
    · rcases List.mem_cons.1 hx with rfl | hx
      · omega
      · exact h2 x hx
    · rcases h3 with h | h
      · by_cases c : a ≤ b
        · left; rw [h]; omega
        · right; rw [h, Int.min_eq_right (by omega)]; exact List.mem_cons_self ..
      · right; exact List.mem_cons_of_mem _ h
theorem minI_row {n : Nat} {f : Nat → Int} (hn : 1 ≤ n) : (∀ v, v < n → minI (rowL n f) ≤ f v) ∧ ∃ v, v < n ∧ minI (rowL n f) = f v := by
  have hne : rowL n f = f 0 :: (rowL n f).tail := by
    obtain ⟨m, rfl⟩ : ∃ m, n = m + 1 := ⟨n - 1, by omega⟩
    unfold rowL
    rw [List.range_succ_eq_map]
    rfl
  obtain ⟨h1, h2, h3⟩ := foldl_min_le (rowL n f).tail (f 0)
  have e : minI (rowL n f) = (rowL n f).tail.foldl min (f 0) := by
    unfold minI
    congr 1
    rw [hne]; rfl
  have hmem : ∀ v, v < n → f v ∈ rowL n f := fun v hv => List.mem_map.2 ⟨v, List.mem_range.2 hv, rfl⟩
  have back : ∀ x ∈ rowL n f, ∃ v, v < n ∧ x = f v := fun x hx => by
    obtain ⟨v, hv, rfl⟩ := List.mem_map.1 hx
    exact ⟨v, List.mem_range.1 hv, rfl⟩
  rw [e]
  constructor
  · intro v hv
    have := hmem v hv
    rw [hne] at this
    rcases List.mem_cons.1 this with g | g
    · rw [g]; exact h1
    · exact h2 _ g
  · rcases h3 with g | g
    · exact ⟨0, by omega, g⟩
    · obtain ⟨v, hv, hx⟩ := back _ (by rw [hne]; exact List.mem_cons_of_mem _ g)
      exact ⟨v, hv, hx⟩

theorem steiner_le {rs : List RoadD} {N s : Nat} (hr : ∀ r ∈ rs, roadOk N r = true) (hN1 : 1 ≤ N) (hN : N ≤ 8) (h0 : 0 < s) (hs : s < 2 ^ N) {F : List RoadD} (hF : ∀ r ∈ F, r ∈ rs) (hc : Cn F s) : steinerV rs N s ≤ sumC F := by
  obtain ⟨v, hv⟩ := Nat.exists_testBit_of_ne_zero (show s ≠ 0 by omega)
  have hvN := bit_lt hs hv
  have h1 := (minI_row (f := tabTo s (fw (costTo rs) N) N (2 ^ N) s) hN1).1 v hvN
  have h2 := tabS_le (s := s) hr hN h0 hs (fun _ h => h) hF hvN (fun x hx => hc v x hv hx)
  exact Int.le_trans h1 h2
theorem steiner_real {rs : List RoadD} {N s : Nat} (hr : ∀ r ∈ rs, roadOk N r = true) (hN1 : 1 ≤ N) (hN : N ≤ 8) (h0 : 0 < s) (hs : s < 2 ^ N) (hf : steinerV rs N s < far) : ∃ F : List RoadD, (∀ r ∈ F, r ∈ rs) ∧ sumC F ≤ steinerV rs N s ∧ Cn F s := by
  obtain ⟨v, hv, e⟩ := (minI_row (f := tabTo s (fw (costTo rs) N) N (2 ^ N) s) hN1).2
  have e2 : steinerV rs N s = tabS rs N s s v := e
  rw [e2] at hf ⊢
  obtain ⟨F, a1, a2, a3⟩ := tabS_real (s := s) hr hN s s (Nat.le_refl _) h0 hs (fun _ h => h) v hv hf
  exact ⟨F, a1, a2, fun x y hx hy => (a3 x hx).symm.trans (a3 y hy)⟩

end Go.Proofs.YtkbkgkmogbkabaaDoor

/-
  There is a least tree; the best one is one alone. Plain Lean.
-/
namespace Go.Proofs.YtkbkgkmogbkabaaDoor
open Go.RowKit

/-- The indices below n that are chosen, rising. -/
def sel (n : Nat) (P : Nat → Bool) : List Int := ((List.range n).filter P).map (fun (i : Nat) => (i : Int))
theorem sel_mem {n : Nat} {P : Nat → Bool} {x : Int} : x ∈ sel n P ↔ ∃ i : Nat, i < n ∧ P i = true ∧ x = i := by
  unfold sel
  rw [List.mem_map]
  constructor
  · rintro ⟨i, hi, rfl⟩
    obtain ⟨h1, h2⟩ := List.mem_filter.1 hi
    exact ⟨i, List.mem_range.1 h1, h2, rfl⟩
  · rintro ⟨i, h1, h2, rfl⟩
    exact ⟨i, List.mem_filter.2 ⟨List.mem_range.2 h1, h2⟩, rfl⟩
theorem sel_lt (n : Nat) (P : Nat → Bool) : (sel n P).Pairwise (· < ·) := by
  unfold sel
  rw [List.pairwise_map, List.pairwise_filter]
  exact List.Pairwise.imp (fun h _ _ => by omega) List.pairwise_lt_range
theorem sel_succ (n : Nat) (P : Nat → Bool) : sel (n + 1) P = sel n P ++ (if P n then [(n : Int)] else []) := by
  unfold sel
  rw [List.range_succ, List.filter_append, List.map_append]
  congr 1
  cases h : P n <;> simp [h]
theorem edges_mem {rs : List RoadD} {l : List Int} {r : RoadD} : r ∈ edges rs l ↔ ∃ x ∈ l, roadAt rs x.toNat = r := by unfold edges; rw [List.mem_map]
theorem sel_edge {rs : List RoadD} {n : Nat} {P : Nat → Bool} {r : RoadD} : r ∈ edges rs (sel n P) ↔ ∃ i, i < n ∧ P i = true ∧ roadAt rs i = r := by
  rw [edges_mem]
  constructor
  · rintro ⟨x, hx, rfl⟩
    obtain ⟨i, h1, h2, rfl⟩ := sel_mem.1 hx
    exact ⟨i, h1, h2, rfl⟩
  · rintro ⟨i, h1, h2, rfl⟩
    exact ⟨i, sel_mem.2 ⟨i, h1, h2, rfl⟩, rfl⟩
def dropP (P : Nat → Bool) (j : Nat) : Nat → Bool := fun i => P i && !(i == j)
theorem sel_drop (rs : List RoadD) (P : Nat → Bool) (j : Nat) : ∀ n, costL rs (sel n P) = costL rs (sel n (dropP P j)) + (if j < n ∧ P j = true then (roadAt rs j).cost else 0)
  | 0 => by simp [sel, costL, edges]
  | n + 1 => by
    have ih := sel_drop rs P j n
    rw [costL_sum, costL_sum] at ih ⊢
    rw [sel_succ, sel_succ, edges_app, edges_app, sumC_app, sumC_app, ih]
    have one : ∀ b : Bool, sumC (edges rs (if b = true then [(n : Int)] else [])) = if b = true then (roadAt rs n).cost else 0 := by
      intro b
      cases b
      · rfl
      · show (roadAt rs ((n : Int)).toNat).cost + 0 = (roadAt rs n).cost
        rw [Int.add_zero]; rfl
    rw [one, one]
    by_cases e : n = j
    · subst e
      have h1 : dropP P n n = false := by unfold dropP; simp
      rw [h1]
      cases h2 : P n
      · simp
      · simp
    · have h1 : dropP P j n = P n := by unfold dropP; simp [e]
      have h2 : (j < n + 1 ∧ P j = true) ↔ (j < n ∧ P j = true) := by
        constructor
        · rintro ⟨a, b⟩; exact ⟨by omega, b⟩
        · rintro ⟨a, b⟩; exact ⟨by omega, b⟩
      rw [h1]
      simp only [h2]
      omega
theorem fn_pair {l : List Int} (h : l.Pairwise (· < ·)) {i j : Nat} (hij : i < j) (hj : j < l.length) : fn l i < fn l j := by
  rw [fn_get (by omega), fn_get hj]
  exact List.pairwise_iff_getElem.1 h i j (by omega) hj hij
theorem conn_drop {E E' : List RoadD} (h : ∀ r ∈ E, r ∈ E' ∨ Conn E' r.a.toNat r.b.toNat) {a b : Nat} (hc : Conn E a b) : Conn E' a b := by
  induction hc with
  | refl => exact .refl
  | step _ e ih =>
    obtain ⟨r, hr, g⟩ := e
    rcases h r hr with m | m
    · exact ih.step ⟨r, m, g⟩
    · rcases g with ⟨rfl, rfl⟩ | ⟨rfl, rfl⟩
      · exact ih.trans m
      · exact ih.trans m.symm

/-- Of the choices that connect the stops a cheapest one is a tree. -/
theorem min_tree {rs : List RoadD} {s : Nat} {P : Nat → Bool} (hs0 : 0 < s) (hpos : ∀ r ∈ rs, 1 ≤ r.cost) (hc : Cn (edges rs (sel rs.length P)) s) (hm : ∀ Q : Nat → Bool, Cn (edges rs (sel rs.length Q)) s → costL rs (sel rs.length P) ≤ costL rs (sel rs.length Q)) :
    treeP rs s (sel rs.length P) := by
  have cheaper : ∀ j, j < rs.length → P j = true → ¬ Cn (edges rs (sel rs.length (dropP P j))) s := by
    intro j hj hPj h
    have h1 := hm _ h
    have h2 := sel_drop rs P j rs.length
    rw [if_pos ⟨hj, hPj⟩] at h2
    have h3 := hpos _ (roadAt_mem hj)
    omega
  have inn : ∀ k, k < (sel rs.length P).length → ∃ j : Nat, j < rs.length ∧ P j = true ∧ fn (sel rs.length P) k = j := by
    intro k hk
    obtain ⟨j, h1, h2, h3⟩ := sel_mem.1 (List.getElem_mem hk)
    exact ⟨j, h1, h2, by rw [fn_get hk]; exact h3⟩
  constructor
  · intro k hk
    obtain ⟨j, h1, h2, h3⟩ := inn k hk
    refine ⟨⟨by omega, by omega, fun h0 => fn_pair (sel_lt _ _) (by omega) hk⟩, fun hcyc => ?_⟩
    rw [h3] at hcyc
    refine cheaper j h1 h2 (fun x y hx hy => conn_drop (fun r hr => ?_) (hc x y hx hy))
    obtain ⟨i, i1, i2, rfl⟩ := sel_edge.1 hr
    by_cases e : i = j
    · subst e
      right
      refine Conn.mono (fun q hq => ?_) hcyc
      obtain ⟨x, hx, rfl⟩ := edges_mem.1 hq
      obtain ⟨m, hm2, rfl⟩ := List.getElem_of_mem hx
      rw [List.length_take] at hm2
      rw [List.getElem_take]
      obtain ⟨j', j1, j2, j3⟩ := inn m (by omega)
      have hlt := fn_pair (sel_lt rs.length P) (show m < k by omega) hk
      rw [fn_get (by omega)] at j3
      rw [j3]
      refine sel_edge.2 ⟨j', j1, ?_, rfl⟩
      rw [fn_get (show m < (sel rs.length P).length by omega), j3, h3] at hlt
      unfold dropP
      rw [j2, Bool.true_and, Bool.not_eq_true', beq_eq_false_iff_ne]
      omega
    · left
      refine sel_edge.2 ⟨i, i1, ?_, rfl⟩
      unfold dropP
      rw [i2, Bool.true_and, Bool.not_eq_true', beq_eq_false_iff_ne]
      exact e
  · obtain ⟨z, hz⟩ := Nat.exists_testBit_of_ne_zero (show s ≠ 0 by omega)
    refine (one_met (k := z) (T := touch s (edges rs (sel rs.length P))) (.inl hz)).1 (fun x hx => ?_)
    rcases hx with hx | ⟨r, hr, hx⟩
    · exact hc z x hz hx
    · refine Classical.byContradiction fun hno => ?_
      obtain ⟨j, j1, j2, rfl⟩ := sel_edge.1 hr
      have hja : ¬ Conn (edges rs (sel rs.length P)) z (roadAt rs j).a.toNat := by
        intro h
        rcases hx with rfl | rfl
        · exact hno h
        · exact hno (h.step ⟨_, hr, .inl ⟨rfl, rfl⟩⟩)
      refine cheaper j j1 j2 ?_
      have one : ∀ y, s.testBit y = true → Conn (edges rs (sel rs.length (dropP P j))) z y := by
        intro y hy
        have dec : ∀ q : RoadD, Decidable (Conn (edges rs (sel rs.length P)) z q.a.toNat) := fun q => Classical.propDecidable _
        have h1 := (hc z y hz hy).inside (fun q => @decide _ (dec q)) (fun q _ hq => @decide_eq_true _ (dec q) hq)
        refine Conn.mono (fun q hq => ?_) h1
        obtain ⟨q1, q2⟩ := List.mem_filter.1 hq
        have q3 := @of_decide_eq_true _ (dec q) q2
        obtain ⟨i, i1, i2, rfl⟩ := sel_edge.1 q1
        refine sel_edge.2 ⟨i, i1, ?_, rfl⟩
        unfold dropP
        rw [i2, Bool.true_and, Bool.not_eq_true', beq_eq_false_iff_ne]
        rintro rfl
        exact hja q3
      exact fun x y hx hy => (one x hx).symm.trans (one y hy)
theorem least_ex {α : Type} (G : α → Prop) (c : α → Int) (hc : ∀ a, G a → 0 ≤ c a) (h : ∃ a, G a) : ∃ a, G a ∧ ∀ b, G b → c a ≤ c b := by
  obtain ⟨a, ha⟩ := h
  have key : ∀ n : Nat, ∀ a, G a → (c a).toNat ≤ n → ∃ a, G a ∧ ∀ b, G b → c a ≤ c b := by
    intro n
    induction n with
    | zero =>
      intro a ha hn
      exact ⟨a, ha, fun b hb => by have := hc a ha; have := hc b hb; omega⟩
    | succ n ih =>
      intro a ha hn
      by_cases e : ∃ b, G b ∧ c b < c a
      · obtain ⟨b, hb, hlt⟩ := e
        exact ih b hb (by have := hc b hb; omega)
      · exact ⟨a, ha, fun b hb => by
          rcases Int.lt_or_le (c b) (c a) with g | g
          · exact absurd ⟨b, hb, g⟩ e
          · exact g⟩
  exact key _ a ha (Nat.le_refl _)
theorem sumC_sub : ∀ (E F : List RoadD), E.Nodup → (∀ r ∈ E, r ∈ F) → (∀ r ∈ F, 0 ≤ r.cost) → sumC E ≤ sumC F
  | [], F, _, _, h => sumC_pos F h
  | r :: E, F, hn, hs, h => by
    obtain ⟨F1, F2, rfl⟩ := List.append_of_mem (hs r (List.mem_cons_self ..))
    rw [List.nodup_cons] at hn
    have ih := sumC_sub E (F1 ++ F2) hn.2 (fun q hq => by
      have := hs q (List.mem_cons_of_mem _ hq)
      rcases List.mem_append.1 this with g | g
      · exact List.mem_append_left _ g
      · rcases List.mem_cons.1 g with rfl | g
        · exact absurd hq hn.1
        · exact List.mem_append_right _ g) (fun q hq => h q (by
      rcases List.mem_append.1 hq with g | g
      · exact List.mem_append_left _ g
      · exact List.mem_append_right _ (List.mem_cons_of_mem _ g)))
    rw [sumC_app] at ih ⊢
    show r.cost + sumC E ≤ sumC F1 + (r.cost + sumC F2)
    omega
/-- From roads that connect to indices of such. -/
theorem sel_of {rs : List RoadD} {s : Nat} {F : List RoadD} (hF : ∀ r ∈ F, r ∈ rs) (hpos : ∀ r ∈ rs, 0 ≤ r.cost) (hc : Cn F s) : ∃ P : Nat → Bool, Cn (edges rs (sel rs.length P)) s ∧ costL rs (sel rs.length P) ≤ sumC F := by
  have dec : ∀ i, Decidable (roadAt rs i ∈ F ∧ ∀ j, j < i → roadAt rs j ≠ roadAt rs i) := fun i => Classical.propDecidable _
  obtain ⟨P, hP⟩ : ∃ P : Nat → Bool, ∀ i, P i = true ↔ (roadAt rs i ∈ F ∧ ∀ j, j < i → roadAt rs j ≠ roadAt rs i) := ⟨fun i => @decide _ (dec i), fun i => @decide_eq_true_iff _ (dec i)⟩
  refine ⟨P, fun x y hx hy => (hc x y hx hy).mono (fun r hr => ?_), ?_⟩
  · obtain ⟨i, hi, e⟩ := List.getElem_of_mem (hF r hr)
    have key : ∀ n i, i ≤ n → i < rs.length → roadAt rs i = r → ∃ i, i < rs.length ∧ P i = true ∧ roadAt rs i = r := by
      intro n
      induction n with
      | zero =>
        intro i h0 hi e
        refine ⟨i, hi, (hP i).2 ⟨by rw [e]; exact hr, fun j hj => by omega⟩, e⟩
      | succ n ih =>
        intro i h0 hi e
        by_cases c : ∃ j, j < i ∧ roadAt rs j = roadAt rs i
        · obtain ⟨j, hj, ej⟩ := c
          exact ih j (by omega) (by omega) (by rw [ej, e])
        · exact ⟨i, hi, (hP i).2 ⟨by rw [e]; exact hr, fun j hj ej => c ⟨j, hj, ej⟩⟩, e⟩
    exact sel_edge.2 (key i i (Nat.le_refl _) hi (by rw [roadAt_get hi]; exact e))
  · rw [costL_sum]
    refine sumC_sub _ F ?_ (fun r hr => ?_) (fun r hr => hpos r (hF r hr))
    · show ((sel rs.length P).map _).Pairwise (· ≠ ·)
      unfold sel
      rw [List.map_map, List.pairwise_map, List.pairwise_filter]
      refine List.Pairwise.imp (fun {a b} h ha hb e => ?_) List.pairwise_lt_range
      exact ((hP b).1 hb).2 a h e
    · obtain ⟨i, -, h2, rfl⟩ := sel_edge.1 hr
      exact ((hP i).1 h2).1
theorem treeP_cn {rs : List RoadD} {s : Nat} {l : List Int} (h : treeP rs s l) : Cn (edges rs l) s := fun x y hx hy => h.2 x y (.inl hx) (.inl hy)
theorem treeP_in {rs : List RoadD} {s : Nat} {l : List Int} (h : treeP rs s l) : ∀ r ∈ edges rs l, r ∈ rs := by
  intro r hr
  obtain ⟨x, hx, rfl⟩ := edges_mem.1 hr
  obtain ⟨k, hk, rfl⟩ := List.getElem_of_mem hx
  have := (h.1 k hk).1
  rw [fn_get hk] at this
  exact roadAt_mem (by omega)
/-- The least cost of roads that connect stops is that of a tree. -/
theorem opt_ex {rs : List RoadD} {s : Nat} (hs0 : 0 < s) (hpos : ∀ r ∈ rs, 1 ≤ r.cost) (hn : Cn rs s) : ∃ l, treeP rs s l ∧ ∀ F : List RoadD, (∀ r ∈ F, r ∈ rs) → Cn F s → costL rs l ≤ sumC F := by
  have hp0 : ∀ r ∈ rs, 0 ≤ r.cost := fun r hr => by have := hpos r hr; omega
  obtain ⟨P0, h0, -⟩ := sel_of (F := rs) (fun _ h => h) hp0 hn
  obtain ⟨P, hP, hmin⟩ := least_ex (fun P : Nat → Bool => Cn (edges rs (sel rs.length P)) s) (fun P => costL rs (sel rs.length P)) (fun P _ => by
    show (0 : Int) ≤ costL rs (sel rs.length P)
    rw [costL_sum]
    refine sumC_pos _ (fun r hr => ?_)
    obtain ⟨i, h1, -, rfl⟩ := sel_edge.1 hr
    exact hp0 _ (roadAt_mem h1)) ⟨P0, h0⟩
  refine ⟨_, min_tree hs0 hpos hP hmin, fun F hF hc => ?_⟩
  obtain ⟨Q, hQ, hle⟩ := sel_of hF hp0 hc
  exact Int.le_trans (hmin Q hQ) hle
theorem sumC_hi : ∀ (E : List RoadD), (∀ r ∈ E, r.cost ≤ 50) → sumC E ≤ 50 * (E.length : Int)
  | [], _ => by simp [sumC]
  | r :: E, h => by
    have := sumC_hi E (fun q hq => h q (List.mem_cons_of_mem _ hq))
    have := h r (List.mem_cons_self ..)
    show r.cost + sumC E ≤ 50 * ((E.length + 1 : Nat) : Int)
    omega
theorem treeP_cost {rs : List RoadD} {N s : Nat} {l : List Int} (hr : ∀ r ∈ rs, roadOk N r = true) (hl : rs.length ≤ 16) (h : treeP rs s l) : 0 ≤ costL rs l ∧ costL rs l ≤ 800 := by
  rw [costL_sum]
  have hc : ∀ r ∈ edges rs l, 1 ≤ r.cost ∧ r.cost ≤ 50 := fun r hm => by have := roadOk_iff.1 (hr r (treeP_in h r hm)); omega
  have h1 := sumC_hi (edges rs l) (fun r hm => (hc r hm).2)
  have h2 := sumC_pos (edges rs l) (fun r hm => by have := hc r hm; omega)
  have h3 := treeP_len h
  have h4 : (edges rs l).length = l.length := by unfold edges; rw [List.length_map]
  omega
theorem steiner_opt {rs : List RoadD} {N s : Nat} (hr : ∀ r ∈ rs, roadOk N r = true) (hN1 : 1 ≤ N) (hN : N ≤ 8) (hl : rs.length ≤ 16) (h0 : 0 < s) (hs : s < 2 ^ N) (hn : Cn rs s) :
    ∃ l0, (treeP rs s l0 ∧ costL rs l0 = steinerV rs N s) ∧ (∀ l', treeP rs s l' → steinerV rs N s ≤ costL rs l') ∧ 0 ≤ steinerV rs N s ∧ steinerV rs N s ≤ 1048576 := by
  obtain ⟨l, ht, hmin⟩ := opt_ex h0 (fun r hm => by have := roadOk_iff.1 (hr r hm); omega) hn
  obtain ⟨c0, c1⟩ := treeP_cost hr hl ht
  have h1 := steiner_le hr hN1 hN h0 hs (treeP_in ht) (treeP_cn ht)
  rw [← costL_sum] at h1
  obtain ⟨F, f1, f2, f3⟩ := steiner_real hr hN1 hN h0 hs (by unfold far; omega)
  have h2 := hmin F f1 f3
  have e : costL rs l = steinerV rs N s := by omega
  refine ⟨l, ⟨ht, e⟩, fun l' t' => ?_, by omega, by omega⟩
  rw [← e, costL_sum rs l']
  exact hmin _ (treeP_in t') (treeP_cn t')

/-- The best tree: the least cost, of these the fewest roads, of these the first. -/
def IsBest (rs : List RoadD) (s : Nat) (l : List Int) : Prop := treeP rs s l ∧ ∀ l', treeP rs s l' → costL rs l < costL rs l' ∨ (costL rs l = costL rs l' ∧ (l.length < l'.length ∨ (l.length = l'.length ∧ lexLe l l')))
theorem lexLe.anti {a b : List Int} (hl : a.length = b.length) (h1 : lexLe a b) (h2 : lexLe b a) : a = b := by
  obtain ⟨i, i1, i2, i3⟩ := h1
  obtain ⟨j, j1, j2, j3⟩ := h2
  rcases i3 with rfl | i3
  · exact fn_ext hl (fun x hx => i2 x hx)
  · rcases j3 with rfl | j3
    · exact fn_ext hl (fun x hx => (j2 x (by omega)).symm)
    · exfalso
      rcases Nat.lt_trichotomy i j with g | g | g
      · have := j2 i g; omega
      · subst g; omega
      · have := i2 j g; omega
theorem IsBest.one {rs : List RoadD} {s : Nat} {a b : List Int} (h1 : IsBest rs s a) (h2 : IsBest rs s b) : a = b := by
  rcases h1.2 b h2.1 with x | ⟨x, x2⟩ <;> rcases h2.2 a h1.1 with y | ⟨y, y2⟩
  · omega
  · omega
  · omega
  · rcases x2 with x2 | ⟨x2, x3⟩ <;> rcases y2 with y2 | ⟨y2, y3⟩
    · omega
    · omega
    · omega
    · exact lexLe.anti x2 x3 y3
theorem best_of {rs : List RoadD} {s : Nat} {c : Int} {l : List Int} (h : IsFirst rs s c l) (hopt : ∀ l', treeP rs s l' → c ≤ costL rs l') : IsBest rs s l := by
  obtain ⟨⟨h1, h2⟩, h3⟩ := h
  refine ⟨h1, fun l' t' => ?_⟩
  have h4 := hopt l' t'
  by_cases e : costL rs l' = c
  · exact .inr ⟨by omega, h3 l' t' e⟩
  · exact .inl (by omega)
theorem ok_parts {N : Nat} {rs : List RoadD} {s : Nat} (hok : mapOk ⟨N, rs⟩ = true) (hs : stopsB N s = true) : 1 ≤ N ∧ N ≤ 8 ∧ rs.length ≤ 16 ∧ (∀ r ∈ rs, roadOk N r = true) ∧ 0 < s ∧ s < 2 ^ N := by
  unfold mapOk at hok
  rw [Bool.and_eq_true, decide_eq_true_iff, List.all_eq_true] at hok
  obtain ⟨⟨h1, h8, h16⟩, hall⟩ := hok
  dsimp only at h1 h8 h16 hall
  unfold stopsB at hs
  rw [decide_eq_true_iff] at hs
  obtain ⟨s0, sN⟩ := hs
  rw [Int.toNat_natCast] at sN
  exact ⟨by omega, by omega, h16, hall, by omega, by exact_mod_cast sN⟩

end Go.Proofs.YtkbkgkmogbkabaaDoor

/-
  Contract of Tree; what its answer is.
-/
namespace Go.Proofs.YtkbkgkmogbkabaaDoor
open Go.RowKit

set_option maxRecDepth 20000 in
set_option maxHeartbeats 4000000 in
theorem Tree_bad (vr : Value) (m : MapD) (s : Int) (w : World) (hm : MapR w vr m) (hb : mapOk m = false ∨ (mapOk m = true ∧ stopsB m.n s = false)) :
    Calls Tryd.prog 24 #[.agg #[.int .i64 m.n, vr], .int .i64 s] w fun e w' => e = .returned (.tuple #[.slice none 0 0, .int .i64 2]) ∧ Ext w w' := by
  obtain ⟨ao, cap, rfl⟩ := hm.shape
  have HV := hid hm
  have X0 := hid (Box2.alloc w 31 (.int .i64 m.n) (.slice ao m.roads.length cap))
  clear hm
  go_enter Tryd.func24, Tryd.ntmps24
  go_wp2_with (fail)
  refine (valid_any _ m _ (MapR.ext HV.out (Ext.ofAlloc _ _))).mono ?_
  rintro e w1 ⟨rfl, he⟩
  have HE := hid ((Ext.ofAlloc w _).trans he)
  obtain ⟨c0, c1⟩ := (X0.out.ext he).cells
  clear he
  rcases hb with h1 | ⟨h1, h2⟩
  · rw [h1]
    clear h1
    go_wp2
    go_ret2
    exact ⟨rfl, HE.out⟩
  · have hok2 := h1
    unfold mapOk at hok2
    rw [Bool.and_eq_true, decide_eq_true_iff] at hok2
    obtain ⟨⟨k1, k8, -⟩, -⟩ := hok2
    rw [h1]
    clear h1
    have HS := hid h2
    clear h2
    go_wp2_with (fail)
    refine (stops_any _ m s _ (MapR.ext HV.out HE.out) (by omega) k8).mono ?_
    rw [HS.out]
    rintro e w2 ⟨rfl, he⟩
    replace HE := hid (HE.out.trans he)
    clear he c0 c1
    go_wp2
    go_ret2
    exact ⟨rfl, HE.out⟩

set_option maxRecDepth 20000 in
set_option maxHeartbeats 4000000 in
theorem Tree_none (vr : Value) (N : Nat) (rs : List RoadD) (s : Nat) (w : World) (hv : Roads w vr rs) (hok : mapOk ⟨N, rs⟩ = true) (hs : stopsB N s = true) (hTZ : TZ w) (hn : ¬ Cn rs s) :
    Calls Tryd.prog 24 #[.agg #[.int .i64 N, vr], .int .i64 s] w fun e w' => e = .returned (.tuple #[.slice none 0 0, .int .i64 4]) ∧ Ext w w' := by
  obtain ⟨ao, cap, rfl⟩ := hv.shape
  have HV := hid hv
  have HTZ := hid hTZ
  have HOk := hid hok
  have HS := hid hs
  have HNo := hid hn
  obtain ⟨h1, h8, h16, hall, hs0, hsN⟩ := ok_parts hok hs
  have HAll := hid hall
  have HsN := hid hsN
  have X0 := hid (Box2.alloc w 31 (.int .i64 N) (.slice ao rs.length cap))
  clear hv hok hs hall hsN hTZ hn
  go_enter Tryd.func24, Tryd.ntmps24
  go_wp2_with (fail)
  refine (valid_any _ ⟨N, rs⟩ _ (Roads.ext HV.out (Ext.ofAlloc _ _))).mono ?_
  rw [HOk.out]
  rintro e w1 ⟨rfl, he⟩
  have HE := hid ((Ext.ofAlloc w _).trans he)
  obtain ⟨c0, c1⟩ := (X0.out.ext he).cells
  clear he
  go_wp2_with (fail)
  refine (stops_any _ ⟨N, rs⟩ s _ (Roads.ext HV.out HE.out) (by show (0 : Int) ≤ N; omega) (by show (N : Int) ≤ 8; omega)).mono ?_
  rw [HS.out]
  rintro e w2 ⟨rfl, he⟩
  replace HE := hid (HE.out.trans he)
  replace c0 := he.cell c0
  replace c1 := he.cell c1
  clear he
  go_wp2_with (fail)
  refine (reachable_any _ N rs s _ (Roads.ext HV.out HE.out) HAll.out h16 h8 hs0 HsN.out (HTZ.out.ext HE.out)).mono ?_
  rintro e w3 ⟨ha, he⟩
  obtain rfl : e = .returned (.bool false) := by
    rcases ha with ⟨h, -⟩ | ⟨-, h⟩
    · exact absurd h HNo.out
    · exact h
  replace HE := hid (HE.out.trans he)
  clear he c0 c1 ha
  go_wp2
  go_ret2
  exact ⟨rfl, HE.out⟩

set_option maxRecDepth 20000 in
set_option maxHeartbeats 4000000 in
theorem Tree_ok (vr : Value) (N : Nat) (rs : List RoadD) (s : Nat) (w : World) (hv : Roads w vr rs) (hok : mapOk ⟨N, rs⟩ = true) (hs : stopsB N s = true) (hTZ : TZ w) (hn : Cn rs s) :
    Calls Tryd.prog 24 #[.agg #[.int .i64 N, vr], .int .i64 s] w fun e w' => ∃ v l, e = .returned (.tuple #[v, .int .i64 0]) ∧ OwnI w.heap.size w' v l ∧ Hid (IsBest rs s l) ∧ Ext w w' := by
  obtain ⟨ao, cap, rfl⟩ := hv.shape
  have HV := hid hv
  have HTZ := hid hTZ
  have HOk := hid hok
  have HS := hid hs
  have HCn := hid hn
  obtain ⟨h1, h8, h16, hall, hs0, hsN⟩ := ok_parts hok hs
  have HAll := hid hall
  have HsN := hid hsN
  obtain ⟨l0, ⟨ht0, hl0⟩, hopt, hst0, hst1⟩ := steiner_opt hall h1 h8 h16 hs0 hsN hn
  have HT0 := hid ht0
  have HL0 := hid hl0
  have HOpt := hid hopt
  obtain ⟨c, hc⟩ : ∃ c, c = steinerV rs N s := ⟨_, rfl⟩
  rw [← hc] at HL0 hst0 hst1
  have HC := hid hc
  have X0 := hid (Box2.alloc w 31 (.int .i64 N) (.slice ao rs.length cap))
  clear hv hok hs hall hsN hTZ hn ht0 hl0 hopt hc
  go_enter Tryd.func24, Tryd.ntmps24
  go_wp2_with (fail)
  refine (valid_any _ ⟨N, rs⟩ _ (Roads.ext HV.out (Ext.ofAlloc _ _))).mono ?_
  rw [HOk.out]
  rintro e w1 ⟨rfl, he⟩
  have HE := hid ((Ext.ofAlloc w _).trans he)
  obtain ⟨c0, c1⟩ := (X0.out.ext he).cells
  have HX := hid (X0.out.ext he)
  clear he
  go_wp2_with (fail)
  refine (stops_any _ ⟨N, rs⟩ s _ (Roads.ext HV.out HE.out) (by show (0 : Int) ≤ N; omega) (by show (N : Int) ≤ 8; omega)).mono ?_
  rw [HS.out]
  rintro e w2 ⟨rfl, he⟩
  replace HE := hid (HE.out.trans he)
  replace HX := hid (HX.out.ext he)
  replace c0 := he.cell c0
  replace c1 := he.cell c1
  clear he
  go_wp2_with (fail)
  refine (reachable_any _ N rs s _ (Roads.ext HV.out HE.out) HAll.out h16 h8 hs0 HsN.out (HTZ.out.ext HE.out)).mono ?_
  rintro e w3 ⟨ha, he⟩
  obtain rfl : e = .returned (.bool true) := by
    rcases ha with ⟨-, h⟩ | ⟨h, -⟩
    · exact h
    · exact absurd HCn.out h
  replace HE := hid (HE.out.trans he)
  replace HX := hid (HX.out.ext he)
  clear he c0 c1 ha
  obtain ⟨c0, c1⟩ := HX.out.cells
  go_wp2
  refine wp_region_held_drew (S := (fun w' => w'.cell? ⟨w.heap.size, 0, none⟩ = some (.int .i64 N) ∧ w'.cell? ⟨w.heap.size, 1, none⟩ = some (.slice ao rs.length cap))) (by kernel_rfl) ?hSa0 (fun hHeld => ?_)
  case hSa0 => (first | (exact ⟨c0, c1⟩) | ((try dsimp only); exact ⟨c0, c1⟩))
  refine wpAnyH_tk 0 (v := ?va0) rfl (by kernel_rfl) (by kernel_rfl) (by kernel_rfl) (fun _ _ _ h => h) (by rfl) ?hya0 (by assumption) ?_
  case hya0 => (intro w hSw; (try dsimp only at hSw); go_simp <;> with_reducible rfl)
  (try simp only [Act.put, List.setIfInBounds_toArray, List.set_cons_zero, List.set_cons_succ])
  refine wpAnyH_tk 1 (v := ?va1) rfl (by kernel_rfl) (by kernel_rfl) (by kernel_rfl) (fun _ _ _ h => h) (by rfl) ?hya1 (by assumption) ?_
  case hya1 => (intro w hSw; (try dsimp only at hSw); go_simp <;> with_reducible rfl)
  (try simp only [Act.put, List.setIfInBounds_toArray, List.set_cons_zero, List.set_cons_succ])
  refine wpAnyH_tk 2 (v := ?va2) rfl (by kernel_rfl) (by kernel_rfl) (by kernel_rfl) (fun _ _ _ h => h) (by rfl) ?hya2 (by assumption) ?_
  case hya2 => (intro w hSw; (try dsimp only at hSw); go_simp <;> with_reducible rfl)
  (try simp only [Act.put, List.setIfInBounds_toArray, List.set_cons_zero, List.set_cons_succ])
  refine wpAnyH_tk 3 (v := ?va3) rfl (by kernel_rfl) (by kernel_rfl) (by kernel_rfl) (fun _ _ _ h => h) (by rfl) ?hya3 (by assumption) ?_
  case hya3 => (intro w hSw; (try dsimp only at hSw); go_simp <;> with_reducible rfl)
  (try simp only [Act.put, List.setIfInBounds_toArray, List.set_cons_zero, List.set_cons_succ])
  refine wpAnyH_one 4 rfl (by kernel_rfl) (by rfl) (fun K hK => ?_)
  go_simp
  (refine (steiner_any _ N rs s _ (Roads.ext HV.out (HE.out.drew)) h1 h8 h16 HAll.out hs0 HsN.out (HTZ.out.ext (HE.out.drew))).mono ?_; rintro e w4 ⟨rfl, he4⟩; rw [← HC.out]; have HE4 := hid (HE.out.drew.trans he4); have d0 := he4.cell c0; have d1 := he4.cell c1; clear he4)
  refine hK.out _ _ ?hSa5 (fun hHeld => ?_)
  case hSa5 => (first | (exact ⟨d0, d1⟩) | ((try dsimp only); exact ⟨d0, d1⟩))
  clear hK K
  (try simp only [Act.put, List.setIfInBounds_toArray, List.set_cons_zero, List.set_cons_succ])
  refine wpAnyH_one 5 rfl (by kernel_rfl) (by rfl) (fun K hK => ?_)
  go_simp
  (refine (first_any _ N rs s c _ (Roads.ext HV.out HE4.out) h8 h16 HAll.out hs0 HsN.out (HTZ.out.ext HE4.out) hst0 hst1 l0 HT0.out HL0.out).mono ?_; rintro e w5 ⟨v5, l, rfl, ho5, hf5, he5⟩; have HO5 := hid ho5; have HB5 := hid (best_of hf5.out (fun l' t' => by rw [HC.out]; exact HOpt.out l' t')); have HSZ := hid HE4.out.size; have HE5 := hid (HE4.out.trans he5); obtain ⟨av, cv, rfl⟩ := own_len ho5; have d2 := he5.cell d0; have d3 := he5.cell d1; clear ho5 hf5 he5)
  refine hK.out _ _ ?hSa6 (fun hHeld => ?_)
  case hSa6 => (first | (exact ⟨d2, d3⟩) | ((try dsimp only); exact ⟨d2, d3⟩))
  clear hK K
  (try simp only [Act.put, List.setIfInBounds_toArray, List.set_cons_zero, List.set_cons_succ])
  refine wpAnyH_tk 6 (v := ?va6) rfl (by kernel_rfl) (by kernel_rfl) (by kernel_rfl) (fun _ _ _ h => h) (by rfl) ?hya6 (by assumption) ?_
  case hya6 => (intro w hSw; (try dsimp only at hSw); go_simp <;> with_reducible rfl)
  (try simp only [Act.put, List.setIfInBounds_toArray, List.set_cons_zero, List.set_cons_succ])
  refine wpAnyH_tk 7 (v := ?va7) rfl (by kernel_rfl) (by kernel_rfl) (by kernel_rfl) (fun _ _ _ h => h) (by rfl) ?hya7 (by assumption) ?_
  case hya7 => (intro w hSw; (try dsimp only at hSw); go_simp <;> with_reducible rfl)
  (try simp only [Act.put, List.setIfInBounds_toArray, List.set_cons_zero, List.set_cons_succ])
  refine wpAnyH_done (by kernel_rfl) ?_ _
  clear hHeld c0 c1
  go_wp2
  go_ret2
  exact ⟨_, l, rfl, ownsRow_base HO5.out HSZ.out, HB5.out, HE5.out⟩

end Go.Proofs.YtkbkgkmogbkabaaDoor

/-
  Contract of the statements' cost.
-/
namespace Go.Proofs.YtkbkgkmogbkabaaDoor
open Go.RowKit

/-- The two values of cost. -/
def CostVal (rs : List RoadD) (N s : Nat) (c : Int) (b : Bool) : Prop := (Cn rs s ∧ c = steinerV rs N s ∧ b = true) ∨ (¬ Cn rs s ∧ c = 0 ∧ b = false)
theorem CostVal.ex (rs : List RoadD) (N s : Nat) : ∃ c b, CostVal rs N s c b := by
  by_cases h : Cn rs s
  · exact ⟨_, _, .inl ⟨h, rfl, rfl⟩⟩
  · exact ⟨_, _, .inr ⟨h, rfl, rfl⟩⟩
theorem best_cost {rs : List RoadD} {N s : Nat} {l : List Int} (hok : mapOk ⟨N, rs⟩ = true) (hs : stopsB N s = true) (hn : Cn rs s) (h : IsBest rs s l) : costL rs l = steinerV rs N s := by
  obtain ⟨h1, h8, h16, hall, hs0, hsN⟩ := ok_parts hok hs
  obtain ⟨l0, ⟨ht0, hl0⟩, hopt, -, -⟩ := steiner_opt hall h1 h8 h16 hs0 hsN hn
  have a := hopt l h.1
  rcases h.2 l0 ht0 with b | ⟨b, -⟩ <;> omega

set_option maxRecDepth 20000 in
set_option maxHeartbeats 8000000 in
theorem lawcost_any (vr : Value) (N : Nat) (rs : List RoadD) (s : Nat) (w : World) (hm : MapR w vr ⟨N, rs⟩) (hb : mapOk ⟨N, rs⟩ = true) (hs : stopsB N s = true) (hTZ : TZ w) {c : Int} {b : Bool} (hcb : CostVal rs N s c b) :
    Calls Tryd.prog 22 #[.agg #[.int .i64 N, vr], .int .i64 s] w fun e w' => e = .returned (.tuple #[.int .i64 c, .bool b]) ∧ Ext w w' := by
  obtain ⟨ao, cap, rfl⟩ := hm.shape
  have HM := hid hm
  have HTZ := hid hTZ
  have HB := hid hb
  have HST := hid hs
  obtain ⟨h1, h8, h16, hall, hs0, hsN⟩ := ok_parts hb hs
  have HTK : Hid (rs.take 18 = rs) := congrArg MapD.roads (cutM_id hb)
  have X0 := Box2.alloc w 24 (.int .i64 N) (.slice ao rs.length cap)
  dsimp only at HM ⊢
  clear hm hTZ hb hs hall hsN
  rcases hcb with ⟨hcn, rfl, rfl⟩ | ⟨hcn, rfl, rfl⟩
  · have HCN := hid hcn
    clear hcn
    go_enter Tryd.func22, Tryd.ntmps22
    go_wp2_with (fail)
    refine (Of_any _ ⟨N, rs⟩ _ (MapR.ext HM.out (Ext.ofAlloc w _))).mono ?_
    rintro e w1 ⟨uU, rfl, hu, he1⟩
    dsimp only at hu
    rw [HTK.out] at hu
    have X1 := hid (X0.ext he1)
    have E1 := hid ((Ext.ofAlloc w _).trans he1)
    clear he1
    obtain ⟨c0, c1⟩ := X1.out.cells
    have U_1 := hid (hu.roads (by omega))
    clear hu
    go_wp2_with (fail)
    refine (Tree_ok _ N rs s _ U_1.out HB.out HST.out (HTZ.out.ext E1.out) HCN.out).mono ?_
    rintro e w2 ⟨v, l, rfl, ho, hbest, he2⟩
    have HBEST := hid hbest.out
    obtain ⟨av, cv, rfl⟩ := own_len ho
    have HO := hid (ho.ints (by have := treeP_len HBEST.out.1; omega))
    clear ho hbest
    clear c0 c1
    have X2 := hid (X1.out.ext he2)
    have U_2 := hid (U_1.out.ext he2)
    have E2 := hid (E1.out.trans he2)
    clear he2
    obtain ⟨c0, c1⟩ := X2.out.cells
    have O_2 := hid (HO.out)
    clear HO
    go_wp2_with (fail)
    refine (Of_any _ ⟨N, rs⟩ _ (MapR.ext HM.out E2.out)).mono ?_
    rintro e w3 ⟨uU, rfl, hu, he3⟩
    dsimp only at hu
    rw [HTK.out] at hu
    clear c0 c1
    have X3 := hid (X2.out.ext he3)
    have O_3 := hid (O_2.out.ext he3)
    have E3 := hid (E2.out.trans he3)
    clear he3
    obtain ⟨c0, c1⟩ := X3.out.cells
    have U_3 := hid (hu.roads (by omega))
    clear hu
    go_wp2_with (fail)
    refine (CheckTree_ok _ _ N rs s _ _ U_3.out O_3.out HB.out HST.out (HTZ.out.ext E3.out) (.inl ⟨HBEST.out.1, rfl, rfl⟩)).mono ?_
    rw [best_cost HB.out HST.out HCN.out HBEST.out]
    rintro e w4 ⟨rfl, he4⟩
    clear c0 c1
    have X4 := hid (X3.out.ext he4)
    have O_4 := hid (O_3.out.ext he4)
    have U_4 := hid (U_3.out.ext he4)
    have E4 := hid (E3.out.trans he4)
    clear he4
    obtain ⟨c0, c1⟩ := X4.out.cells
    go_wp2
    go_ret2
    exact ⟨rfl, E4.out⟩
  · have HCN := hid hcn
    clear hcn
    go_enter Tryd.func22, Tryd.ntmps22
    go_wp2_with (fail)
    refine (Of_any _ ⟨N, rs⟩ _ (MapR.ext HM.out (Ext.ofAlloc w _))).mono ?_
    rintro e w1 ⟨uU, rfl, hu, he1⟩
    dsimp only at hu
    rw [HTK.out] at hu
    have X1 := hid (X0.ext he1)
    have E1 := hid ((Ext.ofAlloc w _).trans he1)
    clear he1
    obtain ⟨c0, c1⟩ := X1.out.cells
    have U_1 := hid (hu.roads (by omega))
    clear hu
    go_wp2_with (fail)
    refine (Tree_none _ N rs s _ U_1.out HB.out HST.out (HTZ.out.ext E1.out) HCN.out).mono ?_
    rintro e w2 ⟨rfl, he2⟩
    clear c0 c1
    have X2 := hid (X1.out.ext he2)
    have U_2 := hid (U_1.out.ext he2)
    have E2 := hid (E1.out.trans he2)
    clear he2
    obtain ⟨c0, c1⟩ := X2.out.cells
    go_wp2
    go_ret2
    exact ⟨rfl, E2.out⟩

end Go.Proofs.YtkbkgkmogbkabaaDoor
