/-
  Contract of the reference's Middle.
-/
import Derived.Test.YtkdfbbkonbgfmaaRefE
import Derived.Test.YtkdfbbkonbgfmaaMiddle
namespace Go.Proofs.Ytkdfbbkonbgfmaa
open Go.RowKit

/-- A slice that is nil has no room. -/
def NoRoom (v : Value) : Prop := ∀ n c, v = .slice none n c → c = 0
theorem OwnI.noRoom {B : Nat} {w : World} {v : Value} {xs : List Int} (h : OwnI B w v xs) : NoRoom v := by
  intro n c e
  obtain ⟨-, ⟨h, -⟩ | ⟨g, cap, cur, h, -⟩⟩ := h
  · rw [h] at e; simp at e; omega
  · rw [h] at e; simp at e

/-- append of a slice of ints behind a row of the call's own. -/
theorem wp_append_ints {w : World} {o : Oper} {a : Act} {K : Act → World → Prop} {Q : Exit → Act → World → Prop} (s x : Operand)
    (ho : o.op = .call { callee := .builtin .append, args := #[s, x], argTypes := #[23, 23] })
    (B : Nat) (v : Value) (xs : List Int) (hs : a.eval s = v) (hown : OwnI B w v xs)
    (ao : Option Addr) (m c : Nat) (ys : List Int) (hx : a.eval x = .slice ao m c) (hm : ys.length = m) (hn : ao = none → c = 0)
    (hc : ∀ k, k < ys.length → ∃ ad, ao = some ad ∧ w.cell? (ad.add k) = some (.int .i64 (fn ys k)))
    (hl : xs.length + ys.length ≤ 1000000) (hB : B ≤ w.heap.size)
    (h : ∀ v' w', OwnI B w' v' (xs ++ ys) → w.grownBy w' v.ownBlock → K (a.put o.dst v') w') : o.wp Try.prog a w K Q := by
  obtain ⟨i0, hi, hz0, hz1, hz2⟩ := info_parts info_int
  cases ao with
  | none =>
    obtain rfl := hn rfl
    have hy : ys = [] := by
      cases ys with
      | nil => rfl
      | cons z zs => obtain ⟨ad, e, -⟩ := hc 0 (by simp); simp at e
    subst hy
    simp at hm
    subst hm
    have hrun := run_append_owned_none (P := Try.prog) (w := w) B 23 o.type 3 i0 1 Try.underlying23 hi v xs.length (xs.map (Value.int .i64)) hown
    unfold Oper.wp execOp
    simp only [ho, resolve, invoke, builtin, Sem.run_bind, Sem.run_pure, Result.andThen_ok, List.map_toArray, List.map_cons, List.map_nil, hs, hx, hrun]
    exact h v w (by rw [List.append_nil]; exact hown) ⟨rfl, rfl, rfl, Nat.le_refl _, fun _ _ _ => rfl⟩
  | some ad =>
    refine wp_append_own w s x 23 ho B 3 i0 (.int .i64 0) 1 8 Try.underlying23 hi hz0 hz1 hz2 rfl (by decide) v xs.length (xs.map (Value.int .i64)) hs hown ad m c (ys.map (Value.int .i64)) hx (by rw [List.length_map]; omega) ?_ (int_oneCell ys) (by unfold maxLen; omega) (by omega) hB (fun v' w' h1 h2 _ => h v' w' ?_ h2)
    · intro j u hj
      rw [List.getElem?_map, Option.map_eq_some_iff] at hj
      obtain ⟨z, hz, rfl⟩ := hj
      obtain ⟨hjl, rfl⟩ := List.getElem?_eq_some_iff.1 hz
      obtain ⟨ad', e, hcell⟩ := hc j hjl
      simp only [Option.some.injEq] at e
      subst e
      rw [hcell, fn_get hjl]
    · subst hm
      show World.ownsRow _ _ _ _ _ (xs ++ ys).length ((xs ++ ys).map (Value.int .i64))
      rw [List.length_append, List.map_append]; exact h1

theorem own_cases {B : Nat} {w : World} {v : Value} {xs : List Int} (h : OwnI B w v xs) : (v = .slice none 0 0 ∧ xs = []) ∨ ∃ b o c, v = .slice (some ⟨b, o, none⟩) xs.length c ∧ xs.length ≤ c := by
  obtain ⟨hl, ⟨h, h2⟩ | ⟨g, cap, cur, h, -, -, h3, -⟩⟩ := h
  · left
    refine ⟨h, ?_⟩
    cases xs with
    | nil => rfl
    | cons a b => simp at h2
  · exact .inr ⟨g, 0, cap, h, h3⟩
theorem cells_take {w : World} {b o c j : Nat} {had : List Int} (h : Ints w (.slice (some ⟨b, o, none⟩) had.length c) had) (hj : j ≤ had.length) (k : Nat) (hk : k < (had.take j).length) :
    ∃ ad, (some ⟨b, o, none⟩ : Option Addr) = some ad ∧ w.cell? (ad.add k) = some (.int .i64 (fn (had.take j) k)) := by
  rw [List.length_take] at hk
  have e : fn (had.take j) k = fn had k := by rw [fn_get (by rw [List.length_take]; omega), fn_get (by omega), List.getElem_take]
  exact ⟨_, rfl, by rw [Addr.add_lit, e]; exact (h.get' k (by omega)).2 _ (Ext.refl _)⟩
theorem cells_drop {w : World} {b o c j : Nat} {had : List Int} (hcap : had.length ≤ c) (h : Ints w (.slice (some ⟨b, o, none⟩) had.length c) had) (hj : j ≤ had.length) (k : Nat) (hk : k < (had.drop j).length) :
    ∃ ad, (if c = j then some ⟨b, o, none⟩ else some ⟨b, o + j, none⟩ : Option Addr) = some ad ∧ w.cell? (ad.add k) = some (.int .i64 (fn (had.drop j) k)) := by
  rw [List.length_drop] at hk
  have e : fn (had.drop j) k = fn had (j + k) := by rw [fn_get (by rw [List.length_drop]; omega), fn_get (by omega), List.getElem_drop]
  refine ⟨⟨b, o + j, none⟩, by rw [if_neg (by omega)], ?_⟩
  rw [Addr.add_lit, e, Nat.add_assoc]; exact (h.get' (j + k) (by omega)).2 _ (Ext.refl _)
theorem cells_one {B b : Nat} {w : World} {x : Int} (h : OwnI B w (.slice (some ⟨b, 0, none⟩) 1 1) [x]) (k : Nat) (hk : k < [x].length) :
    ∃ ad, (some ⟨b, 0, none⟩ : Option Addr) = some ad ∧ w.cell? (ad.add k) = some (.int .i64 (fn [x] k)) := by
  obtain ⟨b', off, e, -, hc⟩ := (h.ints (by simp)).get k hk
  simp only [Option.some.injEq, Addr.mk.injEq, and_true] at e
  obtain ⟨rfl, rfl⟩ := e
  exact ⟨_, rfl, by rw [Addr.add_lit]; exact hc _ (Ext.refl _)⟩

/-- The operations that may come up are two. -/
theorem wpAnyH_two {P : Program} {md : Region.Mode} {ops : Array Oper} {Q : Exit → Act → World → Prop} {S : World → Prop} {w : World} (i j : Nat) {o o2 : Oper} {fuel : Nat} {listed : Array Bool} {a : Act} (hi : ops.toList[i]? = some o) (hj : ops.toList[j]? = some o2)
    (hr : Region.ready md ops listed = [i, j]) (hw : Region.wanted o (yielded ops a.tmps) = true) (hw2 : Region.wanted o2 (yielded ops a.tmps) = true)
    (h : ∀ K' : Act → World → Prop, Shut (∀ a w, S w → (S w → wpAnyH P md ops Q S fuel (listed.setIfInBounds i true) a w) → K' a w) → Oper.wp P o a w K' Q)
    (h2 : ∀ K' : Act → World → Prop, Shut (∀ a w, S w → (S w → wpAnyH P md ops Q S fuel (listed.setIfInBounds j true) a w) → K' a w) → Oper.wp P o2 a w K' Q) : wpAnyH P md ops Q S (fuel + 1) listed a w :=
  wpAnyH_ready hr (by simp) (AllReadyH.cons (by rw [← Array.getElem?_toList]; exact hi) (fun K' hK => by rw [if_pos hw]; exact h K' hK) (AllReadyH.cons (by rw [← Array.getElem?_toList]; exact hj) (fun K' hK => by rw [if_pos hw2]; exact h2 K' hK) AllReadyH.nil))

/-- Sorted by the ranks in a list; a new one behind those that are as good. -/
theorem ins_sorted {f : Int → Int} {had : List Int} {x : Int} {k : Nat} (hs : had.Pairwise (fun a b => f a ≤ f b)) (hk : k ≤ had.length) (h1 : ∀ i, i < k → f (fn had i) ≤ f x) (h2 : k < had.length → f x < f (fn had k)) :
    ((had.take k ++ [x]) ++ had.drop k).Pairwise (fun a b => f a ≤ f b) := by
  have hle : ∀ i j, i ≤ j → (hj : j < had.length) → f (fn had i) ≤ f (fn had j) := by
    intro i j hij hj
    rw [fn_get (by omega), fn_get hj]
    rcases Nat.lt_or_ge i j with h | h
    · exact List.pairwise_iff_getElem.1 hs i j (by omega) hj h
    · have : i = j := by omega
      subst this; exact Int.le_refl _
  have hT : ∀ a ∈ had.take k, f a ≤ f x := by
    intro a ha
    obtain ⟨i, hi, rfl⟩ := List.getElem_of_mem ha
    rw [List.length_take] at hi
    rw [List.getElem_take]
    have := h1 i (by omega)
    rwa [fn_get (by omega)] at this
  have hD : ∀ b ∈ had.drop k, f x ≤ f b := by
    intro b hb
    obtain ⟨i, hi, rfl⟩ := List.getElem_of_mem hb
    rw [List.length_drop] at hi
    rw [List.getElem_drop]
    have a1 := h2 (by omega)
    have a2 := hle k (k + i) (by omega) (by omega)
    rw [fn_get (h := k + i) (by omega)] at a2
    omega
  rw [List.pairwise_append, List.pairwise_append]
  refine ⟨⟨hs.take, List.pairwise_singleton _ _, fun a ha b hb => ?_⟩, hs.drop, fun a ha b hb => ?_⟩
  · rw [List.mem_singleton] at hb; subst hb; exact hT a ha
  · rw [List.mem_append, List.mem_singleton] at ha
    rcases ha with ha | rfl
    · have := hT a ha; have := hD b hb; omega
    · exact hD b hb
theorem ins_perm {had : List Int} {x : Int} {k : Nat} : ((had.take k ++ [x]) ++ had.drop k).Perm (had ++ [x]) := by
  rw [List.append_assoc]
  have h1 : (had.take k ++ x :: had.drop k).Perm (x :: (had.take k ++ had.drop k)) := List.perm_middle
  rw [List.take_append_drop] at h1
  exact h1.trans (List.perm_append_singleton x had).symm
theorem ins_len {had : List Int} {x : Int} {k : Nat} : ((had.take k ++ [x]) ++ had.drop k).length = had.length + 1 := by
  rw [ins_perm.length_eq, List.length_append]; rfl

set_option maxRecDepth 20000 in
set_option maxHeartbeats 8000000 in
theorem RMiddle_any (vh vs vp : Value) (p : PlanD) (hok : PlanOk p) (k : Int) (w : World) (hp : PlanR w vh vs vp p) (hk1 : 1 ≤ k) (hk2 : k ≤ ((stAll p hok).length : Int)) :
    Calls Try.prog 47 #[.agg #[vh, vs, vp], .int .i64 k] w fun e w' => ∃ u m, e = .returned u ∧ OwnI w.heap.size w' u m ∧ MidL p (stAll p hok) (k - 1).toNat m ∧ Ext w w' := by
  obtain ⟨aoh, caph, aos, caps, aop, capp, rfl, rfl, rfl⟩ := planR_shape hp
  have HP := hid hp
  have hn1 := hok.h1
  have hn6 := hok.h6
  have hs4 := hok.s4
  have Hok := hid hok
  have X0 := hid (Box3.alloc w 25 (.slice aoh p.hands.length caph) (.slice aos p.shifts.length caps) (.slice aop p.places.length capp))
  obtain ⟨i0, hi, hz0, hz1, hz2⟩ := info_parts info_int
  clear hp
  go_enter Try.func47, Try.ntmps47
  go_wp2_with (fail)
  refine (RStable_any _ _ _ p hok _ (HP.out.ext (Ext.ofAlloc _ _))).mono ?_
  rintro e W ⟨ul, rfl, hul, he⟩
  obtain ⟨L, hL⟩ : ∃ L, L = stAll p hok := ⟨_, rfl⟩
  rw [← hL] at hul hk2
  have HL := hid hL
  have hL1 : 0 < L.length := by rw [hL]; exact stAll_pos
  have hL2 : L.length ≤ 15625 := by rw [hL]; exact stAll_le
  have hLs : Hid (∀ k : Nat, k < L.length → StL p hok (rowAt L k)) := fun k hk => mem_stAll.1 (show rowAt L k ∈ stAll p hok by rw [← hL]; exact rowAt_mem (Int.natCast_nonneg k) (by exact_mod_cast hk))
  have hr := hul.rows2 (by omega)
  obtain ⟨-, aol, capl, rfl, -⟩ := id hr
  obtain ⟨bL, oL, -, -, rfl, -, -⟩ := hr.at 0 (by omega) (by omega)
  have HRW := hid hr
  have HEW := hid ((Ext.ofAlloc w _).trans he)
  have XW := hid (X0.out.ext he)
  have hszW := HEW.out.size
  clear hul he hr hL
  obtain ⟨c0, c1, c2⟩ := XW.out.cells
  go_wp2
  clear c0 c1 c2
  go_loopg [17, 5] p.hands.length (fun g i v wr => ∃ (h : Nat) (m : List Int), h + g = p.hands.length ∧ i = .int .i64 h ∧ Hid (m.length = h) ∧ Hid (∀ x, x < h → MidV p L (k - 1).toNat x (fn m x)) ∧ Hid (OwnI W.heap.size wr v m) ∧ Hid (Ext W wr))
  case atStart => exact ⟨0, [], by omega, rfl, rfl, fun x hx => by omega, World.ownsRow_nil _ _ _ _, Ext.refl _⟩
  case round =>
    obtain ⟨h, m, hh, rfl, Hml, Hmv, OUT, E⟩ := hrel
    have hhl : h ≤ p.hands.length := by omega
    have Hh := hid hh
    clear hh
    by_cases hlt : h < p.hands.length
    · have hh1 : (h : Int) < p.hands.length := by omega
      go_wp2
      go_loopg [22, 8] L.length (fun g i2 v wr => ∃ (j : Nat) (had : List Int), j + g = L.length ∧ i2 = .int .i64 j ∧ Hid (had.Perm (colTo L h j)) ∧ Hid (had.Pairwise (fun a b => rankP (rowAt p.hands h) a ≤ rankP (rowAt p.hands h) b)) ∧ Hid (OwnI 0 wr v had) ∧ Hid (OwnI W.heap.size wr u5 m) ∧ Hid (Ext W wr))
      case atStart => exact ⟨0, [], by omega, rfl, List.Perm.refl _, List.Pairwise.nil, World.ownsRow_nil _ _ _ _, OUT, E⟩
      case round =>
        clear OUT E
        obtain ⟨j, had, hj, rfl, PERM, SORT, HAD, OUT, E⟩ := hrel
        have hjl : j ≤ L.length := by omega
        have Hj := hid hj
        clear hj
        have hhadl : had.length ≤ 15625 := by have := PERM.out.length_eq; have := colTo_len (L := L) (h := h) (k := j); omega
        by_cases hjlt : j < L.length
        · obtain ⟨-, arj, crj, hrowj, hrij⟩ := HRW.out.row j hjlt
          have dj := hrowj _ E.out
          have hjm := (hLs.out j hjlt).1
          obtain ⟨bj, oj, hbj, -, hcj⟩ := hrij.get h (by omega)
          subst hbj
          have Dx : Hid (∀ w', Ext W w' → w'.cell? ⟨bj, oj + h, none⟩ = some (.int .i64 (fn (rowAt L j) h))) := hcj
          have Hxv := hid ((hLs.out j hjlt).mat.val hlt)
          have hh2 : (h : Int) < (rowAt L j).length := by omega
          have Hs := hid (colTo_succ (h := h) hjlt)
          generalize fn (rowAt L j) h = x at *
          have HHi := hid (HAD.out.ints (by omega))
          have Hvals : Hid (∀ i, i < had.length → fn had i = -1 ∨ possB p h (fn had i) = true) := by
            intro i hi
            have hm : fn had i ∈ colTo L h j := PERM.out.mem_iff.1 (by rw [fn_get hi]; exact List.getElem_mem hi)
            obtain ⟨q, hq, e⟩ := List.mem_map.1 hm
            rw [← e]
            exact (mem_stAll.1 (by rw [← HL.out]; exact List.mem_of_mem_take hq)).mat.val hlt
          clear hrowj hrij hjm hcj
          rcases own_cases HAD.out with ⟨rfl, rfl⟩ | ⟨bH, oH, capH, rfl, hcapH⟩
          · go_wp2
            clear dj
            generalize wr = V at *
            go_loopg [11] 1 (fun g i3 wr => i3 = .int .i64 0 ∧ Hid (Ext V wr))
            case atStart => exact ⟨rfl, Ext.refl _⟩
            case round =>
              obtain ⟨rfl, E3⟩ := hrel
              have HE3 := hid (E.out.trans E3.out)
              have OUT3 := hid (ownsRow_ext OUT.out E3.out)
              obtain ⟨c0, c1, c2⟩ := (XW.out.ext HE3.out).cells
              have dx := Dx.out _ HE3.out
              have hal : 0 ≤ ([] : List Int).length := Nat.le_refl _
              have LOW : Hid (∀ i, i < 0 → rankP (rowAt p.hands h) (fn [] i) ≤ rankP (rowAt p.hands h) x) := fun i hi => by omega
              have HIGH : Hid (0 < ([] : List Int).length → rankP (rowAt p.hands h) x < rankP (rowAt p.hands h) (fn [] 0)) := fun h' => by simp at h'
              go_wp2
              refine wp_region_held_drew (S := (fun w' => w'.cell? ⟨w.heap.size, 0, none⟩ = some (.slice aoh p.hands.length caph) ∧ w'.cell? ⟨w.heap.size, 1, none⟩ = some (.slice aos p.shifts.length caps) ∧ w'.cell? ⟨w.heap.size, 2, none⟩ = some (.slice aop p.places.length capp))) (by kernel_rfl) ?hSc0 (fun hHeld => ?_)
              case hSc0 => (first | (exact ⟨c0, c1, c2⟩) | ((try dsimp only); exact ⟨c0, c1, c2⟩))
              refine wpAnyH_tk 0 (v := ?vc0) rfl (by kernel_rfl) (by kernel_rfl) (by kernel_rfl) (fun _ _ _ h => h) (by rfl) ?hyc0 (by assumption) ?_
              case hyc0 => (intro w hSw; (try dsimp only at hSw); go_simp <;> with_reducible rfl)
              (try simp only [Act.put, List.setIfInBounds_toArray, List.set_cons_zero, List.set_cons_succ])
              refine wpAnyH_tk 1 (v := ?vc1) rfl (by kernel_rfl) (by kernel_rfl) (by kernel_rfl) (fun _ _ _ h => h) (by rfl) ?hyc1 (by assumption) ?_
              case hyc1 => (intro w hSw; (try dsimp only at hSw); go_simp <;> with_reducible rfl)
              (try simp only [Act.put, List.setIfInBounds_toArray, List.set_cons_zero, List.set_cons_succ])
              refine wpAnyH_tk 2 (v := ?vc2) rfl (by kernel_rfl) (by kernel_rfl) (by kernel_rfl) (fun _ _ _ h => h) (by rfl) ?hyc2 (by assumption) ?_
              case hyc2 => (intro w hSw; (try dsimp only at hSw); go_simp <;> with_reducible rfl)
              (try simp only [Act.put, List.setIfInBounds_toArray, List.set_cons_zero, List.set_cons_succ])
              refine wpAnyH_tk 3 (v := ?vc3) rfl (by kernel_rfl) (by kernel_rfl) (by kernel_rfl) (fun _ _ _ h => h) (by rfl) ?hyc3 (by assumption) ?_
              case hyc3 => (intro w hSw; (try dsimp only at hSw); go_simp <;> with_reducible rfl)
              (try simp only [Act.put, List.setIfInBounds_toArray, List.set_cons_zero, List.set_cons_succ])
              refine wpAnyH_tk 4 (v := ?vc4) rfl (by kernel_rfl) (by kernel_rfl) (by kernel_rfl) (fun _ _ _ h => h) (by rfl) ?hyc4 (by assumption) ?_
              case hyc4 => (intro w hSw; (try dsimp only at hSw); go_simp <;> with_reducible rfl)
              (try simp only [Act.put, List.setIfInBounds_toArray, List.set_cons_zero, List.set_cons_succ])
              refine wpAnyH_skips 4 true 30 1 (by kernel_rfl) rfl (fun _ _ _ _ _ h => h) [5, 6, 7, 8, 9, 10, 11, 12, 13, 14, 15, 16] [31, 32, 33, 34, 35, 36, 37, 38, 39, 40, 41, 42] _ _ _ rfl (by kernel_rfl) (by rfl) (by assumption) ?_
              (try simp only [putsAll, List.foldl, Act.put, List.setIfInBounds_toArray, List.set_cons_zero, List.set_cons_succ])
              refine wpAnyH_tk 17 (v := ?vc17) rfl (by kernel_rfl) (by kernel_rfl) (by kernel_rfl) (fun _ _ _ h => h) (by rfl) ?hyc17 (by assumption) ?_
              case hyc17 => (intro w hSw; (try dsimp only at hSw); go_simp <;> with_reducible rfl)
              (try simp only [Act.put, List.setIfInBounds_toArray, List.set_cons_zero, List.set_cons_succ])
              refine wpAnyH_done (by kernel_rfl) ?_ _
              have HE := hid E3.out.drew
              clear c0 c1 c2 dx
              have dx := Dx.out _ (E.out.trans HE.out)
              go_wp2
              refine wp_region_held_drew (S := (fun w' => w'.cell? ⟨bj, oj + h, none⟩ = some (.int .i64 x))) (by kernel_rfl) ?hSt56 (fun hHeld => ?_)
              case hSt56 => (first | exact dx | ((try dsimp only); exact dx))
              have Ed := hid ((Ext.refl wr.drew).drew)
              refine wpAnyH_tk 1 (v := ?vx57) rfl (by kernel_rfl) (by kernel_rfl) (by kernel_rfl) (fun _ _ _ h => h) (by rfl) ?hy57 (by assumption) ?_
              case hy57 => (intro w hSw; (try dsimp only at hSw); go_simp <;> with_reducible rfl)
              (try simp only [Act.put, List.setIfInBounds_toArray, List.set_cons_zero, List.set_cons_succ])
              refine wpAnyH_tk 2 (v := ?vx58) rfl (by kernel_rfl) (by kernel_rfl) (by kernel_rfl) (fun _ _ _ h => h) (by rfl) ?hy58 (by assumption) ?_
              case hy58 => (intro w hSw; (try dsimp only at hSw); go_simp <;> with_reducible rfl)
              (try simp only [Act.put, List.setIfInBounds_toArray, List.set_cons_zero, List.set_cons_succ])
              refine wpAnyH_tk 3 (v := ?vx59) rfl (by kernel_rfl) (by kernel_rfl) (by kernel_rfl) (fun _ _ _ h => h) (by rfl) ?hy59 (by assumption) ?_
              case hy59 => (intro w hSw; (try dsimp only at hSw); go_simp <;> with_reducible rfl)
              (try simp only [Act.put, List.setIfInBounds_toArray, List.set_cons_zero, List.set_cons_succ])
              refine wpAnyH_tk 5 (v := ?vx60) rfl (by kernel_rfl) (by kernel_rfl) (by kernel_rfl) (fun _ _ _ h => h) (by rfl) ?hy60 (by assumption) ?_
              case hy60 => (intro w hSw; (try dsimp only at hSw); go_simp <;> with_reducible rfl)
              (try simp only [Act.put, List.setIfInBounds_toArray, List.set_cons_zero, List.set_cons_succ])
              refine wpAnyH_tk 6 (v := ?vx61) rfl (by kernel_rfl) (by kernel_rfl) (by kernel_rfl) (fun _ _ _ h => h) (by rfl) ?hy61 (by assumption) ?_
              case hy61 => (intro w hSw; (try dsimp only at hSw); go_simp <;> with_reducible rfl)
              (try simp only [Act.put, List.setIfInBounds_toArray, List.set_cons_zero, List.set_cons_succ])
              refine wpAnyH_tk 7 (v := ?vx62) rfl (by kernel_rfl) (by kernel_rfl) (by kernel_rfl) (fun _ _ _ h => h) (by rfl) ?hy62 (by assumption) ?_
              case hy62 => (intro w hSw; (try dsimp only at hSw); go_simp <;> with_reducible rfl)
              (try simp only [Act.put, List.setIfInBounds_toArray, List.set_cons_zero, List.set_cons_succ])
              refine wpAnyH_tk 8 (v := ?vx63) rfl (by kernel_rfl) (by kernel_rfl) (by kernel_rfl) (fun _ _ _ h => h) (by rfl) ?hy63 (by assumption) ?_
              case hy63 => (intro w hSw; (try dsimp only at hSw); go_simp <;> with_reducible rfl)
              (try simp only [Act.put, List.setIfInBounds_toArray, List.set_cons_zero, List.set_cons_succ])
              refine wpAnyH_tk 11 (v := ?vx64) rfl (by kernel_rfl) (by kernel_rfl) (by kernel_rfl) (fun _ _ _ h => h) (by rfl) ?hy64 (by assumption) ?_
              case hy64 => (intro w hSw; (try dsimp only at hSw); go_simp <;> with_reducible rfl)
              (try simp only [Act.put, List.setIfInBounds_toArray, List.set_cons_zero, List.set_cons_succ])
              refine wpAnyH_tk 12 (v := ?vx65) rfl (by kernel_rfl) (by kernel_rfl) (by kernel_rfl) (fun _ _ _ h => h) (by rfl) ?hy65 (by assumption) ?_
              case hy65 => (intro w hSw; (try dsimp only at hSw); go_simp <;> with_reducible rfl)
              (try simp only [Act.put, List.setIfInBounds_toArray, List.set_cons_zero, List.set_cons_succ])
              refine wpAnyH_tk 13 (v := ?vx66) rfl (by kernel_rfl) (by kernel_rfl) (by kernel_rfl) (fun _ _ _ h => h) (by rfl) ?hy66 (by assumption) ?_
              case hy66 => (intro w hSw; (try dsimp only at hSw); go_simp <;> with_reducible rfl)
              (try simp only [Act.put, List.setIfInBounds_toArray, List.set_cons_zero, List.set_cons_succ])
              refine wpAnyH_two 0 9 rfl rfl (by kernel_rfl) (by rfl) (by rfl) (fun K hK => ?_) (fun K hK => ?_)
              · skip
                go_simp
                have hsz67 := Ed.out.size
                have O46_67 : Hid (OwnI wr.drew.heap.size (wr.drew.drew.alloc (.cells #[] 3)) (.slice (some ⟨wr.drew.heap.size, 0, none⟩) 0 0) []) := World.ownsRow_lit (base := wr.drew.heap.size) (e := 3) (size := 1) wr.drew.drew #[] 0 hsz67 (by decide) rfl
                have E_67 : Hid (Ext wr.drew (wr.drew.drew.alloc (.cells #[] 3))) := Ed.out.alloc (.cells #[] 3)
                refine hK.out _ _ ?hS67 (fun hHeld => ?_)
                case hS67 => (first | exact E_67.out.cell dx | ((try dsimp only); exact E_67.out.cell dx))
                clear hK K
                (try simp only [Act.put, List.setIfInBounds_toArray, List.set_cons_zero, List.set_cons_succ])
                refine wpAnyH_two 4 9 rfl rfl (by kernel_rfl) (by rfl) (by rfl) (fun K hK => ?_) (fun K hK => ?_)
                · skip
                  have hsz68 := E_67.out.size
                  refine wp_append_ints _ _ rfl wr.drew.heap.size (.slice (some ⟨wr.drew.heap.size, 0, none⟩) 0 0) [] (by rfl) O46_67.out none 0 0 [] (by rfl) rfl (fun _ => rfl) (fun k hk => by simp at hk) (by simp) hsz68 ?_
                  intro v68 wz68 hown68 hg68
                  have O50_68 := hid hown68
                  have E_68 : Hid (Ext wr.drew wz68) := (Below.grown E_67.out hg68 hsz68 (fun k hk => (O46_67.out.lt k hk).1))
                  clear hown68 hg68
                  refine hK.out _ _ ?hS68 (fun hHeld => ?_)
                  case hS68 => (first | exact E_68.out.cell dx | ((try dsimp only); exact E_68.out.cell dx))
                  clear hK K
                  (try simp only [Act.put, List.setIfInBounds_toArray, List.set_cons_zero, List.set_cons_succ])
                  refine wpAnyH_one 9 rfl (by kernel_rfl) (by rfl) (fun K hK => ?_)
                  go_simp
                  have O46_69 := hid (World.ownsRow.alloc O46_67.out (.cells #[.int .i64 x] 3))
                  have O50_69 := hid (World.ownsRow.alloc O50_68.out (.cells #[.int .i64 x] 3))
                  have hsz69 := E_68.out.size
                  have O55_69 : Hid (OwnI wr.drew.heap.size (wz68.alloc (.cells #[.int .i64 x] 3)) (.slice (some ⟨wz68.heap.size, 0, none⟩) 1 1) [x]) := World.ownsRow_lit (base := wr.drew.heap.size) (e := 3) (size := 1) wz68 #[.int .i64 x] 1 hsz69 (by decide) rfl
                  have E_69 : Hid (Ext wr.drew (wz68.alloc (.cells #[.int .i64 x] 3))) := E_68.out.alloc (.cells #[.int .i64 x] 3)
                  refine hK.out _ _ ?hS69 (fun hHeld => ?_)
                  case hS69 => (first | exact E_69.out.cell dx | ((try dsimp only); exact E_69.out.cell dx))
                  clear hK K
                  (try simp only [Act.put, List.setIfInBounds_toArray, List.set_cons_zero, List.set_cons_succ])
                  refine wpAnyH_one 10 rfl (by kernel_rfl) (by rfl) (fun K hK => ?_)
                  have hsz70 := E_69.out.size
                  refine wp_append_ints _ _ rfl wr.drew.heap.size v68 [] (by rfl) O50_69.out (some ⟨wz68.heap.size, 0, none⟩) 1 1 [x] (by rfl) rfl (by simp) (cells_one O55_69.out) (by simp) hsz70 ?_
                  intro v70 wz70 hown70 hg70
                  have O56_70 := hid hown70
                  have E_70 : Hid (Ext wr.drew wz70) := (Below.grown E_69.out hg70 hsz70 (fun k hk => (O50_69.out.lt k hk).1))
                  clear hown70 hg70
                  refine hK.out _ _ ?hS70 (fun hHeld => ?_)
                  case hS70 => (first | exact E_70.out.cell dx | ((try dsimp only); exact E_70.out.cell dx))
                  clear hK K
                  (try simp only [Act.put, List.setIfInBounds_toArray, List.set_cons_zero, List.set_cons_succ])
                  refine wpAnyH_one 14 rfl (by kernel_rfl) (by rfl) (fun K hK => ?_)
                  have hsz71 := E_70.out.size
                  refine wp_append_ints _ _ rfl wr.drew.heap.size v70 [x] (by rfl) O56_70.out none 0 0 [] (by rfl) rfl (fun _ => rfl) (fun k hk => by simp at hk) (by simp) hsz71 ?_
                  intro v71 wz71 hown71 hg71
                  have O60_71 := hid hown71
                  have E_71 : Hid (Ext wr.drew wz71) := (Below.grown E_70.out hg71 hsz71 (fun k hk => (O56_70.out.lt k hk).1))
                  clear hown71 hg71
                  refine hK.out _ _ ?hS71 (fun hHeld => ?_)
                  case hS71 => (first | exact E_71.out.cell dx | ((try dsimp only); exact E_71.out.cell dx))
                  clear hK K
                  (try simp only [Act.put, List.setIfInBounds_toArray, List.set_cons_zero, List.set_cons_succ])
                  refine wpAnyH_tk 15 (v := ?vx72) rfl (by kernel_rfl) (by kernel_rfl) (by kernel_rfl) (fun _ _ _ h => h) (by rfl) ?hy72 (by assumption) ?_
                  case hy72 => (intro w hSw; (try dsimp only at hSw); go_simp <;> with_reducible rfl)
                  (try simp only [Act.put, List.setIfInBounds_toArray, List.set_cons_zero, List.set_cons_succ])
                  refine wpAnyH_done (by kernel_rfl) ?_ _
                  have HN : Hid (OwnI 0 wz71 _ ((([] : List Int).take 0 ++ [x]) ++ ([] : List Int).drop 0)) := ownsRow_base O60_71.out (Nat.zero_le _)
                  have HP2 : Hid (((([] : List Int).take 0 ++ [x]) ++ ([] : List Int).drop 0).Perm (colTo L h (j + 1))) := by
                    show List.Perm _ _
                    rw [Hs.out]
                    exact ins_perm.trans (PERM.out.append_right [x])
                  have HS2 : Hid (((([] : List Int).take 0 ++ [x]) ++ ([] : List Int).drop 0).Pairwise (fun a b => rankP (rowAt p.hands h) a ≤ rankP (rowAt p.hands h) b)) := ins_sorted SORT.out hal LOW.out HIGH.out
                  have HO2 := hid (ownsRow_ext OUT.out (HE.out.trans E_71.out))
                  have HE2 := hid (E.out.trans (HE.out.trans E_71.out))
                  clear dx
                  go_wp2
                  all_goals
                    go_roundg (L.length - (j + 1))
                    case rel => exact ⟨j + 1, _, by omega, by go_num, HP2.out, HS2.out, HN.out, HO2.out, HE2.out⟩
                    case measure => have := Hj.out; omega
                · skip
                  go_simp
                  have O46_73 := hid (World.ownsRow.alloc O46_67.out (.cells #[.int .i64 x] 3))
                  have hsz73 := E_67.out.size
                  have O55_73 : Hid (OwnI wr.drew.heap.size ((wr.drew.drew.alloc (.cells #[] 3)).alloc (.cells #[.int .i64 x] 3)) (.slice (some ⟨wr.drew.heap.size + 1, 0, none⟩) 1 1) [x]) := by have h := World.ownsRow_lit (base := wr.drew.heap.size) (e := 3) (size := 1) (wr.drew.drew.alloc (.cells #[] 3)) #[.int .i64 x] 1 hsz73 (by decide) rfl; rwa [show (wr.drew.drew.alloc (.cells #[] 3)).heap.size = wr.drew.heap.size + 1 from by simp] at h
                  have E_73 : Hid (Ext wr.drew ((wr.drew.drew.alloc (.cells #[] 3)).alloc (.cells #[.int .i64 x] 3))) := E_67.out.alloc (.cells #[.int .i64 x] 3)
                  refine hK.out _ _ ?hS73 (fun hHeld => ?_)
                  case hS73 => (first | exact E_73.out.cell dx | ((try dsimp only); exact E_73.out.cell dx))
                  clear hK K
                  (try simp only [Act.put, List.setIfInBounds_toArray, List.set_cons_zero, List.set_cons_succ])
                  refine wpAnyH_one 4 rfl (by kernel_rfl) (by rfl) (fun K hK => ?_)
                  have hsz74 := E_73.out.size
                  refine wp_append_ints _ _ rfl wr.drew.heap.size (.slice (some ⟨wr.drew.heap.size, 0, none⟩) 0 0) [] (by rfl) O46_73.out none 0 0 [] (by rfl) rfl (fun _ => rfl) (fun k hk => by simp at hk) (by simp) hsz74 ?_
                  intro v74 wz74 hown74 hg74
                  have O55_74 := hid (World.ownsRow.kept O55_73.out hg74 (.inr (by simp [Value.ownBlock])))
                  have O50_74 := hid hown74
                  have E_74 : Hid (Ext wr.drew wz74) := (Below.grown E_73.out hg74 hsz74 (fun k hk => (O46_73.out.lt k hk).1))
                  clear hown74 hg74
                  refine hK.out _ _ ?hS74 (fun hHeld => ?_)
                  case hS74 => (first | exact E_74.out.cell dx | ((try dsimp only); exact E_74.out.cell dx))
                  clear hK K
                  (try simp only [Act.put, List.setIfInBounds_toArray, List.set_cons_zero, List.set_cons_succ])
                  refine wpAnyH_one 10 rfl (by kernel_rfl) (by rfl) (fun K hK => ?_)
                  have hsz75 := E_74.out.size
                  refine wp_append_ints _ _ rfl wr.drew.heap.size v74 [] (by rfl) O50_74.out (some ⟨wr.drew.heap.size + 1, 0, none⟩) 1 1 [x] (by rfl) rfl (by simp) (cells_one O55_74.out) (by simp) hsz75 ?_
                  intro v75 wz75 hown75 hg75
                  have O56_75 := hid hown75
                  have E_75 : Hid (Ext wr.drew wz75) := (Below.grown E_74.out hg75 hsz75 (fun k hk => (O50_74.out.lt k hk).1))
                  clear hown75 hg75
                  refine hK.out _ _ ?hS75 (fun hHeld => ?_)
                  case hS75 => (first | exact E_75.out.cell dx | ((try dsimp only); exact E_75.out.cell dx))
                  clear hK K
                  (try simp only [Act.put, List.setIfInBounds_toArray, List.set_cons_zero, List.set_cons_succ])
                  refine wpAnyH_one 14 rfl (by kernel_rfl) (by rfl) (fun K hK => ?_)
                  have hsz76 := E_75.out.size
                  refine wp_append_ints _ _ rfl wr.drew.heap.size v75 [x] (by rfl) O56_75.out none 0 0 [] (by rfl) rfl (fun _ => rfl) (fun k hk => by simp at hk) (by simp) hsz76 ?_
                  intro v76 wz76 hown76 hg76
                  have O60_76 := hid hown76
                  have E_76 : Hid (Ext wr.drew wz76) := (Below.grown E_75.out hg76 hsz76 (fun k hk => (O56_75.out.lt k hk).1))
                  clear hown76 hg76
                  refine hK.out _ _ ?hS76 (fun hHeld => ?_)
                  case hS76 => (first | exact E_76.out.cell dx | ((try dsimp only); exact E_76.out.cell dx))
                  clear hK K
                  (try simp only [Act.put, List.setIfInBounds_toArray, List.set_cons_zero, List.set_cons_succ])
                  refine wpAnyH_tk 15 (v := ?vx77) rfl (by kernel_rfl) (by kernel_rfl) (by kernel_rfl) (fun _ _ _ h => h) (by rfl) ?hy77 (by assumption) ?_
                  case hy77 => (intro w hSw; (try dsimp only at hSw); go_simp <;> with_reducible rfl)
                  (try simp only [Act.put, List.setIfInBounds_toArray, List.set_cons_zero, List.set_cons_succ])
                  refine wpAnyH_done (by kernel_rfl) ?_ _
                  have HN : Hid (OwnI 0 wz76 _ ((([] : List Int).take 0 ++ [x]) ++ ([] : List Int).drop 0)) := ownsRow_base O60_76.out (Nat.zero_le _)
                  have HP2 : Hid (((([] : List Int).take 0 ++ [x]) ++ ([] : List Int).drop 0).Perm (colTo L h (j + 1))) := by
                    show List.Perm _ _
                    rw [Hs.out]
                    exact ins_perm.trans (PERM.out.append_right [x])
                  have HS2 : Hid (((([] : List Int).take 0 ++ [x]) ++ ([] : List Int).drop 0).Pairwise (fun a b => rankP (rowAt p.hands h) a ≤ rankP (rowAt p.hands h) b)) := ins_sorted SORT.out hal LOW.out HIGH.out
                  have HO2 := hid (ownsRow_ext OUT.out (HE.out.trans E_76.out))
                  have HE2 := hid (E.out.trans (HE.out.trans E_76.out))
                  clear dx
                  go_wp2
                  all_goals
                    go_roundg (L.length - (j + 1))
                    case rel => exact ⟨j + 1, _, by omega, by go_num, HP2.out, HS2.out, HN.out, HO2.out, HE2.out⟩
                    case measure => have := Hj.out; omega
              · skip
                go_simp
                have hsz78 := Ed.out.size
                have O55_78 : Hid (OwnI wr.drew.heap.size (wr.drew.drew.alloc (.cells #[.int .i64 x] 3)) (.slice (some ⟨wr.drew.heap.size, 0, none⟩) 1 1) [x]) := World.ownsRow_lit (base := wr.drew.heap.size) (e := 3) (size := 1) wr.drew.drew #[.int .i64 x] 1 hsz78 (by decide) rfl
                have E_78 : Hid (Ext wr.drew (wr.drew.drew.alloc (.cells #[.int .i64 x] 3))) := Ed.out.alloc (.cells #[.int .i64 x] 3)
                refine hK.out _ _ ?hS78 (fun hHeld => ?_)
                case hS78 => (first | exact E_78.out.cell dx | ((try dsimp only); exact E_78.out.cell dx))
                clear hK K
                (try simp only [Act.put, List.setIfInBounds_toArray, List.set_cons_zero, List.set_cons_succ])
                refine wpAnyH_one 0 rfl (by kernel_rfl) (by rfl) (fun K hK => ?_)
                go_simp
                have O55_79 := hid (World.ownsRow.alloc O55_78.out (.cells #[] 3))
                have hsz79 := E_78.out.size
                have O46_79 : Hid (OwnI wr.drew.heap.size ((wr.drew.drew.alloc (.cells #[.int .i64 x] 3)).alloc (.cells #[] 3)) (.slice (some ⟨wr.drew.heap.size + 1, 0, none⟩) 0 0) []) := by have h := World.ownsRow_lit (base := wr.drew.heap.size) (e := 3) (size := 1) (wr.drew.drew.alloc (.cells #[.int .i64 x] 3)) #[] 0 hsz79 (by decide) rfl; rwa [show (wr.drew.drew.alloc (.cells #[.int .i64 x] 3)).heap.size = wr.drew.heap.size + 1 from by simp] at h
                have E_79 : Hid (Ext wr.drew ((wr.drew.drew.alloc (.cells #[.int .i64 x] 3)).alloc (.cells #[] 3))) := E_78.out.alloc (.cells #[] 3)
                refine hK.out _ _ ?hS79 (fun hHeld => ?_)
                case hS79 => (first | exact E_79.out.cell dx | ((try dsimp only); exact E_79.out.cell dx))
                clear hK K
                (try simp only [Act.put, List.setIfInBounds_toArray, List.set_cons_zero, List.set_cons_succ])
                refine wpAnyH_one 4 rfl (by kernel_rfl) (by rfl) (fun K hK => ?_)
                have hsz80 := E_79.out.size
                refine wp_append_ints _ _ rfl wr.drew.heap.size (.slice (some ⟨wr.drew.heap.size + 1, 0, none⟩) 0 0) [] (by rfl) O46_79.out none 0 0 [] (by rfl) rfl (fun _ => rfl) (fun k hk => by simp at hk) (by simp) hsz80 ?_
                intro v80 wz80 hown80 hg80
                have O55_80 := hid (World.ownsRow.kept O55_79.out hg80 (.inr (by simp [Value.ownBlock])))
                have O50_80 := hid hown80
                have E_80 : Hid (Ext wr.drew wz80) := (Below.grown E_79.out hg80 hsz80 (fun k hk => (O46_79.out.lt k hk).1))
                clear hown80 hg80
                refine hK.out _ _ ?hS80 (fun hHeld => ?_)
                case hS80 => (first | exact E_80.out.cell dx | ((try dsimp only); exact E_80.out.cell dx))
                clear hK K
                (try simp only [Act.put, List.setIfInBounds_toArray, List.set_cons_zero, List.set_cons_succ])
                refine wpAnyH_one 10 rfl (by kernel_rfl) (by rfl) (fun K hK => ?_)
                have hsz81 := E_80.out.size
                refine wp_append_ints _ _ rfl wr.drew.heap.size v80 [] (by rfl) O50_80.out (some ⟨wr.drew.heap.size, 0, none⟩) 1 1 [x] (by rfl) rfl (by simp) (cells_one O55_80.out) (by simp) hsz81 ?_
                intro v81 wz81 hown81 hg81
                have O56_81 := hid hown81
                have E_81 : Hid (Ext wr.drew wz81) := (Below.grown E_80.out hg81 hsz81 (fun k hk => (O50_80.out.lt k hk).1))
                clear hown81 hg81
                refine hK.out _ _ ?hS81 (fun hHeld => ?_)
                case hS81 => (first | exact E_81.out.cell dx | ((try dsimp only); exact E_81.out.cell dx))
                clear hK K
                (try simp only [Act.put, List.setIfInBounds_toArray, List.set_cons_zero, List.set_cons_succ])
                refine wpAnyH_one 14 rfl (by kernel_rfl) (by rfl) (fun K hK => ?_)
                have hsz82 := E_81.out.size
                refine wp_append_ints _ _ rfl wr.drew.heap.size v81 [x] (by rfl) O56_81.out none 0 0 [] (by rfl) rfl (fun _ => rfl) (fun k hk => by simp at hk) (by simp) hsz82 ?_
                intro v82 wz82 hown82 hg82
                have O60_82 := hid hown82
                have E_82 : Hid (Ext wr.drew wz82) := (Below.grown E_81.out hg82 hsz82 (fun k hk => (O56_81.out.lt k hk).1))
                clear hown82 hg82
                refine hK.out _ _ ?hS82 (fun hHeld => ?_)
                case hS82 => (first | exact E_82.out.cell dx | ((try dsimp only); exact E_82.out.cell dx))
                clear hK K
                (try simp only [Act.put, List.setIfInBounds_toArray, List.set_cons_zero, List.set_cons_succ])
                refine wpAnyH_tk 15 (v := ?vx83) rfl (by kernel_rfl) (by kernel_rfl) (by kernel_rfl) (fun _ _ _ h => h) (by rfl) ?hy83 (by assumption) ?_
                case hy83 => (intro w hSw; (try dsimp only at hSw); go_simp <;> with_reducible rfl)
                (try simp only [Act.put, List.setIfInBounds_toArray, List.set_cons_zero, List.set_cons_succ])
                refine wpAnyH_done (by kernel_rfl) ?_ _
                have HN : Hid (OwnI 0 wz82 _ ((([] : List Int).take 0 ++ [x]) ++ ([] : List Int).drop 0)) := ownsRow_base O60_82.out (Nat.zero_le _)
                have HP2 : Hid (((([] : List Int).take 0 ++ [x]) ++ ([] : List Int).drop 0).Perm (colTo L h (j + 1))) := by
                  show List.Perm _ _
                  rw [Hs.out]
                  exact ins_perm.trans (PERM.out.append_right [x])
                have HS2 : Hid (((([] : List Int).take 0 ++ [x]) ++ ([] : List Int).drop 0).Pairwise (fun a b => rankP (rowAt p.hands h) a ≤ rankP (rowAt p.hands h) b)) := ins_sorted SORT.out hal LOW.out HIGH.out
                have HO2 := hid (ownsRow_ext OUT.out (HE.out.trans E_82.out))
                have HE2 := hid (E.out.trans (HE.out.trans E_82.out))
                clear dx
                go_wp2
                all_goals
                  go_roundg (L.length - (j + 1))
                  case rel => exact ⟨j + 1, _, by omega, by go_num, HP2.out, HS2.out, HN.out, HO2.out, HE2.out⟩
                  case measure => have := Hj.out; omega
          · have hac : had.length ≤ capH := hcapH
            go_wp2
            clear dj
            generalize wr = V at *
            go_loopg [11] had.length (fun g i3 wr => ∃ at_ : Nat, at_ + g = had.length ∧ i3 = .int .i64 at_ ∧ Hid (∀ i, i < at_ → rankP (rowAt p.hands h) (fn had i) ≤ rankP (rowAt p.hands h) x) ∧ Hid (Ext V wr))
            case atStart => exact ⟨0, by omega, rfl, fun i hi => by omega, Ext.refl _⟩
            case round =>
              obtain ⟨at_, ha, rfl, LOW, E3⟩ := hrel
              have hal : at_ ≤ had.length := by omega
              have hac2 : at_ ≤ capH := by omega
              have Ha := hid ha
              clear ha
              have HE3 := hid (E.out.trans E3.out)
              have HH3 := hid (HHi.out.ext E3.out)
              have OUT3 := hid (ownsRow_ext OUT.out E3.out)
              obtain ⟨c0, c1, c2⟩ := (XW.out.ext HE3.out).cells
              have dx := Dx.out _ HE3.out
              by_cases halt : at_ < had.length
              · have ha1 : (at_ : Int) < had.length := by omega
                have dy := (HH3.out.get' at_ halt).2 _ (Ext.refl _)
                have Hyv := hid (Hvals.out at_ halt)
                cases hli : likesB p h x (fn had at_)
                · have LOW2 : Hid (∀ i, i < at_ + 1 → rankP (rowAt p.hands h) (fn had i) ≤ rankP (rowAt p.hands h) x) := by
                    intro i hi
                    rcases Nat.lt_or_ge i at_ with h' | h'
                    · exact LOW.out i h'
                    · obtain rfl : i = at_ := by omega
                      have := hli
                      rw [likes_val Hok.out Hxv.out Hyv.out, decide_eq_false_iff_not] at this
                      omega
                  generalize fn had at_ = y at *
                  go_wp2
                  refine wp_region_held_drew (S := (fun w' => w'.cell? ⟨w.heap.size, 0, none⟩ = some (.slice aoh p.hands.length caph) ∧ w'.cell? ⟨w.heap.size, 1, none⟩ = some (.slice aos p.shifts.length caps) ∧ w'.cell? ⟨w.heap.size, 2, none⟩ = some (.slice aop p.places.length capp) ∧ w'.cell? ⟨bj, oj + h, none⟩ = some (.int .i64 x) ∧ w'.cell? ⟨bH, oH + at_, none⟩ = some (.int .i64 y))) (by kernel_rfl) ?hSa0 (fun hHeld => ?_)
                  case hSa0 => (first | (first | exact ⟨c0, c1, c2, dx, dy⟩ | exact ⟨he5.cell c0, he5.cell c1, he5.cell c2, he5.cell dx, he5.cell dy⟩) | ((try dsimp only); first | exact ⟨c0, c1, c2, dx, dy⟩ | exact ⟨he5.cell c0, he5.cell c1, he5.cell c2, he5.cell dx, he5.cell dy⟩))
                  refine wpAnyH_tk 0 (v := ?va0) rfl (by kernel_rfl) (by kernel_rfl) (by kernel_rfl) (fun _ _ _ h => h) (by rfl) ?hya0 (by assumption) ?_
                  case hya0 => (intro w hSw; (try dsimp only at hSw); go_simp <;> with_reducible rfl)
                  (try simp only [Act.put, List.setIfInBounds_toArray, List.set_cons_zero, List.set_cons_succ])
                  refine wpAnyH_tk 1 (v := ?va1) rfl (by kernel_rfl) (by kernel_rfl) (by kernel_rfl) (fun _ _ _ h => h) (by rfl) ?hya1 (by assumption) ?_
                  case hya1 => (intro w hSw; (try dsimp only at hSw); go_simp <;> with_reducible rfl)
                  (try simp only [Act.put, List.setIfInBounds_toArray, List.set_cons_zero, List.set_cons_succ])
                  refine wpAnyH_tk 2 (v := ?va2) rfl (by kernel_rfl) (by kernel_rfl) (by kernel_rfl) (fun _ _ _ h => h) (by rfl) ?hya2 (by assumption) ?_
                  case hya2 => (intro w hSw; (try dsimp only at hSw); go_simp <;> with_reducible rfl)
                  (try simp only [Act.put, List.setIfInBounds_toArray, List.set_cons_zero, List.set_cons_succ])
                  refine wpAnyH_tk 3 (v := ?va3) rfl (by kernel_rfl) (by kernel_rfl) (by kernel_rfl) (fun _ _ _ h => h) (by rfl) ?hya3 (by assumption) ?_
                  case hya3 => (intro w hSw; (try dsimp only at hSw); go_simp <;> with_reducible rfl)
                  (try simp only [Act.put, List.setIfInBounds_toArray, List.set_cons_zero, List.set_cons_succ])
                  refine wpAnyH_tk 4 (v := ?va4) rfl (by kernel_rfl) (by kernel_rfl) (by kernel_rfl) (fun _ _ _ h => h) (by rfl) ?hya4 (by assumption) ?_
                  case hya4 => (intro w hSw; (try dsimp only at hSw); go_simp <;> with_reducible rfl)
                  (try simp only [Act.put, List.setIfInBounds_toArray, List.set_cons_zero, List.set_cons_succ])
                  refine wpAnyH_tk 5 (v := ?va5) rfl (by kernel_rfl) (by kernel_rfl) (by kernel_rfl) (fun _ _ _ h => h) (by rfl) ?hya5 (by assumption) ?_
                  case hya5 => (intro w hSw; (try dsimp only at hSw); go_simp <;> with_reducible rfl)
                  (try simp only [Act.put, List.setIfInBounds_toArray, List.set_cons_zero, List.set_cons_succ])
                  refine wpAnyH_tk 6 (v := ?va6) rfl (by kernel_rfl) (by kernel_rfl) (by kernel_rfl) (fun _ _ _ h => h) (by rfl) ?hya6 (by assumption) ?_
                  case hya6 => (intro w hSw; (try dsimp only at hSw); go_simp <;> with_reducible rfl)
                  (try simp only [Act.put, List.setIfInBounds_toArray, List.set_cons_zero, List.set_cons_succ])
                  refine wpAnyH_tk 7 (v := ?va7) rfl (by kernel_rfl) (by kernel_rfl) (by kernel_rfl) (fun _ _ _ h => h) (by rfl) ?hya7 (by assumption) ?_
                  case hya7 => (intro w hSw; (try dsimp only at hSw); go_simp <;> with_reducible rfl)
                  (try simp only [Act.put, List.setIfInBounds_toArray, List.set_cons_zero, List.set_cons_succ])
                  refine wpAnyH_tk 8 (v := ?va8) rfl (by kernel_rfl) (by kernel_rfl) (by kernel_rfl) (fun _ _ _ h => h) (by rfl) ?hya8 (by assumption) ?_
                  case hya8 => (intro w hSw; (try dsimp only at hSw); go_simp <;> with_reducible rfl)
                  (try simp only [Act.put, List.setIfInBounds_toArray, List.set_cons_zero, List.set_cons_succ])
                  refine wpAnyH_tk 9 (v := ?va9) rfl (by kernel_rfl) (by kernel_rfl) (by kernel_rfl) (fun _ _ _ h => h) (by rfl) ?hya9 (by assumption) ?_
                  case hya9 => (intro w hSw; (try dsimp only at hSw); go_simp <;> with_reducible rfl)
                  (try simp only [Act.put, List.setIfInBounds_toArray, List.set_cons_zero, List.set_cons_succ])
                  refine wpAnyH_tk 10 (v := ?va10) rfl (by kernel_rfl) (by kernel_rfl) (by kernel_rfl) (fun _ _ _ h => h) (by rfl) ?hya10 (by assumption) ?_
                  case hya10 => (intro w hSw; (try dsimp only at hSw); go_simp <;> with_reducible rfl)
                  (try simp only [Act.put, List.setIfInBounds_toArray, List.set_cons_zero, List.set_cons_succ])
                  refine wpAnyH_tk 11 (v := ?va11) rfl (by kernel_rfl) (by kernel_rfl) (by kernel_rfl) (fun _ _ _ h => h) (by rfl) ?hya11 (by assumption) ?_
                  case hya11 => (intro w hSw; (try dsimp only at hSw); go_simp <;> with_reducible rfl)
                  (try simp only [Act.put, List.setIfInBounds_toArray, List.set_cons_zero, List.set_cons_succ])
                  refine wpAnyH_tk 12 (v := ?va12) rfl (by kernel_rfl) (by kernel_rfl) (by kernel_rfl) (fun _ _ _ h => h) (by rfl) ?hya12 (by assumption) ?_
                  case hya12 => (intro w hSw; (try dsimp only at hSw); go_simp <;> with_reducible rfl)
                  (try simp only [Act.put, List.setIfInBounds_toArray, List.set_cons_zero, List.set_cons_succ])
                  refine wpAnyH_tk 13 (v := ?va13) rfl (by kernel_rfl) (by kernel_rfl) (by kernel_rfl) (fun _ _ _ h => h) (by rfl) ?hya13 (by assumption) ?_
                  case hya13 => (intro w hSw; (try dsimp only at hSw); go_simp <;> with_reducible rfl)
                  (try simp only [Act.put, List.setIfInBounds_toArray, List.set_cons_zero, List.set_cons_succ])
                  refine wpAnyH_tk 14 (v := ?va14) rfl (by kernel_rfl) (by kernel_rfl) (by kernel_rfl) (fun _ _ _ h => h) (by rfl) ?hya14 (by assumption) ?_
                  case hya14 => (intro w hSw; (try dsimp only at hSw); go_simp <;> with_reducible rfl)
                  (try simp only [Act.put, List.setIfInBounds_toArray, List.set_cons_zero, List.set_cons_succ])
                  refine wpAnyH_one 15 rfl (by kernel_rfl) (by rfl) (fun K hK => ?_)
                  go_simp
                  (go_at_call 65; refine (likes_any _ _ _ p h x y _ (HP.out.ext (HEW.out.trans HE3.out).drew) (by omega) hh1).mono ?_; rintro e w5 ⟨rfl, he5⟩; rw [hli])
                  refine hK.out _ _ ?hSa16 (fun hHeld => ?_)
                  case hSa16 => (first | (first | exact ⟨c0, c1, c2, dx, dy⟩ | exact ⟨he5.cell c0, he5.cell c1, he5.cell c2, he5.cell dx, he5.cell dy⟩) | ((try dsimp only); first | exact ⟨c0, c1, c2, dx, dy⟩ | exact ⟨he5.cell c0, he5.cell c1, he5.cell c2, he5.cell dx, he5.cell dy⟩))
                  clear hK K
                  (try simp only [Act.put, List.setIfInBounds_toArray, List.set_cons_zero, List.set_cons_succ])
                  refine wpAnyH_tk 16 (v := ?va16) rfl (by kernel_rfl) (by kernel_rfl) (by kernel_rfl) (fun _ _ _ h => h) (by rfl) ?hya16 (by assumption) ?_
                  case hya16 => (intro w hSw; (try dsimp only at hSw); go_simp <;> with_reducible rfl)
                  (try simp only [Act.put, List.setIfInBounds_toArray, List.set_cons_zero, List.set_cons_succ])
                  refine wpAnyH_tk 17 (v := ?va17) rfl (by kernel_rfl) (by kernel_rfl) (by kernel_rfl) (fun _ _ _ h => h) (by rfl) ?hya17 (by assumption) ?_
                  case hya17 => (intro w hSw; (try dsimp only at hSw); go_simp <;> with_reducible rfl)
                  (try simp only [Act.put, List.setIfInBounds_toArray, List.set_cons_zero, List.set_cons_succ])
                  refine wpAnyH_done (by kernel_rfl) ?_ _
                  have HE := hid (E3.out.drew.trans he5)
                  clear c0 c1 c2 dx dy he5
                  go_wp2
                  go_roundg (gk - 1)
                  case rel => exact ⟨at_ + 1, by have := Ha.out; omega, by go_num, LOW2.out, HE.out⟩
                  case measure => have := Ha.out; omega
                · have HIGH : Hid (at_ < had.length → rankP (rowAt p.hands h) x < rankP (rowAt p.hands h) (fn had at_)) := by
                    intro _
                    have := hli
                    rw [likes_val Hok.out Hxv.out Hyv.out, decide_eq_true_iff] at this
                    exact this
                  generalize hyy : fn had at_ = y at dy hli Hyv
                  go_wp2
                  refine wp_region_held_drew (S := (fun w' => w'.cell? ⟨w.heap.size, 0, none⟩ = some (.slice aoh p.hands.length caph) ∧ w'.cell? ⟨w.heap.size, 1, none⟩ = some (.slice aos p.shifts.length caps) ∧ w'.cell? ⟨w.heap.size, 2, none⟩ = some (.slice aop p.places.length capp) ∧ w'.cell? ⟨bj, oj + h, none⟩ = some (.int .i64 x) ∧ w'.cell? ⟨bH, oH + at_, none⟩ = some (.int .i64 y))) (by kernel_rfl) ?hSb0 (fun hHeld => ?_)
                  case hSb0 => (first | (first | exact ⟨c0, c1, c2, dx, dy⟩ | exact ⟨he5.cell c0, he5.cell c1, he5.cell c2, he5.cell dx, he5.cell dy⟩) | ((try dsimp only); first | exact ⟨c0, c1, c2, dx, dy⟩ | exact ⟨he5.cell c0, he5.cell c1, he5.cell c2, he5.cell dx, he5.cell dy⟩))
                  refine wpAnyH_tk 0 (v := ?vb0) rfl (by kernel_rfl) (by kernel_rfl) (by kernel_rfl) (fun _ _ _ h => h) (by rfl) ?hyb0 (by assumption) ?_
                  case hyb0 => (intro w hSw; (try dsimp only at hSw); go_simp <;> with_reducible rfl)
                  (try simp only [Act.put, List.setIfInBounds_toArray, List.set_cons_zero, List.set_cons_succ])
                  refine wpAnyH_tk 1 (v := ?vb1) rfl (by kernel_rfl) (by kernel_rfl) (by kernel_rfl) (fun _ _ _ h => h) (by rfl) ?hyb1 (by assumption) ?_
                  case hyb1 => (intro w hSw; (try dsimp only at hSw); go_simp <;> with_reducible rfl)
                  (try simp only [Act.put, List.setIfInBounds_toArray, List.set_cons_zero, List.set_cons_succ])
                  refine wpAnyH_tk 2 (v := ?vb2) rfl (by kernel_rfl) (by kernel_rfl) (by kernel_rfl) (fun _ _ _ h => h) (by rfl) ?hyb2 (by assumption) ?_
                  case hyb2 => (intro w hSw; (try dsimp only at hSw); go_simp <;> with_reducible rfl)
                  (try simp only [Act.put, List.setIfInBounds_toArray, List.set_cons_zero, List.set_cons_succ])
                  refine wpAnyH_tk 3 (v := ?vb3) rfl (by kernel_rfl) (by kernel_rfl) (by kernel_rfl) (fun _ _ _ h => h) (by rfl) ?hyb3 (by assumption) ?_
                  case hyb3 => (intro w hSw; (try dsimp only at hSw); go_simp <;> with_reducible rfl)
                  (try simp only [Act.put, List.setIfInBounds_toArray, List.set_cons_zero, List.set_cons_succ])
                  refine wpAnyH_tk 4 (v := ?vb4) rfl (by kernel_rfl) (by kernel_rfl) (by kernel_rfl) (fun _ _ _ h => h) (by rfl) ?hyb4 (by assumption) ?_
                  case hyb4 => (intro w hSw; (try dsimp only at hSw); go_simp <;> with_reducible rfl)
                  (try simp only [Act.put, List.setIfInBounds_toArray, List.set_cons_zero, List.set_cons_succ])
                  refine wpAnyH_tk 5 (v := ?vb5) rfl (by kernel_rfl) (by kernel_rfl) (by kernel_rfl) (fun _ _ _ h => h) (by rfl) ?hyb5 (by assumption) ?_
                  case hyb5 => (intro w hSw; (try dsimp only at hSw); go_simp <;> with_reducible rfl)
                  (try simp only [Act.put, List.setIfInBounds_toArray, List.set_cons_zero, List.set_cons_succ])
                  refine wpAnyH_tk 6 (v := ?vb6) rfl (by kernel_rfl) (by kernel_rfl) (by kernel_rfl) (fun _ _ _ h => h) (by rfl) ?hyb6 (by assumption) ?_
                  case hyb6 => (intro w hSw; (try dsimp only at hSw); go_simp <;> with_reducible rfl)
                  (try simp only [Act.put, List.setIfInBounds_toArray, List.set_cons_zero, List.set_cons_succ])
                  refine wpAnyH_tk 7 (v := ?vb7) rfl (by kernel_rfl) (by kernel_rfl) (by kernel_rfl) (fun _ _ _ h => h) (by rfl) ?hyb7 (by assumption) ?_
                  case hyb7 => (intro w hSw; (try dsimp only at hSw); go_simp <;> with_reducible rfl)
                  (try simp only [Act.put, List.setIfInBounds_toArray, List.set_cons_zero, List.set_cons_succ])
                  refine wpAnyH_tk 8 (v := ?vb8) rfl (by kernel_rfl) (by kernel_rfl) (by kernel_rfl) (fun _ _ _ h => h) (by rfl) ?hyb8 (by assumption) ?_
                  case hyb8 => (intro w hSw; (try dsimp only at hSw); go_simp <;> with_reducible rfl)
                  (try simp only [Act.put, List.setIfInBounds_toArray, List.set_cons_zero, List.set_cons_succ])
                  refine wpAnyH_tk 9 (v := ?vb9) rfl (by kernel_rfl) (by kernel_rfl) (by kernel_rfl) (fun _ _ _ h => h) (by rfl) ?hyb9 (by assumption) ?_
                  case hyb9 => (intro w hSw; (try dsimp only at hSw); go_simp <;> with_reducible rfl)
                  (try simp only [Act.put, List.setIfInBounds_toArray, List.set_cons_zero, List.set_cons_succ])
                  refine wpAnyH_tk 10 (v := ?vb10) rfl (by kernel_rfl) (by kernel_rfl) (by kernel_rfl) (fun _ _ _ h => h) (by rfl) ?hyb10 (by assumption) ?_
                  case hyb10 => (intro w hSw; (try dsimp only at hSw); go_simp <;> with_reducible rfl)
                  (try simp only [Act.put, List.setIfInBounds_toArray, List.set_cons_zero, List.set_cons_succ])
                  refine wpAnyH_tk 11 (v := ?vb11) rfl (by kernel_rfl) (by kernel_rfl) (by kernel_rfl) (fun _ _ _ h => h) (by rfl) ?hyb11 (by assumption) ?_
                  case hyb11 => (intro w hSw; (try dsimp only at hSw); go_simp <;> with_reducible rfl)
                  (try simp only [Act.put, List.setIfInBounds_toArray, List.set_cons_zero, List.set_cons_succ])
                  refine wpAnyH_tk 12 (v := ?vb12) rfl (by kernel_rfl) (by kernel_rfl) (by kernel_rfl) (fun _ _ _ h => h) (by rfl) ?hyb12 (by assumption) ?_
                  case hyb12 => (intro w hSw; (try dsimp only at hSw); go_simp <;> with_reducible rfl)
                  (try simp only [Act.put, List.setIfInBounds_toArray, List.set_cons_zero, List.set_cons_succ])
                  refine wpAnyH_tk 13 (v := ?vb13) rfl (by kernel_rfl) (by kernel_rfl) (by kernel_rfl) (fun _ _ _ h => h) (by rfl) ?hyb13 (by assumption) ?_
                  case hyb13 => (intro w hSw; (try dsimp only at hSw); go_simp <;> with_reducible rfl)
                  (try simp only [Act.put, List.setIfInBounds_toArray, List.set_cons_zero, List.set_cons_succ])
                  refine wpAnyH_tk 14 (v := ?vb14) rfl (by kernel_rfl) (by kernel_rfl) (by kernel_rfl) (fun _ _ _ h => h) (by rfl) ?hyb14 (by assumption) ?_
                  case hyb14 => (intro w hSw; (try dsimp only at hSw); go_simp <;> with_reducible rfl)
                  (try simp only [Act.put, List.setIfInBounds_toArray, List.set_cons_zero, List.set_cons_succ])
                  refine wpAnyH_one 15 rfl (by kernel_rfl) (by rfl) (fun K hK => ?_)
                  go_simp
                  (go_at_call 65; refine (likes_any _ _ _ p h x y _ (HP.out.ext (HEW.out.trans HE3.out).drew) (by omega) hh1).mono ?_; rintro e w5 ⟨rfl, he5⟩; rw [hli])
                  refine hK.out _ _ ?hSb16 (fun hHeld => ?_)
                  case hSb16 => (first | (first | exact ⟨c0, c1, c2, dx, dy⟩ | exact ⟨he5.cell c0, he5.cell c1, he5.cell c2, he5.cell dx, he5.cell dy⟩) | ((try dsimp only); first | exact ⟨c0, c1, c2, dx, dy⟩ | exact ⟨he5.cell c0, he5.cell c1, he5.cell c2, he5.cell dx, he5.cell dy⟩))
                  clear hK K
                  (try simp only [Act.put, List.setIfInBounds_toArray, List.set_cons_zero, List.set_cons_succ])
                  refine wpAnyH_tk 16 (v := ?vb16) rfl (by kernel_rfl) (by kernel_rfl) (by kernel_rfl) (fun _ _ _ h => h) (by rfl) ?hyb16 (by assumption) ?_
                  case hyb16 => (intro w hSw; (try dsimp only at hSw); go_simp <;> with_reducible rfl)
                  (try simp only [Act.put, List.setIfInBounds_toArray, List.set_cons_zero, List.set_cons_succ])
                  refine wpAnyH_tk 17 (v := ?vb17) rfl (by kernel_rfl) (by kernel_rfl) (by kernel_rfl) (fun _ _ _ h => h) (by rfl) ?hyb17 (by assumption) ?_
                  case hyb17 => (intro w hSw; (try dsimp only at hSw); go_simp <;> with_reducible rfl)
                  (try simp only [Act.put, List.setIfInBounds_toArray, List.set_cons_zero, List.set_cons_succ])
                  refine wpAnyH_done (by kernel_rfl) ?_ _
                  have HE := hid (E3.out.drew.trans he5)
                  clear c0 c1 c2 dx dy he5 hli hyy Hyv
                  have dx := Dx.out _ (E.out.trans HE.out)
                  have HH5 := hid (HHi.out.ext HE.out)
                  go_wp2
                  refine wp_region_held_drew (S := (fun w' => w'.cell? ⟨bj, oj + h, none⟩ = some (.int .i64 x))) (by kernel_rfl) ?hSt0 (fun hHeld => ?_)
                  case hSt0 => (first | exact dx | ((try dsimp only); exact dx))
                  have Ed := hid ((Ext.refl w5).drew)
                  refine wpAnyH_tk 1 (v := ?vx1) rfl (by kernel_rfl) (by kernel_rfl) (by kernel_rfl) (fun _ _ _ h => h) (by rfl) ?hy1 (by assumption) ?_
                  case hy1 => (intro w hSw; (try dsimp only at hSw); go_simp <;> with_reducible rfl)
                  (try simp only [Act.put, List.setIfInBounds_toArray, List.set_cons_zero, List.set_cons_succ])
                  refine wpAnyH_tk 2 (v := ?vx2) rfl (by kernel_rfl) (by kernel_rfl) (by kernel_rfl) (fun _ _ _ h => h) (by rfl) ?hy2 (by assumption) ?_
                  case hy2 => (intro w hSw; (try dsimp only at hSw); go_simp <;> with_reducible rfl)
                  (try simp only [Act.put, List.setIfInBounds_toArray, List.set_cons_zero, List.set_cons_succ])
                  refine wpAnyH_tk 3 (v := ?vx3) rfl (by kernel_rfl) (by kernel_rfl) (by kernel_rfl) (fun _ _ _ h => h) (by rfl) ?hy3 (by assumption) ?_
                  case hy3 => (intro w hSw; (try dsimp only at hSw); go_simp <;> with_reducible rfl)
                  (try simp only [Act.put, List.setIfInBounds_toArray, List.set_cons_zero, List.set_cons_succ])
                  refine wpAnyH_tk 5 (v := ?vx4) rfl (by kernel_rfl) (by kernel_rfl) (by kernel_rfl) (fun _ _ _ h => h) (by rfl) ?hy4 (by assumption) ?_
                  case hy4 => (intro w hSw; (try dsimp only at hSw); go_simp <;> with_reducible rfl)
                  (try simp only [Act.put, List.setIfInBounds_toArray, List.set_cons_zero, List.set_cons_succ])
                  refine wpAnyH_tk 6 (v := ?vx5) rfl (by kernel_rfl) (by kernel_rfl) (by kernel_rfl) (fun _ _ _ h => h) (by rfl) ?hy5 (by assumption) ?_
                  case hy5 => (intro w hSw; (try dsimp only at hSw); go_simp <;> with_reducible rfl)
                  (try simp only [Act.put, List.setIfInBounds_toArray, List.set_cons_zero, List.set_cons_succ])
                  refine wpAnyH_tk 7 (v := ?vx6) rfl (by kernel_rfl) (by kernel_rfl) (by kernel_rfl) (fun _ _ _ h => h) (by rfl) ?hy6 (by assumption) ?_
                  case hy6 => (intro w hSw; (try dsimp only at hSw); go_simp <;> with_reducible rfl)
                  (try simp only [Act.put, List.setIfInBounds_toArray, List.set_cons_zero, List.set_cons_succ])
                  refine wpAnyH_tk 8 (v := ?vx7) rfl (by kernel_rfl) (by kernel_rfl) (by kernel_rfl) (fun _ _ _ h => h) (by rfl) ?hy7 (by assumption) ?_
                  case hy7 => (intro w hSw; (try dsimp only at hSw); go_simp <;> with_reducible rfl)
                  (try simp only [Act.put, List.setIfInBounds_toArray, List.set_cons_zero, List.set_cons_succ])
                  refine wpAnyH_tk 11 (v := ?vx8) rfl (by kernel_rfl) (by kernel_rfl) (by kernel_rfl) (fun _ _ _ h => h) (by rfl) ?hy8 (by assumption) ?_
                  case hy8 => (intro w hSw; (try dsimp only at hSw); go_simp <;> with_reducible rfl)
                  (try simp only [Act.put, List.setIfInBounds_toArray, List.set_cons_zero, List.set_cons_succ])
                  refine wpAnyH_tk 12 (v := ?vx9) rfl (by kernel_rfl) (by kernel_rfl) (by kernel_rfl) (fun _ _ _ h => h) (by rfl) ?hy9 (by assumption) ?_
                  case hy9 => (intro w hSw; (try dsimp only at hSw); go_simp <;> with_reducible rfl)
                  (try simp only [Act.put, List.setIfInBounds_toArray, List.set_cons_zero, List.set_cons_succ])
                  refine wpAnyH_tk 13 (v := ?vx10) rfl (by kernel_rfl) (by kernel_rfl) (by kernel_rfl) (fun _ _ _ h => h) (by rfl) ?hy10 (by assumption) ?_
                  case hy10 => (intro w hSw; (try dsimp only at hSw); go_simp <;> with_reducible rfl)
                  (try simp only [Act.put, List.setIfInBounds_toArray, List.set_cons_zero, List.set_cons_succ])
                  refine wpAnyH_two 0 9 rfl rfl (by kernel_rfl) (by rfl) (by rfl) (fun K hK => ?_) (fun K hK => ?_)
                  · skip
                    go_simp
                    have hsz11 := Ed.out.size
                    have O46_11 : Hid (OwnI w5.heap.size (w5.drew.alloc (.cells #[] 3)) (.slice (some ⟨w5.heap.size, 0, none⟩) 0 0) []) := World.ownsRow_lit (base := w5.heap.size) (e := 3) (size := 1) w5.drew #[] 0 hsz11 (by decide) rfl
                    have E_11 : Hid (Ext w5 (w5.drew.alloc (.cells #[] 3))) := Ed.out.alloc (.cells #[] 3)
                    refine hK.out _ _ ?hS11 (fun hHeld => ?_)
                    case hS11 => (first | exact E_11.out.cell dx | ((try dsimp only); exact E_11.out.cell dx))
                    clear hK K
                    (try simp only [Act.put, List.setIfInBounds_toArray, List.set_cons_zero, List.set_cons_succ])
                    refine wpAnyH_two 4 9 rfl rfl (by kernel_rfl) (by rfl) (by rfl) (fun K hK => ?_) (fun K hK => ?_)
                    · skip
                      have hsz12 := E_11.out.size
                      refine wp_append_ints _ _ rfl w5.heap.size (.slice (some ⟨w5.heap.size, 0, none⟩) 0 0) [] (by rfl) O46_11.out _ _ _ (had.take at_) (by rfl) ?m12 ?n12 ?c12 ?l12 hsz12 ?_
                      case m12 => (first | (rw [List.length_take]; omega) | rw [List.length_take])
                      case n12 => (intro h0; simp at h0)
                      case c12 => (intro k hk; exact cells_take (HH5.out.ext E_11.out) hal k hk)
                      case l12 => (rw [List.length_take, List.length_nil]; omega)
                      intro v12 wz12 hown12 hg12
                      have O50_12 := hid hown12
                      have E_12 : Hid (Ext w5 wz12) := (Below.grown E_11.out hg12 hsz12 (fun k hk => (O46_11.out.lt k hk).1))
                      clear hown12 hg12
                      refine hK.out _ _ ?hS12 (fun hHeld => ?_)
                      case hS12 => (first | exact E_12.out.cell dx | ((try dsimp only); exact E_12.out.cell dx))
                      clear hK K
                      (try simp only [Act.put, List.setIfInBounds_toArray, List.set_cons_zero, List.set_cons_succ])
                      refine wpAnyH_one 9 rfl (by kernel_rfl) (by rfl) (fun K hK => ?_)
                      go_simp
                      have O46_13 := hid (World.ownsRow.alloc O46_11.out (.cells #[.int .i64 x] 3))
                      have O50_13 := hid (World.ownsRow.alloc O50_12.out (.cells #[.int .i64 x] 3))
                      have hsz13 := E_12.out.size
                      have O55_13 : Hid (OwnI w5.heap.size (wz12.alloc (.cells #[.int .i64 x] 3)) (.slice (some ⟨wz12.heap.size, 0, none⟩) 1 1) [x]) := World.ownsRow_lit (base := w5.heap.size) (e := 3) (size := 1) wz12 #[.int .i64 x] 1 hsz13 (by decide) rfl
                      have E_13 : Hid (Ext w5 (wz12.alloc (.cells #[.int .i64 x] 3))) := E_12.out.alloc (.cells #[.int .i64 x] 3)
                      refine hK.out _ _ ?hS13 (fun hHeld => ?_)
                      case hS13 => (first | exact E_13.out.cell dx | ((try dsimp only); exact E_13.out.cell dx))
                      clear hK K
                      (try simp only [Act.put, List.setIfInBounds_toArray, List.set_cons_zero, List.set_cons_succ])
                      refine wpAnyH_one 10 rfl (by kernel_rfl) (by rfl) (fun K hK => ?_)
                      have hsz14 := E_13.out.size
                      refine wp_append_ints _ _ rfl w5.heap.size v12 (had.take at_) (by rfl) O50_13.out (some ⟨wz12.heap.size, 0, none⟩) 1 1 [x] (by rfl) rfl (by simp) (cells_one O55_13.out) (by rw [List.length_take, List.length_singleton]; omega) hsz14 ?_
                      intro v14 wz14 hown14 hg14
                      have O56_14 := hid hown14
                      have E_14 : Hid (Ext w5 wz14) := (Below.grown E_13.out hg14 hsz14 (fun k hk => (O50_13.out.lt k hk).1))
                      clear hown14 hg14
                      refine hK.out _ _ ?hS14 (fun hHeld => ?_)
                      case hS14 => (first | exact E_14.out.cell dx | ((try dsimp only); exact E_14.out.cell dx))
                      clear hK K
                      (try simp only [Act.put, List.setIfInBounds_toArray, List.set_cons_zero, List.set_cons_succ])
                      refine wpAnyH_one 14 rfl (by kernel_rfl) (by rfl) (fun K hK => ?_)
                      have hsz15 := E_14.out.size
                      refine wp_append_ints _ _ rfl w5.heap.size v14 (had.take at_ ++ [x]) (by rfl) O56_14.out _ _ _ (had.drop at_) (by rfl) ?m15 ?n15 ?c15 ?l15 hsz15 ?_
                      case m15 => (first | (rw [List.length_drop]; omega) | rw [List.length_drop])
                      case n15 => (intro h0; split at h0 <;> simp at h0)
                      case c15 => (intro k hk; exact cells_drop hcapH (HH5.out.ext E_14.out) hal k hk)
                      case l15 => (rw [List.length_append, List.length_take, List.length_drop, List.length_singleton]; omega)
                      intro v15 wz15 hown15 hg15
                      have O60_15 := hid hown15
                      have E_15 : Hid (Ext w5 wz15) := (Below.grown E_14.out hg15 hsz15 (fun k hk => (O56_14.out.lt k hk).1))
                      clear hown15 hg15
                      refine hK.out _ _ ?hS15 (fun hHeld => ?_)
                      case hS15 => (first | exact E_15.out.cell dx | ((try dsimp only); exact E_15.out.cell dx))
                      clear hK K
                      (try simp only [Act.put, List.setIfInBounds_toArray, List.set_cons_zero, List.set_cons_succ])
                      refine wpAnyH_tk 15 (v := ?vx16) rfl (by kernel_rfl) (by kernel_rfl) (by kernel_rfl) (fun _ _ _ h => h) (by rfl) ?hy16 (by assumption) ?_
                      case hy16 => (intro w hSw; (try dsimp only at hSw); go_simp <;> with_reducible rfl)
                      (try simp only [Act.put, List.setIfInBounds_toArray, List.set_cons_zero, List.set_cons_succ])
                      refine wpAnyH_done (by kernel_rfl) ?_ _
                      have HN : Hid (OwnI 0 wz15 _ ((had.take at_ ++ [x]) ++ had.drop at_)) := ownsRow_base O60_15.out (Nat.zero_le _)
                      have HP2 : Hid (((had.take at_ ++ [x]) ++ had.drop at_).Perm (colTo L h (j + 1))) := by
                        show List.Perm _ _
                        rw [Hs.out]
                        exact ins_perm.trans (PERM.out.append_right [x])
                      have HS2 : Hid (((had.take at_ ++ [x]) ++ had.drop at_).Pairwise (fun a b => rankP (rowAt p.hands h) a ≤ rankP (rowAt p.hands h) b)) := ins_sorted SORT.out hal LOW.out HIGH.out
                      have HO2 := hid (ownsRow_ext OUT.out (HE.out.trans E_15.out))
                      have HE2 := hid (E.out.trans (HE.out.trans E_15.out))
                      clear dx
                      go_wp2
                      all_goals
                        go_roundg (L.length - (j + 1))
                        case rel => exact ⟨j + 1, _, by omega, by go_num, HP2.out, HS2.out, HN.out, HO2.out, HE2.out⟩
                        case measure => have := Hj.out; omega
                    · skip
                      go_simp
                      have O46_17 := hid (World.ownsRow.alloc O46_11.out (.cells #[.int .i64 x] 3))
                      have hsz17 := E_11.out.size
                      have O55_17 : Hid (OwnI w5.heap.size ((w5.drew.alloc (.cells #[] 3)).alloc (.cells #[.int .i64 x] 3)) (.slice (some ⟨w5.heap.size + 1, 0, none⟩) 1 1) [x]) := by have h := World.ownsRow_lit (base := w5.heap.size) (e := 3) (size := 1) (w5.drew.alloc (.cells #[] 3)) #[.int .i64 x] 1 hsz17 (by decide) rfl; rwa [show (w5.drew.alloc (.cells #[] 3)).heap.size = w5.heap.size + 1 from by simp] at h
                      have E_17 : Hid (Ext w5 ((w5.drew.alloc (.cells #[] 3)).alloc (.cells #[.int .i64 x] 3))) := E_11.out.alloc (.cells #[.int .i64 x] 3)
                      refine hK.out _ _ ?hS17 (fun hHeld => ?_)
                      case hS17 => (first | exact E_17.out.cell dx | ((try dsimp only); exact E_17.out.cell dx))
                      clear hK K
                      (try simp only [Act.put, List.setIfInBounds_toArray, List.set_cons_zero, List.set_cons_succ])
                      refine wpAnyH_one 4 rfl (by kernel_rfl) (by rfl) (fun K hK => ?_)
                      have hsz18 := E_17.out.size
                      refine wp_append_ints _ _ rfl w5.heap.size (.slice (some ⟨w5.heap.size, 0, none⟩) 0 0) [] (by rfl) O46_17.out _ _ _ (had.take at_) (by rfl) ?m18 ?n18 ?c18 ?l18 hsz18 ?_
                      case m18 => (first | (rw [List.length_take]; omega) | rw [List.length_take])
                      case n18 => (intro h0; simp at h0)
                      case c18 => (intro k hk; exact cells_take (HH5.out.ext E_17.out) hal k hk)
                      case l18 => (rw [List.length_take, List.length_nil]; omega)
                      intro v18 wz18 hown18 hg18
                      have O55_18 := hid (World.ownsRow.kept O55_17.out hg18 (.inr (by simp [Value.ownBlock])))
                      have O50_18 := hid hown18
                      have E_18 : Hid (Ext w5 wz18) := (Below.grown E_17.out hg18 hsz18 (fun k hk => (O46_17.out.lt k hk).1))
                      clear hown18 hg18
                      refine hK.out _ _ ?hS18 (fun hHeld => ?_)
                      case hS18 => (first | exact E_18.out.cell dx | ((try dsimp only); exact E_18.out.cell dx))
                      clear hK K
                      (try simp only [Act.put, List.setIfInBounds_toArray, List.set_cons_zero, List.set_cons_succ])
                      refine wpAnyH_one 10 rfl (by kernel_rfl) (by rfl) (fun K hK => ?_)
                      have hsz19 := E_18.out.size
                      refine wp_append_ints _ _ rfl w5.heap.size v18 (had.take at_) (by rfl) O50_18.out (some ⟨w5.heap.size + 1, 0, none⟩) 1 1 [x] (by rfl) rfl (by simp) (cells_one O55_18.out) (by rw [List.length_take, List.length_singleton]; omega) hsz19 ?_
                      intro v19 wz19 hown19 hg19
                      have O56_19 := hid hown19
                      have E_19 : Hid (Ext w5 wz19) := (Below.grown E_18.out hg19 hsz19 (fun k hk => (O50_18.out.lt k hk).1))
                      clear hown19 hg19
                      refine hK.out _ _ ?hS19 (fun hHeld => ?_)
                      case hS19 => (first | exact E_19.out.cell dx | ((try dsimp only); exact E_19.out.cell dx))
                      clear hK K
                      (try simp only [Act.put, List.setIfInBounds_toArray, List.set_cons_zero, List.set_cons_succ])
                      refine wpAnyH_one 14 rfl (by kernel_rfl) (by rfl) (fun K hK => ?_)
                      have hsz20 := E_19.out.size
                      refine wp_append_ints _ _ rfl w5.heap.size v19 (had.take at_ ++ [x]) (by rfl) O56_19.out _ _ _ (had.drop at_) (by rfl) ?m20 ?n20 ?c20 ?l20 hsz20 ?_
                      case m20 => (first | (rw [List.length_drop]; omega) | rw [List.length_drop])
                      case n20 => (intro h0; split at h0 <;> simp at h0)
                      case c20 => (intro k hk; exact cells_drop hcapH (HH5.out.ext E_19.out) hal k hk)
                      case l20 => (rw [List.length_append, List.length_take, List.length_drop, List.length_singleton]; omega)
                      intro v20 wz20 hown20 hg20
                      have O60_20 := hid hown20
                      have E_20 : Hid (Ext w5 wz20) := (Below.grown E_19.out hg20 hsz20 (fun k hk => (O56_19.out.lt k hk).1))
                      clear hown20 hg20
                      refine hK.out _ _ ?hS20 (fun hHeld => ?_)
                      case hS20 => (first | exact E_20.out.cell dx | ((try dsimp only); exact E_20.out.cell dx))
                      clear hK K
                      (try simp only [Act.put, List.setIfInBounds_toArray, List.set_cons_zero, List.set_cons_succ])
                      refine wpAnyH_tk 15 (v := ?vx21) rfl (by kernel_rfl) (by kernel_rfl) (by kernel_rfl) (fun _ _ _ h => h) (by rfl) ?hy21 (by assumption) ?_
                      case hy21 => (intro w hSw; (try dsimp only at hSw); go_simp <;> with_reducible rfl)
                      (try simp only [Act.put, List.setIfInBounds_toArray, List.set_cons_zero, List.set_cons_succ])
                      refine wpAnyH_done (by kernel_rfl) ?_ _
                      have HN : Hid (OwnI 0 wz20 _ ((had.take at_ ++ [x]) ++ had.drop at_)) := ownsRow_base O60_20.out (Nat.zero_le _)
                      have HP2 : Hid (((had.take at_ ++ [x]) ++ had.drop at_).Perm (colTo L h (j + 1))) := by
                        show List.Perm _ _
                        rw [Hs.out]
                        exact ins_perm.trans (PERM.out.append_right [x])
                      have HS2 : Hid (((had.take at_ ++ [x]) ++ had.drop at_).Pairwise (fun a b => rankP (rowAt p.hands h) a ≤ rankP (rowAt p.hands h) b)) := ins_sorted SORT.out hal LOW.out HIGH.out
                      have HO2 := hid (ownsRow_ext OUT.out (HE.out.trans E_20.out))
                      have HE2 := hid (E.out.trans (HE.out.trans E_20.out))
                      clear dx
                      go_wp2
                      all_goals
                        go_roundg (L.length - (j + 1))
                        case rel => exact ⟨j + 1, _, by omega, by go_num, HP2.out, HS2.out, HN.out, HO2.out, HE2.out⟩
                        case measure => have := Hj.out; omega
                  · skip
                    go_simp
                    have hsz22 := Ed.out.size
                    have O55_22 : Hid (OwnI w5.heap.size (w5.drew.alloc (.cells #[.int .i64 x] 3)) (.slice (some ⟨w5.heap.size, 0, none⟩) 1 1) [x]) := World.ownsRow_lit (base := w5.heap.size) (e := 3) (size := 1) w5.drew #[.int .i64 x] 1 hsz22 (by decide) rfl
                    have E_22 : Hid (Ext w5 (w5.drew.alloc (.cells #[.int .i64 x] 3))) := Ed.out.alloc (.cells #[.int .i64 x] 3)
                    refine hK.out _ _ ?hS22 (fun hHeld => ?_)
                    case hS22 => (first | exact E_22.out.cell dx | ((try dsimp only); exact E_22.out.cell dx))
                    clear hK K
                    (try simp only [Act.put, List.setIfInBounds_toArray, List.set_cons_zero, List.set_cons_succ])
                    refine wpAnyH_one 0 rfl (by kernel_rfl) (by rfl) (fun K hK => ?_)
                    go_simp
                    have O55_23 := hid (World.ownsRow.alloc O55_22.out (.cells #[] 3))
                    have hsz23 := E_22.out.size
                    have O46_23 : Hid (OwnI w5.heap.size ((w5.drew.alloc (.cells #[.int .i64 x] 3)).alloc (.cells #[] 3)) (.slice (some ⟨w5.heap.size + 1, 0, none⟩) 0 0) []) := by have h := World.ownsRow_lit (base := w5.heap.size) (e := 3) (size := 1) (w5.drew.alloc (.cells #[.int .i64 x] 3)) #[] 0 hsz23 (by decide) rfl; rwa [show (w5.drew.alloc (.cells #[.int .i64 x] 3)).heap.size = w5.heap.size + 1 from by simp] at h
                    have E_23 : Hid (Ext w5 ((w5.drew.alloc (.cells #[.int .i64 x] 3)).alloc (.cells #[] 3))) := E_22.out.alloc (.cells #[] 3)
                    refine hK.out _ _ ?hS23 (fun hHeld => ?_)
                    case hS23 => (first | exact E_23.out.cell dx | ((try dsimp only); exact E_23.out.cell dx))
                    clear hK K
                    (try simp only [Act.put, List.setIfInBounds_toArray, List.set_cons_zero, List.set_cons_succ])
                    refine wpAnyH_one 4 rfl (by kernel_rfl) (by rfl) (fun K hK => ?_)
                    have hsz24 := E_23.out.size
                    refine wp_append_ints _ _ rfl w5.heap.size (.slice (some ⟨w5.heap.size + 1, 0, none⟩) 0 0) [] (by rfl) O46_23.out _ _ _ (had.take at_) (by rfl) ?m24 ?n24 ?c24 ?l24 hsz24 ?_
                    case m24 => (first | (rw [List.length_take]; omega) | rw [List.length_take])
                    case n24 => (intro h0; simp at h0)
                    case c24 => (intro k hk; exact cells_take (HH5.out.ext E_23.out) hal k hk)
                    case l24 => (rw [List.length_take, List.length_nil]; omega)
                    intro v24 wz24 hown24 hg24
                    have O55_24 := hid (World.ownsRow.kept O55_23.out hg24 (.inr (by simp [Value.ownBlock])))
                    have O50_24 := hid hown24
                    have E_24 : Hid (Ext w5 wz24) := (Below.grown E_23.out hg24 hsz24 (fun k hk => (O46_23.out.lt k hk).1))
                    clear hown24 hg24
                    refine hK.out _ _ ?hS24 (fun hHeld => ?_)
                    case hS24 => (first | exact E_24.out.cell dx | ((try dsimp only); exact E_24.out.cell dx))
                    clear hK K
                    (try simp only [Act.put, List.setIfInBounds_toArray, List.set_cons_zero, List.set_cons_succ])
                    refine wpAnyH_one 10 rfl (by kernel_rfl) (by rfl) (fun K hK => ?_)
                    have hsz25 := E_24.out.size
                    refine wp_append_ints _ _ rfl w5.heap.size v24 (had.take at_) (by rfl) O50_24.out (some ⟨w5.heap.size, 0, none⟩) 1 1 [x] (by rfl) rfl (by simp) (cells_one O55_24.out) (by rw [List.length_take, List.length_singleton]; omega) hsz25 ?_
                    intro v25 wz25 hown25 hg25
                    have O56_25 := hid hown25
                    have E_25 : Hid (Ext w5 wz25) := (Below.grown E_24.out hg25 hsz25 (fun k hk => (O50_24.out.lt k hk).1))
                    clear hown25 hg25
                    refine hK.out _ _ ?hS25 (fun hHeld => ?_)
                    case hS25 => (first | exact E_25.out.cell dx | ((try dsimp only); exact E_25.out.cell dx))
                    clear hK K
                    (try simp only [Act.put, List.setIfInBounds_toArray, List.set_cons_zero, List.set_cons_succ])
                    refine wpAnyH_one 14 rfl (by kernel_rfl) (by rfl) (fun K hK => ?_)
                    have hsz26 := E_25.out.size
                    refine wp_append_ints _ _ rfl w5.heap.size v25 (had.take at_ ++ [x]) (by rfl) O56_25.out _ _ _ (had.drop at_) (by rfl) ?m26 ?n26 ?c26 ?l26 hsz26 ?_
                    case m26 => (first | (rw [List.length_drop]; omega) | rw [List.length_drop])
                    case n26 => (intro h0; split at h0 <;> simp at h0)
                    case c26 => (intro k hk; exact cells_drop hcapH (HH5.out.ext E_25.out) hal k hk)
                    case l26 => (rw [List.length_append, List.length_take, List.length_drop, List.length_singleton]; omega)
                    intro v26 wz26 hown26 hg26
                    have O60_26 := hid hown26
                    have E_26 : Hid (Ext w5 wz26) := (Below.grown E_25.out hg26 hsz26 (fun k hk => (O56_25.out.lt k hk).1))
                    clear hown26 hg26
                    refine hK.out _ _ ?hS26 (fun hHeld => ?_)
                    case hS26 => (first | exact E_26.out.cell dx | ((try dsimp only); exact E_26.out.cell dx))
                    clear hK K
                    (try simp only [Act.put, List.setIfInBounds_toArray, List.set_cons_zero, List.set_cons_succ])
                    refine wpAnyH_tk 15 (v := ?vx27) rfl (by kernel_rfl) (by kernel_rfl) (by kernel_rfl) (fun _ _ _ h => h) (by rfl) ?hy27 (by assumption) ?_
                    case hy27 => (intro w hSw; (try dsimp only at hSw); go_simp <;> with_reducible rfl)
                    (try simp only [Act.put, List.setIfInBounds_toArray, List.set_cons_zero, List.set_cons_succ])
                    refine wpAnyH_done (by kernel_rfl) ?_ _
                    have HN : Hid (OwnI 0 wz26 _ ((had.take at_ ++ [x]) ++ had.drop at_)) := ownsRow_base O60_26.out (Nat.zero_le _)
                    have HP2 : Hid (((had.take at_ ++ [x]) ++ had.drop at_).Perm (colTo L h (j + 1))) := by
                      show List.Perm _ _
                      rw [Hs.out]
                      exact ins_perm.trans (PERM.out.append_right [x])
                    have HS2 : Hid (((had.take at_ ++ [x]) ++ had.drop at_).Pairwise (fun a b => rankP (rowAt p.hands h) a ≤ rankP (rowAt p.hands h) b)) := ins_sorted SORT.out hal LOW.out HIGH.out
                    have HO2 := hid (ownsRow_ext OUT.out (HE.out.trans E_26.out))
                    have HE2 := hid (E.out.trans (HE.out.trans E_26.out))
                    clear dx
                    go_wp2
                    all_goals
                      go_roundg (L.length - (j + 1))
                      case rel => exact ⟨j + 1, _, by omega, by go_num, HP2.out, HS2.out, HN.out, HO2.out, HE2.out⟩
                      case measure => have := Hj.out; omega
              · have HIGH : Hid (at_ < had.length → rankP (rowAt p.hands h) x < rankP (rowAt p.hands h) (fn had at_)) := fun h' => absurd h' halt
                go_wp2
                refine wp_region_held_drew (S := (fun w' => w'.cell? ⟨w.heap.size, 0, none⟩ = some (.slice aoh p.hands.length caph) ∧ w'.cell? ⟨w.heap.size, 1, none⟩ = some (.slice aos p.shifts.length caps) ∧ w'.cell? ⟨w.heap.size, 2, none⟩ = some (.slice aop p.places.length capp))) (by kernel_rfl) ?hSd0 (fun hHeld => ?_)
                case hSd0 => (first | (exact ⟨c0, c1, c2⟩) | ((try dsimp only); exact ⟨c0, c1, c2⟩))
                refine wpAnyH_tk 0 (v := ?vd0) rfl (by kernel_rfl) (by kernel_rfl) (by kernel_rfl) (fun _ _ _ h => h) (by rfl) ?hyd0 (by assumption) ?_
                case hyd0 => (intro w hSw; (try dsimp only at hSw); go_simp <;> with_reducible rfl)
                (try simp only [Act.put, List.setIfInBounds_toArray, List.set_cons_zero, List.set_cons_succ])
                refine wpAnyH_tk 1 (v := ?vd1) rfl (by kernel_rfl) (by kernel_rfl) (by kernel_rfl) (fun _ _ _ h => h) (by rfl) ?hyd1 (by assumption) ?_
                case hyd1 => (intro w hSw; (try dsimp only at hSw); go_simp <;> with_reducible rfl)
                (try simp only [Act.put, List.setIfInBounds_toArray, List.set_cons_zero, List.set_cons_succ])
                refine wpAnyH_tk 2 (v := ?vd2) rfl (by kernel_rfl) (by kernel_rfl) (by kernel_rfl) (fun _ _ _ h => h) (by rfl) ?hyd2 (by assumption) ?_
                case hyd2 => (intro w hSw; (try dsimp only at hSw); go_simp <;> with_reducible rfl)
                (try simp only [Act.put, List.setIfInBounds_toArray, List.set_cons_zero, List.set_cons_succ])
                refine wpAnyH_tk 3 (v := ?vd3) rfl (by kernel_rfl) (by kernel_rfl) (by kernel_rfl) (fun _ _ _ h => h) (by rfl) ?hyd3 (by assumption) ?_
                case hyd3 => (intro w hSw; (try dsimp only at hSw); go_simp <;> with_reducible rfl)
                (try simp only [Act.put, List.setIfInBounds_toArray, List.set_cons_zero, List.set_cons_succ])
                refine wpAnyH_tk 4 (v := ?vd4) rfl (by kernel_rfl) (by kernel_rfl) (by kernel_rfl) (fun _ _ _ h => h) (by rfl) ?hyd4 (by assumption) ?_
                case hyd4 => (intro w hSw; (try dsimp only at hSw); go_simp <;> with_reducible rfl)
                (try simp only [Act.put, List.setIfInBounds_toArray, List.set_cons_zero, List.set_cons_succ])
                refine wpAnyH_skips 4 true 30 1 (by kernel_rfl) rfl (fun _ _ _ _ _ h => h) [5, 6, 7, 8, 9, 10, 11, 12, 13, 14, 15, 16] [31, 32, 33, 34, 35, 36, 37, 38, 39, 40, 41, 42] _ _ _ rfl (by kernel_rfl) (by rfl) (by assumption) ?_
                (try simp only [putsAll, List.foldl, Act.put, List.setIfInBounds_toArray, List.set_cons_zero, List.set_cons_succ])
                refine wpAnyH_tk 17 (v := ?vd17) rfl (by kernel_rfl) (by kernel_rfl) (by kernel_rfl) (fun _ _ _ h => h) (by rfl) ?hyd17 (by assumption) ?_
                case hyd17 => (intro w hSw; (try dsimp only at hSw); go_simp <;> with_reducible rfl)
                (try simp only [Act.put, List.setIfInBounds_toArray, List.set_cons_zero, List.set_cons_succ])
                refine wpAnyH_done (by kernel_rfl) ?_ _
                have HE := hid E3.out.drew
                clear c0 c1 c2 dx
                have dx := Dx.out _ (E.out.trans HE.out)
                have HH5 := hid (HHi.out.ext HE.out)
                go_wp2
                refine wp_region_held_drew (S := (fun w' => w'.cell? ⟨bj, oj + h, none⟩ = some (.int .i64 x))) (by kernel_rfl) ?hSt28 (fun hHeld => ?_)
                case hSt28 => (first | exact dx | ((try dsimp only); exact dx))
                have Ed := hid ((Ext.refl wr.drew).drew)
                refine wpAnyH_tk 1 (v := ?vx29) rfl (by kernel_rfl) (by kernel_rfl) (by kernel_rfl) (fun _ _ _ h => h) (by rfl) ?hy29 (by assumption) ?_
                case hy29 => (intro w hSw; (try dsimp only at hSw); go_simp <;> with_reducible rfl)
                (try simp only [Act.put, List.setIfInBounds_toArray, List.set_cons_zero, List.set_cons_succ])
                refine wpAnyH_tk 2 (v := ?vx30) rfl (by kernel_rfl) (by kernel_rfl) (by kernel_rfl) (fun _ _ _ h => h) (by rfl) ?hy30 (by assumption) ?_
                case hy30 => (intro w hSw; (try dsimp only at hSw); go_simp <;> with_reducible rfl)
                (try simp only [Act.put, List.setIfInBounds_toArray, List.set_cons_zero, List.set_cons_succ])
                refine wpAnyH_tk 3 (v := ?vx31) rfl (by kernel_rfl) (by kernel_rfl) (by kernel_rfl) (fun _ _ _ h => h) (by rfl) ?hy31 (by assumption) ?_
                case hy31 => (intro w hSw; (try dsimp only at hSw); go_simp <;> with_reducible rfl)
                (try simp only [Act.put, List.setIfInBounds_toArray, List.set_cons_zero, List.set_cons_succ])
                refine wpAnyH_tk 5 (v := ?vx32) rfl (by kernel_rfl) (by kernel_rfl) (by kernel_rfl) (fun _ _ _ h => h) (by rfl) ?hy32 (by assumption) ?_
                case hy32 => (intro w hSw; (try dsimp only at hSw); go_simp <;> with_reducible rfl)
                (try simp only [Act.put, List.setIfInBounds_toArray, List.set_cons_zero, List.set_cons_succ])
                refine wpAnyH_tk 6 (v := ?vx33) rfl (by kernel_rfl) (by kernel_rfl) (by kernel_rfl) (fun _ _ _ h => h) (by rfl) ?hy33 (by assumption) ?_
                case hy33 => (intro w hSw; (try dsimp only at hSw); go_simp <;> with_reducible rfl)
                (try simp only [Act.put, List.setIfInBounds_toArray, List.set_cons_zero, List.set_cons_succ])
                refine wpAnyH_tk 7 (v := ?vx34) rfl (by kernel_rfl) (by kernel_rfl) (by kernel_rfl) (fun _ _ _ h => h) (by rfl) ?hy34 (by assumption) ?_
                case hy34 => (intro w hSw; (try dsimp only at hSw); go_simp <;> with_reducible rfl)
                (try simp only [Act.put, List.setIfInBounds_toArray, List.set_cons_zero, List.set_cons_succ])
                refine wpAnyH_tk 8 (v := ?vx35) rfl (by kernel_rfl) (by kernel_rfl) (by kernel_rfl) (fun _ _ _ h => h) (by rfl) ?hy35 (by assumption) ?_
                case hy35 => (intro w hSw; (try dsimp only at hSw); go_simp <;> with_reducible rfl)
                (try simp only [Act.put, List.setIfInBounds_toArray, List.set_cons_zero, List.set_cons_succ])
                refine wpAnyH_tk 11 (v := ?vx36) rfl (by kernel_rfl) (by kernel_rfl) (by kernel_rfl) (fun _ _ _ h => h) (by rfl) ?hy36 (by assumption) ?_
                case hy36 => (intro w hSw; (try dsimp only at hSw); go_simp <;> with_reducible rfl)
                (try simp only [Act.put, List.setIfInBounds_toArray, List.set_cons_zero, List.set_cons_succ])
                refine wpAnyH_tk 12 (v := ?vx37) rfl (by kernel_rfl) (by kernel_rfl) (by kernel_rfl) (fun _ _ _ h => h) (by rfl) ?hy37 (by assumption) ?_
                case hy37 => (intro w hSw; (try dsimp only at hSw); go_simp <;> with_reducible rfl)
                (try simp only [Act.put, List.setIfInBounds_toArray, List.set_cons_zero, List.set_cons_succ])
                refine wpAnyH_tk 13 (v := ?vx38) rfl (by kernel_rfl) (by kernel_rfl) (by kernel_rfl) (fun _ _ _ h => h) (by rfl) ?hy38 (by assumption) ?_
                case hy38 => (intro w hSw; (try dsimp only at hSw); go_simp <;> with_reducible rfl)
                (try simp only [Act.put, List.setIfInBounds_toArray, List.set_cons_zero, List.set_cons_succ])
                refine wpAnyH_two 0 9 rfl rfl (by kernel_rfl) (by rfl) (by rfl) (fun K hK => ?_) (fun K hK => ?_)
                · skip
                  go_simp
                  have hsz39 := Ed.out.size
                  have O46_39 : Hid (OwnI wr.drew.heap.size (wr.drew.drew.alloc (.cells #[] 3)) (.slice (some ⟨wr.drew.heap.size, 0, none⟩) 0 0) []) := World.ownsRow_lit (base := wr.drew.heap.size) (e := 3) (size := 1) wr.drew.drew #[] 0 hsz39 (by decide) rfl
                  have E_39 : Hid (Ext wr.drew (wr.drew.drew.alloc (.cells #[] 3))) := Ed.out.alloc (.cells #[] 3)
                  refine hK.out _ _ ?hS39 (fun hHeld => ?_)
                  case hS39 => (first | exact E_39.out.cell dx | ((try dsimp only); exact E_39.out.cell dx))
                  clear hK K
                  (try simp only [Act.put, List.setIfInBounds_toArray, List.set_cons_zero, List.set_cons_succ])
                  refine wpAnyH_two 4 9 rfl rfl (by kernel_rfl) (by rfl) (by rfl) (fun K hK => ?_) (fun K hK => ?_)
                  · skip
                    have hsz40 := E_39.out.size
                    refine wp_append_ints _ _ rfl wr.drew.heap.size (.slice (some ⟨wr.drew.heap.size, 0, none⟩) 0 0) [] (by rfl) O46_39.out _ _ _ (had.take at_) (by rfl) ?m40 ?n40 ?c40 ?l40 hsz40 ?_
                    case m40 => (first | (rw [List.length_take]; omega) | rw [List.length_take])
                    case n40 => (intro h0; simp at h0)
                    case c40 => (intro k hk; exact cells_take (HH5.out.ext E_39.out) hal k hk)
                    case l40 => (rw [List.length_take, List.length_nil]; omega)
                    intro v40 wz40 hown40 hg40
                    have O50_40 := hid hown40
                    have E_40 : Hid (Ext wr.drew wz40) := (Below.grown E_39.out hg40 hsz40 (fun k hk => (O46_39.out.lt k hk).1))
                    clear hown40 hg40
                    refine hK.out _ _ ?hS40 (fun hHeld => ?_)
                    case hS40 => (first | exact E_40.out.cell dx | ((try dsimp only); exact E_40.out.cell dx))
                    clear hK K
                    (try simp only [Act.put, List.setIfInBounds_toArray, List.set_cons_zero, List.set_cons_succ])
                    refine wpAnyH_one 9 rfl (by kernel_rfl) (by rfl) (fun K hK => ?_)
                    go_simp
                    have O46_41 := hid (World.ownsRow.alloc O46_39.out (.cells #[.int .i64 x] 3))
                    have O50_41 := hid (World.ownsRow.alloc O50_40.out (.cells #[.int .i64 x] 3))
                    have hsz41 := E_40.out.size
                    have O55_41 : Hid (OwnI wr.drew.heap.size (wz40.alloc (.cells #[.int .i64 x] 3)) (.slice (some ⟨wz40.heap.size, 0, none⟩) 1 1) [x]) := World.ownsRow_lit (base := wr.drew.heap.size) (e := 3) (size := 1) wz40 #[.int .i64 x] 1 hsz41 (by decide) rfl
                    have E_41 : Hid (Ext wr.drew (wz40.alloc (.cells #[.int .i64 x] 3))) := E_40.out.alloc (.cells #[.int .i64 x] 3)
                    refine hK.out _ _ ?hS41 (fun hHeld => ?_)
                    case hS41 => (first | exact E_41.out.cell dx | ((try dsimp only); exact E_41.out.cell dx))
                    clear hK K
                    (try simp only [Act.put, List.setIfInBounds_toArray, List.set_cons_zero, List.set_cons_succ])
                    refine wpAnyH_one 10 rfl (by kernel_rfl) (by rfl) (fun K hK => ?_)
                    have hsz42 := E_41.out.size
                    refine wp_append_ints _ _ rfl wr.drew.heap.size v40 (had.take at_) (by rfl) O50_41.out (some ⟨wz40.heap.size, 0, none⟩) 1 1 [x] (by rfl) rfl (by simp) (cells_one O55_41.out) (by rw [List.length_take, List.length_singleton]; omega) hsz42 ?_
                    intro v42 wz42 hown42 hg42
                    have O56_42 := hid hown42
                    have E_42 : Hid (Ext wr.drew wz42) := (Below.grown E_41.out hg42 hsz42 (fun k hk => (O50_41.out.lt k hk).1))
                    clear hown42 hg42
                    refine hK.out _ _ ?hS42 (fun hHeld => ?_)
                    case hS42 => (first | exact E_42.out.cell dx | ((try dsimp only); exact E_42.out.cell dx))
                    clear hK K
                    (try simp only [Act.put, List.setIfInBounds_toArray, List.set_cons_zero, List.set_cons_succ])
                    refine wpAnyH_one 14 rfl (by kernel_rfl) (by rfl) (fun K hK => ?_)
                    have hsz43 := E_42.out.size
                    refine wp_append_ints _ _ rfl wr.drew.heap.size v42 (had.take at_ ++ [x]) (by rfl) O56_42.out _ _ _ (had.drop at_) (by rfl) ?m43 ?n43 ?c43 ?l43 hsz43 ?_
                    case m43 => (first | (rw [List.length_drop]; omega) | rw [List.length_drop])
                    case n43 => (intro h0; split at h0 <;> simp at h0)
                    case c43 => (intro k hk; exact cells_drop hcapH (HH5.out.ext E_42.out) hal k hk)
                    case l43 => (rw [List.length_append, List.length_take, List.length_drop, List.length_singleton]; omega)
                    intro v43 wz43 hown43 hg43
                    have O60_43 := hid hown43
                    have E_43 : Hid (Ext wr.drew wz43) := (Below.grown E_42.out hg43 hsz43 (fun k hk => (O56_42.out.lt k hk).1))
                    clear hown43 hg43
                    refine hK.out _ _ ?hS43 (fun hHeld => ?_)
                    case hS43 => (first | exact E_43.out.cell dx | ((try dsimp only); exact E_43.out.cell dx))
                    clear hK K
                    (try simp only [Act.put, List.setIfInBounds_toArray, List.set_cons_zero, List.set_cons_succ])
                    refine wpAnyH_tk 15 (v := ?vx44) rfl (by kernel_rfl) (by kernel_rfl) (by kernel_rfl) (fun _ _ _ h => h) (by rfl) ?hy44 (by assumption) ?_
                    case hy44 => (intro w hSw; (try dsimp only at hSw); go_simp <;> with_reducible rfl)
                    (try simp only [Act.put, List.setIfInBounds_toArray, List.set_cons_zero, List.set_cons_succ])
                    refine wpAnyH_done (by kernel_rfl) ?_ _
                    have HN : Hid (OwnI 0 wz43 _ ((had.take at_ ++ [x]) ++ had.drop at_)) := ownsRow_base O60_43.out (Nat.zero_le _)
                    have HP2 : Hid (((had.take at_ ++ [x]) ++ had.drop at_).Perm (colTo L h (j + 1))) := by
                      show List.Perm _ _
                      rw [Hs.out]
                      exact ins_perm.trans (PERM.out.append_right [x])
                    have HS2 : Hid (((had.take at_ ++ [x]) ++ had.drop at_).Pairwise (fun a b => rankP (rowAt p.hands h) a ≤ rankP (rowAt p.hands h) b)) := ins_sorted SORT.out hal LOW.out HIGH.out
                    have HO2 := hid (ownsRow_ext OUT.out (HE.out.trans E_43.out))
                    have HE2 := hid (E.out.trans (HE.out.trans E_43.out))
                    clear dx
                    go_wp2
                    all_goals
                      go_roundg (L.length - (j + 1))
                      case rel => exact ⟨j + 1, _, by omega, by go_num, HP2.out, HS2.out, HN.out, HO2.out, HE2.out⟩
                      case measure => have := Hj.out; omega
                  · skip
                    go_simp
                    have O46_45 := hid (World.ownsRow.alloc O46_39.out (.cells #[.int .i64 x] 3))
                    have hsz45 := E_39.out.size
                    have O55_45 : Hid (OwnI wr.drew.heap.size ((wr.drew.drew.alloc (.cells #[] 3)).alloc (.cells #[.int .i64 x] 3)) (.slice (some ⟨wr.drew.heap.size + 1, 0, none⟩) 1 1) [x]) := by have h := World.ownsRow_lit (base := wr.drew.heap.size) (e := 3) (size := 1) (wr.drew.drew.alloc (.cells #[] 3)) #[.int .i64 x] 1 hsz45 (by decide) rfl; rwa [show (wr.drew.drew.alloc (.cells #[] 3)).heap.size = wr.drew.heap.size + 1 from by simp] at h
                    have E_45 : Hid (Ext wr.drew ((wr.drew.drew.alloc (.cells #[] 3)).alloc (.cells #[.int .i64 x] 3))) := E_39.out.alloc (.cells #[.int .i64 x] 3)
                    refine hK.out _ _ ?hS45 (fun hHeld => ?_)
                    case hS45 => (first | exact E_45.out.cell dx | ((try dsimp only); exact E_45.out.cell dx))
                    clear hK K
                    (try simp only [Act.put, List.setIfInBounds_toArray, List.set_cons_zero, List.set_cons_succ])
                    refine wpAnyH_one 4 rfl (by kernel_rfl) (by rfl) (fun K hK => ?_)
                    have hsz46 := E_45.out.size
                    refine wp_append_ints _ _ rfl wr.drew.heap.size (.slice (some ⟨wr.drew.heap.size, 0, none⟩) 0 0) [] (by rfl) O46_45.out _ _ _ (had.take at_) (by rfl) ?m46 ?n46 ?c46 ?l46 hsz46 ?_
                    case m46 => (first | (rw [List.length_take]; omega) | rw [List.length_take])
                    case n46 => (intro h0; simp at h0)
                    case c46 => (intro k hk; exact cells_take (HH5.out.ext E_45.out) hal k hk)
                    case l46 => (rw [List.length_take, List.length_nil]; omega)
                    intro v46 wz46 hown46 hg46
                    have O55_46 := hid (World.ownsRow.kept O55_45.out hg46 (.inr (by simp [Value.ownBlock])))
                    have O50_46 := hid hown46
                    have E_46 : Hid (Ext wr.drew wz46) := (Below.grown E_45.out hg46 hsz46 (fun k hk => (O46_45.out.lt k hk).1))
                    clear hown46 hg46
                    refine hK.out _ _ ?hS46 (fun hHeld => ?_)
                    case hS46 => (first | exact E_46.out.cell dx | ((try dsimp only); exact E_46.out.cell dx))
                    clear hK K
                    (try simp only [Act.put, List.setIfInBounds_toArray, List.set_cons_zero, List.set_cons_succ])
                    refine wpAnyH_one 10 rfl (by kernel_rfl) (by rfl) (fun K hK => ?_)
                    have hsz47 := E_46.out.size
                    refine wp_append_ints _ _ rfl wr.drew.heap.size v46 (had.take at_) (by rfl) O50_46.out (some ⟨wr.drew.heap.size + 1, 0, none⟩) 1 1 [x] (by rfl) rfl (by simp) (cells_one O55_46.out) (by rw [List.length_take, List.length_singleton]; omega) hsz47 ?_
                    intro v47 wz47 hown47 hg47
                    have O56_47 := hid hown47
                    have E_47 : Hid (Ext wr.drew wz47) := (Below.grown E_46.out hg47 hsz47 (fun k hk => (O50_46.out.lt k hk).1))
                    clear hown47 hg47
                    refine hK.out _ _ ?hS47 (fun hHeld => ?_)
                    case hS47 => (first | exact E_47.out.cell dx | ((try dsimp only); exact E_47.out.cell dx))
                    clear hK K
                    (try simp only [Act.put, List.setIfInBounds_toArray, List.set_cons_zero, List.set_cons_succ])
                    refine wpAnyH_one 14 rfl (by kernel_rfl) (by rfl) (fun K hK => ?_)
                    have hsz48 := E_47.out.size
                    refine wp_append_ints _ _ rfl wr.drew.heap.size v47 (had.take at_ ++ [x]) (by rfl) O56_47.out _ _ _ (had.drop at_) (by rfl) ?m48 ?n48 ?c48 ?l48 hsz48 ?_
                    case m48 => (first | (rw [List.length_drop]; omega) | rw [List.length_drop])
                    case n48 => (intro h0; split at h0 <;> simp at h0)
                    case c48 => (intro k hk; exact cells_drop hcapH (HH5.out.ext E_47.out) hal k hk)
                    case l48 => (rw [List.length_append, List.length_take, List.length_drop, List.length_singleton]; omega)
                    intro v48 wz48 hown48 hg48
                    have O60_48 := hid hown48
                    have E_48 : Hid (Ext wr.drew wz48) := (Below.grown E_47.out hg48 hsz48 (fun k hk => (O56_47.out.lt k hk).1))
                    clear hown48 hg48
                    refine hK.out _ _ ?hS48 (fun hHeld => ?_)
                    case hS48 => (first | exact E_48.out.cell dx | ((try dsimp only); exact E_48.out.cell dx))
                    clear hK K
                    (try simp only [Act.put, List.setIfInBounds_toArray, List.set_cons_zero, List.set_cons_succ])
                    refine wpAnyH_tk 15 (v := ?vx49) rfl (by kernel_rfl) (by kernel_rfl) (by kernel_rfl) (fun _ _ _ h => h) (by rfl) ?hy49 (by assumption) ?_
                    case hy49 => (intro w hSw; (try dsimp only at hSw); go_simp <;> with_reducible rfl)
                    (try simp only [Act.put, List.setIfInBounds_toArray, List.set_cons_zero, List.set_cons_succ])
                    refine wpAnyH_done (by kernel_rfl) ?_ _
                    have HN : Hid (OwnI 0 wz48 _ ((had.take at_ ++ [x]) ++ had.drop at_)) := ownsRow_base O60_48.out (Nat.zero_le _)
                    have HP2 : Hid (((had.take at_ ++ [x]) ++ had.drop at_).Perm (colTo L h (j + 1))) := by
                      show List.Perm _ _
                      rw [Hs.out]
                      exact ins_perm.trans (PERM.out.append_right [x])
                    have HS2 : Hid (((had.take at_ ++ [x]) ++ had.drop at_).Pairwise (fun a b => rankP (rowAt p.hands h) a ≤ rankP (rowAt p.hands h) b)) := ins_sorted SORT.out hal LOW.out HIGH.out
                    have HO2 := hid (ownsRow_ext OUT.out (HE.out.trans E_48.out))
                    have HE2 := hid (E.out.trans (HE.out.trans E_48.out))
                    clear dx
                    go_wp2
                    all_goals
                      go_roundg (L.length - (j + 1))
                      case rel => exact ⟨j + 1, _, by omega, by go_num, HP2.out, HS2.out, HN.out, HO2.out, HE2.out⟩
                      case measure => have := Hj.out; omega
                · skip
                  go_simp
                  have hsz50 := Ed.out.size
                  have O55_50 : Hid (OwnI wr.drew.heap.size (wr.drew.drew.alloc (.cells #[.int .i64 x] 3)) (.slice (some ⟨wr.drew.heap.size, 0, none⟩) 1 1) [x]) := World.ownsRow_lit (base := wr.drew.heap.size) (e := 3) (size := 1) wr.drew.drew #[.int .i64 x] 1 hsz50 (by decide) rfl
                  have E_50 : Hid (Ext wr.drew (wr.drew.drew.alloc (.cells #[.int .i64 x] 3))) := Ed.out.alloc (.cells #[.int .i64 x] 3)
                  refine hK.out _ _ ?hS50 (fun hHeld => ?_)
                  case hS50 => (first | exact E_50.out.cell dx | ((try dsimp only); exact E_50.out.cell dx))
                  clear hK K
                  (try simp only [Act.put, List.setIfInBounds_toArray, List.set_cons_zero, List.set_cons_succ])
                  refine wpAnyH_one 0 rfl (by kernel_rfl) (by rfl) (fun K hK => ?_)
                  go_simp
                  have O55_51 := hid (World.ownsRow.alloc O55_50.out (.cells #[] 3))
                  have hsz51 := E_50.out.size
                  have O46_51 : Hid (OwnI wr.drew.heap.size ((wr.drew.drew.alloc (.cells #[.int .i64 x] 3)).alloc (.cells #[] 3)) (.slice (some ⟨wr.drew.heap.size + 1, 0, none⟩) 0 0) []) := by have h := World.ownsRow_lit (base := wr.drew.heap.size) (e := 3) (size := 1) (wr.drew.drew.alloc (.cells #[.int .i64 x] 3)) #[] 0 hsz51 (by decide) rfl; rwa [show (wr.drew.drew.alloc (.cells #[.int .i64 x] 3)).heap.size = wr.drew.heap.size + 1 from by simp] at h
                  have E_51 : Hid (Ext wr.drew ((wr.drew.drew.alloc (.cells #[.int .i64 x] 3)).alloc (.cells #[] 3))) := E_50.out.alloc (.cells #[] 3)
                  refine hK.out _ _ ?hS51 (fun hHeld => ?_)
                  case hS51 => (first | exact E_51.out.cell dx | ((try dsimp only); exact E_51.out.cell dx))
                  clear hK K
                  (try simp only [Act.put, List.setIfInBounds_toArray, List.set_cons_zero, List.set_cons_succ])
                  refine wpAnyH_one 4 rfl (by kernel_rfl) (by rfl) (fun K hK => ?_)
                  have hsz52 := E_51.out.size
                  refine wp_append_ints _ _ rfl wr.drew.heap.size (.slice (some ⟨wr.drew.heap.size + 1, 0, none⟩) 0 0) [] (by rfl) O46_51.out _ _ _ (had.take at_) (by rfl) ?m52 ?n52 ?c52 ?l52 hsz52 ?_
                  case m52 => (first | (rw [List.length_take]; omega) | rw [List.length_take])
                  case n52 => (intro h0; simp at h0)
                  case c52 => (intro k hk; exact cells_take (HH5.out.ext E_51.out) hal k hk)
                  case l52 => (rw [List.length_take, List.length_nil]; omega)
                  intro v52 wz52 hown52 hg52
                  have O55_52 := hid (World.ownsRow.kept O55_51.out hg52 (.inr (by simp [Value.ownBlock])))
                  have O50_52 := hid hown52
                  have E_52 : Hid (Ext wr.drew wz52) := (Below.grown E_51.out hg52 hsz52 (fun k hk => (O46_51.out.lt k hk).1))
                  clear hown52 hg52
                  refine hK.out _ _ ?hS52 (fun hHeld => ?_)
                  case hS52 => (first | exact E_52.out.cell dx | ((try dsimp only); exact E_52.out.cell dx))
                  clear hK K
                  (try simp only [Act.put, List.setIfInBounds_toArray, List.set_cons_zero, List.set_cons_succ])
                  refine wpAnyH_one 10 rfl (by kernel_rfl) (by rfl) (fun K hK => ?_)
                  have hsz53 := E_52.out.size
                  refine wp_append_ints _ _ rfl wr.drew.heap.size v52 (had.take at_) (by rfl) O50_52.out (some ⟨wr.drew.heap.size, 0, none⟩) 1 1 [x] (by rfl) rfl (by simp) (cells_one O55_52.out) (by rw [List.length_take, List.length_singleton]; omega) hsz53 ?_
                  intro v53 wz53 hown53 hg53
                  have O56_53 := hid hown53
                  have E_53 : Hid (Ext wr.drew wz53) := (Below.grown E_52.out hg53 hsz53 (fun k hk => (O50_52.out.lt k hk).1))
                  clear hown53 hg53
                  refine hK.out _ _ ?hS53 (fun hHeld => ?_)
                  case hS53 => (first | exact E_53.out.cell dx | ((try dsimp only); exact E_53.out.cell dx))
                  clear hK K
                  (try simp only [Act.put, List.setIfInBounds_toArray, List.set_cons_zero, List.set_cons_succ])
                  refine wpAnyH_one 14 rfl (by kernel_rfl) (by rfl) (fun K hK => ?_)
                  have hsz54 := E_53.out.size
                  refine wp_append_ints _ _ rfl wr.drew.heap.size v53 (had.take at_ ++ [x]) (by rfl) O56_53.out _ _ _ (had.drop at_) (by rfl) ?m54 ?n54 ?c54 ?l54 hsz54 ?_
                  case m54 => (first | (rw [List.length_drop]; omega) | rw [List.length_drop])
                  case n54 => (intro h0; split at h0 <;> simp at h0)
                  case c54 => (intro k hk; exact cells_drop hcapH (HH5.out.ext E_53.out) hal k hk)
                  case l54 => (rw [List.length_append, List.length_take, List.length_drop, List.length_singleton]; omega)
                  intro v54 wz54 hown54 hg54
                  have O60_54 := hid hown54
                  have E_54 : Hid (Ext wr.drew wz54) := (Below.grown E_53.out hg54 hsz54 (fun k hk => (O56_53.out.lt k hk).1))
                  clear hown54 hg54
                  refine hK.out _ _ ?hS54 (fun hHeld => ?_)
                  case hS54 => (first | exact E_54.out.cell dx | ((try dsimp only); exact E_54.out.cell dx))
                  clear hK K
                  (try simp only [Act.put, List.setIfInBounds_toArray, List.set_cons_zero, List.set_cons_succ])
                  refine wpAnyH_tk 15 (v := ?vx55) rfl (by kernel_rfl) (by kernel_rfl) (by kernel_rfl) (fun _ _ _ h => h) (by rfl) ?hy55 (by assumption) ?_
                  case hy55 => (intro w hSw; (try dsimp only at hSw); go_simp <;> with_reducible rfl)
                  (try simp only [Act.put, List.setIfInBounds_toArray, List.set_cons_zero, List.set_cons_succ])
                  refine wpAnyH_done (by kernel_rfl) ?_ _
                  have HN : Hid (OwnI 0 wz54 _ ((had.take at_ ++ [x]) ++ had.drop at_)) := ownsRow_base O60_54.out (Nat.zero_le _)
                  have HP2 : Hid (((had.take at_ ++ [x]) ++ had.drop at_).Perm (colTo L h (j + 1))) := by
                    show List.Perm _ _
                    rw [Hs.out]
                    exact ins_perm.trans (PERM.out.append_right [x])
                  have HS2 : Hid (((had.take at_ ++ [x]) ++ had.drop at_).Pairwise (fun a b => rankP (rowAt p.hands h) a ≤ rankP (rowAt p.hands h) b)) := ins_sorted SORT.out hal LOW.out HIGH.out
                  have HO2 := hid (ownsRow_ext OUT.out (HE.out.trans E_54.out))
                  have HE2 := hid (E.out.trans (HE.out.trans E_54.out))
                  clear dx
                  go_wp2
                  all_goals
                    go_roundg (L.length - (j + 1))
                    case rel => exact ⟨j + 1, _, by omega, by go_num, HP2.out, HS2.out, HN.out, HO2.out, HE2.out⟩
                    case measure => have := Hj.out; omega
        · have ej : j = L.length := by omega
          have hpm := PERM.out
          rw [ej, colTo_all] at hpm
          have hkn : (k - 1).toNat < L.length := by omega
          have Hmid := hid (midV_of (p := p) (j := (k - 1).toNat) hpm SORT.out hkn)
          have hyl : had.length = L.length := by rw [hpm.length_eq, List.length_map]
          have hyi := HAD.out.ints (by omega)
          obtain ⟨-, aoy, cpy, rfl, -⟩ := id hyi
          obtain ⟨by_, oy, rfl, -, hcy⟩ := hyi.get (k - 1).toNat (by omega)
          have dy : wr.cell? ⟨by_, oy + (k.toNat - 1), none⟩ = some (.int .i64 (fn had (k - 1).toNat)) := by rw [show k.toNat - 1 = (k - 1).toNat by omega]; exact hcy _ (Ext.refl _)
          have Hyl := hid hyl
          have hk3 : k - 1 < had.length := by omega
          have hk4 : 0 ≤ k - 1 := by omega
          have hmlen : m.length ≤ 6 := by have := Hml.out; omega
          have hsz6 := E.out.size
          clear hyi hcy hyl ej hpm PERM SORT HAD
          generalize fn had (k - 1).toNat = z at *
          go_wp2_with (at_builtin; go_must (refine wpList_append_own _ rfl _ _ 23 rfl W.heap.size 3 i0 (.int .i64 0) 1 8 Try.underlying23 hi hz0 hz1 hz2 rfl (by decide) _ _ _ rfl (OUT.out.alloc _) ⟨wr.heap.size, 0, none⟩ 1 1 [.int .i64 z] rfl rfl (cell_one_new _ _ _) (by intro u hu; simp at hu; subst hu; rfl) (by unfold maxLen; omega) (by omega) (by simp; omega) ?_))
          intro vz w7 hown' hg _
          have hN := OwnI.push rfl hown'
          have hE := Ext.push E.out OUT.out (Nat.le_refl _) hg
          have HN := hid hN
          have HE7 := hid hE
          have Hmv2 : Hid (∀ x, x < h + 1 → MidV p L (k - 1).toNat x (fn (m ++ [z]) x)) := fun x hx => by
            rcases Nat.lt_or_ge x h with h' | h'
            · have e1 : fn (m ++ [z]) x = fn m x := by
                rw [fn_get (by rw [List.length_append]; have := Hml.out; omega), fn_get (by have := Hml.out; omega), List.getElem_append_left]
              rw [e1]; exact Hmv.out x h'
            · obtain rfl : x = h := by omega
              have e1 : fn (m ++ [z]) x = z := by
                rw [fn_get (by rw [List.length_append, List.length_singleton]; have := Hml.out; omega), List.getElem_append_right (by have := Hml.out; omega)]; simp
              rw [e1]; exact Hmid.out
          clear hown' hg hN hE dy
          go_wp2
          go_roundg (p.hands.length - (h + 1))
          case rel => exact ⟨h + 1, _, by omega, by go_num, by show List.length _ = _; rw [List.length_append, Hml.out]; rfl, Hmv2, HN.out, HE7.out⟩
          case measure => have := Hh.out; omega
    · have eh : h = p.hands.length := by omega
      have HM : Hid (MidL p (stAll p hok) (k - 1).toNat m) := ⟨by rw [Hml.out, eh], fun x hx => by rw [← HL.out]; exact Hmv.out x (by omega)⟩
      clear eh
      go_wp2
      go_ret
      exact ⟨_, m, rfl, ownsRow_base OUT.out hszW, HM.out, HEW.out.trans E.out⟩

end Go.Proofs.Ytkdfbbkonbgfmaa
