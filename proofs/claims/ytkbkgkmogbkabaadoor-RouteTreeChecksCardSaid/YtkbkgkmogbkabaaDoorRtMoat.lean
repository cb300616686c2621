/-
  Moats: what a slice of moats reads as; the statements' copy of moats.
-/
import Derived.Test.YtkbkgkmogbkabaaDoorRtOf
namespace Go.Proofs.YtkbkgkmogbkabaaDoor
open Go.RowKit

/-- A moat, as data. -/
structure MoatD where
  set : Int
  width : Int
deriving DecidableEq
instance : Inhabited MoatD := ⟨⟨0, 0⟩⟩
def MoatD.cells (r : MoatD) : List Value := [.int .i64 r.set, .int .i64 r.width]
def mcells (rs : List MoatD) : List Value := rs.flatMap MoatD.cells
theorem mcells_len (rs : List MoatD) : (mcells rs).length = rs.length * 2 := by
  induction rs with
  | nil => rfl
  | cons q rs ih =>
    have e : mcells (q :: rs) = .int .i64 q.set :: .int .i64 q.width :: mcells rs := rfl
    rw [e, List.length_cons, List.length_cons, ih, List.length_cons]; omega
theorem mcells_get : ∀ (rs : List MoatD) (i : Nat) (h : i < rs.length), (mcells rs)[i * 2]? = some (.int .i64 rs[i].set) ∧ (mcells rs)[i * 2 + 1]? = some (.int .i64 rs[i].width)
  | [], i, h => by simp at h
  | q :: rs, 0, h => ⟨rfl, rfl⟩
  | q :: rs, i + 1, h => by
    have ih := mcells_get rs i (by simpa using h)
    have e : mcells (q :: rs) = .int .i64 q.set :: .int .i64 q.width :: mcells rs := rfl
    rw [e, show (i + 1) * 2 = i * 2 + 1 + 1 from by omega]
    exact ih
theorem mcells_app (xs ys : List MoatD) : mcells (xs ++ ys) = mcells xs ++ mcells ys := by unfold mcells; rw [List.flatMap_append]

/-- The slice v reads as moats. -/
def Moats (w : World) (v : Value) (rs : List MoatD) : Prop :=
  rs.length ≤ 8796093022208 ∧ ∃ ao cap, v = .slice ao rs.length cap ∧ rs.length ≤ cap ∧
    ∀ i, (h : i < rs.length) → ∃ b off, ao = some ⟨b, off, none⟩ ∧ w.cell? ⟨b, off + i * 2, none⟩ = some (.int .i64 rs[i].set) ∧ w.cell? ⟨b, off + i * 2 + 1, none⟩ = some (.int .i64 rs[i].width)
theorem Moats.ext {w w' : World} {v : Value} {rs : List MoatD} (h : Moats w v rs) (e : Ext w w') : Moats w' v rs := by
  obtain ⟨hl, ao, cap, rfl, hcap, hc⟩ := h
  refine ⟨hl, ao, cap, rfl, hcap, fun i hi => ?_⟩
  obtain ⟨b, off, ha, h1, h2⟩ := hc i hi
  exact ⟨b, off, ha, e.cell h1, e.cell h2⟩
def moatAt (rs : List MoatD) (i : Nat) : MoatD := rs.getD i ⟨0, 0⟩
theorem moatAt_get {rs : List MoatD} {i : Nat} (h : i < rs.length) : moatAt rs i = rs[i] := by
  unfold moatAt; rw [List.getD_eq_getElem?_getD, List.getElem?_eq_getElem h]; rfl
theorem moatAt_mem {rs : List MoatD} {i : Nat} (h : i < rs.length) : moatAt rs i ∈ rs := by rw [moatAt_get h]; exact List.getElem_mem h
theorem Moats.get {w : World} {ao : Option Addr} {n cap : Nat} {rs : List MoatD} (h : Moats w (.slice ao n cap) rs) (i : Nat) (hi : i < rs.length) :
    ∃ b off, ao = some ⟨b, off, none⟩ ∧ (∀ w', Ext w w' → w'.cell? ⟨b, off + i * 2, none⟩ = some (.int .i64 (moatAt rs i).set) ∧ w'.cell? ⟨b, off + i * 2 + 1, none⟩ = some (.int .i64 (moatAt rs i).width)) := by
  obtain ⟨hl, ao', cap', he, hcap, hc⟩ := h
  simp only [Value.slice.injEq] at he
  obtain ⟨rfl, rfl, rfl⟩ := he
  obtain ⟨b, off, ha, h1, h2⟩ := hc i hi
  rw [moatAt_get hi]
  exact ⟨b, off, ha, fun w' e => ⟨e.cell h1, e.cell h2⟩⟩
theorem Moats.shape {w : World} {v : Value} {rs : List MoatD} (h : Moats w v rs) : ∃ ao cap, v = .slice ao rs.length cap := by
  obtain ⟨-, ao, cap, rfl, -⟩ := h; exact ⟨_, _, rfl⟩

/-- Moats of the call's own. -/
abbrev OwnMt (B : Nat) (w : World) (v : Value) (rs : List MoatD) : Prop := w.ownsRow B 74 2 v rs.length (mcells rs)
theorem OwnMt.moats {B : Nat} {w : World} {v : Value} {rs : List MoatD} (h : OwnMt B w v rs) (hl : rs.length ≤ 8796093022208) : Moats w v rs := by
  refine ⟨hl, ?_⟩
  have h0 := h
  obtain ⟨hlen, h | ⟨g, cap, cur, rfl, hg, hh, hn, hm, hs, ht⟩⟩ := h
  · obtain ⟨rfl, hn⟩ := h
    exact ⟨none, 0, by rw [hn], by omega, fun i hi => by omega⟩
  · refine ⟨_, cap, rfl, hn, fun i hi => ⟨g, 0, rfl, ?_, ?_⟩⟩
    · have h2 := World.ownsRow.cells h0 rfl (i * 2) _ (mcells_get rs i hi).1
      rw [Addr.add_lit] at h2; exact h2
    · have h2 := World.ownsRow.cells h0 rfl (i * 2 + 1) _ (mcells_get rs i hi).2
      rw [Addr.add_lit] at h2; exact h2
theorem OwnMt.push {B : Nat} {w' : World} {v' : Value} {rs : List MoatD} {r : MoatD} {n : Nat} (hn : n = rs.length + 1) (h : w'.ownsRow B 74 2 v' n (mcells rs ++ r.cells)) : OwnMt B w' v' (rs ++ [r]) := by
  subst hn
  show w'.ownsRow B _ 2 v' (rs ++ [r]).length (mcells (rs ++ [r]))
  rw [List.length_append, mcells_app]
  have e : mcells [r] = r.cells := by simp [mcells]
  rw [e]; exact h
theorem info_moat : (Tryd.prog.info? 74).map (fun i => (i.zero, i.size, i.bytes)) = some (some (.agg #[.int .i64 0, .int .i64 0]), 2, 16) := by kernel_rfl
theorem cell_two_new (w : World) (t : TypeId) (x y : Value) : ∀ (j : Nat) (u : Value), [x, y][j]? = some u → (w.alloc (.cells #[x, y] t)).cell? ((⟨w.heap.size, 0, none⟩ : Addr).add j) = some u := by
  intro j u hj
  obtain ⟨c0, c1⟩ := (Box2.alloc w t x y).cells
  rw [Addr.add_lit]
  match j, hj with
  | 0, hj => simp at hj; subst hj; exact c0
  | 1, hj => simp at hj; subst hj; exact c1

def cutMo (rs : List MoatD) (k : Nat) : List MoatD := (rs.take k).take 202
theorem cutMo_hit {rs : List MoatD} {k : Nat} (hk : k < rs.length) (h : k < 202) : cutMo rs (k + 1) = cutMo rs k ++ [moatAt rs k] := by
  unfold cutMo
  rw [List.take_take, List.take_take, Nat.min_eq_right (by omega), Nat.min_eq_right (by omega), List.take_succ_eq_append_getElem hk, moatAt_get hk]
theorem cutMo_miss {rs : List MoatD} {k : Nat} (h : 202 ≤ k) : cutMo rs (k + 1) = cutMo rs k := by
  unfold cutMo
  rw [List.take_take, List.take_take, Nat.min_eq_left (by omega), Nat.min_eq_left (by omega)]
theorem cutMo_len (rs : List MoatD) (k : Nat) : (cutMo rs k).length ≤ 202 := by unfold cutMo; rw [List.length_take]; omega
theorem cutMo_all (rs : List MoatD) : cutMo rs rs.length = rs.take 202 := by unfold cutMo; rw [List.take_of_length_le (Nat.le_refl _)]

set_option maxRecDepth 20000 in
set_option maxHeartbeats 4000000 in
theorem moats_any (v : Value) (ms : List MoatD) (w : World) (hm : Moats w v ms) :
    Calls Tryd.prog 26 #[v] w fun e w' => ∃ u, e = .returned u ∧ OwnMt w.heap.size w' u (ms.take 202) ∧ Ext w w' := by
  obtain ⟨ao, cap, rfl⟩ := hm.shape
  have HM := hid hm
  have hlen : ms.length ≤ 8796093022208 := hm.1
  obtain ⟨i0, hi, hz0, hz1, hz2⟩ := info_parts info_moat
  clear hm
  have HO0 : Hid (OwnMt w.heap.size w (.slice none 0 0) (cutMo ms 0)) := World.ownsRow_nil _ _ _ _
  go_enter Tryd.func26, Tryd.ntmps26
  go_wp2
  go_loopg [8, 3] ms.length (fun g i u wr => ∃ k : Nat, k + g = ms.length ∧ i = .int .i64 k ∧ Hid (OwnMt w.heap.size wr u (cutMo ms k)) ∧ Hid (Ext w wr))
  case atStart => exact ⟨0, by omega, rfl, HO0, Ext.refl _⟩
  case round =>
    clear HO0
    obtain ⟨k, hk, rfl, OWN, E⟩ := hrel
    have hkl : k ≤ ms.length := by omega
    have Hk := hid hk
    clear hk
    by_cases hlt : k < ms.length
    · obtain ⟨b, off, rfl, hc⟩ := Moats.get HM.out k hlt
      obtain ⟨c0, c1⟩ := hc _ E.out
      obtain ⟨av, nv, cv, rfl⟩ := own_shape OWN.out
      have hsz := E.out.size
      clear hc
      by_cases h18 : k < 202
      · have Hc := hid (cutMo_hit hlt h18)
        have hcl := cutMo_len ms k
        generalize moatAt ms k = r at *
        have O2 := hid ((World.ownsRow.alloc OWN.out (.cells #[.int .i64 r.set, .int .i64 r.width] 76)).alloc (.cells #[.int .i64 r.set, .int .i64 r.width] 74))
        have hE := hid ((E.out.alloc (.cells #[.int .i64 r.set, .int .i64 r.width] 76)).alloc (.cells #[.int .i64 r.set, .int .i64 r.width] 74))
        obtain ⟨d0, d1⟩ := (Box2.alloc wr 76 (.int .i64 r.set) (.int .i64 r.width)).cells
        go_wp2_with (at_builtin; go_must (refine wpList_append_own _ rfl _ _ 40 rfl w.heap.size 74 i0 (.agg #[.int .i64 0, .int .i64 0]) 2 16 Tryd.underlying40 hi hz0 hz1 hz2 rfl (by decide) _ _ _ rfl O2.out ⟨wr.heap.size + 1, 0, none⟩ 1 1 [.int .i64 r.set, .int .i64 r.width] rfl rfl ?c1 ?c2 ?c3 ?c4 ?c5 ?_))
        case c1 =>
          have h := cell_two_new (wr.alloc (.cells #[.int .i64 r.set, .int .i64 r.width] 76)) 74 (.int .i64 r.set) (.int .i64 r.width)
          rw [World.size_alloc] at h
          exact h
        case c2 => intro u hu; simp at hu; rcases hu with rfl | rfl <;> rfl
        case c3 => unfold maxLen; omega
        case c4 => omega
        case c5 => simp; omega
        intro v' w7 hown' hg _
        have hR := OwnMt.push rfl hown'
        rw [← Hc.out] at hR
        have hB := (Below.refl w.heap.size _).grown hg (by simp; omega) (fun k hk => (O2.out.lt k hk).1)
        have HE7 : Hid (Ext w w7) := hE.out.trans' hB (Nat.le_refl _)
        have HR7 := hid hR
        clear hown' hg hR hB c0 c1 d0 d1
        go_wp2
        go_roundg (gk - 1)
        case rel => exact ⟨k + 1, by have := Hk.out; omega, by go_num, HR7.out, HE7.out⟩
        case measure => have := Hk.out; omega
      · have Hc := hid (cutMo_miss (rs := ms) (k := k) (by omega))
        generalize moatAt ms k = r at *
        have HE := hid (E.out.alloc (.cells #[.int .i64 r.set, .int .i64 r.width] 76))
        have O2 := hid (World.ownsRow.alloc OWN.out (.cells #[.int .i64 r.set, .int .i64 r.width] 76))
        go_wp2
        go_roundg (gk - 1)
        case rel => exact ⟨k + 1, by have := Hk.out; omega, by go_num, by rw [Hc.out]; exact O2.out, HE.out⟩
        case measure => have := Hk.out; omega
    · have ek : k = ms.length := by omega
      have hO := OWN.out
      rw [ek, cutMo_all] at hO
      have HO := hid hO
      clear ek hO
      go_wp2
      go_ret
      exact ⟨_, rfl, HO.out, E.out⟩

end Go.Proofs.YtkbkgkmogbkabaaDoor
