/-
  Envy cycles, as data: what turns make of a division; that they end. Plain Lean.
-/
import Derived.Test.YteiamhapplnlaabGreatDoorBase
namespace Go.Proofs.YteiamhapplnlaabGreatDoor

/-- Envy cycles, as data: what the goods of j are worth to i; envy; the first who is not envied. -/
def cWorth (v : List (List Int)) (d : List Int) (i j : Int) : Int := ((d.zip (v.getD i.toNat [])).map fun p => if p.1 = j then p.2 else 0).sum
def cEnvies (v : List (List Int)) (d : List Int) (i j : Int) : Bool := decide (cWorth v d i i < cWorth v d i j)
def cLucky (v : List (List Int)) (d : List Int) : Option Nat := (List.range v.length).find? fun i => (List.range v.length).all fun a => !cEnvies v d a i
def linksB (e : Int → Int → Bool) : List Int → Bool
  | a :: b :: r => e a b && linksB e (b :: r)
  | _ => true
/-- The first way on from c that closes to a cycle of so many. -/
def cGrow (v : List (List Int)) (d : List Int) (long : Nat) : Nat → List Int → Option (List Int)
  | f, c => if c.length = long then (if cEnvies v d (c.getLastD 0) (c.headD 0) = true then some c else none) else match f with
    | 0 => none
    | f + 1 => (List.range v.length).findSome? fun (j : Nat) => if !c.contains (j : Int) && cEnvies v d (c.getLastD 0) j then cGrow v d long f (c ++ [(j : Int)]) else none
def cLong (v : List (List Int)) (d : List Int) (long : Nat) : Option (List Int) := (List.range v.length).findSome? fun (i : Nat) => cGrow v d long (long - 1) [(i : Int)]
/-- The first shortest cycle of envy. -/
def cCircle (v : List (List Int)) (d : List Int) : List Int := ((List.range' 2 (v.length - 1)).findSome? (cLong v d)).getD []
def cTurn (c : List Int) (x : Int) : Int := if x ∈ c then c.getD ((c.idxOf x + c.length - 1) % c.length) 0 else x
/-- Turn until somebody is not envied; then they get good g. -/
def cGo (v : List (List Int)) (g : Nat) : Nat → List Int → List Int
  | 0, d => d
  | f + 1, d => match cLucky v d with
    | some i => d.set g (i : Int)
    | none => cGo v g f (d.map (cTurn (cCircle v d)))
def cyclesB (v : List (List Int)) : List Int := (List.range (v.headD []).length).foldl (fun d g => cGo v g 3000 d) (List.replicate (v.headD []).length (-1))

/-- A cycle of envy. -/
structure Cyc (e : Int → Int → Bool) (n : Nat) (c : List Int) : Prop where
  ne : c ≠ []
  nodup : c.Nodup
  range : ∀ x ∈ c, 0 ≤ x ∧ x < n
  links : linksB e c = true
  close : e (c.getLastD 0) (c.headD 0) = true

theorem linksB_push {e : Int → Int → Bool} {j : Int} : ∀ {c : List Int}, linksB e c = true → (c ≠ [] → e (c.getLastD 0) j = true) → linksB e (c ++ [j]) = true
  | [], _, _ => rfl
  | [a], _, h => by
    have := h (by simp)
    simp only [List.singleton_append, linksB, Bool.and_true]
    simpa using this
  | a :: b :: r, h, k => by
    simp only [linksB, Bool.and_eq_true] at h
    have := linksB_push (j := j) h.2 (fun _ => by have := k (by simp); simpa using this)
    simp only [List.cons_append, linksB, Bool.and_eq_true] at this ⊢
    exact ⟨h.1, this⟩
theorem linksB_idx {e : Int → Int → Bool} : ∀ {c : List Int}, linksB e c = true → ∀ t, (h : t + 1 < c.length) → e c[t] c[t + 1] = true
  | [], _, t, h => by simp at h
  | [a], _, t, h => by simp at h
  | a :: b :: r, k, t, h => by
    simp only [linksB, Bool.and_eq_true] at k
    cases t with
    | zero => exact k.1
    | succ t => exact linksB_idx k.2 t (by simpa using h)
theorem linksB_of {e : Int → Int → Bool} : ∀ {c : List Int}, (∀ t, (h : t + 1 < c.length) → e c[t] c[t + 1] = true) → linksB e c = true
  | [], _ => rfl
  | [a], _ => rfl
  | a :: b :: r, k => by
    simp only [linksB, Bool.and_eq_true]
    exact ⟨k 0 (by simp), linksB_of fun t h => k (t + 1) (by simpa using h)⟩
theorem getLastD_idx {c : List Int} (h : c ≠ []) : c.getLastD 0 = c[c.length - 1]'(by have := List.length_pos_iff.2 h; omega) := by
  rw [List.getLastD_eq_getLast?, List.getLast?_eq_getElem?, List.getElem?_eq_getElem (by have := List.length_pos_iff.2 h; omega)]
  rfl
theorem headD_idx {c : List Int} (h : c ≠ []) : c.headD 0 = c[0]'(List.length_pos_iff.2 h) := by
  cases c with
  | nil => exact absurd rfl h
  | cons a r => rfl
theorem Cyc.next {e : Int → Int → Bool} {n : Nat} {c : List Int} (h : Cyc e n c) {t : Nat} (ht : t < c.length) : e c[t] (c[(t + 1) % c.length]'(Nat.mod_lt _ (by omega))) = true := by
  by_cases k : t + 1 < c.length
  · have := linksB_idx h.links t k
    simp only [Nat.mod_eq_of_lt k]
    exact this
  · have e1 : t + 1 = c.length := by omega
    have := h.close
    rw [getLastD_idx h.ne, headD_idx h.ne] at this
    simp only [e1, Nat.mod_self]
    have e2 : c.length - 1 = t := by omega
    simpa only [e2] using this

/-- What grow finds is a cycle. -/
theorem cGrow_some {v : List (List Int)} {d : List Int} {long : Nat} : ∀ {f : Nat} {c r : List Int}, cGrow v d long f c = some r → c ≠ [] → c.Nodup → (∀ x ∈ c, 0 ≤ x ∧ x < v.length) → linksB (cEnvies v d) c = true → Cyc (cEnvies v d) v.length r ∧ r.length = long
  | f, c, r, h, h0, h1, h2, h3 => by
    unfold cGrow at h
    split at h
    · rename_i hl
      split at h
      · rename_i hc
        cases h
        exact ⟨⟨h0, h1, h2, h3, hc⟩, hl⟩
      · cases h
    · cases f with
      | zero => cases h
      | succ f =>
        obtain ⟨j, hj, hh⟩ := List.exists_of_findSome?_eq_some h
        split at hh
        · rename_i hc
          simp only [Bool.and_eq_true, Bool.not_eq_true', List.contains_eq_mem, decide_eq_false_iff_not] at hc
          have hj' := List.mem_range.1 hj
          refine cGrow_some hh (by simp) ?_ ?_ ?_
          · rw [List.nodup_append]
            refine ⟨h1, by simp, ?_⟩
            intro a ha b hb e
            simp only [List.mem_singleton] at hb
            subst e; subst hb
            exact hc.1 ha
          · intro x hx
            rcases List.mem_append.1 hx with hx | hx
            · exact h2 x hx
            · simp only [List.mem_singleton] at hx
              subst hx
              omega
          · exact linksB_push h3 (fun _ => hc.2)
        · cases hh
/-- Where grow finds nothing, there is no cycle that begins so. -/
theorem cGrow_none {v : List (List Int)} {d : List Int} {long : Nat} : ∀ {f : Nat} {c : List Int}, cGrow v d long f c = none → c ≠ [] → long = c.length + f → ∀ r, c <+: r → r.length = long → ¬ Cyc (cEnvies v d) v.length r
  | f, c, h, h0, hf, r, hp, hr => by
    intro hcy
    unfold cGrow at h
    cases f with
    | zero =>
      rw [if_pos (by omega)] at h
      have : c = r := hp.eq_of_length (by omega)
      subst this
      rw [if_pos hcy.close] at h
      cases h
    | succ f =>
      rw [if_neg (by omega)] at h
      simp only [List.findSome?_eq_none_iff] at h
      obtain ⟨s, rfl⟩ := hp
      cases s with
      | nil => simp at hr; omega
      | cons j s =>
        have hj := hcy.range j (by simp)
        have hnd := hcy.nodup
        have h1 := h j.toNat (List.mem_range.2 (by omega))
        have e1 : ((j.toNat : Nat) : Int) = j := by omega
        rw [e1] at h1
        have hlen : 0 < c.length := List.length_pos_iff.2 h0
        have h2 := linksB_idx hcy.links (c.length - 1) (by simp; omega)
        have hc : (!c.contains j && cEnvies v d (c.getLastD 0) j) = true := by
          simp only [Bool.and_eq_true, Bool.not_eq_true', List.contains_eq_mem, decide_eq_false_iff_not]
          constructor
          · intro hm
            rw [List.nodup_append] at hnd
            exact hnd.2.2 j hm j (by simp) rfl
          · rw [getLastD_idx h0]
            have e2 : (c ++ j :: s)[c.length - 1]'(by simp; omega) = c[c.length - 1] := List.getElem_append_left (by omega)
            have e3 : (c ++ j :: s)[c.length - 1 + 1]'(by simp; omega) = j := by
              rw [List.getElem_append_right (by omega)]
              simp [show c.length - 1 + 1 - c.length = 0 by omega]
            rw [e2, e3] at h2
            exact h2
        rw [if_pos hc] at h1
        exact cGrow_none h1 (by simp) (by simp; omega) _ ⟨s, by simp⟩ hr hcy

theorem nodup_lenC : ∀ (n : Nat) (l : List Int), l.Nodup → (∀ y ∈ l, 0 ≤ y ∧ y < n) → l.length ≤ n
  | 0, l, _, h => by
    cases l with
    | nil => simp
    | cons a l => have := h a (by simp); omega
  | n + 1, l, hn, h => by
    have h1 := nodup_lenC n (l.erase n) (hn.erase _) (fun y hy => by
      have h2 := h y (List.mem_of_mem_erase hy)
      have h3 : y ≠ n := fun e => by subst e; exact (hn.not_mem_erase) hy
      omega)
    rw [List.length_erase] at h1
    split at h1 <;> omega
/-- Where everybody is envied, there is a cycle of envy. -/
theorem cyc_ex {e : Int → Int → Bool} {n : Nat} (h0 : 0 < n) (hirr : ∀ i, e i i = false) (h : ∀ i : Nat, i < n → ∃ a : Nat, a < n ∧ e a i = true) : ∃ r, Cyc e n r ∧ 2 ≤ r.length ∧ r.length ≤ n := by
  -- ways back, as long as they meet nobody twice
  have step : ∀ k : Nat, (∃ r, Cyc e n r ∧ 2 ≤ r.length ∧ r.length ≤ n) ∨ ∃ c : List Int, c.length = k + 1 ∧ c.Nodup ∧ (∀ x ∈ c, 0 ≤ x ∧ x < n) ∧ linksB e c = true := by
    intro k
    induction k with
    | zero => exact .inr ⟨[0], rfl, by simp, by simp; omega, rfl⟩
    | succ k ih =>
      rcases ih with ih | ⟨c, h1, h2, h3, h4⟩
      · exact .inl ih
      · cases c with
        | nil => simp at h1
        | cons x c =>
          have hx := h3 x (by simp)
          obtain ⟨a, ha, hax⟩ := h x.toNat (by omega)
          have e1 : ((x.toNat : Nat) : Int) = x := by omega
          rw [e1] at hax
          by_cases hm : (a : Int) ∈ x :: c
          · -- the way has come back to a
            obtain ⟨t, ht, hat⟩ := List.getElem_of_mem hm
            refine .inl ⟨(x :: c).take (t + 1), ⟨by simp, h2.sublist (List.take_sublist _ _), fun y hy => h3 y (List.mem_of_mem_take hy), linksB_of fun s hs => ?_, ?_⟩, ?_, ?_⟩
            · simp only [List.getElem_take]
              exact linksB_idx h4 s (by simp at hs ⊢; omega)
            · rw [getLastD_idx (by simp), headD_idx (by simp)]
              simp only [List.getElem_take, List.length_take]
              have e2 : min (t + 1) (x :: c).length - 1 = t := by simp at ht ⊢; omega
              simp only [e2, hat]
              exact hax
            · have : t ≠ 0 := by
                rintro rfl
                simp only [List.getElem_cons_zero] at hat
                subst hat
                rw [hirr] at hax
                cases hax
              simp at ht ⊢
              omega
            · have := nodup_lenC n (x :: c) h2 h3
              simp at this ⊢
              omega
          · refine .inr ⟨(a : Int) :: x :: c, by simpa using h1, List.nodup_cons.2 ⟨hm, h2⟩, ?_, ?_⟩
            · intro y hy
              rcases List.mem_cons.1 hy with rfl | hy
              · omega
              · exact h3 y hy
            · simp only [linksB, Bool.and_eq_true]
              exact ⟨hax, h4⟩
  rcases step n with h1 | ⟨c, h1, h2, h3, -⟩
  · exact h1
  · have := nodup_lenC n c h2 h3
    omega
theorem cEnvies_irr (v : List (List Int)) (d : List Int) (i : Int) : cEnvies v d i i = false := by unfold cEnvies; simp
theorem cLucky_none {v : List (List Int)} {d : List Int} (h : cLucky v d = none) : ∀ i : Nat, i < v.length → ∃ a : Nat, a < v.length ∧ cEnvies v d a i = true := by
  intro i hi
  unfold cLucky at h
  rw [List.find?_eq_none] at h
  have := h i (List.mem_range.2 hi)
  simp only [List.all_eq_true, List.mem_range, Bool.not_eq_true', Classical.not_forall] at this
  obtain ⟨a, ha, hb⟩ := this
  exact ⟨a, ha, by simpa using hb⟩
theorem cLucky_some {v : List (List Int)} {d : List Int} {i : Nat} (h : cLucky v d = some i) : i < v.length := by
  unfold cLucky at h
  exact List.mem_range.1 (List.mem_of_find?_eq_some h)
/-- The circle is a cycle of envy. -/
theorem cCircle_cyc {v : List (List Int)} {d : List Int} (h0 : 0 < v.length) (h : cLucky v d = none) : Cyc (cEnvies v d) v.length (cCircle v d) ∧ ∃ long, 2 ≤ long ∧ long ≤ v.length ∧ cLong v d long = some (cCircle v d) ∧ ∀ k, 2 ≤ k → k < long → cLong v d k = none := by
  unfold cCircle
  cases hf : (List.range' 2 (v.length - 1)).findSome? (cLong v d) with
  | none =>
    obtain ⟨r, hr, h2, hn⟩ := cyc_ex h0 (cEnvies_irr v d) (cLucky_none h)
    rw [List.findSome?_eq_none_iff] at hf
    have h1 := hf r.length (by simp [List.mem_range'_1]; omega)
    unfold cLong at h1
    rw [List.findSome?_eq_none_iff] at h1
    have hx := hr.range (r[0]'(by omega)) (List.getElem_mem _)
    have h3 := h1 (r[0]'(by omega)).toNat (List.mem_range.2 (by omega))
    have e1 : (((r[0]'(by omega)).toNat : Nat) : Int) = r[0]'(by omega) := by omega
    rw [e1] at h3
    refine absurd hr (cGrow_none h3 (by simp) (by simp; omega) r ?_ rfl)
    cases r with
    | nil => simp at h2
    | cons a r => exact ⟨r, rfl⟩
  | some r =>
    rw [List.findSome?_eq_some_iff] at hf
    obtain ⟨l1, long, l2, h1, h2, h3⟩ := hf
    have hm : long ∈ List.range' 2 (v.length - 1) := by rw [h1]; simp
    simp only [List.mem_range'_1] at hm
    have h2' := h2
    unfold cLong at h2
    obtain ⟨i, hi, hh⟩ := List.exists_of_findSome?_eq_some h2
    have hi' := List.mem_range.1 hi
    refine ⟨(cGrow_some hh (by simp) (by simp) (by simp; omega) rfl).1, long, by omega, by omega, h2', fun k hk1 hk2 => h3 k ?_⟩
    have hp : (List.range' 2 (v.length - 1)).Pairwise (· < ·) := List.pairwise_lt_range'
    rw [h1] at hp
    have hk : k ∈ List.range' 2 (v.length - 1) := by simp [List.mem_range'_1]; omega
    rw [h1] at hk
    rcases List.mem_append.1 hk with hk | hk
    · exact hk
    · rcases List.mem_cons.1 hk with rfl | hk
      · omega
      · have := (List.pairwise_cons.1 (List.pairwise_append.1 hp).2.1).1 k hk
        omega

theorem sum_le_of {α : Type} {f g : α → Int} : ∀ {l : List α}, (∀ x ∈ l, f x ≤ g x) → (l.map f).sum ≤ (l.map g).sum
  | [], _ => Int.le_refl _
  | a :: l, h => by
    simp only [List.map_cons, List.sum_cons]
    have := h a (by simp)
    have := sum_le_of (l := l) (fun x hx => h x (by simp [hx]))
    omega
theorem sum_lt_of {α : Type} {f g : α → Int} : ∀ {l : List α}, (∀ x ∈ l, f x ≤ g x) → ∀ {y}, y ∈ l → f y < g y → (l.map f).sum < (l.map g).sum
  | [], _, y, hy, _ => by simp at hy
  | a :: l, h, y, hy, hlt => by
    simp only [List.map_cons, List.sum_cons]
    have h1 := h a (by simp)
    have h2 := sum_le_of (l := l) (fun x hx => h x (by simp [hx]))
    rcases List.mem_cons.1 hy with rfl | hy
    · omega
    · have := sum_lt_of (l := l) (fun x hx => h x (by simp [hx])) hy hlt
      omega
theorem cWorth_congr {v : List (List Int)} {d : List Int} {φ : Int → Int} {i j : Int} (h : ∀ x ∈ d, φ x = i ↔ x = j) : cWorth v (d.map φ) i i = cWorth v d i j := by
  unfold cWorth
  generalize v.getD i.toNat [] = r
  induction d generalizing r with
  | nil => rfl
  | cons x d ih =>
    cases r with
    | nil => rfl
    | cons y r =>
      simp only [List.map_cons, List.zip_cons_cons, List.sum_cons]
      rw [ih (fun x hx => h x (by simp [hx]))]
      have := h x (by simp)
      by_cases e : x = j
      · rw [if_pos (this.2 e), if_pos e]
      · rw [if_neg (fun k => e (this.1 k)), if_neg e]
theorem cTurn_in {c : List Int} {x : Int} (h : x ∈ c) : cTurn c x ∈ c := by
  have hl : 0 < c.length := List.length_pos_of_mem h
  unfold cTurn
  rw [if_pos h]
  have hlt : (c.idxOf x + c.length - 1) % c.length < c.length := Nat.mod_lt _ hl
  rw [List.getD_eq_getElem?_getD, List.getElem?_eq_getElem hlt]
  exact List.getElem_mem _
theorem cTurn_iff {c : List Int} (hn : c.Nodup) {t : Nat} (ht : t < c.length) (x : Int) : cTurn c x = c[t] ↔ x = c[(t + 1) % c.length]'(Nat.mod_lt _ (by omega)) := by
  have hl : 0 < c.length := by omega
  have inj : ∀ {a b : Nat} (ha : a < c.length) (hb : b < c.length), c[a] = c[b] → a = b := by
    intro a b ha hb e
    have hp := List.pairwise_iff_getElem.1 hn
    rcases Nat.lt_trichotomy a b with h | h | h
    · exact absurd e (hp a b ha hb h)
    · exact h
    · exact absurd e.symm (hp b a hb ha h)
  have hmod : ∀ k, k < c.length → (k + c.length - 1) % c.length = if k = 0 then c.length - 1 else k - 1 := by
    intro k hk
    split
    · rename_i e
      subst e
      rw [Nat.zero_add, Nat.mod_eq_of_lt (by omega)]
    · rw [show k + c.length - 1 = (k - 1) + c.length by omega, Nat.add_mod_right, Nat.mod_eq_of_lt (by omega)]
  have hnx : (t + 1) % c.length = if t + 1 = c.length then 0 else t + 1 := by
    split
    · rename_i e
      rw [e, Nat.mod_self]
    · rw [Nat.mod_eq_of_lt (by omega)]
  by_cases hx : x ∈ c
  · have hix : c.idxOf x < c.length := List.idxOf_lt_length_iff.2 hx
    have hxe : x = c[c.idxOf x] := (List.getElem_idxOf hix).symm
    unfold cTurn
    rw [if_pos hx, List.getD_eq_getElem?_getD, List.getElem?_eq_getElem (Nat.mod_lt _ hl)]
    simp only [Option.getD_some]
    have h1 := hmod _ hix
    generalize hk : c.idxOf x = k at *
    constructor
    · intro h
      have h2 := inj (Nat.mod_lt _ hl) ht h
      rw [hxe]
      congr 1
      split at h1 <;> split at hnx <;> omega
    · intro h
      rw [hxe] at h
      have h2 := inj hix (Nat.mod_lt _ hl) h
      congr 1
      split at h1 <;> split at hnx <;> omega
  · unfold cTurn
    rw [if_neg hx]
    constructor
    · intro h
      exact absurd (h ▸ List.getElem_mem ht) hx
    · intro h
      exact absurd (h ▸ List.getElem_mem (Nat.mod_lt _ hl)) hx

/-- What all have, by their own values. -/
def cPot (v : List (List Int)) (d : List Int) : Int := ((List.range v.length).map fun (i : Nat) => cWorth v d i i).sum
theorem cPot_turn {v : List (List Int)} {d c : List Int} (h : Cyc (cEnvies v d) v.length c) : cPot v d < cPot v (d.map (cTurn c)) := by
  have hin : ∀ t (ht : t < c.length), cWorth v d c[t] c[t] < cWorth v (d.map (cTurn c)) c[t] c[t] := by
    intro t ht
    rw [cWorth_congr (fun x _ => cTurn_iff h.nodup ht x)]
    have := h.next ht
    unfold cEnvies at this
    simpa using this
  have hout : ∀ i : Nat, (i : Int) ∉ c → cWorth v (d.map (cTurn c)) i i = cWorth v d i i := by
    intro i hi
    refine cWorth_congr (fun x _ => ⟨fun e => ?_, fun e => ?_⟩)
    · by_cases hx : x ∈ c
      · exact absurd (e ▸ cTurn_in hx) hi
      · unfold cTurn at e
        rwa [if_neg hx] at e
    · subst e
      unfold cTurn
      rw [if_neg hi]
  have hl : 0 < c.length := List.length_pos_iff.2 h.ne
  have h0 := h.range c[0] (List.getElem_mem _)
  unfold cPot
  refine sum_lt_of (y := c[0].toNat) ?_ (List.mem_range.2 (by omega)) ?_
  · intro i _
    by_cases hi : (i : Int) ∈ c
    · obtain ⟨t, ht, e⟩ := List.getElem_of_mem hi
      have := hin t ht
      rw [e] at this
      exact Int.le_of_lt this
    · rw [hout i hi]
      exact Int.le_refl _
  · have e1 : ((c[0].toNat : Nat) : Int) = c[0] := by omega
    rw [e1]
    exact hin 0 hl

/-- Values that split takes. -/
structure VOk (v : List (List Int)) : Prop where
  pos : 0 < v.length
  few : v.length ≤ 4
  gpos : 0 < (v.headD []).length
  gfew : (v.headD []).length ≤ 7
  same : ∀ r ∈ v, r.length = (v.headD []).length
  range : ∀ r ∈ v, ∀ x ∈ r, 0 ≤ x ∧ x ≤ 100
theorem VOk.row {v : List (List Int)} (h : VOk v) {i : Nat} (hi : i < v.length) : (v.getD i []).length = (v.headD []).length ∧ ∀ x ∈ v.getD i [], 0 ≤ x ∧ x ≤ 100 := by
  rw [List.getD_eq_getElem?_getD, List.getElem?_eq_getElem hi]
  exact ⟨h.same _ (List.getElem_mem hi), h.range _ (List.getElem_mem hi)⟩
theorem cWorth_range {r d : List Int} {j : Int} (h : ∀ x ∈ r, 0 ≤ x ∧ x ≤ 100) : 0 ≤ ((d.zip r).map fun p => if p.1 = j then p.2 else 0).sum ∧ ((d.zip r).map fun p => if p.1 = j then p.2 else 0).sum ≤ 100 * r.length := by
  induction d generalizing r with
  | nil => simp; omega
  | cons x d ih => cases r with
    | nil => simp
    | cons y r =>
      have h1 := ih (r := r) (fun x hx => h x (by simp [hx]))
      have h2 := h y (by simp)
      simp only [List.zip_cons_cons, List.map_cons, List.sum_cons, List.length_cons]
      split <;> omega
theorem sum_range_le {f : Nat → Int} {k : Int} : ∀ n : Nat, (∀ i, i < n → 0 ≤ f i ∧ f i ≤ k) → 0 ≤ ((List.range n).map f).sum ∧ ((List.range n).map f).sum ≤ n * k
  | 0, _ => by simp
  | n + 1, h => by
    have h1 := sum_range_le n (fun i hi => h i (by omega))
    have h2 := h n (by omega)
    rw [List.range_succ, List.map_append, List.sum_append]
    simp only [List.map_cons, List.map_nil, List.sum_cons, List.sum_nil]
    have e : ((n + 1 : Nat) : Int) * k = n * k + k := by rw [Int.natCast_add, Int.add_mul]; simp
    omega
theorem VOk.worth {v : List (List Int)} (h : VOk v) (d : List Int) {i : Nat} (hi : i < v.length) (j : Int) : 0 ≤ cWorth v d i j ∧ cWorth v d i j ≤ 700 := by
  obtain ⟨h1, h2⟩ := h.row hi
  have := cWorth_range (d := d) (j := j) h2
  have h3 := h.gfew
  unfold cWorth
  have e : ((i : Int)).toNat = i := by omega
  rw [e]
  omega
theorem VOk.pot {v : List (List Int)} (h : VOk v) (d : List Int) : 0 ≤ cPot v d ∧ cPot v d ≤ 2800 := by
  have h1 := sum_range_le (f := fun (i : Nat) => cWorth v d i i) (k := 700) v.length (fun i hi => h.worth d hi i)
  have := h.few
  unfold cPot
  omega
/-- How many turns there can still be. -/
def cLeft (v : List (List Int)) (d : List Int) : Nat := (2801 - cPot v d).toNat
theorem cLeft_turn {v : List (List Int)} (h : VOk v) {d : List Int} (hl : cLucky v d = none) : cLeft v (d.map (cTurn (cCircle v d))) < cLeft v d := by
  have h1 := cPot_turn (cCircle_cyc h.pos hl).1
  have h2 := h.pot d
  have h3 := h.pot (d.map (cTurn (cCircle v d)))
  unfold cLeft
  omega
theorem cGo_more {v : List (List Int)} (h : VOk v) (g : Nat) : ∀ (f : Nat) (d : List Int) (f' : Nat), cLeft v d ≤ f → cLeft v d ≤ f' → cGo v g f d = cGo v g f' d
  | f, d, f', h1, h2 => by
    have h3 := h.pot d
    have h4 : 0 < cLeft v d := by unfold cLeft; omega
    cases f with
    | zero => omega
    | succ f => cases f' with
      | zero => omega
      | succ f' =>
        unfold cGo
        cases hl : cLucky v d with
        | some i => rfl
        | none =>
          have := cLeft_turn h hl
          exact cGo_more h g f _ f' (by omega) (by omega)
theorem cLeft_le {v : List (List Int)} (h : VOk v) (d : List Int) : cLeft v d ≤ 3000 ∧ 0 < cLeft v d := by
  have := h.pot d
  unfold cLeft
  omega
theorem cGo_turn {v : List (List Int)} (h : VOk v) (g : Nat) {d : List Int} (hl : cLucky v d = none) : cGo v g 3000 d = cGo v g 3000 (d.map (cTurn (cCircle v d))) := by
  have h1 := cLeft_turn h hl
  have h2 := (cLeft_le h d).1
  have e : cGo v g 3000 d = cGo v g 2999 (d.map (cTurn (cCircle v d))) := by
    rw [cGo]
    rw [hl]
  rw [e]
  exact cGo_more h g _ _ _ (by omega) (by omega)
theorem cGo_done {v : List (List Int)} (g : Nat) {d : List Int} {i : Nat} (hl : cLucky v d = some i) : cGo v g 3000 d = d.set g (i : Int) := by
  rw [cGo]
  rw [hl]

/-- A division of the first g goods. -/
structure DivG (n m g : Nat) (d : List Int) : Prop where
  len : d.length = m
  done : ∀ k, k < g → ∀ x, d[k]? = some x → 0 ≤ x ∧ x < n
  rest : ∀ k, g ≤ k → ∀ x, d[k]? = some x → x = -1
theorem DivG.turn {n m g : Nat} {d c : List Int} (h : DivG n m g d) (hc : ∀ x ∈ c, 0 ≤ x ∧ x < n) : DivG n m g (d.map (cTurn c)) := by
  refine ⟨by rw [List.length_map]; exact h.len, fun k hk x hx => ?_, fun k hk x hx => ?_⟩
  · rw [List.getElem?_map, Option.map_eq_some_iff] at hx
    obtain ⟨y, hy, rfl⟩ := hx
    by_cases hm : y ∈ c
    · exact hc _ (cTurn_in hm)
    · unfold cTurn
      rw [if_neg hm]
      exact h.done k hk y hy
  · rw [List.getElem?_map, Option.map_eq_some_iff] at hx
    obtain ⟨y, hy, rfl⟩ := hx
    have := h.rest k hk y hy
    subst this
    unfold cTurn
    rw [if_neg (fun hm => by have := hc _ hm; omega)]
theorem DivG.set {n m g : Nat} {d : List Int} (h : DivG n m g d) {i : Nat} (hi : i < n) : DivG n m (g + 1) (d.set g (i : Int)) := by
  refine ⟨by rw [List.length_set]; exact h.len, fun k hk x hx => ?_, fun k hk x hx => ?_⟩
  · rw [List.getElem?_set] at hx
    split at hx
    · split at hx
      · cases hx; omega
      · cases hx
    · exact h.done k (by omega) x hx
  · rw [List.getElem?_set_ne (by omega)] at hx
    exact h.rest k (by omega) x hx
theorem DivG.none (n m : Nat) : DivG n m 0 (List.replicate m (-1)) := by
  refine ⟨by simp, fun k hk => by omega, fun k hk x hx => ?_⟩
  rw [List.getElem?_replicate] at hx
  split at hx <;> simp at hx
  exact hx.symm
theorem DivG.go {v : List (List Int)} (h : VOk v) {m g : Nat} : ∀ (f : Nat) {d : List Int}, cLeft v d ≤ f → DivG v.length m g d → DivG v.length m (g + 1) (cGo v g f d)
  | 0, d, hf, _ => by have := (cLeft_le h d).2; omega
  | f + 1, d, hf, hd => by
    unfold cGo
    cases hl : cLucky v d with
    | some i => exact hd.set (cLucky_some hl)
    | none =>
      have h1 := cLeft_turn h hl
      exact DivG.go h f (by omega) (hd.turn (cCircle_cyc h.pos hl).1.range)
theorem cycles_to {v : List (List Int)} (h : VOk v) (m : Nat) : ∀ g, g ≤ m → DivG v.length m g ((List.range g).foldl (fun d g => cGo v g 3000 d) (List.replicate m (-1)))
  | 0, _ => DivG.none _ _
  | g + 1, hg => by
    rw [List.range_succ, List.foldl_append]
    exact (cycles_to h m g (by omega)).go h 3000 (cLeft_le h _).1
theorem cycles_div {v : List (List Int)} (h : VOk v) : (cyclesB v).length = (v.headD []).length ∧ ∀ x ∈ cyclesB v, 0 ≤ x ∧ x < v.length := by
  have := cycles_to h (v.headD []).length _ (Nat.le_refl _)
  refine ⟨this.len, fun x hx => ?_⟩
  obtain ⟨k, hk, e⟩ := List.getElem_of_mem hx
  exact this.done k (by have := this.len; unfold cyclesB at hk; omega) x (by rw [← e]; exact List.getElem?_eq_getElem hk)

end Go.Proofs.YteiamhapplnlaabGreatDoor
