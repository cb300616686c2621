/-
  Which stops roads connect, in plain Lean: labels, and the closure by rounds.
-/
import Derived.Test.YtkbkgkmogbkabaaDoorRtValid
namespace Go.Proofs.YtkbkgkmogbkabaaDoor
open Go.RowKit

/-- A road between two stops. -/
def Edge (E : List RoadD) (b c : Nat) : Prop := ∃ r ∈ E, (r.a.toNat = b ∧ r.b.toNat = c) ∨ (r.a.toNat = c ∧ r.b.toNat = b)
theorem Edge.symm {E : List RoadD} {b c : Nat} (h : Edge E b c) : Edge E c b := by
  obtain ⟨r, hr, h⟩ := h
  exact ⟨r, hr, h.symm⟩
/-- Connected. -/
inductive Conn (E : List RoadD) (a : Nat) : Nat → Prop
  | refl : Conn E a a
  | step {b c : Nat} : Conn E a b → Edge E b c → Conn E a c
theorem Conn.trans {E : List RoadD} {a b c : Nat} (h : Conn E a b) (k : Conn E b c) : Conn E a c := by
  induction k with
  | refl => exact h
  | step _ e ih => exact ih.step e
theorem Conn.symm {E : List RoadD} {a b : Nat} (h : Conn E a b) : Conn E b a := by
  induction h with
  | refl => exact .refl
  | step _ e ih => exact (Conn.step .refl e.symm).trans ih
theorem Conn.mono {E F : List RoadD} (hs : ∀ r ∈ E, r ∈ F) {a b : Nat} (h : Conn E a b) : Conn F a b := by
  induction h with
  | refl => exact .refl
  | step _ e ih =>
    obtain ⟨r, hr, g⟩ := e
    exact ih.step ⟨r, hs r hr, g⟩
/-- One road more. -/
theorem conn_push {E : List RoadD} {r : RoadD} {i j : Nat} : Conn (E ++ [r]) i j ↔ Conn E i j ∨ ((Conn E i r.a.toNat ∨ Conn E i r.b.toNat) ∧ (Conn E j r.a.toNat ∨ Conn E j r.b.toNat)) := by
  have hm : ∀ q ∈ E, q ∈ E ++ [r] := fun q hq => List.mem_append_left _ hq
  have he : Edge (E ++ [r]) r.a.toNat r.b.toNat := ⟨r, by simp, .inl ⟨rfl, rfl⟩⟩
  constructor
  · intro h
    induction h with
    | refl => exact .inl .refl
    | step _ e ih =>
      obtain ⟨q, hq, g⟩ := e
      rcases List.mem_append.1 hq with hq | hq
      · have e' : Edge E _ _ := ⟨q, hq, g⟩
        rcases ih with h | ⟨h1, h2⟩
        · exact .inl (h.step e')
        · refine .inr ⟨h1, ?_⟩
          rcases h2 with h2 | h2
          · exact .inl ((Conn.step .refl e'.symm).trans h2)
          · exact .inr ((Conn.step .refl e'.symm).trans h2)
      · simp only [List.mem_singleton] at hq
        subst hq
        rcases g with ⟨rfl, rfl⟩ | ⟨rfl, rfl⟩
        · rcases ih with h | ⟨h1, -⟩
          · exact .inr ⟨.inl h, .inr .refl⟩
          · exact .inr ⟨h1, .inr .refl⟩
        · rcases ih with h | ⟨h1, -⟩
          · exact .inr ⟨.inr h, .inl .refl⟩
          · exact .inr ⟨h1, .inl .refl⟩
  · rintro (h | ⟨h1, h2⟩)
    · exact h.mono hm
    · have k : Conn (E ++ [r]) r.a.toNat r.b.toNat := Conn.step .refl he
      rcases h1 with h1 | h1 <;> rcases h2 with h2 | h2
      · exact (h1.mono hm).trans (h2.mono hm).symm
      · exact ((h1.mono hm).trans k).trans (h2.mono hm).symm
      · exact ((h1.mono hm).trans k.symm).trans (h2.mono hm).symm
      · exact (h1.mono hm).trans (h2.mono hm).symm

/-- Labels that tell the parts. -/
def Lab (E : List RoadD) (p : Nat → Int) : Prop := ∀ i j, i < 8 → j < 8 → (p i = p j ↔ Conn E i j)
def joinL (p : Nat → Int) (a b : Nat) : Nat → Int := fun i => if p i = max (p a) (p b) then min (p a) (p b) else p i
theorem Lab.nil : Lab [] (fun i => (i : Int)) := by
  intro i j hi hj
  constructor
  · intro h
    have h' : (i : Int) = j := h
    have : i = j := by omega
    subst this
    exact .refl
  · intro h
    cases h with
    | refl => rfl
    | step _ e =>
      obtain ⟨r, hr, -⟩ := e
      simp at hr
theorem Lab.join {E : List RoadD} {p : Nat → Int} (h : Lab E p) {r : RoadD} (ha : r.a.toNat < 8) (hb : r.b.toNat < 8) : Lab (E ++ [r]) (joinL p r.a.toNat r.b.toNat) := by
  intro i j hi hj
  rw [conn_push, ← h i j hi hj, ← h i _ hi ha, ← h i _ hi hb, ← h j _ hj ha, ← h j _ hj hb]
  unfold joinL
  generalize p r.a.toNat = x
  generalize p r.b.toNat = y
  generalize p i = u
  generalize p j = v
  by_cases c : x ≤ y
  · rw [Int.max_eq_right c, Int.min_eq_left c]
    split <;> split <;> (constructor <;> intro h <;> omega)
  · rw [Int.max_eq_left (by omega), Int.min_eq_right (by omega)]
    split <;> split <;> (constructor <;> intro h <;> omega)

/-- How many of the first n. -/
def cnt (f : Nat → Bool) : Nat → Nat
  | 0 => 0
  | n + 1 => cnt f n + (if f n then 1 else 0)
theorem cnt_hi (f : Nat → Bool) : ∀ n, cnt f n ≤ n
  | 0 => Nat.le_refl _
  | n + 1 => by have := cnt_hi f n; unfold cnt; split <;> omega
theorem cnt_le {f g : Nat → Bool} (h : ∀ x, f x = true → g x = true) : ∀ n, cnt f n ≤ cnt g n
  | 0 => Nat.le_refl _
  | n + 1 => by
    have := cnt_le h n
    unfold cnt
    by_cases e : f n = true
    · rw [if_pos e, if_pos (h n e)]; omega
    · rw [if_neg e]; split <;> omega
theorem cnt_lt {f g : Nat → Bool} (h : ∀ x, f x = true → g x = true) {x : Nat} (hf : ¬ f x = true) (hg : g x = true) : ∀ n, x < n → cnt f n < cnt g n
  | 0, hx => by omega
  | n + 1, hx => by
    unfold cnt
    by_cases e : x = n
    · subst e
      have := cnt_le h x
      rw [if_neg hf, if_pos hg]; omega
    · have := cnt_lt h hf hg n (by omega)
      by_cases e2 : f n = true
      · rw [if_pos e2, if_pos (h n e2)]; omega
      · rw [if_neg e2]; split <;> omega

/-- One road: both its ends are met if one is. -/
def met1 (f : Nat → Bool) (r : RoadD) : Nat → Bool := fun x => f x || ((f r.a.toNat || f r.b.toNat) && (x == r.a.toNat || x == r.b.toNat))
def metR (E : List RoadD) (f : Nat → Bool) : Nat → Bool := E.foldl met1 f
def metN (E : List RoadD) (f : Nat → Bool) : Nat → Nat → Bool
  | 0 => f
  | k + 1 => metR E (metN E f k)
theorem met1_le (f : Nat → Bool) (r : RoadD) (x : Nat) (h : f x = true) : met1 f r x = true := by unfold met1; rw [h]; rfl
theorem metR_le : ∀ (E : List RoadD) (f : Nat → Bool) (x : Nat), f x = true → metR E f x = true
  | [], _, _, h => h
  | r :: E, f, x, h => metR_le E (met1 f r) x (met1_le f r x h)
theorem metR_hit : ∀ (E : List RoadD) (f : Nat → Bool) (r : RoadD), r ∈ E → (f r.a.toNat = true ∨ f r.b.toNat = true) → metR E f r.a.toNat = true ∧ metR E f r.b.toNat = true
  | q :: E, f, r, hr, h => by
    rcases List.mem_cons.1 hr with rfl | hr
    · have h1 : met1 f r r.a.toNat = true ∧ met1 f r r.b.toNat = true := by
        unfold met1
        rcases h with h | h <;> rw [h] <;> simp
      exact ⟨metR_le E _ _ h1.1, metR_le E _ _ h1.2⟩
    · exact metR_hit E (met1 f q) r hr (h.imp (met1_le f q _) (met1_le f q _))
theorem metR_sound {E0 : List RoadD} {s : Nat} : ∀ (E : List RoadD) (f : Nat → Bool), (∀ r ∈ E, r ∈ E0) → (∀ x, f x = true → Conn E0 s x) → ∀ x, metR E f x = true → Conn E0 s x
  | [], _, _, h, x, hx => h x hx
  | r :: E, f, hs, h, x, hx => by
    refine metR_sound E (met1 f r) (fun q hq => hs q (List.mem_cons_of_mem _ hq)) (fun y hy => ?_) x hx
    unfold met1 at hy
    rw [Bool.or_eq_true, Bool.and_eq_true, Bool.or_eq_true, Bool.or_eq_true, beq_iff_eq, beq_iff_eq] at hy
    have he : Edge E0 r.a.toNat r.b.toNat := ⟨r, hs r (List.mem_cons_self ..), .inl ⟨rfl, rfl⟩⟩
    rcases hy with hy | ⟨h1, h2⟩
    · exact h y hy
    · rcases h1 with h1 | h1 <;> rcases h2 with rfl | rfl
      · exact h _ h1
      · exact (h _ h1).step he
      · exact (h _ h1).step he.symm
      · exact h _ h1
theorem metN_le (E : List RoadD) (f : Nat → Bool) (k x : Nat) (h : f x = true) : metN E f k x = true := by
  induction k with
  | zero => exact h
  | succ k ih => exact metR_le E _ x ih
theorem metN_sound {E : List RoadD} {s : Nat} {f : Nat → Bool} (h : ∀ x, f x = true → Conn E s x) (k : Nat) : ∀ x, metN E f k x = true → Conn E s x := by
  induction k with
  | zero => exact h
  | succ k ih => exact metR_sound E _ (fun _ h => h) ih
/-- All that is connected is met, after as many rounds as there are stops. -/
theorem metN_all {E : List RoadD} {N s : Nat} (hE : ∀ r ∈ E, r.a.toNat < N ∧ r.b.toNat < N) (hs : s < N) (x : Nat) : metN E (fun y => y == s) N x = true ↔ Conn E s x := by
  constructor
  · exact metN_sound (fun y hy => by rw [beq_iff_eq] at hy; subst hy; exact .refl) N x
  · have key : ∀ k, (∃ j, j ≤ k ∧ ∀ r ∈ E, metN E (fun y => y == s) j r.a.toNat = metN E (fun y => y == s) j r.b.toNat) ∨ k + 1 ≤ cnt (metN E (fun y => y == s) k) N := by
      intro k
      induction k with
      | zero =>
        right
        have := cnt_lt (f := fun _ => false) (g := fun y => y == s) (fun y hy => by simp at hy) (x := s) (by simp) (by simp) N hs
        show 1 ≤ cnt (fun y => y == s) N
        omega
      | succ k ih =>
        rcases ih with ⟨j, hj, h⟩ | h
        · exact .inl ⟨j, by omega, h⟩
        · by_cases c : ∀ r ∈ E, metN E (fun y => y == s) k r.a.toNat = metN E (fun y => y == s) k r.b.toNat
          · exact .inl ⟨k, by omega, c⟩
          · right
            have ⟨r, hr, hne⟩ : ∃ r, r ∈ E ∧ ¬ metN E (fun y => y == s) k r.a.toNat = metN E (fun y => y == s) k r.b.toNat := by
              refine Classical.byContradiction fun g => c (fun r hr => Classical.byContradiction fun g2 => g ⟨r, hr, g2⟩)
            have hle : ∀ y, metN E (fun y => y == s) k y = true → metN E (fun y => y == s) (k + 1) y = true := fun y hy => metR_le E _ y hy
            obtain ⟨ha, hb⟩ := hE r hr
            cases e1 : metN E (fun y => y == s) k r.a.toNat with
            | true =>
              have e2 : ¬ metN E (fun y => y == s) k r.b.toNat = true := fun g => hne (by rw [e1, g])
              have := cnt_lt hle e2 (metR_hit E _ r hr (.inl e1)).2 N hb
              omega
            | false =>
              have e2 : metN E (fun y => y == s) k r.b.toNat = true := by
                cases g : metN E (fun y => y == s) k r.b.toNat with
                | true => rfl
                | false => exact absurd (by rw [e1, g]) hne
              have := cnt_lt hle (by rw [e1]; simp) (metR_hit E _ r hr (.inr e2)).1 N ha
              omega
    intro hc
    obtain ⟨j, hj, hcl⟩ : ∃ j, j ≤ N ∧ ∀ r ∈ E, metN E (fun y => y == s) j r.a.toNat = metN E (fun y => y == s) j r.b.toNat := by
      rcases key N with h | h
      · exact h
      · have := cnt_hi (metN E (fun y => y == s) N) N; omega
    have hj2 : metN E (fun y => y == s) j x = true := by
      induction hc with
      | refl => exact metN_le E _ j s (by simp)
      | step _ e ih =>
        obtain ⟨r, hr, ⟨rfl, rfl⟩ | ⟨rfl, rfl⟩⟩ := e
        · rw [← hcl r hr]; exact ih
        · rw [hcl r hr]; exact ih
    have up : ∀ m, metN E (fun y => y == s) (j + m) x = true := by
      intro m
      induction m with
      | zero => exact hj2
      | succ m ih => exact metR_le E _ x ih
    have := up (N - j)
    rw [show j + (N - j) = N by omega] at this
    exact this

end Go.Proofs.YtkbkgkmogbkabaaDoor
