/-
  Texts of this claim, part 1: RtFitPlain, SnMoatPlain, SnMoatRound, SnSpeed, SnMoats, SnBounds.
-/
import Derived.Test.YtkbkgkmogbkabaaDoorK10
import Derived.Test.YtkbkgkmogbkabaaDoorK12
import Derived.Test.YtkbkgkmogbkabaaDoorK9
/-
  Moats that fit, in plain Lean.
-/
namespace Go.Proofs.YtkbkgkmogbkabaaDoor
open Go.RowKit

/-- One moat. -/
def moatP (n stops : Int) (x : MoatD) : Prop := 0 ≤ x.set ∧ x.set < 2 ^ n.toNat ∧ bits .and .i64 x.set stops ≠ 0 ∧ bits .andNot .i64 stops x.set ≠ 0 ∧ 1 ≤ x.width ∧ x.width ≤ 1000
instance (n stops : Int) (x : MoatD) : Decidable (moatP n stops x) := by unfold moatP; infer_instance
def overF (r : RoadD) (acc : Int) (x : MoatD) : Int := if crossB r x.set then acc + x.width else acc
def overR (r : RoadD) (ms : List MoatD) : Int := ms.foldl (overF r) 0
def sumW (ms : List MoatD) : Int := ms.foldl (fun acc x => acc + x.width) 0
theorem sumW_succ {ms : List MoatD} {k : Nat} (hk : k < ms.length) : sumW (ms.take (k + 1)) = sumW (ms.take k) + (moatAt ms k).width := by
  unfold sumW; rw [List.take_succ_eq_append_getElem hk, List.foldl_append, moatAt_get hk]; rfl
theorem overR_succ {r : RoadD} {ms : List MoatD} {k : Nat} (hk : k < ms.length) : overR r (ms.take (k + 1)) = overF r (overR r (ms.take k)) (moatAt ms k) := by
  unfold overR; rw [List.take_succ_eq_append_getElem hk, List.foldl_append, moatAt_get hk]; rfl
def fitP (n : Int) (rs : List RoadD) (stops : Int) (ms : List MoatD) : Prop := (∀ x ∈ ms, moatP n stops x) ∧ ∀ r ∈ rs, overR r ms ≤ 2 * r.cost
instance (n : Int) (rs : List RoadD) (stops : Int) (ms : List MoatD) : Decidable (fitP n rs stops ms) := by unfold fitP; infer_instance
/-- What is reckoned: the sum, and whether the moats fit. -/
def fitV (n : Int) (rs : List RoadD) (stops : Int) (ms : List MoatD) : Int := if fitP n rs stops ms then sumW ms else 0
def fitB (n : Int) (rs : List RoadD) (stops : Int) (ms : List MoatD) : Bool := decide (fitP n rs stops ms)
theorem fit_bad {n : Int} {rs : List RoadD} {stops : Int} {ms : List MoatD} {x : MoatD} (hx : x ∈ ms) (h : ¬ moatP n stops x) : fitV n rs stops ms = 0 ∧ fitB n rs stops ms = false := by
  have : ¬ fitP n rs stops ms := fun k => h (k.1 x hx)
  unfold fitV fitB
  exact ⟨if_neg this, decide_eq_false this⟩
theorem fit_over {n : Int} {rs : List RoadD} {stops : Int} {ms : List MoatD} {r : RoadD} (hr : r ∈ rs) (h : ¬ overR r ms ≤ 2 * r.cost) : fitV n rs stops ms = 0 ∧ fitB n rs stops ms = false := by
  have : ¬ fitP n rs stops ms := fun k => h (k.2 r hr)
  unfold fitV fitB
  exact ⟨if_neg this, decide_eq_false this⟩
theorem fit_yes {n : Int} {rs : List RoadD} {stops : Int} {ms : List MoatD} (h1 : ∀ x ∈ ms, moatP n stops x) (h2 : ∀ r ∈ rs, overR r ms ≤ 2 * r.cost) : fitV n rs stops ms = sumW ms ∧ fitB n rs stops ms = true := by
  have : fitP n rs stops ms := ⟨h1, h2⟩
  unfold fitV fitB
  exact ⟨if_pos this, decide_eq_true this⟩
/-- What the program answers: more than two hundred do not fit. -/
def chkV (n : Int) (rs : List RoadD) (stops : Int) (ms : List MoatD) : Int := if ms.length ≤ 200 then fitV n rs stops ms else 0
def chkB (n : Int) (rs : List RoadD) (stops : Int) (ms : List MoatD) : Bool := if ms.length ≤ 200 then fitB n rs stops ms else false
theorem chk_cut (n : Int) (rs : List RoadD) (stops : Int) (ms : List MoatD) : chkV n rs stops (ms.take 202) = chkV n rs stops ms ∧ chkB n rs stops (ms.take 202) = chkB n rs stops ms := by
  by_cases h : ms.length ≤ 202
  · rw [List.take_of_length_le h]; exact ⟨rfl, rfl⟩
  · have h1 : ¬ ms.length ≤ 200 := by omega
    have h2 : ¬ (ms.take 202).length ≤ 200 := by rw [List.length_take]; omega
    unfold chkV chkB
    rw [if_neg h1, if_neg h2, if_neg h1, if_neg h2]
    exact ⟨rfl, rfl⟩

end Go.Proofs.YtkbkgkmogbkabaaDoor

/-
  Moats that grow at the same time: what holds all along. Plain Lean.
-/
namespace Go.Proofs.YtkbkgkmogbkabaaDoor
open Go.RowKit

def inB (m : MoatD) (x : Nat) : Bool := m.set.toNat.testBit x
/-- How far a stop has grown. -/
def gOf : List MoatD → Nat → Int
  | [], _ => 0
  | m :: ms, x => (if inB m x = true then m.width else 0) + gOf ms x
theorem gOf_app : ∀ (a b : List MoatD) (x : Nat), gOf (a ++ b) x = gOf a x + gOf b x
  | [], b, x => by show gOf b x = 0 + gOf b x; omega
  | m :: a, b, x => by
    show _ + gOf (a ++ b) x = _ + gOf a x + gOf b x
    rw [gOf_app a b x]; omega
/-- What crosses a road. -/
def ovC (r : RoadD) : List MoatD → Int
  | [] => 0
  | m :: ms => (if crossB r m.set = true then m.width else 0) + ovC r ms
theorem overR_from (r : RoadD) : ∀ (ms : List MoatD) (acc : Int), ms.foldl (overF r) acc = acc + ovC r ms
  | [], acc => by show acc = acc + 0; omega
  | m :: ms, acc => by
    show ms.foldl (overF r) (overF r acc m) = acc + (_ + ovC r ms)
    rw [overR_from r ms]
    unfold overF
    split <;> omega
theorem overR_ovC (r : RoadD) (ms : List MoatD) : overR r ms = ovC r ms := by unfold overR; rw [overR_from]; omega
theorem ovC_app (r : RoadD) : ∀ (a b : List MoatD), ovC r (a ++ b) = ovC r a + ovC r b
  | [], b => by show ovC r b = 0 + ovC r b; omega
  | m :: a, b => by
    show _ + ovC r (a ++ b) = _ + ovC r a + ovC r b
    rw [ovC_app r a b]; omega
def wS : List MoatD → Int
  | [] => 0
  | m :: ms => m.width + wS ms
theorem sumW_from : ∀ (ms : List MoatD) (acc : Int), ms.foldl (fun acc x => acc + x.width) acc = acc + wS ms
  | [], acc => by show acc = acc + 0; omega
  | m :: ms, acc => by
    show ms.foldl _ (acc + m.width) = acc + (m.width + wS ms)
    rw [sumW_from ms]; omega
theorem sumW_wS (ms : List MoatD) : sumW ms = wS ms := by unfold sumW; rw [sumW_from]; omega
theorem cross_in {r : RoadD} {m : MoatD} (h : 0 ≤ m.set) : crossB r m.set = (inB m r.a.toNat != inB m r.b.toNat) := by
  obtain ⟨S, hS⟩ := Int.eq_ofNat_of_zero_le h
  unfold crossB inB
  rw [hS, bit_zero, bit_zero, Int.toNat_natCast]
  cases S.testBit r.a.toNat <;> cases S.testBit r.b.toNat <;> rfl
/-- A road between two parts: each moat that crosses it has just one of its ends. -/
theorem ov_split {E : List RoadD} {r : RoadD} (hn : ¬ Conn E r.a.toNat r.b.toNat) : ∀ (ms : List MoatD), (∀ m ∈ ms, 0 ≤ m.set) → (∀ m ∈ ms, ∀ x y, inB m x = true → inB m y = true → Conn E x y) →
    ovC r ms = gOf ms r.a.toNat + gOf ms r.b.toNat
  | [], _, _ => rfl
  | m :: ms, h0, hi => by
    have ih := ov_split hn ms (fun q hq => h0 q (List.mem_cons_of_mem _ hq)) (fun q hq => hi q (List.mem_cons_of_mem _ hq))
    show (if crossB r m.set = true then m.width else 0) + ovC r ms = ((if inB m r.a.toNat = true then m.width else 0) + gOf ms r.a.toNat) + ((if inB m r.b.toNat = true then m.width else 0) + gOf ms r.b.toNat)
    rw [ih, cross_in (h0 m (List.mem_cons_self ..))]
    cases ea : inB m r.a.toNat <;> cases eb : inB m r.b.toNat
    · simp
    · simp; omega
    · simp; omega
    · exact absurd (hi m (List.mem_cons_self ..) _ _ ea eb) hn

/-- Does a moat lie in the part of a stop? -/
noncomputable def hitB (E : List RoadD) (t : Nat) (m : MoatD) : Bool := @decide (∃ x, inB m x = true ∧ Conn E t x) (Classical.propDecidable _)
theorem hitB_iff {E : List RoadD} {t : Nat} {m : MoatD} : hitB E t m = true ↔ ∃ x, inB m x = true ∧ Conn E t x := @decide_eq_true_iff _ (Classical.propDecidable _)
/-- All moats in the part of a stop. -/
noncomputable def mOf (E : List RoadD) : List MoatD → Nat → Int
  | [], _ => 0
  | m :: ms, t => (if hitB E t m = true then m.width else 0) + mOf E ms t
theorem mOf_app (E : List RoadD) : ∀ (a b : List MoatD) (t : Nat), mOf E (a ++ b) t = mOf E a t + mOf E b t
  | [], b, t => by show mOf E b t = 0 + mOf E b t; omega
  | m :: a, b, t => by
    show _ + mOf E (a ++ b) t = _ + mOf E a t + mOf E b t
    rw [mOf_app E a b t]; omega
theorem mOf_pos (E : List RoadD) : ∀ (ms : List MoatD) (t : Nat), (∀ m ∈ ms, 0 ≤ m.width) → 0 ≤ mOf E ms t
  | [], _, _ => Int.le_refl _
  | m :: ms, t, h => by
    have ih := mOf_pos E ms t (fun q hq => h q (List.mem_cons_of_mem _ hq))
    have := h m (List.mem_cons_self ..)
    show 0 ≤ (if hitB E t m = true then m.width else 0) + mOf E ms t
    split <;> omega
theorem mOf_one (E : List RoadD) : ∀ (ms : List MoatD) (t : Nat), (∀ m ∈ ms, 0 ≤ m.width) → ∀ m ∈ ms, hitB E t m = true → m.width ≤ mOf E ms t
  | [], _, _, m, hm, _ => by simp at hm
  | q :: ms, t, h, m, hm, hh => by
    have p := mOf_pos E ms t (fun q hq => h q (List.mem_cons_of_mem _ hq))
    have h1 := h q (List.mem_cons_self ..)
    show m.width ≤ (if hitB E t q = true then q.width else 0) + mOf E ms t
    rcases List.mem_cons.1 hm with rfl | hm
    · rw [if_pos hh]; omega
    · have := mOf_one E ms t (fun q hq => h q (List.mem_cons_of_mem _ hq)) m hm hh
      split <;> omega
theorem mOf_mono {E E' : List RoadD} {t : Nat} (hc : ∀ x, Conn E t x → Conn E' t x) : ∀ (ms : List MoatD), (∀ m ∈ ms, 0 ≤ m.width) → mOf E ms t ≤ mOf E' ms t
  | [], _ => Int.le_refl _
  | m :: ms, h => by
    have ih := mOf_mono hc ms (fun q hq => h q (List.mem_cons_of_mem _ hq))
    have h1 := h m (List.mem_cons_self ..)
    show (if hitB E t m = true then m.width else 0) + mOf E ms t ≤ (if hitB E' t m = true then m.width else 0) + mOf E' ms t
    by_cases e : hitB E t m = true
    · have e2 : hitB E' t m = true := by
        obtain ⟨x, h1, h2⟩ := hitB_iff.1 e
        exact hitB_iff.2 ⟨x, h1, hc x h2⟩
      rw [if_pos e, if_pos e2]; omega
    · rw [if_neg e]
      split <;> omega
theorem mOf_two {E E' : List RoadD} {t u : Nat} (hc : ∀ x y, Conn E x y → Conn E' x y) (hn : ¬ Conn E t u) (htu : Conn E' t u) : ∀ (ms : List MoatD), (∀ m ∈ ms, 0 ≤ m.width) → (∀ m ∈ ms, ∀ x y, inB m x = true → inB m y = true → Conn E x y) →
    mOf E ms t + mOf E ms u ≤ mOf E' ms t
  | [], _, _ => Int.le_refl _
  | m :: ms, h, hi => by
    have ih := mOf_two hc hn htu ms (fun q hq => h q (List.mem_cons_of_mem _ hq)) (fun q hq => hi q (List.mem_cons_of_mem _ hq))
    have h1 := h m (List.mem_cons_self ..)
    show ((if hitB E t m = true then m.width else 0) + mOf E ms t) + ((if hitB E u m = true then m.width else 0) + mOf E ms u) ≤ (if hitB E' t m = true then m.width else 0) + mOf E' ms t
    by_cases e : hitB E t m = true
    · obtain ⟨x, x1, x2⟩ := hitB_iff.1 e
      have e2 : hitB E' t m = true := hitB_iff.2 ⟨x, x1, hc _ _ x2⟩
      have e3 : ¬ hitB E u m = true := fun h => by
        obtain ⟨y, y1, y2⟩ := hitB_iff.1 h
        exact hn (x2.trans ((hi m (List.mem_cons_self ..) x y x1 y1).trans y2.symm))
      rw [if_pos e, if_pos e2, if_neg e3]; omega
    · rw [if_neg e]
      by_cases e3 : hitB E u m = true
      · obtain ⟨y, y1, y2⟩ := hitB_iff.1 e3
        have e2 : hitB E' t m = true := hitB_iff.2 ⟨y, y1, htu.trans (hc _ _ y2)⟩
        rw [if_pos e3, if_pos e2]; omega
      · rw [if_neg e3]
        split <;> omega
theorem mOf_sum (E : List RoadD) : ∀ (ms : List MoatD) (t : Nat), (∀ m ∈ ms, 0 ≤ m.width) → mOf E ms t ≤ wS ms
  | [], _, _ => Int.le_refl _
  | m :: ms, t, h => by
    have ih := mOf_sum E ms t (fun q hq => h q (List.mem_cons_of_mem _ hq))
    have := h m (List.mem_cons_self ..)
    show (if hitB E t m = true then m.width else 0) + mOf E ms t ≤ m.width + wS ms
    split <;> omega

/-- What holds all along: E the roads that were joined, ms the moats, T how long the parts have grown. -/
structure St (rs : List RoadD) (N s : Nat) (E : List RoadD) (ms : List MoatD) (T : Int) : Prop where
  sub : ∀ r ∈ E, r ∈ rs
  fit : ∀ m ∈ ms, moatP N s m
  inner : ∀ m ∈ ms, ∀ x y, inB m x = true → inB m y = true → Conn E x y
  time : ∀ t, s.testBit t = true → gOf ms t = T
  off : ∀ x, x < N → (∃ t, s.testBit t = true ∧ Conn E t x) ∨ ((∀ y, Conn E x y → y = x) ∧ gOf ms x = 0)
  even : ∀ x t, x < N → s.testBit t = true → Conn E t x → ∃ k : Int, T - gOf ms x = 2 * k
  near : ∀ x t, x < N → s.testBit t = true → Conn E t x → ∃ u F, s.testBit u = true ∧ Conn E u x ∧ (∀ r ∈ F, r ∈ rs) ∧ Conn F u x ∧ 2 * sumC F ≤ T - gOf ms x
  tree : ∀ t, s.testBit t = true → ∃ F : List RoadD, (∀ r ∈ F, r ∈ rs) ∧ (∀ u, s.testBit u = true → Conn E t u → Conn F t u) ∧ sumC F ≤ mOf E ms t - T

section
variable {rs : List RoadD} {N s : Nat}

theorem conn_nil {x y : Nat} (h : Conn [] x y) : y = x := by
  rcases h.head with h | ⟨r, hr, -⟩
  · exact h.symm
  · simp at hr
theorem St.start : St rs N s [] [] 0 where
  sub := fun r h => by simp at h
  fit := fun m h => by simp at h
  inner := fun m h => by simp at h
  time := fun t _ => rfl
  off := fun x _ => .inr ⟨fun y hy => conn_nil hy, rfl⟩
  even := fun x t _ _ _ => ⟨0, rfl⟩
  near := fun x t hx ht hc => ⟨t, [], ht, hc, fun r h => by simp at h, by rw [conn_nil hc]; exact .refl, Int.le_refl _⟩
  tree := fun t ht => ⟨[], fun r h => by simp at h, fun u _ hc => by rw [conn_nil hc]; exact .refl, Int.le_refl _⟩
variable {E : List RoadD} {ms : List MoatD} {T : Int}
theorem St.wid (h : St rs N s E ms T) : ∀ m ∈ ms, 0 ≤ m.width := fun m hm => by have := (h.fit m hm).2.2.2.2.1; omega
theorem St.set0 (h : St rs N s E ms T) : ∀ m ∈ ms, 0 ≤ m.set := fun m hm => (h.fit m hm).1
theorem conn_same {r : RoadD} (hc : Conn E r.a.toNat r.b.toNat) {i j : Nat} : Conn (E ++ [r]) i j ↔ Conn E i j := by
  rw [conn_push]
  constructor
  · rintro (h | ⟨h1, h2⟩)
    · exact h
    · have a1 : Conn E i r.a.toNat := h1.elim id (fun g => g.trans hc.symm)
      have a2 : Conn E j r.a.toNat := h2.elim id (fun g => g.trans hc.symm)
      exact a1.trans a2.symm
  · exact .inl
theorem mOf_congr {E' : List RoadD} (hc : ∀ x y, Conn E' x y ↔ Conn E x y) (t : Nat) : ∀ ms : List MoatD, mOf E' ms t = mOf E ms t
  | [] => rfl
  | m :: ms => by
    have e : hitB E' t m = hitB E t m := by
      rw [Bool.eq_iff_iff, hitB_iff, hitB_iff]
      constructor
      · rintro ⟨x, h1, h2⟩; exact ⟨x, h1, (hc _ _).1 h2⟩
      · rintro ⟨x, h1, h2⟩; exact ⟨x, h1, (hc _ _).2 h2⟩
    show (if hitB E' t m = true then m.width else 0) + mOf E' ms t = (if hitB E t m = true then m.width else 0) + mOf E ms t
    rw [e, mOf_congr hc t ms]

/-- A full road with an end in a part that grows is joined. -/
theorem St.join (hok : ∀ r ∈ rs, roadOk N r = true) (h : St rs N s E ms T) {r : RoadD} (hr : r ∈ rs) (hf : ovC r ms = 2 * r.cost) (ht : ∃ t, s.testBit t = true ∧ (Conn E t r.a.toNat ∨ Conn E t r.b.toNat)) : St rs N s (E ++ [r]) ms T := by
  obtain ⟨p1, p2, p3, p4, -, p6, -⟩ := roadOk_iff.1 (hok r hr)
  have haN : r.a.toNat < N := by omega
  have hbN : r.b.toNat < N := by omega
  have hsub : ∀ q ∈ E ++ [r], q ∈ rs := fun q hq => by
    rcases List.mem_append.1 hq with g | g
    · exact h.sub q g
    · simp at g; rw [g]; exact hr
  by_cases hc : Conn E r.a.toNat r.b.toNat
  · have hcs : ∀ x y, Conn (E ++ [r]) x y ↔ Conn E x y := fun x y => conn_same hc
    exact {
      sub := hsub
      fit := h.fit
      inner := fun m hm x y hx hy => (hcs _ _).2 (h.inner m hm x y hx hy)
      time := h.time
      off := fun x hx => by
        rcases h.off x hx with ⟨t, t1, t2⟩ | ⟨g1, g2⟩
        · exact .inl ⟨t, t1, (hcs _ _).2 t2⟩
        · exact .inr ⟨fun y hy => g1 y ((hcs _ _).1 hy), g2⟩
      even := fun x t hx ht hc => h.even x t hx ht ((hcs _ _).1 hc)
      near := fun x t hx ht hc => by
        obtain ⟨u, F, a, b, c⟩ := h.near x t hx ht ((hcs _ _).1 hc)
        exact ⟨u, F, a, (hcs _ _).2 b, c⟩
      tree := fun t ht => by
        obtain ⟨F, a, b, c⟩ := h.tree t ht
        exact ⟨F, a, fun u hu hc => b u hu ((hcs _ _).1 hc), by rw [mOf_congr hcs]; exact c⟩ }
  · have hsp := ov_split hc ms h.set0 h.inner
    rw [hf] at hsp
    have hup : ∀ x y, Conn E x y → Conn (E ++ [r]) x y := fun x y g => g.left
    have hab : Conn (E ++ [r]) r.a.toNat r.b.toNat := Conn.step .refl ⟨r, by simp, .inl ⟨rfl, rfl⟩⟩
    -- the ends, either way round
    have key : ∀ a b, a < N → b < N → ¬ Conn E a b → 2 * r.cost = gOf ms a + gOf ms b → Conn (E ++ [r]) a b → (∀ F : List RoadD, Conn (F ++ [r]) a b) → (∀ i j, Conn (E ++ [r]) i j → Conn E i j ∨ ((Conn E i a ∨ Conn E i b) ∧ (Conn E j a ∨ Conn E j b))) →
        (∃ t, s.testBit t = true ∧ Conn E t b) →
        (¬ (∃ t, s.testBit t = true ∧ Conn E t a) → (∃ k : Int, T - gOf ms a = 2 * k) ∧ ∃ u F, s.testBit u = true ∧ Conn (E ++ [r]) u a ∧ (∀ q ∈ F, q ∈ rs) ∧ Conn F u a ∧ 2 * sumC F ≤ T - gOf ms a) ∧
        (∀ t, s.testBit t = true → Conn E t a → ∃ F : List RoadD, (∀ q ∈ F, q ∈ rs) ∧ (∀ u, s.testBit u = true → Conn (E ++ [r]) t u → Conn F t u) ∧ sumC F ≤ mOf (E ++ [r]) ms t - T) ∧
        (∀ t, s.testBit t = true → Conn E t b → ∃ F : List RoadD, (∀ q ∈ F, q ∈ rs) ∧ (∀ u, s.testBit u = true → Conn (E ++ [r]) t u → Conn F t u) ∧ sumC F ≤ mOf (E ++ [r]) ms t - T) := by
      intro a b ha hb hnab hcost hcab hrab hpush hT
      obtain ⟨tb, tb1, tb2⟩ := hT
      have hFr : ∀ (F : List RoadD), (∀ q ∈ F, q ∈ rs) → ∀ q ∈ F ++ [r], q ∈ rs := fun F hF q hq => by
        rcases List.mem_append.1 hq with g | g
        · exact hF q g
        · simp at g; rw [g]; exact hr
      have hs1 : ∀ F : List RoadD, sumC (F ++ [r]) = sumC F + r.cost := fun F => by rw [sumC_app]; show _ + (r.cost + 0) = _; omega
      obtain ⟨ub, Fb, ub1, ub2, Fb1, Fb2, Fb3⟩ := h.near b tb hb tb1 tb2
      refine ⟨fun hna => ?_, ?_⟩
      · have g0 : gOf ms a = 0 := by
          rcases h.off a ha with g | ⟨-, g⟩
          · exact absurd g hna
          · exact g
        obtain ⟨k, hk⟩ := h.even b tb hb tb1 tb2
        refine ⟨⟨k + r.cost, by omega⟩, ub, Fb ++ [r], ub1, (hup _ _ ub2).trans hcab.symm, hFr Fb Fb1, (Fb2.left).trans (hrab Fb).symm, by rw [hs1]; omega⟩
      · by_cases hA : ∃ t, s.testBit t = true ∧ Conn E t a
        · obtain ⟨ta, ta1, ta2⟩ := hA
          obtain ⟨ua, Fa, ua1, ua2, Fa1, Fa2, Fa3⟩ := h.near a ta ha ta1 ta2
          -- one tree for both parts
          have both : ∀ t t2, s.testBit t = true → s.testBit t2 = true → Conn E t a → Conn E t2 b →
              ∃ F : List RoadD, (∀ q ∈ F, q ∈ rs) ∧ (∀ u, s.testBit u = true → (Conn E u a ∨ Conn E u b) → Conn F t u) ∧ Conn F t t2 ∧ sumC F ≤ mOf E ms t + mOf E ms t2 - T := by
            intro t t2 t1 t21 hta htb
            obtain ⟨F1, a1, a2, a3⟩ := h.tree t t1
            obtain ⟨F2, b1, b2, b3⟩ := h.tree t2 t21
            have m1 : ∀ F G : List RoadD, ∀ x y, Conn F x y → Conn (F ++ G) x y := fun F G x y g => g.left
            have m2 : ∀ F G : List RoadD, ∀ x y, Conn G x y → Conn (F ++ G) x y := fun F G x y g => g.right
            have c1 : ∀ x y, Conn F1 x y → Conn ((F1 ++ F2) ++ ((Fa ++ Fb) ++ [r])) x y := fun x y g => m1 _ _ _ _ (m1 _ _ _ _ g)
            have c2 : ∀ x y, Conn F2 x y → Conn ((F1 ++ F2) ++ ((Fa ++ Fb) ++ [r])) x y := fun x y g => m1 _ _ _ _ (m2 _ _ _ _ g)
            have c3 : ∀ x y, Conn Fa x y → Conn ((F1 ++ F2) ++ ((Fa ++ Fb) ++ [r])) x y := fun x y g => m2 _ _ _ _ (m1 _ _ _ _ (m1 _ _ _ _ g))
            have c4 : ∀ x y, Conn Fb x y → Conn ((F1 ++ F2) ++ ((Fa ++ Fb) ++ [r])) x y := fun x y g => m2 _ _ _ _ (m1 _ _ _ _ (m2 _ _ _ _ g))
            have c5 : Conn ((F1 ++ F2) ++ ((Fa ++ Fb) ++ [r])) a b := m2 _ _ _ _ (hrab _)
            have d1 := c1 _ _ (a2 ua ua1 (hta.trans ua2.symm))
            have d2 := c2 _ _ (b2 ub ub1 (htb.trans ub2.symm))
            have d3 := ((d1.trans (c3 _ _ Fa2)).trans c5).trans ((c4 _ _ Fb2).symm.trans d2.symm)
            refine ⟨(F1 ++ F2) ++ ((Fa ++ Fb) ++ [r]), fun q hq => ?_, fun u hu hc => ?_, d3, ?_⟩
            · rcases List.mem_append.1 hq with g | g
              · rcases List.mem_append.1 g with g | g
                · exact a1 q g
                · exact b1 q g
              · refine hFr (Fa ++ Fb) (fun q hq => ?_) q g
                rcases List.mem_append.1 hq with g | g
                · exact Fa1 q g
                · exact Fb1 q g
            · rcases hc with hc | hc
              · exact c1 _ _ (a2 u hu (hta.trans hc.symm))
              · exact d3.trans (c2 _ _ (b2 u hu (htb.trans hc.symm)))
            · have e1 : sumC ((F1 ++ F2) ++ ((Fa ++ Fb) ++ [r])) = sumC F1 + sumC F2 + (sumC Fa + sumC Fb + r.cost) := by
                rw [sumC_app, sumC_app, hs1, sumC_app]
              rw [e1]; omega
          have nab : ∀ t t2, Conn E t a → Conn E t2 b → ¬ Conn E t t2 := fun t t2 g1 g2 g => hnab (g1.symm.trans (g.trans g2))
          refine ⟨fun t t1 hta => ?_, fun t t1 htb => ?_⟩
          · obtain ⟨F, f1, f2, f3, f4⟩ := both t tb t1 tb1 hta tb2
            refine ⟨F, f1, fun u hu hc => ?_, ?_⟩
            · rcases hpush _ _ hc with g | ⟨-, g⟩
              · exact f2 u hu (.inl (g.symm.trans hta))
              · exact f2 u hu g
            · have := mOf_two hup (nab t tb hta tb2) ((hup _ _ hta).trans (hcab.trans (hup _ _ tb2).symm)) ms h.wid h.inner
              omega
          · obtain ⟨F, f1, f2, f3, f4⟩ := both ta t ta1 t1 ta2 htb
            refine ⟨F, f1, fun u hu hc => ?_, ?_⟩
            · rcases hpush _ _ hc with g | ⟨-, g⟩
              · exact f3.symm.trans (f2 u hu (.inr (g.symm.trans htb)))
              · exact f3.symm.trans (f2 u hu g)
            · have := mOf_two (t := t) (u := ta) hup (fun g => nab ta t ta2 htb g.symm) ((hup _ _ htb).trans (hcab.symm.trans (hup _ _ ta2).symm)) ms h.wid h.inner
              omega
        · refine ⟨fun t t1 hta => absurd ⟨t, t1, hta⟩ hA, fun t t1 htb => ?_⟩
          obtain ⟨F, f1, f2, f3⟩ := h.tree t t1
          refine ⟨F, f1, fun u hu hc => ?_, ?_⟩
          · rcases hpush _ _ hc with g | ⟨-, g | g⟩
            · exact f2 u hu g
            · exact absurd ⟨u, hu, g⟩ hA
            · exact f2 u hu (htb.trans g.symm)
          · have := mOf_mono (fun x g => hup t x g) ms h.wid
            omega
    have hedge : ∀ F : List RoadD, Conn (F ++ [r]) r.a.toNat r.b.toNat := fun F => Conn.step .refl ⟨r, by simp, .inl ⟨rfl, rfl⟩⟩
    have push1 : ∀ i j, Conn (E ++ [r]) i j → Conn E i j ∨ ((Conn E i r.a.toNat ∨ Conn E i r.b.toNat) ∧ (Conn E j r.a.toNat ∨ Conn E j r.b.toNat)) := fun i j g => conn_push.1 g
    have push2 : ∀ i j, Conn (E ++ [r]) i j → Conn E i j ∨ ((Conn E i r.b.toNat ∨ Conn E i r.a.toNat) ∧ (Conn E j r.b.toNat ∨ Conn E j r.a.toNat)) := fun i j g => (conn_push.1 g).imp id (fun ⟨x, y⟩ => ⟨x.symm, y.symm⟩)
    have kA := key r.a.toNat r.b.toNat haN hbN hc hsp.symm.symm hab hedge push1
    have kB := key r.b.toNat r.a.toNat hbN haN (fun g => hc g.symm) (by omega) hab.symm (fun F => (hedge F).symm) push2
    -- what each of the ends has
    have allA : (¬ (∃ t, s.testBit t = true ∧ Conn E t r.a.toNat) → (∃ k : Int, T - gOf ms r.a.toNat = 2 * k) ∧ ∃ u F, s.testBit u = true ∧ Conn (E ++ [r]) u r.a.toNat ∧ (∀ q ∈ F, q ∈ rs) ∧ Conn F u r.a.toNat ∧ 2 * sumC F ≤ T - gOf ms r.a.toNat) ∧
        (¬ (∃ t, s.testBit t = true ∧ Conn E t r.b.toNat) → (∃ k : Int, T - gOf ms r.b.toNat = 2 * k) ∧ ∃ u F, s.testBit u = true ∧ Conn (E ++ [r]) u r.b.toNat ∧ (∀ q ∈ F, q ∈ rs) ∧ Conn F u r.b.toNat ∧ 2 * sumC F ≤ T - gOf ms r.b.toNat) ∧
        (∀ t, s.testBit t = true → (Conn E t r.a.toNat ∨ Conn E t r.b.toNat) → ∃ F : List RoadD, (∀ q ∈ F, q ∈ rs) ∧ (∀ u, s.testBit u = true → Conn (E ++ [r]) t u → Conn F t u) ∧ sumC F ≤ mOf (E ++ [r]) ms t - T) := by
      obtain ⟨t, t1, t2⟩ := ht
      rcases t2 with t2 | t2
      · obtain ⟨k1, k2, k3⟩ := kB ⟨t, t1, t2⟩
        exact ⟨fun g => absurd ⟨t, t1, t2⟩ g, k1, fun u hu g => g.elim (k3 u hu) (k2 u hu)⟩
      · obtain ⟨k1, k2, k3⟩ := kA ⟨t, t1, t2⟩
        exact ⟨k1, fun g => absurd ⟨t, t1, t2⟩ g, fun u hu g => g.elim (k2 u hu) (k3 u hu)⟩
    obtain ⟨qA, qB, qT⟩ := allA
    have lone : ∀ x, x < N → (∃ t, s.testBit t = true ∧ Conn E t x) ∨ x = r.a.toNat ∨ x = r.b.toNat ∨ ((∀ y, Conn (E ++ [r]) x y → y = x) ∧ gOf ms x = 0) := by
      intro x hx
      rcases h.off x hx with g | ⟨g1, g2⟩
      · exact .inl g
      · by_cases e1 : x = r.a.toNat
        · exact .inr (.inl e1)
        · by_cases e2 : x = r.b.toNat
          · exact .inr (.inr (.inl e2))
          · refine .inr (.inr (.inr ⟨fun y hy => ?_, g2⟩))
            rcases push1 _ _ hy with g | ⟨g | g, -⟩
            · exact g1 y g
            · exact absurd (g1 _ g).symm e1
            · exact absurd (g1 _ g).symm e2
    have term : ∀ x t, x < N → s.testBit t = true → Conn (E ++ [r]) t x → (∃ u, s.testBit u = true ∧ Conn E u x) ∨ (¬ (∃ u, s.testBit u = true ∧ Conn E u x) ∧ (x = r.a.toNat ∨ x = r.b.toNat)) := by
      intro x t hx ht hcx
      by_cases g : ∃ u, s.testBit u = true ∧ Conn E u x
      · exact .inl g
      · refine .inr ⟨g, ?_⟩
        rcases lone x hx with g2 | g2 | g2 | ⟨g2, -⟩
        · exact absurd g2 g
        · exact .inl g2
        · exact .inr g2
        · have e := g2 t hcx.symm
          subst e
          exact absurd ⟨t, ht, .refl⟩ g
    exact {
      sub := hsub
      fit := h.fit
      inner := fun m hm x y hx hy => hup _ _ (h.inner m hm x y hx hy)
      time := h.time
      off := fun x hx => by
        obtain ⟨t, t1, t2⟩ := ht
        rcases lone x hx with ⟨u, u1, u2⟩ | e | e | g
        · exact .inl ⟨u, u1, hup _ _ u2⟩
        · subst e
          exact .inl ⟨t, t1, t2.elim (fun g => hup _ _ g) (fun g => (hup _ _ g).trans hab.symm)⟩
        · subst e
          exact .inl ⟨t, t1, t2.elim (fun g => (hup _ _ g).trans hab) (fun g => hup _ _ g)⟩
        · exact .inr g
      even := fun x t hx ht hcx => by
        rcases term x t hx ht hcx with ⟨u, u1, u2⟩ | ⟨g, e | e⟩
        · exact h.even x u hx u1 u2
        · subst e; exact (qA g).1
        · subst e; exact (qB g).1
      near := fun x t hx ht hcx => by
        rcases term x t hx ht hcx with ⟨u, u1, u2⟩ | ⟨g, e | e⟩
        · obtain ⟨v, F, a, b, c⟩ := h.near x u hx u1 u2
          exact ⟨v, F, a, hup _ _ b, c⟩
        · subst e; exact (qA g).2
        · subst e; exact (qB g).2
      tree := fun t ht => by
        by_cases g : Conn E t r.a.toNat ∨ Conn E t r.b.toNat
        · exact qT t ht g
        · obtain ⟨F, f1, f2, f3⟩ := h.tree t ht
          refine ⟨F, f1, fun u hu hcu => ?_, ?_⟩
          · rcases push1 _ _ hcu with g2 | ⟨g2, -⟩
            · exact f2 u hu g2
            · exact absurd g2 g
          · have := mOf_mono (fun x g => hup t x g) ms h.wid
            omega }

/-- All parts that have some of the stops grow by d. -/
theorem St.grow (hsN : s < 2 ^ N) (h : St rs N s E ms T) {new : List MoatD} {d : Int} (_hd : 0 ≤ d) (n1 : ∀ m ∈ new, moatP N s m) (n2 : ∀ m ∈ new, ∀ x y, inB m x = true → inB m y = true → Conn E x y)
    (n3 : ∀ x, x < N → (∃ t, s.testBit t = true ∧ Conn E t x) → gOf new x = d) (n4 : ∀ x, x < N → ¬ (∃ t, s.testBit t = true ∧ Conn E t x) → gOf new x = 0)
    (n5 : ∀ t, s.testBit t = true → ∃ m ∈ new, m.width = d ∧ inB m t = true) : St rs N s E (ms ++ new) (T + d) where
  sub := h.sub
  fit := fun m hm => (List.mem_append.1 hm).elim (h.fit m) (n1 m)
  inner := fun m hm => (List.mem_append.1 hm).elim (h.inner m) (n2 m)
  time := fun t ht => by rw [gOf_app, h.time t ht, n3 t (bit_lt hsN ht) ⟨t, ht, .refl⟩]
  off := fun x hx => by
    by_cases g : ∃ t, s.testBit t = true ∧ Conn E t x
    · exact .inl g
    · rcases h.off x hx with g2 | ⟨g2, g3⟩
      · exact absurd g2 g
      · exact .inr ⟨g2, by rw [gOf_app, g3, n4 x hx g]; rfl⟩
  even := fun x t hx ht hc => by
    obtain ⟨k, hk⟩ := h.even x t hx ht hc
    exact ⟨k, by rw [gOf_app, n3 x hx ⟨t, ht, hc⟩]; omega⟩
  near := fun x t hx ht hc => by
    obtain ⟨u, F, a, b, c, e, f⟩ := h.near x t hx ht hc
    exact ⟨u, F, a, b, c, e, by rw [gOf_app, n3 x hx ⟨t, ht, hc⟩]; omega⟩
  tree := fun t ht => by
    obtain ⟨F, a, b, c⟩ := h.tree t ht
    obtain ⟨m, hm, hw, hi⟩ := n5 t ht
    have h1 := mOf_one E new t (fun q hq => by have := (n1 q hq).2.2.2.2.1; omega) m hm (hitB_iff.2 ⟨t, hi, .refl⟩)
    exact ⟨F, a, b, by rw [mOf_app]; omega⟩

/-- When all stops are in one part: there is a tree that costs at most all widths. -/
theorem St.done (hok : ∀ r ∈ rs, roadOk N r = true) (hN1 : 1 ≤ N) (hN : N ≤ 8) (h0 : 0 < s) (hsN : s < 2 ^ N) (h : St rs N s E ms T) (hT : 0 ≤ T) (hc : Cn E s) : steinerV rs N s ≤ sumW ms := by
  obtain ⟨t, ht⟩ := Nat.exists_testBit_of_ne_zero (show s ≠ 0 by omega)
  obtain ⟨F, a, b, c⟩ := h.tree t ht
  have h1 := steiner_le hok hN1 hN h0 hsN a (fun x y hx hy => (b x hx (hc t x ht hx)).symm.trans (b y hy (hc t y ht hy)))
  have h2 := mOf_sum E ms t h.wid
  rw [sumW_wS]; omega
end

end Go.Proofs.YtkbkgkmogbkabaaDoor

/-
  One round of Moats, as plain functions, and what it keeps. Plain Lean.
-/
namespace Go.Proofs.YtkbkgkmogbkabaaDoor
open Go.RowKit

/-- Each part bears the number of its least stop. -/
def LabM (p : Nat → Int) : Prop := ∀ i, i < 8 → 0 ≤ p i ∧ p i ≤ i ∧ p (p i).toNat = p i
theorem LabM.start : LabM (fun i => (i : Int)) := fun i _ => ⟨by show (0 : Int) ≤ (i : Int); omega, Int.le_refl _, by show ((((i : Int)).toNat : Nat) : Int) = (i : Int); omega⟩
theorem LabM.join {p : Nat → Int} (h : LabM p) {a b : Nat} (ha : a < 8) (hb : b < 8) : LabM (joinL p a b) := by
  intro i hi
  obtain ⟨a1, a2, a3⟩ := h a ha
  obtain ⟨b1, b2, b3⟩ := h b hb
  obtain ⟨i1, i2, i3⟩ := h i hi
  have hm : p (min (p a) (p b)).toNat = min (p a) (p b) := by
    rcases Int.le_total (p a) (p b) with g | g
    · rw [Int.min_eq_left g]; exact a3
    · rw [Int.min_eq_right g]; exact b3
  by_cases e : p i = max (p a) (p b)
  · have e1 : joinL p a b i = min (p a) (p b) := by unfold joinL; rw [if_pos e]
    rw [e1]
    refine ⟨by omega, by omega, ?_⟩
    unfold joinL
    rw [hm]
    split <;> rfl
  · have e1 : joinL p a b i = p i := by unfold joinL; rw [if_neg e]
    rw [e1]
    refine ⟨i1, i2, ?_⟩
    unfold joinL
    rw [i3, if_neg e]
/-- How many parts there are. -/
def reps (p : Nat → Int) (N : Nat) : Nat := cnt (fun i => decide (i < 8 ∧ p i = i)) N
theorem cnt_congr {f g : Nat → Bool} : ∀ n, (∀ i, i < n → f i = g i) → cnt f n = cnt g n
  | 0, _ => rfl
  | n + 1, h => by
    unfold cnt
    rw [cnt_congr n (fun i hi => h i (by omega)), h n (by omega)]
theorem reps_same {p q : Nat → Int} {N : Nat} (h : ∀ x, x < 8 → p x = q x) : reps p N = reps q N := by
  unfold reps
  refine cnt_congr N (fun i _ => ?_)
  by_cases e : i < 8
  · rw [h i e]
  · rw [decide_eq_false (fun g => e g.1), decide_eq_false (fun g => e g.1)]
theorem reps_join {p : Nat → Int} {N : Nat} (h : LabM p) (hN : N ≤ 8) {a b : Nat} (ha : a < N) (hb : b < N) (hne : p a ≠ p b) : reps (joinL p a b) N < reps p N := by
  obtain ⟨a1, a2, a3⟩ := h a (by omega)
  obtain ⟨b1, b2, b3⟩ := h b (by omega)
  have hq : p (max (p a) (p b)).toNat = max (p a) (p b) := by
    rcases Int.le_total (p a) (p b) with g | g
    · rw [Int.max_eq_right g]; exact b3
    · rw [Int.max_eq_left g]; exact a3
  refine cnt_lt (fun x hx => ?_) (x := (max (p a) (p b)).toNat) ?_ ?_ N (by omega)
  · rw [decide_eq_true_iff] at hx ⊢
    obtain ⟨x8, hx⟩ := hx
    refine ⟨x8, ?_⟩
    obtain ⟨-, x2, -⟩ := h x x8
    unfold joinL at hx
    split at hx <;> omega
  · rw [decide_eq_true_iff]
    rintro ⟨-, hx⟩
    unfold joinL at hx
    rw [if_pos hq] at hx
    omega
  · rw [decide_eq_true_iff]
    exact ⟨by omega, by rw [hq]; omega⟩

/-- The stops of a part. -/
def partTo (p : Nat → Int) (i : Nat) : Nat → Nat
  | 0 => 0
  | j + 1 => if p j = p i then partTo p i j ||| 2 ^ j else partTo p i j
theorem partTo_bit {p : Nat → Int} {i x : Nat} : ∀ {k : Nat}, (partTo p i k).testBit x = true ↔ x < k ∧ p x = p i
  | 0 => by
    show (0 : Nat).testBit x = true ↔ _
    rw [Nat.zero_testBit]
    exact ⟨fun h => by simp at h, fun h => by omega⟩
  | k + 1 => by
    unfold partTo
    by_cases e : p k = p i
    · rw [if_pos e, Nat.testBit_or, Bool.or_eq_true, partTo_bit (k := k), Nat.testBit_two_pow, decide_eq_true_iff]
      constructor
      · rintro (⟨h1, h2⟩ | h)
        · exact ⟨by omega, h2⟩
        · subst h; exact ⟨by omega, e⟩
      · rintro ⟨h1, h2⟩
        by_cases g : k = x
        · exact .inr g
        · exact .inl ⟨by omega, h2⟩
    · rw [if_neg e, partTo_bit (k := k)]
      constructor
      · rintro ⟨h1, h2⟩; exact ⟨by omega, h2⟩
      · rintro ⟨h1, h2⟩
        refine ⟨?_, h2⟩
        by_cases g : x = k
        · subst g; exact absurd h2 e
        · omega
theorem partTo_lt (p : Nat → Int) (i : Nat) : ∀ k, partTo p i k < 2 ^ k
  | 0 => by show 0 < 2 ^ 0; decide
  | k + 1 => by
    have ih := partTo_lt p i k
    have e : 2 ^ (k + 1) = 2 ^ k + 2 ^ k := by rw [Nat.pow_succ]; omega
    unfold partTo
    split
    · exact Nat.or_lt_two_pow (by omega) (Nat.pow_lt_pow_right (by decide) (by omega))
    · omega
/-- Does a part grow: has it some but not all of the stops, and is it met at its least stop? -/
def growsB (p : Nat → Int) (N s i : Nat) : Bool := decide (p i = i) && (decide (partTo p i N &&& s ≠ 0) && decide (andn s (partTo p i N) ≠ 0))
def growL (p : Nat → Int) (N s : Nat) : Nat → List Nat
  | 0 => []
  | i + 1 => if growsB p N s i = true then growL p N s i ++ [partTo p i N] else growL p N s i
theorem growL_len (p : Nat → Int) (N s : Nat) : ∀ k, (growL p N s k).length ≤ k
  | 0 => Nat.le_refl _
  | k + 1 => by
    have := growL_len p N s k
    unfold growL
    split
    · rw [List.length_append, List.length_singleton]; omega
    · omega
theorem growL_mem {p : Nat → Int} {N s S : Nat} : ∀ {k : Nat}, S ∈ growL p N s k ↔ ∃ i, i < k ∧ growsB p N s i = true ∧ S = partTo p i N
  | 0 => ⟨fun h => by simp [growL] at h, fun ⟨i, h, _⟩ => by omega⟩
  | k + 1 => by
    unfold growL
    by_cases e : growsB p N s k = true
    · rw [if_pos e, List.mem_append, growL_mem (k := k), List.mem_singleton]
      constructor
      · rintro (⟨i, h1, h2, h3⟩ | h)
        · exact ⟨i, by omega, h2, h3⟩
        · exact ⟨k, by omega, e, h⟩
      · rintro ⟨i, h1, h2, h3⟩
        by_cases g : i = k
        · subst g; exact .inr h3
        · exact .inl ⟨i, by omega, h2, h3⟩
    · rw [if_neg e, growL_mem (k := k)]
      constructor
      · rintro ⟨i, h1, h2, h3⟩; exact ⟨i, by omega, h2, h3⟩
      · rintro ⟨i, h1, h2, h3⟩
        refine ⟨i, ?_, h2, h3⟩
        by_cases g : i = k
        · subst g; exact absurd h2 e
        · omega
def mkM (G : List Nat) (d : Int) : List MoatD := G.map (fun (S : Nat) => ⟨(S : Int), d⟩)
theorem mkM_len (G : List Nat) (d : Int) : (mkM G d).length = G.length := by unfold mkM; simp
theorem inB_mk {S x : Nat} {d : Int} : inB ⟨(S : Int), d⟩ x = S.testBit x := by unfold inB; dsimp only; rw [Int.toNat_natCast]
def spdC (r : RoadD) : List Nat → Int
  | [] => 0
  | S :: G => (if crossB r (S : Int) = true then 1 else 0) + spdC r G
theorem spdC_app (r : RoadD) : ∀ (a b : List Nat), spdC r (a ++ b) = spdC r a + spdC r b
  | [], b => by show spdC r b = 0 + spdC r b; omega
  | S :: a, b => by
    show _ + spdC r (a ++ b) = _ + spdC r a + spdC r b
    rw [spdC_app r a b]; omega
theorem spdC_in (r : RoadD) : ∀ (G : List Nat), 0 ≤ spdC r G ∧ spdC r G ≤ G.length
  | [] => ⟨Int.le_refl _, Int.le_refl _⟩
  | S :: G => by
    have := spdC_in r G
    show 0 ≤ (if crossB r (S : Int) = true then 1 else 0) + spdC r G ∧ (if crossB r (S : Int) = true then 1 else 0) + spdC r G ≤ _
    rw [List.length_cons]
    split <;> omega
theorem ovC_mk (r : RoadD) (d : Int) : ∀ (G : List Nat), ovC r (mkM G d) = d * spdC r G
  | [] => by show (0 : Int) = d * 0; omega
  | S :: G => by
    show (if crossB r (S : Int) = true then d else 0) + ovC r (mkM G d) = d * ((if crossB r (S : Int) = true then 1 else 0) + spdC r G)
    rw [ovC_mk r d G, Int.mul_add]
    split <;> omega

theorem ite_iff {a b : Prop} [Decidable a] [Decidable b] (h : a ↔ b) : (if a then (1 : Int) else 0) = if b then 1 else 0 := by
  by_cases q : a
  · rw [if_pos q, if_pos (h.1 q)]
  · rw [if_neg q, if_neg (fun g => q (h.2 g))]

section
variable {p : Nat → Int} {N s : Nat}
theorem gOf_grow (hM : LabM p) (hN : N ≤ 8) {x : Nat} (hx : x < N) (d : Int) : ∀ k, k ≤ N → gOf (mkM (growL p N s k) d) x = if growsB p N s (p x).toNat = true ∧ (p x).toNat < k then d else 0
  | 0, _ => by rw [if_neg (by omega)]; rfl
  | k + 1, hk => by
    have ih := gOf_grow hM hN hx d k (by omega)
    obtain ⟨x1, x2, x3⟩ := hM x (by omega)
    unfold growL
    by_cases e : growsB p N s k = true
    · have ek : p k = k := by
        unfold growsB at e
        rw [Bool.and_eq_true, decide_eq_true_iff] at e
        exact e.1
      rw [if_pos e]
      have e2 : mkM (growL p N s k ++ [partTo p k N]) d = mkM (growL p N s k) d ++ [⟨(partTo p k N : Int), d⟩] := by unfold mkM; rw [List.map_append]; rfl
      rw [e2, gOf_app, ih]
      have e3 : gOf [(⟨(partTo p k N : Int), d⟩ : MoatD)] x = if (p x).toNat = k then d else 0 := by
        show (if inB ⟨(partTo p k N : Int), d⟩ x = true then d else 0) + 0 = _
        rw [inB_mk, Int.add_zero]
        by_cases g : (p x).toNat = k
        · rw [if_pos g, if_pos (partTo_bit.2 ⟨hx, by rw [ek]; omega⟩)]
        · rw [if_neg g, if_neg (fun h => by have := (partTo_bit.1 h).2; rw [ek] at this; omega)]
      rw [e3]
      by_cases g : (p x).toNat = k
      · rw [if_pos g, if_neg (by omega), if_pos ⟨by rw [g]; exact e, by omega⟩]; omega
      · rw [if_neg g]
        by_cases g2 : growsB p N s (p x).toNat = true ∧ (p x).toNat < k
        · rw [if_pos g2, if_pos ⟨g2.1, by omega⟩]; omega
        · rw [if_neg g2, if_neg (fun h => g2 ⟨h.1, by omega⟩)]; rfl
    · rw [if_neg e, ih]
      by_cases g2 : growsB p N s (p x).toNat = true ∧ (p x).toNat < k
      · rw [if_pos g2, if_pos ⟨g2.1, by omega⟩]
      · rw [if_neg g2, if_neg (fun h => g2 ⟨h.1, by
          rcases Nat.lt_or_ge (p x).toNat k with q | q
          · exact q
          · have : (p x).toNat = k := by omega
            rw [this] at h; exact absurd h.1 e⟩)]
theorem spd_grow (hM : LabM p) (hN : N ≤ 8) {r : RoadD} (ha : r.a.toNat < N) (hb : r.b.toNat < N) : ∀ k, k ≤ N → spdC r (growL p N s k) = if p r.a.toNat = p r.b.toNat then 0 else
    (if growsB p N s (p r.a.toNat).toNat = true ∧ (p r.a.toNat).toNat < k then 1 else 0) + (if growsB p N s (p r.b.toNat).toNat = true ∧ (p r.b.toNat).toNat < k then 1 else 0)
  | 0, _ => by
    rw [if_neg (show ¬ (growsB p N s (p r.a.toNat).toNat = true ∧ (p r.a.toNat).toNat < 0) by omega), if_neg (show ¬ (growsB p N s (p r.b.toNat).toNat = true ∧ (p r.b.toNat).toNat < 0) by omega)]
    split <;> rfl
  | k + 1, hk => by
    have ih := spd_grow hM hN ha hb k (by omega)
    obtain ⟨a1, a2, a3⟩ := hM r.a.toNat (by omega)
    obtain ⟨b1, b2, b3⟩ := hM r.b.toNat (by omega)
    have same : ∀ x, ¬ ((p x).toNat = k) ∨ ¬ growsB p N s k = true → ((growsB p N s (p x).toNat = true ∧ (p x).toNat < k + 1) ↔ (growsB p N s (p x).toNat = true ∧ (p x).toNat < k)) := by
      intro x hx
      constructor
      · rintro ⟨h1, h2⟩
        refine ⟨h1, ?_⟩
        rcases hx with hx | hx
        · omega
        · rcases Nat.lt_or_ge (p x).toNat k with q | q
          · exact q
          · have : (p x).toNat = k := by omega
            rw [this] at h1; exact absurd h1 hx
      · rintro ⟨h1, h2⟩; exact ⟨h1, by omega⟩
    unfold growL
    by_cases e : growsB p N s k = true
    · have ek : p k = k := by
        unfold growsB at e
        rw [Bool.and_eq_true, decide_eq_true_iff] at e
        exact e.1
      rw [if_pos e, spdC_app, ih]
      have hbit : ∀ x, x < N → 0 ≤ p x → ((partTo p k N).testBit x = true ↔ (p x).toNat = k) := fun x hx h0 => by
        rw [partTo_bit, ek]
        constructor
        · rintro ⟨-, h⟩; omega
        · intro h; exact ⟨hx, by omega⟩
      have e3 : spdC r [partTo p k N] = if ((partTo p k N).testBit r.a.toNat != (partTo p k N).testBit r.b.toNat) = true then 1 else 0 := by
        show (if crossB r (partTo p k N : Int) = true then 1 else 0) + 0 = _
        have := cross_in (r := r) (m := ⟨(partTo p k N : Int), 0⟩) (by show (0 : Int) ≤ (partTo p k N : Int); omega)
        rw [inB_mk, inB_mk] at this
        rw [this, Int.add_zero]
      rw [e3]
      have ba := hbit _ ha a1
      have bb := hbit _ hb b1
      by_cases hab : p r.a.toNat = p r.b.toNat
      · rw [if_pos hab, if_pos hab]
        have : (partTo p k N).testBit r.a.toNat = (partTo p k N).testBit r.b.toNat := by rw [Bool.eq_iff_iff, ba, bb, hab]
        rw [this, if_neg (by simp)]; rfl
      · rw [if_neg hab, if_neg hab]
        by_cases ga : (p r.a.toNat).toNat = k
        · have gb : ¬ (p r.b.toNat).toNat = k := by omega
          have t1 := ba.2 ga
          have t2 : (partTo p k N).testBit r.b.toNat = false := by rw [Bool.eq_false_iff]; exact fun h => gb (bb.1 h)
          have sb := same r.b.toNat (.inl gb)
          rw [t1, t2, if_pos (show (true != false) = true by decide)]
          rw [if_neg (show ¬ (growsB p N s (p r.a.toNat).toNat = true ∧ (p r.a.toNat).toNat < k) by omega), if_pos (show growsB p N s (p r.a.toNat).toNat = true ∧ (p r.a.toNat).toNat < k + 1 from ⟨by rw [ga]; exact e, by omega⟩)]
          by_cases q : growsB p N s (p r.b.toNat).toNat = true ∧ (p r.b.toNat).toNat < k
          · rw [if_pos q, if_pos (sb.2 q)]; rfl
          · rw [if_neg q, if_neg (fun h => q (sb.1 h))]; rfl
        · have t1 : (partTo p k N).testBit r.a.toNat = false := by rw [Bool.eq_false_iff]; exact fun h => ga (ba.1 h)
          have sa := same r.a.toNat (.inl ga)
          by_cases gb : (p r.b.toNat).toNat = k
          · have t2 := bb.2 gb
            rw [t1, t2, if_pos (show (false != true) = true by decide)]
            rw [if_neg (show ¬ (growsB p N s (p r.b.toNat).toNat = true ∧ (p r.b.toNat).toNat < k) by omega), if_pos (show growsB p N s (p r.b.toNat).toNat = true ∧ (p r.b.toNat).toNat < k + 1 from ⟨by rw [gb]; exact e, by omega⟩)]
            by_cases q : growsB p N s (p r.a.toNat).toNat = true ∧ (p r.a.toNat).toNat < k
            · rw [if_pos q, if_pos (sa.2 q)]; rfl
            · rw [if_neg q, if_neg (fun h => q (sa.1 h))]; rfl
          · have t2 : (partTo p k N).testBit r.b.toNat = false := by rw [Bool.eq_false_iff]; exact fun h => gb (bb.1 h)
            have sb := same r.b.toNat (.inl gb)
            rw [t1, t2, if_neg (show ¬ (false != false) = true by decide), Int.add_zero]
            rw [ite_iff sa, ite_iff sb]
    · rw [if_neg e, ih]
      rw [ite_iff (same r.a.toNat (.inr e)), ite_iff (same r.b.toNat (.inr e))]

theorem grows_iff {E : List RoadD} (hL : Lab E p) (hM : LabM p) (hN : N ≤ 8) (hsN : s < 2 ^ N) (hnot : ¬ Cn E s) {x : Nat} (hx : x < N) : growsB p N s (p x).toNat = true ↔ ∃ t, s.testBit t = true ∧ Conn E t x := by
  obtain ⟨x1, x2, x3⟩ := hM x (by omega)
  have e1 : p (p x).toNat = ((p x).toNat : Int) := by rw [x3]; omega
  unfold growsB
  rw [Bool.and_eq_true, Bool.and_eq_true, decide_eq_true_iff, decide_eq_true_iff, decide_eq_true_iff]
  constructor
  · rintro ⟨-, h, -⟩
    obtain ⟨t, ht⟩ := Nat.exists_testBit_of_ne_zero h
    rw [Nat.testBit_and, Bool.and_eq_true] at ht
    obtain ⟨h1, h2⟩ := ht
    obtain ⟨g1, g2⟩ := partTo_bit.1 h1
    rw [x3] at g2
    exact ⟨t, h2, (hL t x (by omega) (by omega)).1 g2⟩
  · rintro ⟨t, t1, t2⟩
    have htN := bit_lt hsN t1
    have hpt : p t = p x := (hL t x (by omega) (by omega)).2 t2
    refine ⟨e1, fun h => ?_, fun h => hnot ?_⟩
    · have : (partTo p (p x).toNat N &&& s).testBit t = true := by
        rw [Nat.testBit_and, Bool.and_eq_true]
        exact ⟨partTo_bit.2 ⟨htN, by rw [x3]; exact hpt⟩, t1⟩
      rw [h, Nat.zero_testBit] at this
      simp at this
    · rw [andn_zero] at h
      intro u v hu hv
      have a := (partTo_bit.1 (h u hu)).2
      have b := (partTo_bit.1 (h v hv)).2
      exact (hL u v (by have := bit_lt hsN hu; omega) (by have := bit_lt hsN hv; omega)).1 (by rw [a, b])
end

/-- The time until the first road is full. -/
def stepTo (L n : Nat → Int) : Nat → Int
  | 0 => far
  | k + 1 => if 0 < n k then min (stepTo L n k) ((L k).tdiv (n k)) else stepTo L n k
theorem tdiv12 {x n : Int} (hx : 0 ≤ x) (hn : n = 1 ∨ n = 2) : x.tdiv n * n ≤ x ∧ x - x.tdiv n * n < n ∧ 0 ≤ x.tdiv n ∧ x.tdiv n ≤ x := by
  rw [Int.tdiv_eq_ediv_of_nonneg hx]
  rcases hn with rfl | rfl <;> omega
theorem stepTo_props {L n : Nat → Int} {m : Nat} (hL : ∀ i, i < m → 0 ≤ L i) (hn : ∀ i, i < m → 0 < n i → n i = 1 ∨ n i = 2) : ∀ k, k ≤ m →
    (∀ i, i < k → 0 < n i → stepTo L n k ≤ (L i).tdiv (n i)) ∧ (stepTo L n k = far ∨ ∃ i, i < k ∧ 0 < n i ∧ stepTo L n k = (L i).tdiv (n i)) ∧ 0 ≤ stepTo L n k
  | 0, _ => ⟨fun i hi => by omega, .inl rfl, by show (0 : Int) ≤ far; unfold far; omega⟩
  | k + 1, hk => by
    obtain ⟨h1, h2, h3⟩ := stepTo_props hL hn k (by omega)
    unfold stepTo
    by_cases e : 0 < n k
    · rw [if_pos e]
      obtain ⟨-, -, t3, -⟩ := tdiv12 (hL k (by omega)) (hn k (by omega) e)
      refine ⟨fun i hi hni => ?_, ?_, by omega⟩
      · by_cases g : i = k
        · subst g; omega
        · have := h1 i (by omega) hni; omega
      · rcases Int.le_total (stepTo L n k) ((L k).tdiv (n k)) with g | g
        · rw [Int.min_eq_left g]
          rcases h2 with h2 | ⟨i, i1, i2, i3⟩
          · exact .inl h2
          · exact .inr ⟨i, by omega, i2, i3⟩
        · rw [Int.min_eq_right g]
          exact .inr ⟨k, by omega, e, rfl⟩
    · rw [if_neg e]
      refine ⟨fun i hi hni => ?_, ?_, h3⟩
      · by_cases g : i = k
        · subst g; exact absurd hni e
        · exact h1 i (by omega) hni
      · rcases h2 with h2 | ⟨i, i1, i2, i3⟩
        · exact .inl h2
        · exact .inr ⟨i, by omega, i2, i3⟩

theorem ovC_pos (r : RoadD) : ∀ (ms : List MoatD), (∀ m ∈ ms, 0 ≤ m.width) → 0 ≤ ovC r ms
  | [], _ => Int.le_refl _
  | m :: ms, h => by
    have ih := ovC_pos r ms (fun q hq => h q (List.mem_cons_of_mem _ hq))
    have := h m (List.mem_cons_self ..)
    show 0 ≤ (if crossB r m.set = true then m.width else 0) + ovC r ms
    split <;> omega
/-- What is left of the roads. -/
def LeftOK (rs : List RoadD) (L : Nat → Int) (ms : List MoatD) : Prop := ∀ i, i < rs.length → L i = 2 * (roadAt rs i).cost - ovC (roadAt rs i) ms ∧ 0 ≤ L i
theorem leaves {E rs : List RoadD} {t x : Nat} (h : Conn rs t x) (hn : ¬ Conn E t x) : ∃ r ∈ rs, ¬ Conn E r.a.toNat r.b.toNat ∧ (Conn E t r.a.toNat ∨ Conn E t r.b.toNat) := by
  induction h with
  | refl => exact absurd .refl hn
  | @step b c _ e ih =>
    by_cases g : Conn E t b
    · obtain ⟨r, hr, ⟨e1, e2⟩ | ⟨e1, e2⟩⟩ := e
      · exact ⟨r, hr, fun q => hn (by rw [e1, e2] at q; exact g.trans q), .inl (by rw [e1]; exact g)⟩
      · exact ⟨r, hr, fun q => hn (by rw [e1, e2] at q; exact g.trans q.symm), .inr (by rw [e2]; exact g)⟩
    · exact ih g

/-- One round, up to the joining. -/
structure RoundOut (rs : List RoadD) (N s : Nat) (E : List RoadD) (p : Nat → Int) (n L' : Nat → Int) (d : Int) (ms' : List MoatD) (T' : Int) : Prop where
  d0 : 0 ≤ d
  d1 : d ≤ 100
  st : St rs N s E ms' T'
  left : LeftOK rs L' ms'
  sp : ∀ i, i < rs.length → 0 ≤ n i ∧ n i ≤ 2
  full : ∀ i, i < rs.length → 0 < n i → L' i < n i → ovC (roadAt rs i) ms' = 2 * (roadAt rs i).cost ∧ ∃ t, s.testBit t = true ∧ (Conn E t (roadAt rs i).a.toNat ∨ Conn E t (roadAt rs i).b.toNat)
  some : ∃ i, i < rs.length ∧ 0 < n i ∧ L' i < n i ∧ p (roadAt rs i).a.toNat ≠ p (roadAt rs i).b.toNat

theorem round_out {rs : List RoadD} {N s : Nat} {E : List RoadD} {p L : Nat → Int} {ms : List MoatD} {T : Int} (hok : ∀ r ∈ rs, roadOk N r = true) (hN : N ≤ 8) (hsN : s < 2 ^ N) (hCn : Cn rs s) (hnot : ¬ Cn E s)
    (hL : Lab E p) (hM : LabM p) (h : St rs N s E ms T) (hl : LeftOK rs L ms) {n : Nat → Int} (hn : ∀ i, n i = spdC (roadAt rs i) (growL p N s N)) {d : Int} (hd : d = stepTo L n rs.length) {L' : Nat → Int} (hL' : ∀ i, i < rs.length → L' i = L i - d * n i)
    {ms' : List MoatD} (hms : ms' = if 0 < d then ms ++ mkM (growL p N s N) d else ms) : RoundOut rs N s E p n L' d ms' (T + d) := by
  have road : ∀ i, i < rs.length → (roadAt rs i).a.toNat < N ∧ (roadAt rs i).b.toNat < N ∧ 1 ≤ (roadAt rs i).cost ∧ (roadAt rs i).cost ≤ 50 := fun i hi => by
    obtain ⟨p1, p2, p3, p4, -, p6, p7⟩ := roadOk_iff.1 (hok _ (roadAt_mem hi))
    omega
  have gr : ∀ x, x < N → (growsB p N s (p x).toNat = true ∧ (p x).toNat < N ↔ ∃ t, s.testBit t = true ∧ Conn E t x) := fun x hx => by
    obtain ⟨x1, x2, -⟩ := hM x (by omega)
    rw [← grows_iff hL hM hN hsN hnot hx]
    exact ⟨fun h => h.1, fun h => ⟨h, by omega⟩⟩
  have spv : ∀ i, i < rs.length → n i = if p (roadAt rs i).a.toNat = p (roadAt rs i).b.toNat then 0 else
      (if growsB p N s (p (roadAt rs i).a.toNat).toNat = true ∧ (p (roadAt rs i).a.toNat).toNat < N then 1 else 0) + (if growsB p N s (p (roadAt rs i).b.toNat).toNat = true ∧ (p (roadAt rs i).b.toNat).toNat < N then 1 else 0) := fun i hi => by
    obtain ⟨a1, a2, -, -⟩ := road i hi
    rw [hn i, spd_grow hM hN a1 a2 N (Nat.le_refl _)]
  have sp : ∀ i, i < rs.length → 0 ≤ n i ∧ n i ≤ 2 := fun i hi => by
    rw [spv i hi]
    split
    · omega
    · split <;> split <;> omega
  have spn : ∀ i, i < rs.length → 0 < n i → p (roadAt rs i).a.toNat ≠ p (roadAt rs i).b.toNat ∧ (∃ t, s.testBit t = true ∧ (Conn E t (roadAt rs i).a.toNat ∨ Conn E t (roadAt rs i).b.toNat)) ∧
      (n i = 1 ∨ (n i = 2 ∧ (∃ t, s.testBit t = true ∧ Conn E t (roadAt rs i).a.toNat) ∧ ∃ t, s.testBit t = true ∧ Conn E t (roadAt rs i).b.toNat)) := fun i hi h0 => by
    obtain ⟨a1, a2, -, -⟩ := road i hi
    have v := spv i hi
    by_cases e : p (roadAt rs i).a.toNat = p (roadAt rs i).b.toNat
    · rw [if_pos e] at v; omega
    · rw [if_neg e] at v
      refine ⟨e, ?_⟩
      by_cases ga : growsB p N s (p (roadAt rs i).a.toNat).toNat = true ∧ (p (roadAt rs i).a.toNat).toNat < N
      · obtain ⟨t, t1, t2⟩ := (gr _ a1).1 ga
        refine ⟨⟨t, t1, .inl t2⟩, ?_⟩
        rw [if_pos ga] at v
        by_cases gb : growsB p N s (p (roadAt rs i).b.toNat).toNat = true ∧ (p (roadAt rs i).b.toNat).toNat < N
        · rw [if_pos gb] at v
          exact .inr ⟨by omega, ⟨t, t1, t2⟩, (gr _ a2).1 gb⟩
        · rw [if_neg gb] at v
          exact .inl (by omega)
      · rw [if_neg ga] at v
        by_cases gb : growsB p N s (p (roadAt rs i).b.toNat).toNat = true ∧ (p (roadAt rs i).b.toNat).toNat < N
        · obtain ⟨t, t1, t2⟩ := (gr _ a2).1 gb
          rw [if_pos gb] at v
          exact ⟨⟨t, t1, .inr t2⟩, .inl (by omega)⟩
        · rw [if_neg gb] at v; omega
  have hn12 : ∀ i, i < rs.length → 0 < n i → n i = 1 ∨ n i = 2 := fun i hi h0 => (spn i hi h0).2.2.imp id (fun g => g.1)
  -- a road that grows
  have hex : ∃ i, i < rs.length ∧ 0 < n i := by
    have : ∃ t u, s.testBit t = true ∧ s.testBit u = true ∧ ¬ Conn E t u := by
      refine Classical.byContradiction fun g => hnot fun t u ht hu => ?_
      exact Classical.byContradiction fun q => g ⟨t, u, ht, hu, q⟩
    obtain ⟨t, u, ht, hu, htu⟩ := this
    obtain ⟨r, hr, r1, r2⟩ := leaves (hCn t u ht hu) htu
    obtain ⟨i, hi, e⟩ := List.getElem_of_mem hr
    have er : roadAt rs i = r := by rw [roadAt_get hi, e]
    obtain ⟨a1, a2, -, -⟩ := road i hi
    refine ⟨i, hi, ?_⟩
    have v := spv i hi
    rw [if_neg (fun g => r1 (by rw [← er]; exact (hL _ _ (by omega) (by omega)).1 g))] at v
    rw [er] at v a1 a2
    rcases r2 with r2 | r2
    · rw [if_pos ((gr _ a1).2 ⟨t, ht, r2⟩)] at v
      split at v <;> omega
    · rw [if_pos ((gr _ a2).2 ⟨t, ht, r2⟩)] at v
      split at v <;> omega
  obtain ⟨q1, q2, q3⟩ := stepTo_props (fun i hi => (hl i hi).2) hn12 rs.length (Nat.le_refl _)
  rw [← hd] at q1 q2 q3
  have hL100 : ∀ i, i < rs.length → L i ≤ 100 := fun i hi => by
    obtain ⟨-, -, -, c⟩ := road i hi
    have := ovC_pos (roadAt rs i) ms h.wid
    have := (hl i hi).1
    omega
  obtain ⟨i0, i01, i02⟩ := hex
  have hd100 : d ≤ 100 := by
    have h1 := q1 i0 i01 i02
    obtain ⟨-, -, -, h2⟩ := tdiv12 (hl i0 i01).2 (hn12 i0 i01 i02)
    have h3 := hL100 i0 i01
    omega
  have hms2 : ∀ r : RoadD, ovC r ms' = ovC r ms + d * spdC r (growL p N s N) := fun r => by
    rw [hms]
    by_cases e : 0 < d
    · rw [if_pos e, ovC_app, ovC_mk]
    · have : d = 0 := by omega
      rw [if_neg e, this]; omega
  have st' : St rs N s E ms' (T + d) := by
    rw [hms]
    by_cases e : 0 < d
    · rw [if_pos e]
      refine h.grow hsN q3 (fun m hm => ?_) (fun m hm x y hx hy => ?_) (fun x hx hc => ?_) (fun x hx hc => ?_) (fun t ht => ?_)
      · obtain ⟨S, hS, rfl⟩ := List.mem_map.1 hm
        obtain ⟨i, i1, i2, rfl⟩ := growL_mem.1 hS
        have hlt := partTo_lt p i N
        have h256 : (2 : Nat) ^ N ≤ 2 ^ 8 := Nat.pow_le_pow_right (by decide) hN
        have e8 : (2 : Nat) ^ 8 = 256 := by decide
        unfold growsB at i2
        rw [Bool.and_eq_true, Bool.and_eq_true, decide_eq_true_iff, decide_eq_true_iff, decide_eq_true_iff] at i2
        unfold moatP
        dsimp only
        rw [bits_and_nat _ _ (by omega) (by omega), bits_andn _ _ (by omega) (by omega), Int.toNat_natCast]
        refine ⟨by omega, by exact_mod_cast hlt, ?_, ?_, by omega, by omega⟩
        · have := i2.2.1; omega
        · have := i2.2.2; omega
      · obtain ⟨S, hS, rfl⟩ := List.mem_map.1 hm
        obtain ⟨i, i1, i2, rfl⟩ := growL_mem.1 hS
        rw [inB_mk] at hx hy
        obtain ⟨x1, x2⟩ := partTo_bit.1 hx
        obtain ⟨y1, y2⟩ := partTo_bit.1 hy
        exact (hL x y (by omega) (by omega)).1 (by rw [x2, y2])
      · rw [gOf_grow hM hN hx d N (Nat.le_refl _), if_pos ((gr x hx).2 hc)]
      · rw [gOf_grow hM hN hx d N (Nat.le_refl _), if_neg (fun g => hc ((gr x hx).1 g))]
      · have htN := bit_lt hsN ht
        obtain ⟨g1, g2⟩ := (gr t htN).2 ⟨t, ht, .refl⟩
        obtain ⟨-, -, t3⟩ := hM t (by omega)
        exact ⟨_, List.mem_map.2 ⟨_, growL_mem.2 ⟨_, g2, g1, rfl⟩, rfl⟩, rfl, by rw [inB_mk]; exact partTo_bit.2 ⟨htN, t3.symm⟩⟩
    · have : d = 0 := by omega
      rw [if_neg e, this, Int.add_zero]; exact h
  have left' : LeftOK rs L' ms' := fun i hi => by
    obtain ⟨l1, l2⟩ := hl i hi
    have e := hms2 (roadAt rs i)
    rw [← hn i] at e
    rw [hL' i hi]
    refine ⟨by omega, ?_⟩
    obtain ⟨s0, s2⟩ := sp i hi
    by_cases g : 0 < n i
    · have a := q1 i hi g
      obtain ⟨b1, -, b3, -⟩ := tdiv12 l2 (hn12 i hi g)
      have := Int.mul_le_mul_of_nonneg_right a s0
      omega
    · have : n i = 0 := by omega
      rw [this]; omega
  refine ⟨q3, hd100, st', left', sp, fun i hi h0 hlt => ?_, ?_⟩
  · obtain ⟨g1, g2, g3⟩ := spn i hi h0
    obtain ⟨l1, l2⟩ := left' i hi
    refine ⟨?_, g2⟩
    rcases g3 with g3 | ⟨g3, ⟨t, t1, t2⟩, u, u1, u2⟩
    · omega
    · obtain ⟨a1, a2, -, -⟩ := road i hi
      have hnc : ¬ Conn E (roadAt rs i).a.toNat (roadAt rs i).b.toNat := fun q => g1 ((hL _ _ (by omega) (by omega)).2 q)
      have e := ov_split hnc ms' st'.set0 st'.inner
      obtain ⟨k1, hk1⟩ := st'.even _ t a1 t1 t2
      obtain ⟨k2, hk2⟩ := st'.even _ u a2 u1 u2
      omega
  · rcases q2 with q2 | ⟨i, i1, i2, i3⟩
    · unfold far at q2; omega
    · obtain ⟨-, b2, -, -⟩ := tdiv12 (hl i i1).2 (hn12 i i1 i2)
      refine ⟨i, i1, i2, ?_, (spn i i1 i2).1⟩
      rw [hL' i i1, i3]; exact b2

/-- The joining, up to the road k. -/
structure Joins (rs : List RoadD) (N s : Nat) (E : List RoadD) (p n L' : Nat → Int) (ms' : List MoatD) (T' : Int) (k : Nat) (E' : List RoadD) (p' : Nat → Int) : Prop where
  lab : Lab E' p'
  labM : LabM p'
  st : St rs N s E' ms' T'
  up : ∀ x y, Conn E x y → Conn E' x y
  same : ∀ i, i < k → 0 < n i → L' i < n i → p' (roadAt rs i).a.toNat = p' (roadAt rs i).b.toNat
  prog : (∀ x, x < 8 → p' x = p x) ∨ reps p' N < reps p N

section
variable {rs : List RoadD} {N s : Nat} {E E' : List RoadD} {p p' n L' : Nat → Int} {d : Int} {ms' : List MoatD} {T' : Int} {k : Nat}
theorem Joins.start (h : RoundOut rs N s E p n L' d ms' T') (hL : Lab E p) (hM : LabM p) : Joins rs N s E p n L' ms' T' 0 E p :=
  ⟨hL, hM, h.st, fun _ _ g => g, fun i hi => by omega, .inl fun _ _ => rfl⟩
theorem Joins.skip (h : Joins rs N s E p n L' ms' T' k E' p') (hk : ¬ (0 < n k ∧ L' k < n k)) : Joins rs N s E p n L' ms' T' (k + 1) E' p' :=
  ⟨h.lab, h.labM, h.st, h.up, fun i hi g1 g2 => by
    by_cases e : i = k
    · subst e; exact absurd ⟨g1, g2⟩ hk
    · exact h.same i (by omega) g1 g2, h.prog⟩
theorem joinL_eq (p : Nat → Int) (a b : Nat) : joinL p a b a = joinL p a b b := by
  unfold joinL
  split <;> split <;> omega
theorem joinL_keep {p : Nat → Int} (a b : Nat) {x y : Nat} (h : p x = p y) : joinL p a b x = joinL p a b y := by unfold joinL; rw [h]
theorem joinL_none {p : Nat → Int} {a b : Nat} (h : p a = p b) (x : Nat) : joinL p a b x = p x := by
  unfold joinL
  split <;> omega
theorem Joins.join (hok : ∀ r ∈ rs, roadOk N r = true) (hN : N ≤ 8) (hr : RoundOut rs N s E p n L' d ms' T') (h : Joins rs N s E p n L' ms' T' k E' p') (hk : k < rs.length) (h0 : 0 < n k) (hlt : L' k < n k) :
    Joins rs N s E p n L' ms' T' (k + 1) (E' ++ [roadAt rs k]) (joinL p' (roadAt rs k).a.toNat (roadAt rs k).b.toNat) := by
  obtain ⟨p1, p2, p3, p4, -, p6, p7⟩ := roadOk_iff.1 (hok _ (roadAt_mem hk))
  have ha : (roadAt rs k).a.toNat < N := by omega
  have hb : (roadAt rs k).b.toNat < N := by omega
  obtain ⟨f1, t, f2, f3⟩ := hr.full k hk h0 hlt
  refine ⟨h.lab.join (by omega) (by omega), h.labM.join (by omega) (by omega), h.st.join hok (roadAt_mem hk) f1 ⟨t, f2, f3.imp (h.up _ _) (h.up _ _)⟩, fun x y g => (h.up x y g).left, fun i hi g1 g2 => ?_, ?_⟩
  · by_cases e : i = k
    · subst e; exact joinL_eq _ _ _
    · exact joinL_keep _ _ (h.same i (by omega) g1 g2)
  · by_cases e : p' (roadAt rs k).a.toNat = p' (roadAt rs k).b.toNat
    · rcases h.prog with g | g
      · exact .inl fun x hx => by rw [joinL_none e]; exact g x hx
      · exact .inr (by rw [reps_same (p := joinL p' (roadAt rs k).a.toNat (roadAt rs k).b.toNat) (q := p') (fun x _ => joinL_none e x)]; exact g)
    · have := reps_join h.labM hN ha hb e
      rcases h.prog with g | g
      · rw [reps_same g] at this
        exact .inr this
      · exact .inr (by omega)
theorem Joins.done (hr : RoundOut rs N s E p n L' d ms' T') (hok : ∀ r ∈ rs, roadOk N r = true) (hN : N ≤ 8) (h : Joins rs N s E p n L' ms' T' rs.length E' p') : reps p' N < reps p N := by
  rcases h.prog with g | g
  · obtain ⟨i, i1, i2, i3, i4⟩ := hr.some
    obtain ⟨p1, p2, p3, p4, -, -, -⟩ := roadOk_iff.1 (hok _ (roadAt_mem i1))
    have := h.same i i1 i2 i3
    rw [g _ (by omega), g _ (by omega)] at this
    exact absurd this i4
  · exact g
end

end Go.Proofs.YtkbkgkmogbkabaaDoor

/-
  Contracts of part, and of the speed of a road.
-/
namespace Go.Proofs.YtkbkgkmogbkabaaDoor
open Go.RowKit

def natI (G : List Nat) : List Int := G.map (fun (x : Nat) => (x : Int))
theorem natI_len (G : List Nat) : (natI G).length = G.length := by unfold natI; simp
theorem natI_fn {G : List Nat} {i : Nat} (h : i < G.length) : fn (natI G) i = (G[i] : Int) := by
  unfold natI
  rw [fn_get (by simpa using h), List.getElem_map]
theorem natI_push (G : List Nat) (x : Nat) : natI (G ++ [x]) = natI G ++ [(x : Int)] := by unfold natI; rw [List.map_append]; rfl
theorem spdC_succ {r : RoadD} {G : List Nat} {k : Nat} (h : k < G.length) : spdC r (G.take (k + 1)) = spdC r (G.take k) + (if crossB r (G[k] : Int) = true then 1 else 0) := by
  rw [List.take_succ_eq_append_getElem h, spdC_app]
  show _ + ((if crossB r (G[k] : Int) = true then 1 else 0) + 0) = _
  omega

set_option maxRecDepth 20000 in
set_option maxHeartbeats 4000000 in
theorem part_any (b : Nat) (p : Nat → Int) (i N : Nat) (w : World) (hp : PBox w b p) (hi : i < 8) (hN : N ≤ 8) :
    Calls Tryd.prog 38 #[.pointer (some ⟨b, 0, none⟩), .int .i64 i, .int .i64 N] w fun e w' => e = .returned (.int .i64 (partTo p i N : Nat)) ∧ Ext w w' := by
  have HP := hid hp
  have hi8 : (i : Int) < 8 := by omega
  clear hp
  go_enter Tryd.func38, Tryd.ntmps38
  go_wp2
  go_loopg [10, 7] N (fun g j v wr => ∃ n : Nat, n + g = N ∧ j = .int .i64 n ∧ v = .int .i64 (partTo p i n : Nat) ∧ Hid (Ext w wr))
  case atStart => exact ⟨0, by omega, rfl, rfl, Ext.refl _⟩
  case round =>
    obtain ⟨n, hn, rfl, rfl, E⟩ := hrel
    have hnN : n ≤ N := by omega
    have Hn := hid hn
    clear hn
    by_cases hlt : n < N
    · have hn8 : (n : Int) < 8 := by omega
      have hnNi : (n : Int) < N := by omega
      have dn := (HP.out.ext E.out).cell (show n < 8 by omega)
      have dk := (HP.out.ext E.out).cell hi
      have E2 := hid E.out.drew
      obtain ⟨x, hx⟩ : ∃ x, x = p n := ⟨_, rfl⟩
      obtain ⟨y, hy⟩ : ∃ y, y = p i := ⟨_, rfl⟩
      have hs : partTo p i (n + 1) = if x = y then partTo p i n ||| 2 ^ n else partTo p i n := by rw [hx, hy]; rfl
      have HS := hid hs
      rw [← hx] at dn
      rw [← hy] at dk
      have hlo := partTo_lt p i n
      have p8 : (2 : Nat) ^ n ≤ 2 ^ 8 := Nat.pow_le_pow_right (by decide) (by omega)
      have e8 : (2 : Nat) ^ 8 = 256 := by decide
      obtain ⟨P, hP⟩ : ∃ P, P = partTo p i n := ⟨_, rfl⟩
      obtain ⟨xa, hxa⟩ : ∃ z, z = 2 ^ n := ⟨_, rfl⟩
      have ea : ((2 : Int) ^ n) = (xa : Int) := by rw [hxa]; simp
      rw [← hP, ← hxa] at HS hlo
      rw [← hxa] at p8
      rw [← hP]
      have wa : IntKind.i64.wrap (2 ^ n) = (xa : Int) := by rw [ea]; exact wraps_i64_62 _ (by omega) (by omega)
      have wo : bits .or .i64 P xa = ((P ||| xa : Nat) : Int) := bits_or_nat P xa (by omega) (by omega)
      clear hs hx hy hlo p8 e8 hP hxa ea
      by_cases z : x = y
      · have zb : (x == y) = true := beq_iff_eq.2 z
        have HS2 : Hid (partTo p i (n + 1) = P ||| xa) := by show _ = _; rw [HS.out, if_pos z]
        clear z
        go_wp2
        refine wp_region_held_drew (S := (fun w' => w'.cell? ⟨b, n, none⟩ = some (.int .i64 x) ∧ w'.cell? ⟨b, i, none⟩ = some (.int .i64 y))) (by kernel_rfl) ?hSa0 (fun hHeld => ?_)
        case hSa0 => (first | (exact ⟨dn, dk⟩) | ((try dsimp only); exact ⟨dn, dk⟩))
        refine wpAnyH_tk 0 (v := ?va0) rfl (by kernel_rfl) (by kernel_rfl) (by kernel_rfl) (fun _ _ _ h => h) (by rfl) ?hya0 (by assumption) ?_
        case hya0 => (intro w hSw; (try dsimp only at hSw); go_simp <;> with_reducible rfl)
        (try simp only [Act.put, List.setIfInBounds_toArray, List.set_cons_zero, List.set_cons_succ])
        refine wpAnyH_tk 1 (v := ?va1) rfl (by kernel_rfl) (by kernel_rfl) (by kernel_rfl) (fun _ _ _ h => h) (by rfl) ?hya1 (by assumption) ?_
        case hya1 => (intro w hSw; (try dsimp only at hSw); go_simp <;> with_reducible rfl)
        (try simp only [Act.put, List.setIfInBounds_toArray, List.set_cons_zero, List.set_cons_succ])
        refine wpAnyH_tk 2 (v := ?va2) rfl (by kernel_rfl) (by kernel_rfl) (by kernel_rfl) (fun _ _ _ h => h) (by rfl) ?hya2 (by assumption) ?_
        case hya2 => (intro w hSw; (try dsimp only at hSw); go_simp <;> with_reducible rfl)
        (try simp only [Act.put, List.setIfInBounds_toArray, List.set_cons_zero, List.set_cons_succ])
        refine wpAnyH_tk 3 (v := ?va3) rfl (by kernel_rfl) (by kernel_rfl) (by kernel_rfl) (fun _ _ _ h => h) (by rfl) ?hya3 (by assumption) ?_
        case hya3 => (intro w hSw; (try dsimp only at hSw); go_simp <;> with_reducible rfl)
        (try simp only [Act.put, List.setIfInBounds_toArray, List.set_cons_zero, List.set_cons_succ])
        refine wpAnyH_tk 4 (v := ?va4) rfl (by kernel_rfl) (by kernel_rfl) (by kernel_rfl) (fun _ _ _ h => h) (by rfl) ?hya4 (by assumption) ?_
        case hya4 => (intro w hSw; (try dsimp only at hSw); go_simp <;> with_reducible rfl)
        (try simp only [Act.put, List.setIfInBounds_toArray, List.set_cons_zero, List.set_cons_succ])
        refine wpAnyH_tk 5 (v := ?va5) rfl (by kernel_rfl) (by kernel_rfl) (by kernel_rfl) (fun _ _ _ h => h) (by rfl) ?hya5 (by assumption) ?_
        case hya5 => (intro w hSw; (try dsimp only at hSw); go_simp <;> with_reducible rfl)
        (try simp only [Act.put, List.setIfInBounds_toArray, List.set_cons_zero, List.set_cons_succ])
        refine wpAnyH_tk 6 (v := ?va6) rfl (by kernel_rfl) (by kernel_rfl) (by kernel_rfl) (fun _ _ _ h => h) (by rfl) ?hya6 (by assumption) ?_
        case hya6 => (intro w hSw; (try dsimp only at hSw); go_simp <;> with_reducible rfl)
        (try simp only [Act.put, List.setIfInBounds_toArray, List.set_cons_zero, List.set_cons_succ])
        refine wpAnyH_tk 7 (v := ?va7) rfl (by kernel_rfl) (by kernel_rfl) (by kernel_rfl) (fun _ _ _ h => h) (by rfl) ?hya7 (by assumption) ?_
        case hya7 => (intro w hSw; (try dsimp only at hSw); go_simp <;> with_reducible rfl)
        (try simp only [Act.put, List.setIfInBounds_toArray, List.set_cons_zero, List.set_cons_succ])
        refine wpAnyH_tk 8 (v := ?va8) rfl (by kernel_rfl) (by kernel_rfl) (by kernel_rfl) (fun _ _ _ h => h) (by rfl) ?hya8 (by assumption) ?_
        case hya8 => (intro w hSw; (try dsimp only at hSw); go_simp <;> with_reducible rfl)
        (try simp only [Act.put, List.setIfInBounds_toArray, List.set_cons_zero, List.set_cons_succ])
        refine wpAnyH_tk 9 (v := ?va9) rfl (by kernel_rfl) (by kernel_rfl) (by kernel_rfl) (fun _ _ _ h => h) (by rfl) ?hya9 (by assumption) ?_
        case hya9 => (intro w hSw; (try dsimp only at hSw); go_simp <;> with_reducible rfl)
        (try simp only [Act.put, List.setIfInBounds_toArray, List.set_cons_zero, List.set_cons_succ])
        refine wpAnyH_tk 10 (v := ?va10) rfl (by kernel_rfl) (by kernel_rfl) (by kernel_rfl) (fun _ _ _ h => h) (by rfl) ?hya10 (by assumption) ?_
        case hya10 => (intro w hSw; (try dsimp only at hSw); go_simp <;> with_reducible rfl)
        (try simp only [Act.put, List.setIfInBounds_toArray, List.set_cons_zero, List.set_cons_succ])
        refine wpAnyH_done (by kernel_rfl) ?_ _
        clear hHeld dn dk
        go_wp2
        go_roundg (gk - 1)
        case rel => exact ⟨n + 1, by have := Hn.out; omega, by go_num, by rw [HS2.out], E2⟩
        case measure => have := Hn.out; omega
      · have zb : (x == y) = false := beq_eq_false_iff_ne.2 z
        have HS2 : Hid (partTo p i (n + 1) = P) := by show _ = _; rw [HS.out, if_neg z]
        clear z
        go_wp2
        refine wp_region_held_drew (S := (fun w' => w'.cell? ⟨b, n, none⟩ = some (.int .i64 x) ∧ w'.cell? ⟨b, i, none⟩ = some (.int .i64 y))) (by kernel_rfl) ?hSb0 (fun hHeld => ?_)
        case hSb0 => (first | (exact ⟨dn, dk⟩) | ((try dsimp only); exact ⟨dn, dk⟩))
        refine wpAnyH_tk 0 (v := ?vb0) rfl (by kernel_rfl) (by kernel_rfl) (by kernel_rfl) (fun _ _ _ h => h) (by rfl) ?hyb0 (by assumption) ?_
        case hyb0 => (intro w hSw; (try dsimp only at hSw); go_simp <;> with_reducible rfl)
        (try simp only [Act.put, List.setIfInBounds_toArray, List.set_cons_zero, List.set_cons_succ])
        refine wpAnyH_tk 1 (v := ?vb1) rfl (by kernel_rfl) (by kernel_rfl) (by kernel_rfl) (fun _ _ _ h => h) (by rfl) ?hyb1 (by assumption) ?_
        case hyb1 => (intro w hSw; (try dsimp only at hSw); go_simp <;> with_reducible rfl)
        (try simp only [Act.put, List.setIfInBounds_toArray, List.set_cons_zero, List.set_cons_succ])
        refine wpAnyH_tk 2 (v := ?vb2) rfl (by kernel_rfl) (by kernel_rfl) (by kernel_rfl) (fun _ _ _ h => h) (by rfl) ?hyb2 (by assumption) ?_
        case hyb2 => (intro w hSw; (try dsimp only at hSw); go_simp <;> with_reducible rfl)
        (try simp only [Act.put, List.setIfInBounds_toArray, List.set_cons_zero, List.set_cons_succ])
        refine wpAnyH_tk 3 (v := ?vb3) rfl (by kernel_rfl) (by kernel_rfl) (by kernel_rfl) (fun _ _ _ h => h) (by rfl) ?hyb3 (by assumption) ?_
        case hyb3 => (intro w hSw; (try dsimp only at hSw); go_simp <;> with_reducible rfl)
        (try simp only [Act.put, List.setIfInBounds_toArray, List.set_cons_zero, List.set_cons_succ])
        refine wpAnyH_tk 4 (v := ?vb4) rfl (by kernel_rfl) (by kernel_rfl) (by kernel_rfl) (fun _ _ _ h => h) (by rfl) ?hyb4 (by assumption) ?_
        case hyb4 => (intro w hSw; (try dsimp only at hSw); go_simp <;> with_reducible rfl)
        (try simp only [Act.put, List.setIfInBounds_toArray, List.set_cons_zero, List.set_cons_succ])
        refine wpAnyH_tk 5 (v := ?vb5) rfl (by kernel_rfl) (by kernel_rfl) (by kernel_rfl) (fun _ _ _ h => h) (by rfl) ?hyb5 (by assumption) ?_
        case hyb5 => (intro w hSw; (try dsimp only at hSw); go_simp <;> with_reducible rfl)
        (try simp only [Act.put, List.setIfInBounds_toArray, List.set_cons_zero, List.set_cons_succ])
        refine wpAnyH_tk 6 (v := ?vb6) rfl (by kernel_rfl) (by kernel_rfl) (by kernel_rfl) (fun _ _ _ h => h) (by rfl) ?hyb6 (by assumption) ?_
        case hyb6 => (intro w hSw; (try dsimp only at hSw); go_simp <;> with_reducible rfl)
        (try simp only [Act.put, List.setIfInBounds_toArray, List.set_cons_zero, List.set_cons_succ])
        refine wpAnyH_tk 7 (v := ?vb7) rfl (by kernel_rfl) (by kernel_rfl) (by kernel_rfl) (fun _ _ _ h => h) (by rfl) ?hyb7 (by assumption) ?_
        case hyb7 => (intro w hSw; (try dsimp only at hSw); go_simp <;> with_reducible rfl)
        (try simp only [Act.put, List.setIfInBounds_toArray, List.set_cons_zero, List.set_cons_succ])
        refine wpAnyH_tk 8 (v := ?vb8) rfl (by kernel_rfl) (by kernel_rfl) (by kernel_rfl) (fun _ _ _ h => h) (by rfl) ?hyb8 (by assumption) ?_
        case hyb8 => (intro w hSw; (try dsimp only at hSw); go_simp <;> with_reducible rfl)
        (try simp only [Act.put, List.setIfInBounds_toArray, List.set_cons_zero, List.set_cons_succ])
        refine wpAnyH_tk 9 (v := ?vb9) rfl (by kernel_rfl) (by kernel_rfl) (by kernel_rfl) (fun _ _ _ h => h) (by rfl) ?hyb9 (by assumption) ?_
        case hyb9 => (intro w hSw; (try dsimp only at hSw); go_simp <;> with_reducible rfl)
        (try simp only [Act.put, List.setIfInBounds_toArray, List.set_cons_zero, List.set_cons_succ])
        refine wpAnyH_tk 10 (v := ?vb10) rfl (by kernel_rfl) (by kernel_rfl) (by kernel_rfl) (fun _ _ _ h => h) (by rfl) ?hyb10 (by assumption) ?_
        case hyb10 => (intro w hSw; (try dsimp only at hSw); go_simp <;> with_reducible rfl)
        (try simp only [Act.put, List.setIfInBounds_toArray, List.set_cons_zero, List.set_cons_succ])
        refine wpAnyH_done (by kernel_rfl) ?_ _
        clear hHeld dn dk
        go_wp2
        go_roundg (gk - 1)
        case rel => exact ⟨n + 1, by have := Hn.out; omega, by go_num, by rw [HS2.out], E2⟩
        case measure => have := Hn.out; omega
    · have en : n = N := by omega
      have hnNi : ¬ ((n : Int) < N) := by omega
      have HR : Hid (partTo p i n = partTo p i N) := by rw [en]; exact rfl
      clear en hlt
      go_wp2
      go_ret
      exact ⟨ret_int (by rw [HR.out]), E.out⟩

set_option maxRecDepth 20000 in
set_option maxHeartbeats 4000000 in
theorem speed_any (bg : Nat) (ag : Option Addr) (cg : Nat) (G : List Nat) (r : RoadD) (w : World) (hb : LBox w bg (.slice ag G.length cg)) (hG : Ints w (.slice ag G.length cg) (natI G)) (hS : ∀ S ∈ G, S ≤ 256) (hl : G.length ≤ 8)
    (ha0 : 0 ≤ r.a) (ha8 : r.a < 8) (hb0 : 0 ≤ r.b) (hb8 : r.b < 8) :
    Calls Tryd.prog 39 #[.agg #[.int .i64 r.a, .int .i64 r.b, .int .i64 r.cost], .pointer (some ⟨bg, 0, none⟩)] w fun e w' => e = .returned (.int .i64 (spdC r G)) ∧ Ext w w' := by
  have HB := hid hb
  have HG := hid hG
  have HS := hid hS
  have EW := Ext.ofAlloc w (.cells #[.int .i64 r.a, .int .i64 r.b, .int .i64 r.cost] 55)
  have BX := Box3.alloc w 55 (.int .i64 r.a) (.int .i64 r.b) (.int .i64 r.cost)
  have cb := (HB.out.ext EW).cell
  clear hb hG hS
  obtain ⟨n, hn⟩ : ∃ n, n = G.length := ⟨_, rfl⟩
  have HN := hid hn
  rw [← hn] at cb HG
  have HBX := hid BX
  have HEW := hid EW
  clear hn HB BX EW
  go_enter Tryd.func39, Tryd.ntmps39
  go_wp2
  clear cb
  generalize w.alloc (.cells #[.int .i64 r.a, .int .i64 r.b, .int .i64 r.cost] 55) = W at HBX HEW ⊢
  go_loopg [9, 4] n (fun g i v wr => ∃ k : Nat, k + g = n ∧ i = .int .i64 k ∧ v = .int .i64 (spdC r (G.take k)) ∧ Hid (Ext W wr))
  case atStart => exact ⟨0, by omega, rfl, rfl, Ext.refl _⟩
  case round =>
    obtain ⟨k, hk, rfl, rfl, E⟩ := hrel
    have hkn : k ≤ n := by omega
    have Hk := hid hk
    clear hk
    by_cases hlt : k < n
    · have hki : (k : Int) < n := by omega
      have hkl : k < G.length := by rw [← HN.out]; exact hlt
      obtain ⟨q, o, rfl, -, hc⟩ := HG.out.get k (by rw [natI_len]; exact hkl)
      have dk := hc _ (HEW.out.trans E.out)
      rw [natI_fn hkl] at dk
      have hsp := spdC_succ (r := r) hkl
      have hin := spdC_in r (G.take k)
      have hlen : (G.take k).length ≤ 8 := by rw [List.length_take]; omega
      have hSk := HS.out _ (List.getElem_mem hkl)
      obtain ⟨S, hSS⟩ : ∃ S, S = G[k] := ⟨_, rfl⟩
      rw [← hSS] at dk hsp hSk
      obtain ⟨d0, d1, d2⟩ := (HBX.out.ext E.out).cells
      obtain ⟨c, hcc⟩ : ∃ c, c = spdC r (G.take k) := ⟨_, rfl⟩
      rw [← hcc] at hsp hin ⊢
      have hc0 : 0 ≤ c := hin.1
      have hc8 : c ≤ 8 := by have := hin.2; omega
      have HSP := hid hsp
      have HEE := hid (HEW.out.trans E.out)
      clear hc hSS hcc hin hsp hlen
      go_wp2_with (fail)
      refine (crosses_any r S _ ha0 hb0 ha8 hb8 (by omega) (by omega)).mono ?_
      by_cases hx : crossB r (S : Int) = true
      · rw [hx]
        have hsp := HSP.out
        rw [if_pos hx] at hsp
        have HSQ := hid hsp
        rintro e w2 ⟨rfl, he⟩
        have E2 := hid (E.out.trans he)
        clear he dk d0 d1 d2 hsp hx
        have hw1 : IntKind.i64.wrap (c + 1) = c + 1 := wraps_i64_62 _ (by omega) (by omega)
        have hw2 : wrap64 (c + 1) = c + 1 := IntWalk.wrap64_in _ (by omega)
        go_wp2
        go_roundg (gk - 1)
        case rel => exact ⟨k + 1, by have := Hk.out; omega, by go_num, by rw [HSQ.out], E2⟩
        case measure => have := Hk.out; omega
      · have hxf : crossB r (S : Int) = false := by rw [Bool.eq_false_iff]; exact hx
        rw [hxf]
        have hsp := HSP.out
        rw [if_neg hx, Int.add_zero] at hsp
        have HSQ := hid hsp
        rintro e w2 ⟨rfl, he⟩
        have E2 := hid (E.out.trans he)
        clear he dk d0 d1 d2 hsp hx hxf
        go_wp2
        go_roundg (gk - 1)
        case rel => exact ⟨k + 1, by have := Hk.out; omega, by go_num, by rw [HSQ.out], E2⟩
        case measure => have := Hk.out; omega
    · have HR : Hid (spdC r (G.take k) = spdC r G) := by show _ = _; rw [List.take_of_length_le (by have := HN.out; omega)]
      have hki : ¬ ((k : Int) < n) := by omega
      go_wp2
      go_ret
      exact ⟨ret_int HR.out, HEW.out.trans E.out⟩

end Go.Proofs.YtkbkgkmogbkabaaDoor

/-
  Contract of Moats.
-/
namespace Go.Proofs.YtkbkgkmogbkabaaDoor
open Go.RowKit

set_option maxRecDepth 20000 in
set_option maxHeartbeats 4000000 in
theorem MoatsT_bad (vr : Value) (m : MapD) (s : Int) (w : World) (hm : MapR w vr m) (hb : mapOk m = false ∨ (mapOk m = true ∧ stopsB m.n s = false)) :
    Calls Tryd.prog 18 #[.agg #[.int .i64 m.n, vr], .int .i64 s] w fun e w' => e = .returned (.tuple #[.slice none 0 0, .int .i64 2]) ∧ Ext w w' := by
  obtain ⟨ao, cap, rfl⟩ := hm.shape
  have HV := hid hm
  have X0 := hid (Box2.alloc w 31 (.int .i64 m.n) (.slice ao m.roads.length cap))
  clear hm
  go_enter Tryd.func18, Tryd.ntmps18
  go_wp2_with (fail)
  refine (valid_any _ m _ (MapR.ext HV.out (Ext.ofAlloc _ _))).mono ?_
  rintro e w1 ⟨rfl, he⟩
  have HE := hid ((Ext.ofAlloc w _).trans he)
  obtain ⟨c0, c1⟩ := (X0.out.ext he).cells
  clear he
  rcases hb with h1 | ⟨h1, h2⟩
  · rw [h1]
    clear h1
    go_wp2
    go_ret2
    exact ⟨rfl, HE.out⟩
  · have hok2 := h1
    unfold mapOk at hok2
    rw [Bool.and_eq_true, decide_eq_true_iff] at hok2
    obtain ⟨⟨k1, k8, -⟩, -⟩ := hok2
    rw [h1]
    clear h1
    have HS := hid h2
    clear h2
    go_wp2_with (fail)
    refine (stops_any _ m s _ (MapR.ext HV.out HE.out) (by omega) k8).mono ?_
    rw [HS.out]
    rintro e w2 ⟨rfl, he⟩
    replace HE := hid (HE.out.trans he)
    clear he c0 c1
    go_wp2
    go_ret2
    exact ⟨rfl, HE.out⟩

set_option maxRecDepth 20000 in
set_option maxHeartbeats 4000000 in
theorem MoatsT_none (vr : Value) (N : Nat) (rs : List RoadD) (s : Nat) (w : World) (hv : Roads w vr rs) (hok : mapOk ⟨N, rs⟩ = true) (hs : stopsB N s = true) (hTZ : TZ w) (hn : ¬ Cn rs s) :
    Calls Tryd.prog 18 #[.agg #[.int .i64 N, vr], .int .i64 s] w fun e w' => e = .returned (.tuple #[.slice none 0 0, .int .i64 4]) ∧ Ext w w' := by
  obtain ⟨ao, cap, rfl⟩ := hv.shape
  have HV := hid hv
  have HTZ := hid hTZ
  have HOk := hid hok
  have HS := hid hs
  have HNo := hid hn
  obtain ⟨h1, h8, h16, hall, hs0, hsN⟩ := ok_parts hok hs
  have HAll := hid hall
  have HsN := hid hsN
  have X0 := hid (Box2.alloc w 31 (.int .i64 N) (.slice ao rs.length cap))
  clear hv hok hs hall hsN hTZ hn
  go_enter Tryd.func18, Tryd.ntmps18
  go_wp2_with (fail)
  refine (valid_any _ ⟨N, rs⟩ _ (Roads.ext HV.out (Ext.ofAlloc _ _))).mono ?_
  rw [HOk.out]
  rintro e w1 ⟨rfl, he⟩
  have HE := hid ((Ext.ofAlloc w _).trans he)
  obtain ⟨c0, c1⟩ := (X0.out.ext he).cells
  clear he
  go_wp2_with (fail)
  refine (stops_any _ ⟨N, rs⟩ s _ (Roads.ext HV.out HE.out) (by show (0 : Int) ≤ N; omega) (by show (N : Int) ≤ 8; omega)).mono ?_
  rw [HS.out]
  rintro e w2 ⟨rfl, he⟩
  replace HE := hid (HE.out.trans he)
  replace c0 := he.cell c0
  replace c1 := he.cell c1
  clear he
  go_wp2_with (fail)
  refine (reachable_any _ N rs s _ (Roads.ext HV.out HE.out) HAll.out h16 h8 hs0 HsN.out (HTZ.out.ext HE.out)).mono ?_
  rintro e w3 ⟨ha, he⟩
  obtain rfl : e = .returned (.bool false) := by
    rcases ha with ⟨h, -⟩ | ⟨-, h⟩
    · exact absurd h HNo.out
    · exact h
  replace HE := hid (HE.out.trans he)
  clear he c0 c1 ha
  go_wp2
  go_ret2
  exact ⟨rfl, HE.out⟩

/-- What is there at the start of each round. -/
structure MInv (rs : List RoadD) (N s : Nat) (W0 : World) (gp gl g : Nat) (wr : World) (z : Value) (E : List RoadD) (p L : Nat → Int) (ms : List MoatD) (T : Int) : Prop where
  lab : Lab E p
  labM : LabM p
  st : St rs N s E ms T
  left : LeftOK rs L ms
  t0 : 0 ≤ T
  reps : reps p N ≤ g
  len : ms.length + 8 * g ≤ 64
  pb : PBox wr gp p
  lb : IntBlock wr gl (rowL rs.length L)
  own : OwnMt (gl + 1) wr z ms
  ext : Ext W0 wr
def twoC (rs : List RoadD) (k : Nat) : Nat → Int := fun i => if i < k then 2 * (roadAt rs i).cost else 0
theorem twoC_set (rs : List RoadD) (k : Nat) : updF (twoC rs k) k (2 * (roadAt rs k).cost) = twoC rs (k + 1) := by
  funext i
  unfold updF twoC
  by_cases e : i = k
  · subst e; rw [if_pos rfl, if_pos (by omega)]
  · rw [if_neg e]
    by_cases g : i < k
    · rw [if_pos g, if_pos (by omega)]
    · rw [if_neg g, if_neg (by omega)]
theorem IntBlock.setF {w : World} {g n : Nat} {f : Nat → Int} (h : IntBlock w g (rowL n f)) (j : Nat) (x : Int) : IntBlock (w.setCell ⟨g, j, none⟩ (.int .i64 x)) g (rowL n (updF f j x)) := by
  have := h.set j x
  rwa [rowL_set] at this
theorem IntBlock.cellF {w : World} {g n : Nat} {f : Nat → Int} (h : IntBlock w g (rowL n f)) {j : Nat} (hj : j < n) : w.cell? ⟨g, j, none⟩ = some (.int .i64 (f j)) := by
  have := h.cell (i := j) (by rw [rowL_len]; exact hj)
  rwa [rowL_fn hj] at this
theorem rowL_same {n : Nat} {f g : Nat → Int} (h : ∀ i, i < n → f i = g i) : rowL n f = rowL n g := by
  unfold rowL
  exact List.map_congr_left (fun i hi => h i (List.mem_range.1 hi))
theorem ownsRow_heap {base e size : Nat} {w w' : World} {v : Value} {n : Nat} {xs : List Value} (h : w.ownsRow base e size v n xs) (hb : ∀ k, v.ownBlock = some k → w'.heap[k]? = w.heap[k]?) : w'.ownsRow base e size v n xs := by
  obtain ⟨hl, h | ⟨g, cap, cur, rfl, hB, hg, r⟩⟩ := h
  · exact ⟨hl, .inl h⟩
  · exact ⟨hl, .inr ⟨g, cap, cur, rfl, hB, by rw [hb g rfl]; exact hg, r⟩⟩
theorem ownsRow_only {base e size : Nat} {w w' : World} {v : Value} {n : Nat} {xs : List Value} {b : Nat} (h : w.ownsRow base e size v n xs) (o : Only b w w') (hb : b < base) : w'.ownsRow base e size v n xs :=
  ownsRow_heap h (fun k hk => by have := h.lt k hk; exact o.block k (by omega) (by omega))
theorem grownBy_ext {w w' : World} {row : Option Nat} (h : Ext w w') : w.grownBy w' row := ⟨h.os, h.tape, h.output, h.size, fun k hk _ => h.block k hk⟩
theorem grownBy_push {w wr w' : World} {row : Option Nat} {v : Value} {o : Obj} (h : w.grownBy wr row) (ht : OwnTo row w v) (hg : (wr.alloc o).grownBy w' v.ownBlock) : w.grownBy w' row := by
  have hE := Ext.ofAlloc wr o
  refine ⟨by rw [hg.os, hE.os, h.os], by rw [hg.tape, hE.tape, h.tape], by rw [hg.output, hE.output, h.output], Nat.le_trans h.size (Nat.le_trans hE.size hg.size), fun k hk hne => ?_⟩
  have h1 := h.size
  have h2 := hE.size
  rw [hg.block k (by omega) (fun e => by
    rcases ht with g | ⟨q, g1, g2⟩
    · exact hne (e.trans g)
    · rw [g1, Option.some.injEq] at e; omega), hE.block k (by omega), h.block k hk hne]
theorem growL_yes {p : Nat → Int} {N s i : Nat} (h : growsB p N s i = true) : growL p N s (i + 1) = growL p N s i ++ [partTo p i N] := by
  show (if growsB p N s i = true then _ else _) = _
  rw [if_pos h]
theorem growL_no {p : Nat → Int} {N s i : Nat} (h : ¬ growsB p N s i = true) : growL p N s (i + 1) = growL p N s i := by
  show (if growsB p N s i = true then _ else _) = _
  rw [if_neg h]
def mix (L L' : Nat → Int) (k : Nat) : Nat → Int := fun i => if i < k then L' i else L i
theorem mix_set (L L' : Nat → Int) (k : Nat) : updF (mix L L' k) k (L' k) = mix L L' (k + 1) := by
  funext i
  unfold updF mix
  by_cases e : i = k
  · subst e; rw [if_pos rfl, if_pos (by omega)]
  · rw [if_neg e]
    by_cases g : i < k
    · rw [if_pos g, if_pos (by omega)]
    · rw [if_neg g, if_neg (by omega)]
theorem mkM_take {G : List Nat} {d : Int} {k : Nat} (h : k < G.length) : (mkM G d).take (k + 1) = (mkM G d).take k ++ [⟨(G[k] : Int), d⟩] := by
  rw [List.take_succ_eq_append_getElem (by rw [mkM_len]; exact h)]
  unfold mkM
  rw [List.getElem_map]
theorem heap_only {b k : Nat} {w w' : World} {o : Obj} (h : w.heap[k]? = some o) (e : Only b w w') (hne : k ≠ b) : w'.heap[k]? = some o := by
  rw [e.block k (lt_of_block h) hne]; exact h

set_option maxRecDepth 20000 in
set_option maxHeartbeats 16000000 in
theorem MoatsT_ok (vr : Value) (N : Nat) (rs : List RoadD) (s : Nat) (w : World) (hv : Roads w vr rs) (hok : mapOk ⟨N, rs⟩ = true) (hs : stopsB N s = true) (hTZ : TZ w) (hn : Cn rs s) :
    Calls Tryd.prog 18 #[.agg #[.int .i64 N, vr], .int .i64 s] w fun e w' => ∃ v ms, e = .returned (.tuple #[v, .int .i64 0]) ∧ OwnMt w.heap.size w' v ms ∧ Hid (ms.length ≤ 64 ∧ fitP N rs s ms ∧ steinerV rs N s ≤ sumW ms) ∧ Ext w w' := by
  obtain ⟨ao, cap, rfl⟩ := hv.shape
  have HV := hid hv
  have HTZ := hid hTZ
  have HOk := hid hok
  have HS := hid hs
  have HCn := hid hn
  obtain ⟨h1, h8, h16, hall, hs0, hsN⟩ := ok_parts hok hs
  have HAll := hid hall
  have HsN := hid hsN
  have s256 : s < 256 := by
    have h1 : (2 : Nat) ^ N ≤ 2 ^ 8 := Nat.pow_le_pow_right (by decide) h8
    have e : (256 : Nat) = 2 ^ 8 := by decide
    omega
  have X0 := hid (Box2.alloc w 31 (.int .i64 N) (.slice ao rs.length cap))
  have hmk := run_make_row' (P := Tryd.prog) 25 3 (.int .i64 0) 8 Tryd.underlying25 info_int rfl .i64 .i64 rs.length (by omega) (by omega)
  have HMK := hid hmk
  obtain ⟨i0, hi, hz0, hz1, hz2⟩ := info_parts info_int
  obtain ⟨j0, hj, hy0, hy1, hy2⟩ := info_parts info_moat
  clear hv hok hs hall hsN hTZ hn hmk
  go_enter Tryd.func18, Tryd.ntmps18
  go_wp2_with (fail)
  refine (valid_any _ ⟨N, rs⟩ _ (Roads.ext HV.out (Ext.ofAlloc _ _))).mono ?_
  rw [HOk.out]
  rintro e w1 ⟨rfl, he⟩
  have HE := hid ((Ext.ofAlloc w _).trans he)
  obtain ⟨c0, c1⟩ := (X0.out.ext he).cells
  have HX := hid (X0.out.ext he)
  clear he
  go_wp2_with (fail)
  refine (stops_any _ ⟨N, rs⟩ s _ (Roads.ext HV.out HE.out) (by show (0 : Int) ≤ N; omega) (by show (N : Int) ≤ 8; omega)).mono ?_
  rw [HS.out]
  rintro e w2 ⟨rfl, he⟩
  replace HE := hid (HE.out.trans he)
  replace HX := hid (HX.out.ext he)
  replace c0 := he.cell c0
  replace c1 := he.cell c1
  clear he
  go_wp2_with (fail)
  refine (reachable_any _ N rs s _ (Roads.ext HV.out HE.out) HAll.out h16 h8 hs0 HsN.out (HTZ.out.ext HE.out)).mono ?_
  rintro e w3 ⟨ha, he⟩
  obtain rfl : e = .returned (.bool true) := by
    rcases ha with ⟨-, h⟩ | ⟨h, -⟩
    · exact h
    · exact absurd HCn.out h
  replace HE := hid (HE.out.trans he)
  replace HX := hid (HX.out.ext he)
  clear he c0 c1 ha
  go_wp2_with (fail)
  refine (apart_any _).mono ?_
  rintro e w4 ⟨rfl, he⟩
  have HX4 := hid (HX.out.ext he)
  have HE4 := hid (HE.out.trans he)
  have hpb : PBox (w4.alloc (.cells #[.int .i64 0, .int .i64 1, .int .i64 2, .int .i64 3, .int .i64 4, .int .i64 5, .int .i64 6, .int .i64 7] 69)) w4.heap.size (fun i => (i : Int)) := heap_alloc_new w4 _
  have hE5 := Ext.ofAlloc w4 (.cells #[.int .i64 0, .int .i64 1, .int .i64 2, .int .i64 3, .int .i64 4, .int .i64 5, .int .i64 6, .int .i64 7] 69)
  have hE6 := Ext.ofAlloc (w4.alloc (.cells #[.int .i64 0, .int .i64 1, .int .i64 2, .int .i64 3, .int .i64 4, .int .i64 5, .int .i64 6, .int .i64 7] 69)) (.cells (madeCells #[Value.int .i64 0] rs.length) 3)
  have hlb : IntBlock ((w4.alloc (.cells #[.int .i64 0, .int .i64 1, .int .i64 2, .int .i64 3, .int .i64 4, .int .i64 5, .int .i64 6, .int .i64 7] 69)).alloc (.cells (madeCells #[Value.int .i64 0] rs.length) 3)) (w4.alloc (.cells #[.int .i64 0, .int .i64 1, .int .i64 2, .int .i64 3, .int .i64 4, .int .i64 5, .int .i64 6, .int .i64 7] 69)).heap.size (rowL rs.length (twoC rs 0)) := by
    have hmade : madeCells #[Value.int .i64 0] rs.length = ((rowL rs.length (twoC rs 0)).map (Value.int .i64)).toArray := by
      apply Array.ext'
      rw [toList_madeCells_one]
      unfold rowL twoC
      refine List.ext_getElem (by simp) (fun i g1 g2 => ?_)
      simp
    rw [hmade]
    exact heap_alloc_new _ _
  have hpb6 := hpb.ext hE6
  obtain ⟨c0, c1⟩ := (HX4.out.ext hE5).cells
  obtain ⟨c0', c1'⟩ := (HX4.out.ext (hE5.trans hE6)).cells
  have hsz5 : (w4.alloc (.cells #[.int .i64 0, .int .i64 1, .int .i64 2, .int .i64 3, .int .i64 4, .int .i64 5, .int .i64 6, .int .i64 7] 69)).heap.size = w4.heap.size + 1 := by simp
  have hE46 := hE5.trans hE6
  rw [hsz5] at hlb
  have hmk := HMK.out
  have HPB := hid hpb6
  have HLB := hid hlb
  have HE46 := hid hE46
  clear he hpb hpb6 hlb hE5 hE6 hE46 HMK HX
  go_wp2
  clear c0 c1 c0' c1' hmk hsz5
  generalize (w4.alloc (.cells #[.int .i64 0, .int .i64 1, .int .i64 2, .int .i64 3, .int .i64 4, .int .i64 5, .int .i64 6, .int .i64 7] 69)).alloc (.cells (madeCells #[Value.int .i64 0] rs.length) 3) = W6 at HPB HLB HE46 ⊢
  obtain ⟨gp, hgp⟩ : ∃ g, g = w4.heap.size := ⟨_, rfl⟩
  rw [← hgp] at HPB HLB ⊢
  have HGP := hid hgp
  clear hgp
  go_loopg [47] rs.length (fun g i wr => ∃ k : Nat, k + g = rs.length ∧ i = .int .i64 k ∧ Hid (IntBlock wr (gp + 1) (rowL rs.length (twoC rs k))) ∧ Hid (Only (gp + 1) W6 wr))
  case atStart => exact ⟨0, by omega, rfl, HLB, Only.ofExt (Ext.refl _)⟩
  case round =>
    clear HLB
    obtain ⟨k, hk, rfl, LB, ON⟩ := hrel
    have hkl : k ≤ rs.length := by omega
    have Hk := hid hk
    clear hk
    have EA : Hid (Ext w4 wr) := ON.out.ext HE46.out (by rw [HGP.out]; omega)
    by_cases hlt : k < rs.length
    · have hki : (k : Int) < rs.length := by omega
      obtain ⟨bb, off, rfl, -, hcc⟩ := Roads.get HV.out k hlt
      obtain ⟨d0, d1, d2⟩ := hcc _ (HE4.out.trans EA.out)
      obtain ⟨q1, q2, q3, q4, -, q6, q7⟩ := roadOk_iff.1 (HAll.out _ (roadAt_mem hlt))
      have hset := twoC_set rs k
      obtain ⟨r, hr⟩ : ∃ r, r = roadAt rs k := ⟨_, rfl⟩
      rw [← hr] at d0 d1 d2 q1 q2 q3 q4 q6 q7 hset
      have HSET := hid hset
      have EB := Ext.ofAlloc wr (.cells #[.int .i64 r.a, .int .i64 r.b, .int .i64 r.cost] 55)
      obtain ⟨z0, z1, z2⟩ := (Box3.alloc wr 55 (.int .i64 r.a) (.int .i64 r.b) (.int .i64 r.cost)).cells
      have LB2 := LB.out.ext EB
      have f0 := LB2.cellF hlt
      have f1 := LB2.free k
      have hw1 : IntKind.i64.wrap (2 * r.cost) = 2 * r.cost := wraps_i64_62 _ (by omega) (by omega)
      have hw2 : wrap64 (2 * r.cost) = 2 * r.cost := IntWalk.wrap64_in _ (by omega)
      have LB3 := hid (LB2.setF k (2 * r.cost))
      have ON3 := hid ((ON.out.trans (Only.ofExt EB)).set k (.int .i64 (2 * r.cost)))
      clear hr hcc hset EB LB2
      go_wp2
      clear d0 d1 d2 z0 z1 z2 f0 f1
      go_roundg (gk - 1)
      case rel => exact ⟨k + 1, by have := Hk.out; omega, by go_num, by rw [← HSET.out]; exact LB3, ON3⟩
      case measure => have := Hk.out; omega
    · have ek : k = rs.length := by omega
      have hki : ¬ ((k : Int) < rs.length) := by omega
      have hlb := LB.out
      rw [ek] at hlb
      have HINV : Hid (MInv rs N s w4 gp (gp + 1) 8 wr (.slice none 0 0) [] (fun i => (i : Int)) (twoC rs rs.length) [] 0) := {
        lab := Lab.nil
        labM := LabM.start
        st := St.start
        left := fun i hi => by
          obtain ⟨p1, p2, p3, p4, -, p6, p7⟩ := roadOk_iff.1 (HAll.out _ (roadAt_mem hi))
          have e : twoC rs rs.length i = 2 * (roadAt rs i).cost := by unfold twoC; rw [if_pos hi]
          rw [e]
          exact ⟨by show _ = 2 * (roadAt rs i).cost - 0; omega, by omega⟩
        t0 := Int.le_refl _
        reps := Nat.le_trans (cnt_hi _ _) h8
        len := by show (0 : Nat) + 8 * 8 ≤ 64; omega
        pb := heap_only HPB.out ON.out (by omega)
        lb := hlb
        own := World.ownsRow_nil _ _ _ _
        ext := EA.out }
      clear ek hlb hlt LB ON EA HPB HE46
      go_wp2
      go_loopg [7] 8 (fun g v wr => ∃ (z : Value) (ED : List RoadD) (p L : Nat → Int) (ms : List MoatD) (T : Int), v = z ∧ Hid (MInv rs N s w4 gp (gp + 1) g wr z ED p L ms T))
      case atStart => exact ⟨_, _, _, _, _, _, rfl, HINV⟩
      case round =>
        clear HINV
        obtain ⟨z, ED, p, L, ms, T, hvz, INV⟩ := hrel
        have hvz2 := hvz.symm
        subst hvz2
        obtain ⟨g0, hg0⟩ : ∃ x, x = gk := ⟨_, rfl⟩
        rw [← hg0] at INV
        have HG0 := hid hg0
        obtain ⟨y, ⟨ht1, -⟩, HTC⟩ := (HTZ.out.ext (HE4.out.trans INV.out.ext)) wr (Ext.refl _) s hs0 s256
        have hy8 : y < 8 := bit_lt (n := 8) (by exact s256) ht1
        have hti : (0 : Int) < s := by omega
        have hti2 : (s : Int) < 256 := by omega
        have dec : Decidable (connP p s y) := Classical.propDecidable _
        have HF : Hid (connP p s y ↔ Cn ED s) := connP_iff INV.out.lab s256 ht1
        have HTC2 := hid HTC
        clear HTC ht1 hg0
        go_wp2_with (fail)
        refine (connected_any gp p s y _ INV.out.pb hti hti2 hy8 HTC2.out (dec := dec)).mono ?_
        by_cases hc : connP p s y
        · rw [decide_eq_true hc]
          rintro e w5 ⟨rfl, he⟩
          have hfit : fitP N rs s ms := ⟨INV.out.st.fit, fun r hr => by
            obtain ⟨i, hi, e⟩ := List.getElem_of_mem hr
            obtain ⟨l1, l2⟩ := INV.out.left i hi
            rw [roadAt_get hi, e] at l1
            rw [overR_ovC]; omega⟩
          have HFIN : Hid (ms.length ≤ 64 ∧ fitP N rs s ms ∧ steinerV rs N s ≤ sumW ms) := ⟨by have := INV.out.len; omega, hfit, INV.out.st.done HAll.out h1 h8 hs0 HsN.out INV.out.t0 (HF.out.1 hc)⟩
          have HW := hid (HE4.out.trans (INV.out.ext.trans he))
          have HOW : Hid (OwnMt w.heap.size w5 z ms) := ownsRow_base (ownsRow_ext INV.out.own he) (by have h1 := HGP.out; have h2 := HE4.out.size; omega)
          clear he hc hfit
          go_wp2
          go_ret2
          exact ⟨_, _, rfl, HOW.out, HFIN.out, HW.out⟩
        · rw [decide_eq_false hc]
          rintro e WR ⟨rfl, he⟩
          have HNC : Hid (¬ Cn ED s) := fun g => hc (HF.out.2 g)
          have HPB := hid (INV.out.pb.ext he)
          have HLB := hid (INV.out.lb.ext he)
          have HOW : Hid (OwnMt (gp + 1 + 1) WR z ms) := ownsRow_ext INV.out.own he
          have HEW := hid (INV.out.ext.trans he)
          have hlbx : LBox (WR.alloc (.cells #[.slice none 0 0] 25)) WR.heap.size (.slice none 0 0) := heap_alloc_new _ _
          have hE1 := Ext.ofAlloc WR (.cells #[.slice none 0 0] 25)
          obtain ⟨c0, c1⟩ := (HX4.out.ext (HEW.out.trans hE1)).cells
          have hszw : (WR.alloc (.cells #[.slice none 0 0] 25)).heap.size = WR.heap.size + 1 := by simp
          have HLBX := hid hlbx
          have HE1 := hid hE1
          have HSZ := hid (Nat.le_of_eq hszw.symm)
          clear he hc hlbx hE1 hszw HTC2 HF
          go_wp2
          clear c0 c1
          generalize WR.alloc (.cells #[.slice none 0 0] 25) = W7 at HLBX HE1 HSZ ⊢
          obtain ⟨bg, hbg⟩ : ∃ b, b = WR.heap.size := ⟨_, rfl⟩
          rw [← hbg] at HLBX HSZ ⊢
          have HBG := hid hbg
          clear hbg
          go_loopg [64] N (fun g i wr => ∃ (k : Nat) (u : Value), k + g = N ∧ i = .int .i64 k ∧ Hid (LBox wr bg u) ∧ Hid (OwnI (bg + 1) wr u (natI (growL p N s k))) ∧ Hid (bg + 1 ≤ wr.heap.size) ∧ Hid (Ext WR wr))
          case atStart => exact ⟨0, _, by omega, rfl, HLBX, World.ownsRow_nil _ _ _ _, HSZ, HE1⟩
          case round =>
            clear HLBX HSZ HE1
            obtain ⟨k, u, hk, rfl, BX, OW, SZ, E⟩ := hrel
            have hkN : k ≤ N := by omega
            have Hk := hid hk
            clear hk
            have HEX := hid (HEW.out.trans E.out)
            by_cases hlt : k < N
            · have hki : (k : Int) < N := by omega
              have hk8 : (k : Int) < 8 := by omega
              obtain ⟨c0, c1⟩ := (HX4.out.ext HEX.out).cells
              go_wp2_with (fail)
              refine (part_any gp p k N _ (HPB.out.ext E.out) (by omega) h8).mono ?_
              rintro e w5 ⟨rfl, he⟩
              have E5 := hid (E.out.trans he)
              have BX5 := hid (BX.out.ext he)
              have OW5 : Hid (OwnI (bg + 1) w5 u (natI (growL p N s k))) := ownsRow_ext OW.out he
              have SZ5 : Hid (bg + 1 ≤ w5.heap.size) := Nat.le_trans SZ.out he.size
              have dk := (HPB.out.ext E5.out).cell (show k < 8 by omega)
              have hplt := partTo_lt p k N
              have hp8 : (2 : Nat) ^ N ≤ 2 ^ 8 := Nat.pow_le_pow_right (by decide) h8
              have he8 : (2 : Nat) ^ 8 = 256 := by decide
              have hgb : growsB p N s k = (decide (p k = k) && (decide (partTo p k N &&& s ≠ 0) && decide (andn s (partTo p k N) ≠ 0))) := rfl
              obtain ⟨P, hP⟩ : ∃ P, P = partTo p k N := ⟨_, rfl⟩
              obtain ⟨x, hx⟩ : ∃ x, x = p k := ⟨_, rfl⟩
              rw [← hP, ← hx] at hgb
              rw [← hP] at hplt ⊢
              rw [← hx] at dk
              have wA := bits_and_nat P s (by omega) (by omega)
              have wN := bits_andn s P (by omega) (by omega)
              obtain ⟨A, hA⟩ : ∃ A, A = P &&& s := ⟨_, rfl⟩
              obtain ⟨B, hB⟩ : ∃ B, B = andn s P := ⟨_, rfl⟩
              rw [← hA, ← hB] at hgb
              rw [← hA] at wA
              rw [← hB] at wN
              have HP := hid hP
              have HGB := hid hgb
              clear he c0 c1 hP hx hA hB hgb hp8 he8
              by_cases q1 : x = (k : Int)
              · have q1b : (x == (k : Int)) = true := beq_iff_eq.2 q1
                by_cases q2 : A = 0
                · have q2b : ((A : Int) != 0) = false := by rw [q2]; rfl
                  have HGN : Hid (growL p N s (k + 1) = growL p N s k) := growL_no (by rw [HGB.out, q2]; simp)
                  clear q1 q2
                  go_wp2
                  clear dk
                  go_roundg (gk - 1)
                  case rel => exact ⟨k + 1, u, by have := Hk.out; omega, by go_num, BX5, by rw [HGN.out]; exact OW5, SZ5, E5⟩
                  case measure => have := Hk.out; omega
                · have q2b : ((A : Int) != 0) = true := bne_iff_ne.2 (by omega)
                  by_cases q3 : B = 0
                  · have q3b : ((B : Int) != 0) = false := by rw [q3]; rfl
                    have HGN : Hid (growL p N s (k + 1) = growL p N s k) := growL_no (by rw [HGB.out, q3]; simp)
                    clear q1 q2 q3
                    go_wp2
                    clear dk
                    go_roundg (gk - 1)
                    case rel => exact ⟨k + 1, u, by have := Hk.out; omega, by go_num, BX5, by rw [HGN.out]; exact OW5, SZ5, E5⟩
                    case measure => have := Hk.out; omega
                  · have q3b : ((B : Int) != 0) = true := bne_iff_ne.2 (by omega)
                    have HGY : Hid (growL p N s (k + 1) = growL p N s k ++ [P]) := by
                      show _ = _
                      rw [growL_yes (by rw [HGB.out, decide_eq_true q1, decide_eq_true q2, decide_eq_true q3]; rfl), HP.out]
                    have hlen := growL_len p N s k
                    obtain ⟨au, nu, cu, rfl⟩ := own_shape OW5.out
                    have cb := BX5.out.cell
                    have cba := (Ext.ofAlloc w5 (.cells #[.int .i64 P] 3)).cell cb
                    have hsz := SZ5.out
                    clear q1 q2 q3
                    go_wp2_with (at_builtin; go_must (refine wpList_append_own_at _ rfl _ _ 25 rfl (bg + 1) 3 i0 (.int .i64 0) 1 8 Tryd.underlying25 hi hz0 hz1 hz2 rfl (by decide) _ _ _ rfl (OW5.out.alloc _) ⟨w5.heap.size, 0, none⟩ 1 1 [.int .i64 P] rfl rfl (cell_one_new _ _ _) (by intro y hy; simp at hy; subst hy; rfl) ?c3 ?c4 ?c5 ?_))
                    case c3 => rw [natI_len]; unfold maxLen; omega
                    case c4 => rw [natI_len]; omega
                    case c5 => simp; omega
                    intro v' w6 hown' hg6 _ _
                    obtain ⟨a7, n7, c7, rfl⟩ := own_shape hown'
                    have hR : OwnI (bg + 1) w6 (.slice a7 n7 c7) (natI (growL p N s (k + 1))) := by rw [HGY.out, natI_push]; exact OwnI.push rfl hown'
                    have hszA : bg + 1 ≤ (w5.alloc (.cells #[.int .i64 P] 3)).heap.size := by simp; omega
                    have hO2 := World.ownsRow.alloc OW5.out (.cells #[.int .i64 P] 3)
                    have hB := (Below.refl (bg + 1) _).grown hg6 hszA (fun k hk => (hO2.lt k hk).1)
                    have hbx6 : LBox w6 bg (.slice au nu cu) := by
                      show w6.heap[bg]? = _
                      rw [hB.block bg (by omega)]
                      exact heap_ext BX5.out (Ext.ofAlloc w5 _)
                    have E6 : Ext WR w6 := (E5.out.alloc _).trans' hB (by have := HBG.out; omega)
                    have hsz6 : bg + 1 ≤ w6.heap.size := Nat.le_trans hszA hB.size
                    have cb6 := hbx6.cell
                    have fb6 := hbx6.free
                    have BX8 := hid (hbx6.set (.slice a7 n7 c7))
                    have OW8 := hid (ownsRow_setCell_below hR (a := ⟨bg, 0, none⟩) (by show bg < bg + 1; omega) (.slice a7 n7 c7))
                    have E8 := hid (E6.setCell (by have := HBG.out; omega : WR.heap.size ≤ bg) 0 (.slice a7 n7 c7))
                    have SZ8 : Hid (bg + 1 ≤ (w6.setCell ⟨bg, 0, none⟩ (.slice a7 n7 c7)).heap.size) := by show _ ≤ _; simpa using hsz6
                    clear hown' hg6 hR hszA hO2 hB hbx6 E6 hsz6 hsz hlen cb cba dk
                    go_wp2
                    clear cb6 fb6
                    go_roundg (gk - 1)
                    case rel => exact ⟨k + 1, _, by have := Hk.out; omega, by go_num, BX8, OW8, SZ8, E8⟩
                    case measure => have := Hk.out; omega
              · have q1b : (x == (k : Int)) = false := beq_eq_false_iff_ne.2 q1
                have HGN : Hid (growL p N s (k + 1) = growL p N s k) := growL_no (by rw [HGB.out, decide_eq_false q1]; simp)
                clear q1
                go_wp2
                clear dk
                go_roundg (gk - 1)
                case rel => exact ⟨k + 1, u, by have := Hk.out; omega, by go_num, BX5, by rw [HGN.out]; exact OW5, SZ5, E5⟩
                case measure => have := Hk.out; omega
            · have ek : k = N := by omega
              have hki : ¬ ((k : Int) < N) := by omega
              have ow := OW.out
              rw [ek] at ow
              obtain ⟨G, hG⟩ : ∃ G, G = growL p N s N := ⟨_, rfl⟩
              have hGl : G.length ≤ 8 := by rw [hG]; have := growL_len p N s N; omega
              have hS : ∀ S ∈ G, S ≤ 256 := by
                intro S hS
                rw [hG] at hS
                obtain ⟨i, -, -, e⟩ := growL_mem.1 hS
                have h1 := partTo_lt p i N
                have h2 : (2 : Nat) ^ N ≤ 2 ^ 8 := Nat.pow_le_pow_right (by decide) h8
                have h3 : (2 : Nat) ^ 8 = 256 := by decide
                omega
              rw [← hG] at ow
              obtain ⟨ag, cg, hu⟩ := own_len ow
              rw [natI_len] at hu
              subst hu
              have HGG := hid hG
              have HS256 := hid hS
              have LOW := hid ow
              obtain ⟨WA, hWA⟩ : ∃ x, x = wr := ⟨_, rfl⟩
              have LBX := BX
              have LEX := HEX
              have LE := E
              have LPB := hid (HPB.out.ext E.out)
              have LLB := hid (HLB.out.ext E.out)
              have LMT : Hid (OwnMt (gp + 1 + 1) wr z ms) := ownsRow_ext HOW.out E.out
              have LSZ := SZ
              rw [← hWA] at LOW LBX LEX LE LPB LLB LMT LSZ
              have LR : Hid (Ext WA wr) := by show Ext _ _; rw [hWA]; exact Ext.refl _
              obtain ⟨nF, hnF⟩ : ∃ nF : Nat → Int, ∀ i, nF i = spdC (roadAt rs i) (growL p N s N) := ⟨fun i => _, fun _ => rfl⟩
              obtain ⟨d, hd⟩ : ∃ d, d = stepTo L nF rs.length := ⟨_, rfl⟩
              obtain ⟨L', hL'⟩ : ∃ L' : Nat → Int, ∀ i, L' i = L i - d * nF i := ⟨fun i => _, fun _ => rfl⟩
              obtain ⟨ms', hms⟩ : ∃ ms' : List MoatD, ms' = if 0 < d then ms ++ mkM (growL p N s N) d else ms := ⟨_, rfl⟩
              have HRO := hid (round_out HAll.out h8 HsN.out HCn.out HNC.out INV.out.lab INV.out.labM INV.out.st INV.out.left hnF hd (fun i _ => hL' i) hms)
              have HNF : Hid (∀ i, spdC (roadAt rs i) G = nF i) := fun i => by rw [HGG.out]; exact (hnF i).symm
              have HD := hid hd
              have HL' := hid hL'
              rw [← hG] at hms
              have HMS := hid hms
              have HLEFT := hid INV.out.left
              have hsp := hid (fun i (hi : i < rs.length) => HRO.out.sp i hi)
              obtain ⟨c0, c1⟩ := (HX4.out.ext HEX.out).cells
              clear ek ow hG hS hWA hnF hd hL' hms hlt BX OW SZ E HEX
              go_wp2
              clear c0 c1
              go_loopg [97, 15] rs.length (fun g i dv wr => ∃ k : Nat, k + g = rs.length ∧ i = .int .i64 k ∧ dv = .int .i64 (stepTo L nF k) ∧ Hid (Ext WA wr))
              case atStart => exact ⟨0, by omega, rfl, rfl, LR⟩
              case round =>
                clear LR
                obtain ⟨k, hk, rfl, rfl, E⟩ := hrel
                have hkl : k ≤ rs.length := by omega
                have Hk := hid hk
                clear hk
                by_cases hlt : k < rs.length
                · have hki : (k : Int) < rs.length := by omega
                  obtain ⟨bb, off, rfl, -, hcc⟩ := Roads.get HV.out k hlt
                  obtain ⟨d0, d1, d2⟩ := hcc _ (HE4.out.trans (LEX.out.trans E.out))
                  obtain ⟨q1, q2', q3, q4', -, q6, q7⟩ := roadOk_iff.1 (HAll.out _ (roadAt_mem hlt))
                  have hnk := HNF.out k
                  obtain ⟨r, hr⟩ : ∃ r, r = roadAt rs k := ⟨_, rfl⟩
                  rw [← hr] at d0 d1 d2 q1 q2' q3 q4' q6 q7 hnk
                  have HR : Hid (roadAt rs k = r) := hr.symm
                  have HNK := hid hnk
                  have q2 : r.a < 8 := by omega
                  have q4 : r.b < 8 := by omega
                  clear hcc hnk hr q2' q4'
                  have EB := Ext.ofAlloc wr (.cells #[.int .i64 r.a, .int .i64 r.b, .int .i64 r.cost] 55)
                  have EEB := hid (E.out.trans EB)
                  obtain ⟨z0, z1, z2⟩ := (Box3.alloc wr 55 (.int .i64 r.a) (.int .i64 r.b) (.int .i64 r.cost)).cells
                  clear EB
                  go_wp2_with (fail)
                  refine (speed_any bg ag cg G r _ (LBX.out.ext EEB.out) ((OwnI.ints LOW.out (by rw [natI_len]; omega)).ext EEB.out) HS256.out hGl q1 q2 q3 q4).mono ?_
                  rw [HNK.out]
                  rintro e w5 ⟨rfl, he⟩
                  have E5 := hid (EEB.out.trans he)
                  have lk := (LLB.out.ext E5.out).cellF hlt
                  have hst : stepTo L nF (k + 1) = if 0 < nF k then min (stepTo L nF k) ((L k).tdiv (nF k)) else stepTo L nF k := rfl
                  obtain ⟨cur, hcur⟩ : ∃ c, c = stepTo L nF k := ⟨_, rfl⟩
                  obtain ⟨q, hq⟩ : ∃ q, q = nF k := ⟨_, rfl⟩
                  obtain ⟨x, hx⟩ : ∃ x, x = L k := ⟨_, rfl⟩
                  obtain ⟨sp0, sp2⟩ := hsp.out k hlt
                  have hx0 := (HLEFT.out k hlt).2
                  have hx1 : L k ≤ 100 := by
                    have h1 := ovC_pos (roadAt rs k) ms INV.out.st.wid
                    have h2 := (HLEFT.out k hlt).1
                    rw [HR.out] at h1 h2
                    omega
                  rw [← hcur, ← hq, ← hx] at hst
                  rw [← hq] at sp0 sp2 ⊢
                  rw [← hcur]
                  rw [← hx] at lk hx0 hx1
                  have HST := hid hst
                  clear he d0 d1 d2 z0 z1 z2 hst hcur hq hx
                  by_cases h0 : 0 < q
                  · have h0b : decide (q > 0) = true := decide_eq_true h0
                    have hqz : ¬ q = 0 := by omega
                    have hqzb : (q == 0) = false := beq_eq_false_iff_ne.2 hqz
                    obtain ⟨-, -, t3, t4⟩ := tdiv12 hx0 (show q = 1 ∨ q = 2 by omega)
                    have hw1 : IntKind.i64.wrap (x.tdiv q) = x.tdiv q := wraps_i64_62 _ t3 (by omega)
                    have hw2 : wrap64 (x.tdiv q) = x.tdiv q := IntWalk.wrap64_in _ (by omega)
                    have hst := HST.out
                    rw [if_pos h0] at hst
                    by_cases hm : x.tdiv q < cur
                    · have hm2 : ¬ cur ≤ x.tdiv q := by omega
                      rw [Int.min_eq_right (by omega)] at hst
                      have HST2 := hid hst
                      clear hst t3 t4 hqz
                      go_wp2
                      go_roundg (gk - 1)
                      case rel => exact ⟨k + 1, by have := Hk.out; omega, by go_num, by rw [HST2.out], E5⟩
                      case measure => have := Hk.out; omega
                    · have hm2 : cur ≤ x.tdiv q := by omega
                      rw [Int.min_eq_left (by omega)] at hst
                      have HST2 := hid hst
                      clear hst t3 t4 hqz
                      go_wp2
                      go_roundg (gk - 1)
                      case rel => exact ⟨k + 1, by have := Hk.out; omega, by go_num, by rw [HST2.out], E5⟩
                      case measure => have := Hk.out; omega
                  · have h0b : decide (q > 0) = false := decide_eq_false h0
                    have hst := HST.out
                    rw [if_neg h0] at hst
                    have HST2 := hid hst
                    clear hst
                    go_wp2
                    go_roundg (gk - 1)
                    case rel => exact ⟨k + 1, by have := Hk.out; omega, by go_num, by rw [HST2.out], E5⟩
                    case measure => have := Hk.out; omega
                · have HDK : Hid (stepTo L nF k = d) := by show _ = _; rw [HD.out, show k = rs.length by omega]
                  have hki : ¬ ((k : Int) < rs.length) := by omega
                  obtain ⟨c0, c1⟩ := (HX4.out.ext (LEX.out.trans E.out)).cells
                  have LB0 : Hid (IntBlock wr (gp + 1) (rowL rs.length (mix L L' 0))) := by
                    show IntBlock _ _ _
                    rw [rowL_same (g := L) (fun i _ => by unfold mix; rw [if_neg (by omega)])]
                    exact LLB.out.ext E.out
                  have ON0 : Hid (Only (gp + 1) WA wr) := Only.ofExt E.out
                  rw [HDK.out]
                  clear hlt E
                  go_wp2
                  clear c0 c1
                  go_loopg [119] rs.length (fun g i wr => ∃ k : Nat, k + g = rs.length ∧ i = .int .i64 k ∧ Hid (IntBlock wr (gp + 1) (rowL rs.length (mix L L' k))) ∧ Hid (Only (gp + 1) WA wr))
                  case atStart => exact ⟨0, by omega, rfl, LB0, ON0⟩
                  case round =>
                    clear LB0 ON0
                    obtain ⟨k, hk, rfl, LB, ON⟩ := hrel
                    have hkl : k ≤ rs.length := by omega
                    have Hk := hid hk
                    clear hk
                    have E : Hid (Ext w4 wr) := ON.out.ext LEX.out (by rw [HGP.out]; omega)
                    have WBX : Hid (LBox wr bg (.slice ag G.length cg)) := heap_only LBX.out ON.out (by have h1 := HBG.out; have h2 := lt_of_block HLB.out; omega)
                    have WOW : Hid (OwnI (bg + 1) wr (.slice ag G.length cg) (natI G)) := by
                      have := LOW.out
                      exact ownsRow_only this ON.out (by have h1 := HBG.out; have h2 := lt_of_block HLB.out; omega)
                    by_cases hlt : k < rs.length
                    · have hki : (k : Int) < rs.length := by omega
                      obtain ⟨bb, off, rfl, -, hcc⟩ := Roads.get HV.out k hlt
                      obtain ⟨d0, d1, d2⟩ := hcc _ (HE4.out.trans E.out)
                      obtain ⟨q1, q2', q3, q4', -, q6, q7⟩ := roadOk_iff.1 (HAll.out _ (roadAt_mem hlt))
                      have hnk := HNF.out k
                      obtain ⟨r, hr⟩ : ∃ r, r = roadAt rs k := ⟨_, rfl⟩
                      rw [← hr] at d0 d1 d2 q1 q2' q3 q4' q6 q7 hnk
                      have HR : Hid (roadAt rs k = r) := hr.symm
                      have HNK := hid hnk
                      have q2 : r.a < 8 := by omega
                      have q4 : r.b < 8 := by omega
                      clear hcc hnk hr q2' q4'
                      have EB := Ext.ofAlloc wr (.cells #[.int .i64 r.a, .int .i64 r.b, .int .i64 r.cost] 55)
                      obtain ⟨z0, z1, z2⟩ := (Box3.alloc wr 55 (.int .i64 r.a) (.int .i64 r.b) (.int .i64 r.cost)).cells
                      have EBD := hid EB.drew
                      have z0d := (Ext.refl _).drew.cell z0
                      have z1d := (Ext.refl _).drew.cell z1
                      have z2d := (Ext.refl _).drew.cell z2
                      have lk0 := (LB.out.ext EBD.out).cellF hlt
                      have e0 : mix L L' k k = L k := by unfold mix; rw [if_neg (by omega)]
                      rw [e0] at lk0
                      have hms := mix_set L L' k
                      have hlk := HL'.out k
                      obtain ⟨sp0, sp2⟩ := hsp.out k hlt
                      have hx0 := (HLEFT.out k hlt).2
                      have hx1 : L k ≤ 100 := by
                        have h1 := ovC_pos (roadAt rs k) ms INV.out.st.wid
                        have h2 := (HLEFT.out k hlt).1
                        rw [HR.out] at h1 h2
                        omega
                      have hy0' := (HRO.out.left k hlt).2
                      have hd0 := HRO.out.d0
                      have hdq : 0 ≤ d * nF k := Int.mul_nonneg hd0 sp0
                      obtain ⟨q, hq⟩ : ∃ q, q = nF k := ⟨_, rfl⟩
                      obtain ⟨x, hx⟩ : ∃ x, x = L k := ⟨_, rfl⟩
                      have hq2 := HNK.out
                      rw [← hq] at hq2 hdq hlk
                      rw [← hx] at lk0 hx0 hx1 hlk
                      rw [hlk] at hy0' hms
                      have HNQ := hid hq2
                      have HMX := hid hms
                      have hw1 : IntKind.i64.wrap (d * q) = d * q := wraps_i64_62 _ hdq (by omega)
                      have hw2 : wrap64 (d * q) = d * q := IntWalk.wrap64_in _ (by omega)
                      have hw3 : IntKind.i64.wrap (x - d * q) = x - d * q := wraps_i64_62 _ hy0' (by omega)
                      have hw4 : wrap64 (x - d * q) = x - d * q := IntWalk.wrap64_in _ (by omega)
                      have LK0 := hid lk0
                      have LBD := hid (LB.out.ext EBD.out)
                      have OND := hid (ON.out.trans (Only.ofExt EBD.out))
                      clear e0 hms hlk sp0 sp2 hx0 hx1 hy0' hd0 hdq hq hx hq2 lk0 EB
                      go_wp2
                      clear z0 z1 z2 d0 d1 d2
                      refine wp_region_held_drew (S := (fun w' => w'.cell? ⟨wr.heap.size, 0, none⟩ = some (.int .i64 r.a) ∧ w'.cell? ⟨wr.heap.size, 1, none⟩ = some (.int .i64 r.b) ∧ w'.cell? ⟨wr.heap.size, 2, none⟩ = some (.int .i64 r.cost))) (by kernel_rfl) ?hSa0 (fun hHeld => ?_)
                      case hSa0 => exact ⟨z0d, z1d, z2d⟩
                      refine wpAnyH_tk 0 (v := ?va0x1) rfl (by kernel_rfl) (by kernel_rfl) (by kernel_rfl) (fun _ _ _ h => h) (by rfl) ?hya0x1 (by assumption) ?_
                      case hya0x1 => (intro w hSw; (try dsimp only at hSw); go_simp <;> with_reducible rfl)
                      (try simp only [Act.put, List.setIfInBounds_toArray, List.set_cons_zero, List.set_cons_succ])
                      refine wpAnyH_tk 1 (v := ?va1x2) rfl (by kernel_rfl) (by kernel_rfl) (by kernel_rfl) (fun _ _ _ h => h) (by rfl) ?hya1x2 (by assumption) ?_
                      case hya1x2 => (intro w hSw; (try dsimp only at hSw); go_simp <;> with_reducible rfl)
                      (try simp only [Act.put, List.setIfInBounds_toArray, List.set_cons_zero, List.set_cons_succ])
                      refine wpAnyH_tk 2 (v := ?va2x3) rfl (by kernel_rfl) (by kernel_rfl) (by kernel_rfl) (fun _ _ _ h => h) (by rfl) ?hya2x3 (by assumption) ?_
                      case hya2x3 => (intro w hSw; (try dsimp only at hSw); go_simp <;> with_reducible rfl)
                      (try simp only [Act.put, List.setIfInBounds_toArray, List.set_cons_zero, List.set_cons_succ])
                      refine wpAnyH_tk 4 (v := ?va4x4) rfl (by kernel_rfl) (by kernel_rfl) (by kernel_rfl) (fun _ _ _ h => h) (by rfl) ?hya4x4 (by assumption) ?_
                      case hya4x4 => (intro w hSw; (try dsimp only at hSw); go_simp <;> with_reducible rfl)
                      (try simp only [Act.put, List.setIfInBounds_toArray, List.set_cons_zero, List.set_cons_succ])
                      refine wpAnyH_tk 5 (v := ?va5x5) rfl (by kernel_rfl) (by kernel_rfl) (by kernel_rfl) (fun _ _ _ h => h) (by rfl) ?hya5x5 (by assumption) ?_
                      case hya5x5 => (intro w hSw; (try dsimp only at hSw); go_simp <;> with_reducible rfl)
                      (try simp only [Act.put, List.setIfInBounds_toArray, List.set_cons_zero, List.set_cons_succ])
                      refine wpAnyH_tk 6 (v := ?va6x6) rfl (by kernel_rfl) (by kernel_rfl) (by kernel_rfl) (fun _ _ _ h => h) (by rfl) ?hya6x6 (by assumption) ?_
                      case hya6x6 => (intro w hSw; (try dsimp only at hSw); go_simp <;> with_reducible rfl)
                      (try simp only [Act.put, List.setIfInBounds_toArray, List.set_cons_zero, List.set_cons_succ])
                      refine wpAnyH_two 3 7 rfl rfl (by kernel_rfl) (by rfl) (by rfl) (fun K hK => ?_) (fun K hK => ?_)
                      · skip
                        have lk := LK0.out
                        go_simp
                        clear lk
                        refine hK.out _ _ ?hSa3x7 (fun hHeld => ?_)
                        case hSa3x7 => exact ⟨z0d, z1d, z2d⟩
                        clear hK K
                        (try simp only [Act.put, List.setIfInBounds_toArray, List.set_cons_zero, List.set_cons_succ])
                        refine wpAnyH_one 7 rfl (by kernel_rfl) (by rfl) (fun K hK => ?_)
                        go_simp
                        refine (speed_any bg ag cg G r _ (WBX.out.ext EBD.out) ((OwnI.ints WOW.out (by rw [natI_len]; omega)).ext EBD.out) HS256.out hGl q1 q2 q3 q4).mono ?_
                        rw [HNQ.out]
                        rintro e w5 ⟨rfl, he⟩
                        have LB5 := hid (LBD.out.ext he)
                        have LK5 := hid (he.cell LK0.out)
                        have ON5 := hid (OND.out.trans (Only.ofExt he))
                        have HZ5 := hid (And.intro (he.cell z0d) (And.intro (he.cell z1d) (he.cell z2d)))
                        clear he
                        refine hK.out _ _ ?hSa7x8 (fun hHeld => ?_)
                        case hSa7x8 => exact HZ5.out
                        clear hK K
                        (try simp only [Act.put, List.setIfInBounds_toArray, List.set_cons_zero, List.set_cons_succ])
                        refine wpAnyH_tk 8 (v := ?va8x9) rfl (by kernel_rfl) (by kernel_rfl) (by kernel_rfl) (fun _ _ _ h => h) (by rfl) ?hya8x9 (by assumption) ?_
                        case hya8x9 => (intro w hSw; (try dsimp only at hSw); go_simp <;> with_reducible rfl)
                        (try simp only [Act.put, List.setIfInBounds_toArray, List.set_cons_zero, List.set_cons_succ])
                        refine wpAnyH_tk 9 (v := ?va9x10) rfl (by kernel_rfl) (by kernel_rfl) (by kernel_rfl) (fun _ _ _ h => h) (by rfl) ?hya9x10 (by assumption) ?_
                        case hya9x10 => (intro w hSw; (try dsimp only at hSw); go_simp <;> with_reducible rfl)
                        (try simp only [Act.put, List.setIfInBounds_toArray, List.set_cons_zero, List.set_cons_succ])
                        refine wpAnyH_tk 10 (v := ?va10x11) rfl (by kernel_rfl) (by kernel_rfl) (by kernel_rfl) (fun _ _ _ h => h) (by rfl) ?hya10x11 (by assumption) ?_
                        case hya10x11 => (intro w hSw; (try dsimp only at hSw); go_simp <;> with_reducible rfl)
                        (try simp only [Act.put, List.setIfInBounds_toArray, List.set_cons_zero, List.set_cons_succ])
                        have lk := LK5.out
                        have f5 := LB5.out.free k
                        refine wpAnyH_one 11 rfl (by kernel_rfl) (by rfl) (fun K hK => ?_)
                        go_simp
                        clear lk f5
                        have LB9 := hid (LB5.out.setF k (x - d * q))
                        rw [HMX.out] at LB9
                        have ON9 := hid (ON5.out.set k (.int .i64 (x - d * q)))
                        have HZ9 : Hid ((w5.setCell ⟨gp + 1, k, none⟩ (.int .i64 (x - d * q))).cell? ⟨wr.heap.size, 0, none⟩ = some (.int .i64 r.a) ∧ (w5.setCell ⟨gp + 1, k, none⟩ (.int .i64 (x - d * q))).cell? ⟨wr.heap.size, 1, none⟩ = some (.int .i64 r.b) ∧ (w5.setCell ⟨gp + 1, k, none⟩ (.int .i64 (x - d * q))).cell? ⟨wr.heap.size, 2, none⟩ = some (.int .i64 r.cost)) := by
                          have hne : (gp + 1 : Nat) ≠ wr.heap.size := by have := lt_of_block LB.out; omega
                          have kk : ∀ i, (w5.setCell ⟨gp + 1, k, none⟩ (.int .i64 (x - d * q))).cell? ⟨wr.heap.size, i, none⟩ = w5.cell? ⟨wr.heap.size, i, none⟩ := fun i => World.cell?_of_block (Below.heap_setCell _ _ _ _ (fun e => hne e.symm))
                          exact ⟨(kk 0).trans HZ5.out.1, (kk 1).trans HZ5.out.2.1, (kk 2).trans HZ5.out.2.2⟩
                        refine hK.out _ _ ?hSa11x12 (fun hHeld => ?_)
                        case hSa11x12 => exact HZ9.out
                        clear hK K
                        (try simp only [Act.put, List.setIfInBounds_toArray, List.set_cons_zero, List.set_cons_succ])
                        refine wpAnyH_done (by kernel_rfl) ?_ _
                        clear hHeld
                        go_wp2
                        go_roundg (gk - 1)
                        case rel => exact ⟨k + 1, by have := Hk.out; omega, by go_num, LB9, ON9⟩
                        case measure => have := Hk.out; omega
                      · skip
                        go_simp
                        refine (speed_any bg ag cg G r _ (WBX.out.ext EBD.out) ((OwnI.ints WOW.out (by rw [natI_len]; omega)).ext EBD.out) HS256.out hGl q1 q2 q3 q4).mono ?_
                        rw [HNQ.out]
                        rintro e w5 ⟨rfl, he⟩
                        have LB5 := hid (LBD.out.ext he)
                        have LK5 := hid (he.cell LK0.out)
                        have ON5 := hid (OND.out.trans (Only.ofExt he))
                        have HZ5 := hid (And.intro (he.cell z0d) (And.intro (he.cell z1d) (he.cell z2d)))
                        clear he
                        refine hK.out _ _ ?hSa7x13 (fun hHeld => ?_)
                        case hSa7x13 => exact HZ5.out
                        clear hK K
                        (try simp only [Act.put, List.setIfInBounds_toArray, List.set_cons_zero, List.set_cons_succ])
                        refine wpAnyH_tk 8 (v := ?va8x14) rfl (by kernel_rfl) (by kernel_rfl) (by kernel_rfl) (fun _ _ _ h => h) (by rfl) ?hya8x14 (by assumption) ?_
                        case hya8x14 => (intro w hSw; (try dsimp only at hSw); go_simp <;> with_reducible rfl)
                        (try simp only [Act.put, List.setIfInBounds_toArray, List.set_cons_zero, List.set_cons_succ])
                        have lk := LK5.out
                        refine wpAnyH_one 3 rfl (by kernel_rfl) (by rfl) (fun K hK => ?_)
                        go_simp
                        clear lk
                        refine hK.out _ _ ?hSa3x15 (fun hHeld => ?_)
                        case hSa3x15 => exact HZ5.out
                        clear hK K
                        (try simp only [Act.put, List.setIfInBounds_toArray, List.set_cons_zero, List.set_cons_succ])
                        refine wpAnyH_tk 9 (v := ?va9x16) rfl (by kernel_rfl) (by kernel_rfl) (by kernel_rfl) (fun _ _ _ h => h) (by rfl) ?hya9x16 (by assumption) ?_
                        case hya9x16 => (intro w hSw; (try dsimp only at hSw); go_simp <;> with_reducible rfl)
                        (try simp only [Act.put, List.setIfInBounds_toArray, List.set_cons_zero, List.set_cons_succ])
                        refine wpAnyH_tk 10 (v := ?va10x17) rfl (by kernel_rfl) (by kernel_rfl) (by kernel_rfl) (fun _ _ _ h => h) (by rfl) ?hya10x17 (by assumption) ?_
                        case hya10x17 => (intro w hSw; (try dsimp only at hSw); go_simp <;> with_reducible rfl)
                        (try simp only [Act.put, List.setIfInBounds_toArray, List.set_cons_zero, List.set_cons_succ])
                        have lk := LK5.out
                        have f5 := LB5.out.free k
                        refine wpAnyH_one 11 rfl (by kernel_rfl) (by rfl) (fun K hK => ?_)
                        go_simp
                        clear lk f5
                        have LB9 := hid (LB5.out.setF k (x - d * q))
                        rw [HMX.out] at LB9
                        have ON9 := hid (ON5.out.set k (.int .i64 (x - d * q)))
                        have HZ9 : Hid ((w5.setCell ⟨gp + 1, k, none⟩ (.int .i64 (x - d * q))).cell? ⟨wr.heap.size, 0, none⟩ = some (.int .i64 r.a) ∧ (w5.setCell ⟨gp + 1, k, none⟩ (.int .i64 (x - d * q))).cell? ⟨wr.heap.size, 1, none⟩ = some (.int .i64 r.b) ∧ (w5.setCell ⟨gp + 1, k, none⟩ (.int .i64 (x - d * q))).cell? ⟨wr.heap.size, 2, none⟩ = some (.int .i64 r.cost)) := by
                          have hne : (gp + 1 : Nat) ≠ wr.heap.size := by have := lt_of_block LB.out; omega
                          have kk : ∀ i, (w5.setCell ⟨gp + 1, k, none⟩ (.int .i64 (x - d * q))).cell? ⟨wr.heap.size, i, none⟩ = w5.cell? ⟨wr.heap.size, i, none⟩ := fun i => World.cell?_of_block (Below.heap_setCell _ _ _ _ (fun e => hne e.symm))
                          exact ⟨(kk 0).trans HZ5.out.1, (kk 1).trans HZ5.out.2.1, (kk 2).trans HZ5.out.2.2⟩
                        refine hK.out _ _ ?hSa11x18 (fun hHeld => ?_)
                        case hSa11x18 => exact HZ9.out
                        clear hK K
                        (try simp only [Act.put, List.setIfInBounds_toArray, List.set_cons_zero, List.set_cons_succ])
                        refine wpAnyH_done (by kernel_rfl) ?_ _
                        clear hHeld
                        go_wp2
                        go_roundg (gk - 1)
                        case rel => exact ⟨k + 1, by have := Hk.out; omega, by go_num, LB9, ON9⟩
                        case measure => have := Hk.out; omega
                    · have ek : k = rs.length := by omega
                      have hki : ¬ ((k : Int) < rs.length) := by omega
                      have lb := LB.out
                      rw [ek, rowL_same (g := L') (fun i hi => by unfold mix; rw [if_pos hi])] at lb
                      have WLB := hid lb
                      have WPB : Hid (PBox wr gp p) := heap_only LPB.out ON.out (by omega)
                      have WMT : Hid (OwnMt (gp + 1 + 1) wr z ms) := ownsRow_only LMT.out ON.out (by omega)
                      have cb := WBX.out.cell
                      obtain ⟨c0, c1⟩ := (HX4.out.ext E.out).cells
                      have hd0 := HRO.out.d0
                      have hd1 := HRO.out.d1
                      have hgl : gp + 1 < bg := by have h1 := HBG.out; have h2 := lt_of_block HLB.out; omega
                      have hz := hid (fun j (hj : z.ownBlock = some j) => (HOW.out.lt j hj))
                      clear ek lb hlt
                      by_cases hdp : 0 < d
                      · have hdb : decide (d > 0) = true := decide_eq_true hdp
                        obtain ⟨WC, hWC⟩ : ∃ x, x = wr := ⟨_, rfl⟩
                        have VPB := WPB
                        have VLB := WLB
                        have VBX := WBX
                        have VOW := WOW
                        have VEX := E
                        rw [← hWC] at VPB VLB VBX VOW VEX
                        have VG : Hid (WC.grownBy wr z.ownBlock) := by show World.grownBy _ _ _; rw [hWC]; exact grownBy_ext (Ext.refl _)
                        have VT : Hid (OwnTo z.ownBlock WC z) := .inl rfl
                        have hms := HMS.out
                        rw [if_pos hdp] at hms
                        have HMS2 := hid hms
                        have WM0 : Hid (OwnMt (gp + 1 + 1) wr z (ms ++ (mkM G d).take 0)) := by
                          show OwnMt _ _ _ _
                          rw [List.take_zero, List.append_nil]; exact WMT.out
                        have hml := INV.out.len
                        clear hWC hms WMT c0 c1
                        go_wp2
                        clear cb
                        go_loopg [140, 7] G.length (fun g i v wr => ∃ (k : Nat) (zz : Value), k + g = G.length ∧ i = .int .i64 k ∧ v = zz ∧ Hid (OwnMt (gp + 1 + 1) wr zz (ms ++ (mkM G d).take k)) ∧ Hid (WC.grownBy wr z.ownBlock) ∧ Hid (OwnTo z.ownBlock WC zz))
                        case atStart => exact ⟨0, _, by omega, rfl, rfl, WM0, VG, VT⟩
                        case round =>
                          clear WM0 VG VT
                          obtain ⟨k, zz, hk, rfl, hvz, OM, GR, OT⟩ := hrel
                          have hvz2 := hvz.symm
                          subst hvz2
                          have hkl : k ≤ G.length := by omega
                          have Hk := hid hk
                          clear hk
                          have keep : Hid (∀ j, j < WC.heap.size → (∀ i, z.ownBlock = some i → j ≠ i) → wr.heap[j]? = WC.heap[j]?) := fun j hj hne => GR.out.block j hj (fun e => hne j e.symm rfl)
                          by_cases hlt : k < G.length
                          · have hki : (k : Int) < G.length := by omega
                            have XOW : OwnI (bg + 1) wr (.slice ag G.length cg) (natI G) := by
                              have := VOW.out
                              refine ownsRow_heap this (fun j hj => keep.out j (this.lt j hj).2 (fun i hi => ?_))
                              have h1 := (this.lt j hj).1
                              have h2 := (hz.out i hi).2
                              have h3 := HBG.out
                              omega
                            obtain ⟨gb, og, rfl, -, hcl⟩ := (OwnI.ints XOW (by rw [natI_len]; omega)).get k (by rw [natI_len]; exact hlt)
                            have dk := hcl _ (Ext.refl _)
                            rw [natI_fn hlt] at dk
                            have htk := mkM_take (d := d) hlt
                            obtain ⟨S, hS⟩ : ∃ S, S = G[k] := ⟨_, rfl⟩
                            rw [← hS] at dk htk
                            have HTK := hid htk
                            obtain ⟨R, hR⟩ : ∃ R, R = ms ++ (mkM G d).take k := ⟨_, rfl⟩
                            have hRl : R.length ≤ 128 := by rw [hR, List.length_append, List.length_take, mkM_len]; omega
                            rw [← hR] at OM
                            have HRR := hid hR
                            obtain ⟨av, nv, cv, rfl⟩ := own_shape OM.out
                            have hszr : gp + 1 + 1 ≤ wr.heap.size := by have h1 := GR.out.size; have h2 := lt_of_block VBX.out; omega
                            have HO2 := hid (World.ownsRow.alloc OM.out (.cells #[.int .i64 S, .int .i64 d] 74))
                            clear XOW hcl htk hS hR
                            go_wp2_with (at_builtin; go_must (refine wpList_append_own_at _ rfl _ _ 40 rfl (gp + 1 + 1) 74 j0 (.agg #[.int .i64 0, .int .i64 0]) 2 16 Tryd.underlying40 hj hy0 hy1 hy2 rfl (by decide) _ _ _ rfl HO2.out ⟨wr.heap.size, 0, none⟩ 1 1 [.int .i64 S, .int .i64 d] rfl rfl (cell_two_new _ _ _ _) (by intro y hy; simp at hy; rcases hy with rfl | rfl <;> rfl) ?c3 ?c4 ?c5 ?_))
                            case c3 => unfold maxLen; omega
                            case c4 => omega
                            case c5 => simp; omega
                            intro v' w6 hown' hg6 _ hat
                            have hR6 : OwnMt (gp + 1 + 1) w6 v' (R ++ [⟨(S : Int), d⟩]) := OwnMt.push (r := ⟨(S : Int), d⟩) rfl hown'
                            rw [HRR.out, List.append_assoc, ← HTK.out] at hR6
                            have OM6 := hid hR6
                            have GR6 := hid (grownBy_push GR.out OT.out hg6)
                            have OT6 : Hid (OwnTo z.ownBlock WC v') := by
                              rcases hat with e | e
                              · show OwnTo _ _ _
                                unfold OwnTo
                                rw [e]; exact OT.out
                              · exact .inr ⟨_, e, by have := GR.out.size; simp; omega⟩
                            clear hown' hg6 hR6 hat dk
                            go_wp2
                            go_roundg (gk - 1)
                            case rel => exact ⟨k + 1, _, by have := Hk.out; omega, by go_num, rfl, OM6, GR6, OT6⟩
                            case measure => have := Hk.out; omega
                          · have ek : k = G.length := by omega
                            have hki : ¬ ((k : Int) < G.length) := by omega
                            have om := OM.out
                            rw [ek, List.take_of_length_le (by rw [mkM_len]; omega), ← HMS2.out] at om
                            have YMT := hid om
                            have kp : ∀ j, j < WC.heap.size → (j < gp + 1 + 1 ∨ bg ≤ j) → wr.heap[j]? = WC.heap[j]? := fun j hj hor => keep.out j hj (fun i hi => by
                              have h1 := (hz.out i hi)
                              have h3 := HBG.out
                              omega)
                            have YPB : Hid (PBox wr gp p) := by
                              show wr.heap[gp]? = _
                              rw [kp gp (lt_of_block VPB.out) (by omega)]; exact VPB.out
                            have YLB : Hid (IntBlock wr (gp + 1) (rowL rs.length L')) := by
                              show wr.heap[gp + 1]? = _
                              rw [kp (gp + 1) (lt_of_block VLB.out) (by omega)]; exact VLB.out
                            have YBX : Hid (LBox wr bg (.slice ag G.length cg)) := by
                              show wr.heap[bg]? = _
                              rw [kp bg (lt_of_block VBX.out) (by omega)]; exact VBX.out
                            have YOW : Hid (OwnI (bg + 1) wr (.slice ag G.length cg) (natI G)) := by
                              have := VOW.out
                              exact ownsRow_heap this (fun j hj => kp j (this.lt j hj).2 (by have := (this.lt j hj).1; omega))
                            have YEX : Hid (Ext w4 wr) := ⟨by rw [GR.out.os, VEX.out.os], by rw [GR.out.tape, VEX.out.tape], by rw [GR.out.output, VEX.out.output], Nat.le_trans VEX.out.size GR.out.size, fun j hj => by
                              have h1 := HGP.out
                              have h2 := VEX.out.size
                              rw [kp j (by omega) (by omega), VEX.out.block j hj]⟩
                            obtain ⟨c0, c1⟩ := (HX4.out.ext YEX.out).cells
                            have hml2 : ms'.length + 8 * (g0 - 1) ≤ 64 ∨ g0 = 0 := by
                              rw [HMS2.out, List.length_append, mkM_len]
                              have := INV.out.len
                              omega
                            clear ek om hlt keep kp OM GR OT
                            obtain ⟨WD, hWD⟩ : ∃ x, x = wr := ⟨_, rfl⟩
                            have UPB := YPB
                            have ULB := YLB
                            have UBX := YBX
                            have UOW := YOW
                            have UEX := YEX
                            have UMT := YMT
                            rw [← hWD] at UPB ULB UBX UOW UEX UMT
                            have UON : Hid (Only gp WD wr) := by show Only _ _ _; rw [hWD]; exact Only.ofExt (Ext.refl _)
                            have HJ0 := hid (Joins.start HRO.out INV.out.lab INV.out.labM)
                            clear hWD YLB YBX YOW YEX YMT
                            go_wp2
                            clear c0 c1
                            go_loopg [154] rs.length (fun g i wr => ∃ (k : Nat) (EJ : List RoadD) (pj : Nat → Int), k + g = rs.length ∧ i = .int .i64 k ∧ Hid (Joins rs N s ED p nF L' ms' (T + d) k EJ pj) ∧ Hid (PBox wr gp pj) ∧ Hid (Only gp WD wr))
                            case atStart => exact ⟨0, _, _, by omega, rfl, HJ0, YPB, UON⟩
                            case round =>
                              clear HJ0 YPB UON
                              obtain ⟨k, EJ, pj, hk, rfl, JJ, JP, ON⟩ := hrel
                              have hkl : k ≤ rs.length := by omega
                              have Hk := hid hk
                              clear hk
                              have E : Hid (Ext w4 wr) := ON.out.ext UEX.out (by rw [HGP.out]; exact Nat.le_refl _)
                              have JBX : Hid (LBox wr bg (.slice ag G.length cg)) := heap_only UBX.out ON.out (by omega)
                              have JOW : Hid (OwnI (bg + 1) wr (.slice ag G.length cg) (natI G)) := by
                                have := UOW.out
                                exact ownsRow_only this ON.out (by omega)
                              have JLB : Hid (IntBlock wr (gp + 1) (rowL rs.length L')) := heap_only ULB.out ON.out (by omega)
                              by_cases hlt : k < rs.length
                              · have hki : (k : Int) < rs.length := by omega
                                obtain ⟨bb, off, rfl, -, hcc⟩ := Roads.get HV.out k hlt
                                obtain ⟨d0, d1, d2⟩ := hcc _ (HE4.out.trans E.out)
                                obtain ⟨q1, q2', q3, q4', -, q6, q7⟩ := roadOk_iff.1 (HAll.out _ (roadAt_mem hlt))
                                have hnk := HNF.out k
                                obtain ⟨r, hr⟩ : ∃ r, r = roadAt rs k := ⟨_, rfl⟩
                                rw [← hr] at d0 d1 d2 q1 q2' q3 q4' q6 q7 hnk
                                have HR : Hid (roadAt rs k = r) := hr.symm
                                have HNK := hid hnk
                                have q2 : r.a < 8 := by omega
                                have q4 : r.b < 8 := by omega
                                clear hcc hnk hr q2' q4'
                                have EB := hid (Ext.ofAlloc wr (.cells #[.int .i64 r.a, .int .i64 r.b, .int .i64 r.cost] 55))
                                obtain ⟨z0, z1, z2⟩ := (Box3.alloc wr 55 (.int .i64 r.a) (.int .i64 r.b) (.int .i64 r.cost)).cells
                                go_wp2_with (fail)
                                refine (speed_any bg ag cg G r _ (JBX.out.ext EB.out) ((OwnI.ints JOW.out (by rw [natI_len]; omega)).ext EB.out) HS256.out hGl q1 q2 q3 q4).mono ?_
                                rw [HNK.out]
                                rintro e w5 ⟨rfl, he⟩
                                have E5 := hid (EB.out.trans he)
                                replace z0 := he.cell z0
                                replace z1 := he.cell z1
                                replace z2 := he.cell z2
                                have lk := (JLB.out.ext E5.out).cellF hlt
                                have ON5 := hid (ON.out.trans (Only.ofExt E5.out))
                                have JP5 := hid (JP.out.ext E5.out)
                                obtain ⟨q, hq⟩ : ∃ q, q = nF k := ⟨_, rfl⟩
                                obtain ⟨x, hx⟩ : ∃ x, x = L' k := ⟨_, rfl⟩
                                rw [← hq]
                                rw [← hx] at lk
                                have HQ := hid hq
                                have HX2 := hid hx
                                clear he d0 d1 d2 hq hx
                                by_cases h0 : 0 < q
                                · have h0b : decide (q > 0) = true := decide_eq_true h0
                                  by_cases hl : x < q
                                  · have hlb2 : decide (x < q) = true := decide_eq_true hl
                                    have JJ2 := hid (JJ.out.join HAll.out h8 HRO.out hlt (by rw [← HQ.out]; exact h0) (by rw [← HQ.out, ← HX2.out]; exact hl))
                                    rw [HR.out] at JJ2
                                    go_wp2_with (fail)
                                    refine (join_any gp pj r _ JP5.out q1 q2 q3 q4).mono ?_
                                    rintro e w6 ⟨rfl, hpb6, hon6⟩
                                    have JP6 := hid hpb6
                                    have ON6 := hid (ON5.out.trans hon6)
                                    clear hpb6 hon6 z0 z1 z2 lk
                                    go_wp2
                                    go_roundg (gk - 1)
                                    case rel => exact ⟨k + 1, _, _, by have := Hk.out; omega, by go_num, JJ2, JP6, ON6⟩
                                    case measure => have := Hk.out; omega
                                  · have hlb2 : decide (x < q) = false := decide_eq_false hl
                                    have JJ2 := hid (JJ.out.skip (fun g => hl (by rw [HQ.out, HX2.out]; exact g.2)))
                                    clear z0 z1 z2
                                    go_wp2
                                    clear lk
                                    go_roundg (gk - 1)
                                    case rel => exact ⟨k + 1, _, _, by have := Hk.out; omega, by go_num, JJ2, JP5, ON5⟩
                                    case measure => have := Hk.out; omega
                                · have h0b : decide (q > 0) = false := decide_eq_false h0
                                  have JJ2 := hid (JJ.out.skip (fun g => h0 (by rw [HQ.out]; exact g.1)))
                                  clear z0 z1 z2
                                  go_wp2
                                  clear lk
                                  go_roundg (gk - 1)
                                  case rel => exact ⟨k + 1, _, _, by have := Hk.out; omega, by go_num, JJ2, JP5, ON5⟩
                                  case measure => have := Hk.out; omega
                              · have ek : k = rs.length := by omega
                                have hki : ¬ ((k : Int) < rs.length) := by omega
                                have jj := JJ.out
                                rw [ek] at jj
                                have hrp := Joins.done HRO.out HAll.out h8 jj
                                have hg0 := INV.out.reps
                                have HINV2 : Hid (MInv rs N s w4 gp (gp + 1) (g0 - 1) wr zz EJ pj L' ms' (T + d)) := {
                                  lab := jj.lab
                                  labM := jj.labM
                                  st := jj.st
                                  left := HRO.out.left
                                  t0 := by have h1 := INV.out.t0; omega
                                  reps := by omega
                                  len := by omega
                                  pb := JP.out
                                  lb := JLB.out
                                  own := ownsRow_only UMT.out ON.out (by omega)
                                  ext := E.out }
                                have hgp : 1 ≤ g0 := by omega
                                clear ek jj hrp hg0 hlt
                                go_wp2
                                go_roundg (g0 - 1)
                                case rel => exact ⟨_, _, _, _, _, _, rfl, HINV2⟩
                                case measure => have := HG0.out; omega
                      · have hdb : decide (d > 0) = false := decide_eq_false hdp
                        have hms := HMS.out
                        rw [if_neg hdp] at hms
                        have YMT : Hid (OwnMt (gp + 1 + 1) wr z ms') := by show OwnMt _ _ _ _; rw [hms]; exact WMT.out
                        have YPB := WPB
                        have YLB := WLB
                        have YBX := WBX
                        have YOW := WOW
                        have YEX := E
                        have hml2 : ms'.length + 8 * (g0 - 1) ≤ 64 ∨ g0 = 0 := by
                          rw [hms]
                          have := INV.out.len
                          omega
                        clear hms WMT WPB WLB WBX WOW cb E
                        obtain ⟨WD, hWD⟩ : ∃ x, x = wr := ⟨_, rfl⟩
                        have UPB := YPB
                        have ULB := YLB
                        have UBX := YBX
                        have UOW := YOW
                        have UEX := YEX
                        have UMT := YMT
                        rw [← hWD] at UPB ULB UBX UOW UEX UMT
                        have UON : Hid (Only gp WD wr) := by show Only _ _ _; rw [hWD]; exact Only.ofExt (Ext.refl _)
                        have HJ0 := hid (Joins.start HRO.out INV.out.lab INV.out.labM)
                        clear hWD YLB YBX YOW YEX YMT
                        go_wp2
                        clear c0 c1
                        go_loopg [154] rs.length (fun g i wr => ∃ (k : Nat) (EJ : List RoadD) (pj : Nat → Int), k + g = rs.length ∧ i = .int .i64 k ∧ Hid (Joins rs N s ED p nF L' ms' (T + d) k EJ pj) ∧ Hid (PBox wr gp pj) ∧ Hid (Only gp WD wr))
                        case atStart => exact ⟨0, _, _, by omega, rfl, HJ0, YPB, UON⟩
                        case round =>
                          clear HJ0 YPB UON
                          obtain ⟨k, EJ, pj, hk, rfl, JJ, JP, ON⟩ := hrel
                          have hkl : k ≤ rs.length := by omega
                          have Hk := hid hk
                          clear hk
                          have E : Hid (Ext w4 wr) := ON.out.ext UEX.out (by rw [HGP.out]; exact Nat.le_refl _)
                          have JBX : Hid (LBox wr bg (.slice ag G.length cg)) := heap_only UBX.out ON.out (by omega)
                          have JOW : Hid (OwnI (bg + 1) wr (.slice ag G.length cg) (natI G)) := by
                            have := UOW.out
                            exact ownsRow_only this ON.out (by omega)
                          have JLB : Hid (IntBlock wr (gp + 1) (rowL rs.length L')) := heap_only ULB.out ON.out (by omega)
                          by_cases hlt : k < rs.length
                          · have hki : (k : Int) < rs.length := by omega
                            obtain ⟨bb, off, rfl, -, hcc⟩ := Roads.get HV.out k hlt
                            obtain ⟨d0, d1, d2⟩ := hcc _ (HE4.out.trans E.out)
                            obtain ⟨q1, q2', q3, q4', -, q6, q7⟩ := roadOk_iff.1 (HAll.out _ (roadAt_mem hlt))
                            have hnk := HNF.out k
                            obtain ⟨r, hr⟩ : ∃ r, r = roadAt rs k := ⟨_, rfl⟩
                            rw [← hr] at d0 d1 d2 q1 q2' q3 q4' q6 q7 hnk
                            have HR : Hid (roadAt rs k = r) := hr.symm
                            have HNK := hid hnk
                            have q2 : r.a < 8 := by omega
                            have q4 : r.b < 8 := by omega
                            clear hcc hnk hr q2' q4'
                            have EB := hid (Ext.ofAlloc wr (.cells #[.int .i64 r.a, .int .i64 r.b, .int .i64 r.cost] 55))
                            obtain ⟨z0, z1, z2⟩ := (Box3.alloc wr 55 (.int .i64 r.a) (.int .i64 r.b) (.int .i64 r.cost)).cells
                            go_wp2_with (fail)
                            refine (speed_any bg ag cg G r _ (JBX.out.ext EB.out) ((OwnI.ints JOW.out (by rw [natI_len]; omega)).ext EB.out) HS256.out hGl q1 q2 q3 q4).mono ?_
                            rw [HNK.out]
                            rintro e w5 ⟨rfl, he⟩
                            have E5 := hid (EB.out.trans he)
                            replace z0 := he.cell z0
                            replace z1 := he.cell z1
                            replace z2 := he.cell z2
                            have lk := (JLB.out.ext E5.out).cellF hlt
                            have ON5 := hid (ON.out.trans (Only.ofExt E5.out))
                            have JP5 := hid (JP.out.ext E5.out)
                            obtain ⟨q, hq⟩ : ∃ q, q = nF k := ⟨_, rfl⟩
                            obtain ⟨x, hx⟩ : ∃ x, x = L' k := ⟨_, rfl⟩
                            rw [← hq]
                            rw [← hx] at lk
                            have HQ := hid hq
                            have HX2 := hid hx
                            clear he d0 d1 d2 hq hx
                            by_cases h0 : 0 < q
                            · have h0b : decide (q > 0) = true := decide_eq_true h0
                              by_cases hl : x < q
                              · have hlb2 : decide (x < q) = true := decide_eq_true hl
                                have JJ2 := hid (JJ.out.join HAll.out h8 HRO.out hlt (by rw [← HQ.out]; exact h0) (by rw [← HQ.out, ← HX2.out]; exact hl))
                                rw [HR.out] at JJ2
                                go_wp2_with (fail)
                                refine (join_any gp pj r _ JP5.out q1 q2 q3 q4).mono ?_
                                rintro e w6 ⟨rfl, hpb6, hon6⟩
                                have JP6 := hid hpb6
                                have ON6 := hid (ON5.out.trans hon6)
                                clear hpb6 hon6 z0 z1 z2 lk
                                go_wp2
                                go_roundg (gk - 1)
                                case rel => exact ⟨k + 1, _, _, by have := Hk.out; omega, by go_num, JJ2, JP6, ON6⟩
                                case measure => have := Hk.out; omega
                              · have hlb2 : decide (x < q) = false := decide_eq_false hl
                                have JJ2 := hid (JJ.out.skip (fun g => hl (by rw [HQ.out, HX2.out]; exact g.2)))
                                clear z0 z1 z2
                                go_wp2
                                clear lk
                                go_roundg (gk - 1)
                                case rel => exact ⟨k + 1, _, _, by have := Hk.out; omega, by go_num, JJ2, JP5, ON5⟩
                                case measure => have := Hk.out; omega
                            · have h0b : decide (q > 0) = false := decide_eq_false h0
                              have JJ2 := hid (JJ.out.skip (fun g => h0 (by rw [HQ.out]; exact g.1)))
                              clear z0 z1 z2
                              go_wp2
                              clear lk
                              go_roundg (gk - 1)
                              case rel => exact ⟨k + 1, _, _, by have := Hk.out; omega, by go_num, JJ2, JP5, ON5⟩
                              case measure => have := Hk.out; omega
                          · have ek : k = rs.length := by omega
                            have hki : ¬ ((k : Int) < rs.length) := by omega
                            have jj := JJ.out
                            rw [ek] at jj
                            have hrp := Joins.done HRO.out HAll.out h8 jj
                            have hg0 := INV.out.reps
                            have HINV2 : Hid (MInv rs N s w4 gp (gp + 1) (g0 - 1) wr z EJ pj L' ms' (T + d)) := {
                              lab := jj.lab
                              labM := jj.labM
                              st := jj.st
                              left := HRO.out.left
                              t0 := by have h1 := INV.out.t0; omega
                              reps := by omega
                              len := by omega
                              pb := JP.out
                              lb := JLB.out
                              own := ownsRow_only UMT.out ON.out (by omega)
                              ext := E.out }
                            have hgp : 1 ≤ g0 := by omega
                            clear ek jj hrp hg0 hlt
                            go_wp2
                            go_roundg (g0 - 1)
                            case rel => exact ⟨_, _, _, _, _, _, rfl, HINV2⟩
                            case measure => have := HG0.out; omega

end Go.Proofs.YtkbkgkmogbkabaaDoor

/-
  Moats that fit bound every tree; contract of the statements' own.
-/
namespace Go.Proofs.YtkbkgkmogbkabaaDoor
open Go.RowKit

/-- A tree for the stops crosses each moat. -/
theorem conn_cross {E : List RoadD} {m : MoatD} (h0 : 0 ≤ m.set) {t u : Nat} (h : Conn E t u) (ht : inB m t = true) (hu : ¬ inB m u = true) : ∃ r ∈ E, crossB r m.set = true := by
  induction h with
  | refl => exact absurd ht hu
  | @step b c _ e ih =>
    by_cases g : inB m b = true
    · obtain ⟨r, hr, ⟨e1, e2⟩ | ⟨e1, e2⟩⟩ := e
      · refine ⟨r, hr, ?_⟩
        rw [cross_in h0, e1, e2, g, Bool.eq_false_iff.2 hu]; rfl
      · refine ⟨r, hr, ?_⟩
        rw [cross_in h0, e1, e2, g, Bool.eq_false_iff.2 hu]; rfl
    · exact ih g
def crS (m : MoatD) : List RoadD → Int
  | [] => 0
  | r :: E => (if crossB r m.set = true then m.width else 0) + crS m E
def xS (ms : List MoatD) : List RoadD → Int
  | [] => 0
  | r :: E => ovC r ms + xS ms E
theorem crS_pos {m : MoatD} (h : 0 ≤ m.width) : ∀ E : List RoadD, 0 ≤ crS m E
  | [] => Int.le_refl _
  | r :: E => by
    have := crS_pos h E
    show 0 ≤ (if crossB r m.set = true then m.width else 0) + crS m E
    split <;> omega
theorem crS_one {m : MoatD} (h : 0 ≤ m.width) : ∀ E : List RoadD, (∃ r ∈ E, crossB r m.set = true) → m.width ≤ crS m E
  | [], ⟨r, hr, _⟩ => by simp at hr
  | q :: E, ⟨r, hr, hc⟩ => by
    have p := crS_pos h E
    show m.width ≤ (if crossB q m.set = true then m.width else 0) + crS m E
    rcases List.mem_cons.1 hr with rfl | hr
    · rw [if_pos hc]; omega
    · have := crS_one h E ⟨r, hr, hc⟩
      split <;> omega
theorem xS_nil : ∀ E : List RoadD, xS [] E = 0
  | [] => rfl
  | r :: E => by show 0 + xS [] E = 0; rw [xS_nil E]; rfl
theorem xS_cons (m : MoatD) (ms : List MoatD) : ∀ E : List RoadD, xS (m :: ms) E = crS m E + xS ms E
  | [] => rfl
  | r :: E => by
    show ((if crossB r m.set = true then m.width else 0) + ovC r ms) + xS (m :: ms) E = ((if crossB r m.set = true then m.width else 0) + crS m E) + (ovC r ms + xS ms E)
    rw [xS_cons m ms E]; omega
theorem xS_le {ms : List MoatD} : ∀ E : List RoadD, (∀ r ∈ E, ovC r ms ≤ 2 * r.cost) → xS ms E ≤ 2 * sumC E
  | [], _ => Int.le_refl _
  | r :: E, h => by
    have h1 := h r (List.mem_cons_self ..)
    have h2 := xS_le E (fun q hq => h q (List.mem_cons_of_mem _ hq))
    show ovC r ms + xS ms E ≤ 2 * (r.cost + sumC E)
    omega
theorem moat_bound {rs : List RoadD} {N s : Nat} (hN : N ≤ 8) (hsN : s < 2 ^ N) {ms : List MoatD} (hf : fitP N rs s ms) {l : List Int} (ht : treeP rs s l) : sumW ms ≤ 2 * costL rs l := by
  rw [sumW_wS, costL_sum]
  have hc := treeP_cn ht
  have h8 : (2 : Nat) ^ N ≤ 2 ^ 8 := Nat.pow_le_pow_right (by decide) hN
  have e8 : (2 : Nat) ^ 8 = 256 := by decide
  have key : ∀ ms : List MoatD, (∀ m ∈ ms, moatP N s m) → wS ms ≤ xS ms (edges rs l) := by
    intro ms
    induction ms with
    | nil => intro _; rw [xS_nil]; exact Int.le_refl _
    | cons m ms ih =>
      intro h
      rw [xS_cons]
      have h1 := ih (fun q hq => h q (List.mem_cons_of_mem _ hq))
      obtain ⟨m1, m2, m3, m4, m5, m6⟩ := h m (List.mem_cons_self ..)
      obtain ⟨S, hS⟩ := Int.eq_ofNat_of_zero_le m1
      rw [Int.toNat_natCast] at m2
      have hSN : S < 2 ^ N := by
        rw [hS] at m2
        exact_mod_cast m2
      rw [hS, bits_and_nat S s (by omega) (by omega)] at m3
      rw [hS, bits_andn s S (by omega) (by omega)] at m4
      have m3' : S &&& s ≠ 0 := fun e => m3 (by rw [e]; rfl)
      have m4' : andn s S ≠ 0 := fun e => m4 (by rw [e]; rfl)
      obtain ⟨t, ht'⟩ := Nat.exists_testBit_of_ne_zero m3'
      rw [Nat.testBit_and, Bool.and_eq_true] at ht'
      obtain ⟨u, hu⟩ := Nat.exists_testBit_of_ne_zero m4'
      rw [andn_bit, Bool.and_eq_true] at hu
      have i1 : inB m t = true := by unfold inB; rw [hS, Int.toNat_natCast]; exact ht'.1
      have i2 : ¬ inB m u = true := by
        unfold inB; rw [hS, Int.toNat_natCast]
        intro e
        have := hu.2
        rw [e] at this; simp at this
      have h2 := crS_one (show 0 ≤ m.width by omega) (edges rs l) (conn_cross m1 (hc t u ht'.2 hu.1) i1 i2)
      show m.width + wS ms ≤ _
      omega
  have h1 := key ms hf.1
  have h2 := xS_le (ms := ms) (edges rs l) (fun r hr => by
    have := hf.2 r (treeP_in ht r hr)
    rwa [overR_ovC] at this)
  omega
/-- What the check answers, of moats that came in. -/
theorem chk_bound {rs : List RoadD} {N s : Nat} (hN : N ≤ 8) (hsN : s < 2 ^ N) {ms : List MoatD} (hb : chkB N rs s ms = true) {l : List Int} (ht : treeP rs s l) : chkV N rs s ms ≤ 2 * costL rs l := by
  unfold chkB at hb
  unfold chkV
  by_cases h : ms.length ≤ 200
  · rw [if_pos h] at hb ⊢
    have hf : fitP N rs s ms := by unfold fitB at hb; exact of_decide_eq_true hb
    unfold fitV
    rw [if_pos hf]
    exact moat_bound hN hsN hf ht
  · rw [if_neg h] at hb; simp at hb
theorem chk_yes {rs : List RoadD} {N s : Int} {ms : List MoatD} (hl : ms.length ≤ 64) (hf : fitP N rs s ms) : chkV N rs s ms = sumW ms ∧ chkB N rs s ms = true := by
  have h2 : ms.length ≤ 200 := by omega
  constructor
  · unfold chkV fitV
    rw [if_pos h2, if_pos hf]
  · unfold chkB fitB
    rw [if_pos h2]
    exact decide_eq_true hf

abbrev OwnRm (B : Nat) (w : World) (v : Value) (rs : List MoatD) : Prop := w.ownsRow B 76 2 v rs.length (mcells rs)
theorem OwnRm.moats {B : Nat} {w : World} {v : Value} {rs : List MoatD} (h : OwnRm B w v rs) (hl : rs.length ≤ 8796093022208) : Moats w v rs := by
  refine ⟨hl, ?_⟩
  have h0 := h
  obtain ⟨hlen, h | ⟨g, cap, cur, rfl, hg, hh, hn, hm, hs, ht⟩⟩ := h
  · obtain ⟨rfl, hn⟩ := h
    exact ⟨none, 0, by rw [hn], by omega, fun i hi => by omega⟩
  · refine ⟨_, cap, rfl, hn, fun i hi => ⟨g, 0, rfl, ?_, ?_⟩⟩
    · have h2 := World.ownsRow.cells h0 rfl (i * 2) _ (mcells_get rs i hi).1
      rw [Addr.add_lit] at h2; exact h2
    · have h2 := World.ownsRow.cells h0 rfl (i * 2 + 1) _ (mcells_get rs i hi).2
      rw [Addr.add_lit] at h2; exact h2
theorem OwnRm.push {B : Nat} {w' : World} {v' : Value} {rs : List MoatD} {r : MoatD} {n : Nat} (hn : n = rs.length + 1) (h : w'.ownsRow B 76 2 v' n (mcells rs ++ r.cells)) : OwnRm B w' v' (rs ++ [r]) := by
  subst hn
  show w'.ownsRow B _ 2 v' (rs ++ [r]).length (mcells (rs ++ [r]))
  rw [List.length_append, mcells_app]
  have e : mcells [r] = r.cells := by simp [mcells]
  rw [e]; exact h
theorem info_rmoat : (Tryd.prog.info? 76).map (fun i => (i.zero, i.size, i.bytes)) = some (some (.agg #[.int .i64 0, .int .i64 0]), 2, 16) := by kernel_rfl
theorem take_moat {ms : List MoatD} {k : Nat} (h : k < ms.length) : ms.take (k + 1) = ms.take k ++ [moatAt ms k] := by
  rw [List.take_succ_eq_append_getElem h, moatAt_get h]

set_option maxRecDepth 20000 in
set_option maxHeartbeats 4000000 in
theorem ownM_any (v : Value) (ms : List MoatD) (w : World) (hm : Moats w v ms) :
    Calls Tryd.prog 21 #[v] w fun e w' => ∃ u, e = .returned u ∧ Moats w' u ms ∧ Ext w w' := by
  obtain ⟨ao, cap, rfl⟩ := hm.shape
  have HM := hid hm
  have hlen : ms.length ≤ 8796093022208 := hm.1
  obtain ⟨i0, hi, hz0, hz1, hz2⟩ := info_parts info_rmoat
  clear hm
  have HO0 : Hid (OwnRm w.heap.size w (.slice none 0 0) (ms.take 0)) := World.ownsRow_nil _ _ _ _
  go_enter Tryd.func21, Tryd.ntmps21
  go_wp2
  go_loopg [8, 3] ms.length (fun g i u wr => ∃ k : Nat, k + g = ms.length ∧ i = .int .i64 k ∧ Hid (OwnRm w.heap.size wr u (ms.take k)) ∧ Hid (Ext w wr))
  case atStart => exact ⟨0, by omega, rfl, HO0, Ext.refl _⟩
  case round =>
    clear HO0
    obtain ⟨k, hk, rfl, OWN, E⟩ := hrel
    have hkl : k ≤ ms.length := by omega
    have Hk := hid hk
    clear hk
    by_cases hlt : k < ms.length
    · obtain ⟨b, off, rfl, hc⟩ := Moats.get HM.out k hlt
      obtain ⟨c0, c1⟩ := hc _ E.out
      obtain ⟨av, nv, cv, rfl⟩ := own_shape OWN.out
      have hsz := E.out.size
      have htk := take_moat hlt
      obtain ⟨R, hR⟩ : ∃ R, R = ms.take k := ⟨_, rfl⟩
      have hcl : R.length = k := by rw [hR, List.length_take]; omega
      rw [← hR] at htk OWN
      have Hc := hid htk
      clear hc htk hR
      generalize moatAt ms k = r at *
      have O2 := hid ((World.ownsRow.alloc OWN.out (.cells #[.int .i64 r.set, .int .i64 r.width] 74)).alloc (.cells #[.int .i64 r.set, .int .i64 r.width] 76))
      have hE := hid ((E.out.alloc (.cells #[.int .i64 r.set, .int .i64 r.width] 74)).alloc (.cells #[.int .i64 r.set, .int .i64 r.width] 76))
      obtain ⟨d0, d1⟩ := (Box2.alloc wr 74 (.int .i64 r.set) (.int .i64 r.width)).cells
      go_wp2_with (at_builtin; go_must (refine wpList_append_own _ rfl _ _ 46 rfl w.heap.size 76 i0 (.agg #[.int .i64 0, .int .i64 0]) 2 16 Tryd.underlying46 hi hz0 hz1 hz2 rfl (by decide) _ _ _ rfl O2.out ⟨wr.heap.size + 1, 0, none⟩ 1 1 [.int .i64 r.set, .int .i64 r.width] rfl rfl ?c1 ?c2 ?c3 ?c4 ?c5 ?_))
      case c1 =>
        have h := cell_two_new (wr.alloc (.cells #[.int .i64 r.set, .int .i64 r.width] 74)) 76 (.int .i64 r.set) (.int .i64 r.width)
        rw [World.size_alloc] at h
        exact h
      case c2 => intro u hu; simp at hu; rcases hu with rfl | rfl <;> rfl
      case c3 => unfold maxLen; omega
      case c4 => omega
      case c5 => simp; omega
      intro v' w7 hown' hg _
      have hR := OwnRm.push (rs := R) (r := r) (by omega) hown'
      rw [← Hc.out] at hR
      have hB := (Below.refl w.heap.size _).grown hg (by simp; omega) (fun k hk => (O2.out.lt k hk).1)
      have HE7 : Hid (Ext w w7) := hE.out.trans' hB (Nat.le_refl _)
      have HR7 := hid hR
      clear hown' hg hR hB c0 c1 d0 d1
      go_wp2
      go_roundg (gk - 1)
      case rel => exact ⟨k + 1, by have := Hk.out; omega, by go_num, HR7.out, HE7.out⟩
      case measure => have := Hk.out; omega
    · have hO := OWN.out
      rw [List.take_of_length_le (by omega)] at hO
      have HO := hid (OwnRm.moats hO hlen)
      clear hO
      go_wp2
      go_ret
      exact ⟨_, rfl, HO.out, E.out⟩

end Go.Proofs.YtkbkgkmogbkabaaDoor
