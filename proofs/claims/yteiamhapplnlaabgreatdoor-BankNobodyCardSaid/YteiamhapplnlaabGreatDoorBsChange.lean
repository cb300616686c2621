/-
  What a change makes of a state, as data.
-/
import Derived.Test.YteiamhapplnlaabGreatDoorBsGive
import Derived.Test.YteiamhapplnlaabGreatDoorSpPlain
namespace Go.Proofs.YteiamhapplnlaabGreatDoor
open Go.RowKit

theorem numB_range {w : Bs} {n : Int} (h : numB w = some n) : 0 ≤ n ∧ n ≤ 9999 := by
  unfold numB at h
  split at h
  · split at h
    · rename_i hc
      cases h
      obtain ⟨h1, h2, h3⟩ := hc
      refine ⟨h2, ?_⟩
      have hl : (Lib.itoa n).length ≤ 4 := by rw [h3]; exact h1
      obtain ⟨u, rfl⟩ : ∃ u : Nat, n = u := ⟨n.toNat, by omega⟩
      unfold Lib.itoa at hl
      rw [if_neg (by omega), Lib.decDigits_length] at hl
      have h5 := Lib.lt_pow_nDigits ((u : Int)).toNat
      have h6 : 10 ^ Lib.nDigits ((u : Int)).toNat ≤ 10 ^ 4 := Nat.pow_le_pow_right (by decide) hl
      have h7 : (10 : Nat) ^ 4 = 10000 := by decide
      omega
    · cases h
  · cases h
/-- What a form with these sorts holds. -/
theorem formW_spec : ∀ {ks : Bs} {ws : List Bs} {A : List Bs} {N : List Int}, formW ks ws = some (A, N) → A.length = ks.countP (· == 110) ∧ N.length = ks.countP (· != 110) ∧ (∀ a ∈ A, nameB a = true) ∧ ∀ n ∈ N, 0 ≤ n ∧ n ≤ 9999
  | [], [], A, N, h => by
    simp only [formW, Option.some.injEq, Prod.mk.injEq] at h
    obtain ⟨rfl, rfl⟩ := h
    exact ⟨rfl, rfl, by simp, by simp⟩
  | [], _ :: _, A, N, h => by simp [formW] at h
  | _ :: _, [], A, N, h => by simp [formW] at h
  | k :: ks, w :: ws, A, N, h => by
    unfold formW at h
    by_cases hk : k = 110
    · rw [if_pos hk] at h
      split at h
      · rename_i hn
        obtain ⟨⟨A', N'⟩, h1, h2⟩ := Option.map_eq_some_iff.1 h
        obtain ⟨g1, g2, g3, g4⟩ := formW_spec h1
        simp only [Prod.mk.injEq] at h2
        obtain ⟨rfl, rfl⟩ := h2
        subst hk
        refine ⟨?_, ?_, ?_, g4⟩
        · rw [List.countP_cons_of_pos (by rfl), List.length_cons]; exact congrArg (· + 1) g1
        · rw [List.countP_cons_of_neg (by decide)]; exact g2
        · intro a ha
          rcases List.mem_cons.1 ha with rfl | ha
          · exact hn
          · exact g3 a ha
      · cases h
    · rw [if_neg hk] at h
      obtain ⟨n, hn, h1⟩ := Option.bind_eq_some_iff.1 h
      obtain ⟨⟨A', N'⟩, h1, h2⟩ := Option.map_eq_some_iff.1 h1
      obtain ⟨g1, g2, g3, g4⟩ := formW_spec h1
      simp only [Prod.mk.injEq] at h2
      obtain ⟨rfl, rfl⟩ := h2
      refine ⟨?_, ?_, g3, ?_⟩
      · rw [List.countP_cons_of_neg (by simpa using hk)]; exact g1
      · rw [List.countP_cons_of_pos (by simpa using hk), List.length_cons]; exact congrArg (· + 1) g2
      · intro m hm
        rcases List.mem_cons.1 hm with rfl | hm
        · exact numB_range hn
        · exact g4 m hm

/-- What the lots are worth to each pantry; a deal. -/
def SD.dealIdx (s : SD) : List Nat := (idxs LotD.free s.lots).take 7
def SD.dealVals (s : SD) : List (List Int) := s.pans.map fun p => s.dealIdx.map fun i => match s.lots[i]? with
  | some l => lotWorth s.pans p.name l
  | none => 0
def panName (l : List PanD) (i : Int) : Bs := match l[i.toNat]? with
  | some p => p.name
  | none => []
def dealReply (pans : List PanD) (l : List (Nat × Int)) : Bs := [100, 101, 97, 108] ++ (l.map fun p => [32] ++ Lib.itoa ((p.1 : Int) + 1) ++ [58] ++ panName pans p.2).flatten
def setOwner (lots : List LotD) (i : Nat) (n : Bs) : List LotD := match lots[i]? with
  | some l => lots.set i { l with owner := n }
  | none => lots
def dealLots (pans : List PanD) (lots : List LotD) (l : List (Nat × Int)) : List LotD := l.foldl (fun ls p => setOwner ls p.1 (panName pans p.2)) lots
def SD.deal (s : SD) : Int × Bs × SD :=
  if s.pans = [] ∨ s.dealIdx = [] then (4, [], s) else
    (0, dealReply s.pans (s.dealIdx.zip (cyclesB s.dealVals)), { s with lots := dealLots s.pans s.lots (s.dealIdx.zip (cyclesB s.dealVals)) })

def wDay : Bs := [100, 97, 121]
def wPantry : Bs := [112, 97, 110, 116, 114, 121]
def wWorth : Bs := [119, 111, 114, 116, 104]
def wGive : Bs := [103, 105, 118, 101]
def wDeal : Bs := [100, 101, 97, 108]
def wHand : Bs := [104, 97, 110, 100]
def wVote : Bs := [118, 111, 116, 101]
def SD.run (s : SD) (r : Option (List Bs × List Int)) (f : List Bs → List Int → Int × Bs × SD) : Int × Bs × SD := match r with
  | none => (3, [], s)
  | some p => f p.1 p.2
/-- What a change of a line answers, and makes of the state. -/
def SD.chg (s : SD) (t : Bs) : Int × Bs × SD :=
  if lineB t = false then (3, [], s) else
  if (cutC 32 t).1 = wDay then s.run (formB t [100] [] false 0 0) fun _ n => s.setDay (n.getD 0 0) else
  if (cutC 32 t).1 = wPantry then s.run (formB t [110, 100] [] false 0 0) fun a n => s.open (a.getD 0 []) (n.getD 0 0) else
  if (cutC 32 t).1 = wWorth then s.run (formB t [110, 110, 100] [] false 0 0) fun a n => s.price (a.getD 0 []) (a.getD 1 []) (n.getD 0 0) else
  if (cutC 32 t).1 = wGive then s.run (formB t [110, 100, 100] [] false 0 0) fun a n => s.give (a.getD 0 []) (n.getD 0 0) (n.getD 1 0) else
  if (cutC 32 t).1 = wDeal then s.run (formB t [] [] false 0 0) fun _ _ => s.deal else
  if (cutC 32 t).1 = wHand then s.run (formB t [110] [100] true 0 4) fun a n => s.hand (a.getD 0 []) n else
  if (cutC 32 t).1 = wVote then s.run (formB t [] [100] true 1 5) fun _ n => s.vote n else (3, [], s)
theorem lineB_size {s : ByteArray} (h : lineB s.data.toList = true) : s.size ≤ 100 := by
  unfold lineB at h
  simp at h
  exact h.1.1
theorem lineB_asc {t : Bs} (h : lineB t = true) : ∀ c ∈ t, c.toNat < 128 := by
  intro c hc
  unfold lineB at h
  simp only [Bool.and_eq_true] at h
  have := List.all_eq_true.1 h.2 c hc
  simp only [Bool.and_eq_true, decide_eq_true_eq] at this
  have h2 := UInt8.le_iff_toNat_le.1 this.2
  have e2 : (126 : UInt8).toNat = 126 := rfl
  omega
theorem ext_cells {w w5 : World} {v0 v1 : Value} (h : Ext w w5) : Ext w ((w5.setCell ⟨w.heap.size, 0, none⟩ v0).setCell ⟨w.heap.size, 1, none⟩ v1) :=
  ext_moved h (((Moved.refl (fun j => j = w.heap.size) w5).set (.inl rfl) 0 _).set (.inl rfl) 1 _) (fun j e => by omega)
theorem two_of_len {α : Type} {l : List α} (h : l.length = 2) : ∃ a b, l = [a, b] := by
  match l, h with
  | [a, b], _ => exact ⟨a, b, rfl⟩
theorem setDay_err (s : SD) (n : Int) : (s.setDay n).1 ≠ 0 → (s.setDay n).2.1 = [] ∧ (s.setDay n).2.2 = s := by unfold SD.setDay; split <;> simp
theorem open_err (s : SD) (a : Bs) (n : Int) : (s.open a n).1 ≠ 0 → (s.open a n).2.1 = [] ∧ (s.open a n).2.2 = s := by unfold SD.open; (repeat' split) <;> simp
theorem price_err (s : SD) (a c : Bs) (n : Int) : (s.price a c n).1 ≠ 0 → (s.price a c n).2.1 = [] ∧ (s.price a c n).2.2 = s := by unfold SD.price; (repeat' split) <;> simp
theorem give_err (s : SD) (a : Bs) (n d : Int) : (s.give a n d).1 ≠ 0 → (s.give a n d).2.1 = [] ∧ (s.give a n d).2.2 = s := by unfold SD.give; (repeat' split) <;> simp
theorem deal_err (s : SD) : s.deal.1 ≠ 0 → s.deal.2.1 = [] ∧ s.deal.2.2 = s := by unfold SD.deal; split <;> simp
theorem hand_err (s : SD) (a : Bs) (l : List Int) : (s.hand a l).1 ≠ 0 → (s.hand a l).2.1 = [] ∧ (s.hand a l).2.2 = s := by unfold SD.hand; (repeat' split) <;> simp
theorem vote_err (s : SD) (l : List Int) : (s.vote l).1 ≠ 0 → (s.vote l).2.1 = [] ∧ (s.vote l).2.2 = s := by unfold SD.vote; (repeat' split) <;> simp
/-- What change answers. -/
def ChgAns (s : SD) (t : Bs) (w : World) (e : Ending) (w' : World) : Prop := ∃ p, e = .returned (.tuple #[.pointer (some ⟨p, 0, none⟩), strV (s.chg t).2.1, .int .i64 (s.chg t).1]) ∧ StR w' p (s.chg t).2.2 ∧ Ext w w'

end Go.Proofs.YteiamhapplnlaabGreatDoor
