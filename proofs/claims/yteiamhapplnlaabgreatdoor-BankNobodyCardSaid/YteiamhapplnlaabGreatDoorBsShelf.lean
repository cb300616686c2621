/-
  Contracts of the library's functions on strings, in the words of this claim.
-/
import Derived.Test.YteiamhapplnlaabGreatDoorBsName
import Derived.Test.YteiamhapplnlaabGreatDoorShelf
namespace Go.Proofs.YteiamhapplnlaabGreatDoor
open Go.RowKit

theorem index_nil (c : UInt8) : Lib.index [] [c] = -1 := rfl
theorem index_cons (b : UInt8) (l : Bs) (c : UInt8) : Lib.index (b :: l) [c] = if b = c then 0 else if Lib.index l [c] = -1 then -1 else Lib.index l [c] + 1 := by
  have e : [c].isPrefixOf (b :: l) = (c == b) := by simp [List.isPrefixOf]
  have e0 : Lib.index (b :: l) [c] = if [c].isPrefixOf (b :: l) then 0 else if Lib.index l [c] == -1 then -1 else Lib.index l [c] + 1 := rfl
  rw [e0, e]
  by_cases h : b = c
  · subst h; simp
  · have : (c == b) = false := by simpa using fun x => h x.symm
    rw [this, if_neg h]
    by_cases g : Lib.index l [c] = -1 <;> simp [g]
theorem splitC_ne (c : UInt8) (s : Bs) : splitC c s ≠ [] := by
  cases s with
  | nil => simp [splitC]
  | cons b l =>
    unfold splitC
    split
    · simp
    · split <;> simp
/-- The first instance, and what is behind it. -/
theorem cut_split (c : UInt8) : ∀ s : Bs, (Lib.index s [c] = -1 ∧ splitC c s = [s]) ∨ ∃ i : Nat, Lib.index s [c] = i ∧ splitC c s = s.take i :: splitC c (s.drop (i + 1))
  | [] => .inl ⟨rfl, rfl⟩
  | b :: l => by
    rw [index_cons]
    by_cases h : b = c
    · refine .inr ⟨0, by rw [if_pos h]; rfl, ?_⟩
      rw [splitC, if_pos h]; rfl
    · rw [if_neg h]
      rcases cut_split c l with ⟨h1, h2⟩ | ⟨i, h1, h2⟩
      · refine .inl ⟨by rw [if_pos h1], ?_⟩
        rw [splitC, if_neg h, h2]
      · refine .inr ⟨i + 1, by rw [if_neg (by omega), h1]; rfl, ?_⟩
        rw [splitC, if_neg h, h2]; rfl
theorem splitK_eq (c : UInt8) : ∀ (n : Nat) (s : Bs), s.length ≤ n → Lib.splitK [c] 0 (Lib.count s [c]) s = splitC c s
  | n, s, hn => by
    rcases cut_split c s with ⟨h1, h2⟩ | ⟨i, h1, h2⟩
    · rw [Lib.count_miss h1, h2]; rfl
    · rw [Lib.count_hit (by simp) h1, h2, Nat.add_comm, Lib.splitK, if_neg (by simp [h1]), h1]
      have hi : i < s.length := by
        have := Lib.index_room s [c] (by omega)
        simp at this; omega
      cases n with
      | zero => omega
      | succ n =>
        show s.take i :: Lib.splitK [c] 0 (Lib.count (s.drop (i + 1)) [c]) (s.drop (i + 1)) = _
        rw [splitK_eq c n (s.drop (i + 1)) (by rw [List.length_drop]; omega)]
theorem splitB_eq (c : UInt8) (s : ByteArray) : (Lib.splitB ⟨#[c]⟩ 0 (Lib.countB s ⟨#[c]⟩) s).map (·.data.toList) = splitC c s.data.toList := by
  rw [Lib.splitB_data]
  exact splitK_eq c _ _ (Nat.le_refl _)
theorem splitC_len (c : UInt8) (s : Bs) : (splitC c s).length ≤ s.length + 1 := by
  induction s with
  | nil => simp [splitC]
  | cons b l ih =>
    unfold splitC
    split
    · simpa using ih
    · split
      · simp
      · rename_i h t e
        rw [e] at ih
        simp only [List.length_cons] at ih ⊢
        omega

theorem Split_any (c : UInt8) (s : ByteArray) (w : World) (hs : s.size < 4294967281) (hE : Env w) :
    Calls Tryz.prog 69 #[.string s, .string ⟨#[c]⟩] w fun e w' => ∃ cap, e = .returned (.slice (some ⟨w.heap.size, 0, none⟩) (splitC c s.data.toList).length cap) ∧ StrsR w' (.slice (some ⟨w.heap.size, 0, none⟩) (splitC c s.data.toList).length cap) (splitC c s.data.toList) ∧ Ext w w' := by
  obtain ⟨m, hm⟩ := hE.ml
  have hl : Lib.countB s ⟨#[c]⟩ + 1 = (splitC c s.data.toList).length := by
    rw [← splitB_eq, List.length_map]
    have : ∀ k s, Lib.countB s ⟨#[c]⟩ = k → (Lib.splitB ⟨#[c]⟩ 0 k s).length = k + 1 := by
      intro k
      induction k with
      | zero => intro s _; rfl
      | succ k ih =>
        intro s hc
        rcases Lib.index_spec s.data.toList [c] with ⟨h, -⟩ | ⟨i, h, -⟩
        · have := Lib.countB_miss s ⟨#[c]⟩ h; omega
        · have h' : Lib.indexB s ⟨#[c]⟩ = i := h
          rw [Lib.splitB_hit _ _ _ _ i h', List.length_cons, ih]
          have := Lib.countB_hit s ⟨#[c]⟩ i (Nat.le_refl 1) h'
          omega
    rw [this _ _ rfl]
  refine (Tryz.strings_Split s ⟨#[c]⟩ m w hs hm (Nat.le_refl 1)).mono ?_
  rintro e w' ⟨rfl, rfl⟩
  refine ⟨Lib.countB s ⟨#[c]⟩ + 1, by rw [hl], ?_, Ext.ofAlloc _ _⟩
  have hlen := splitC_len c s.data.toList
  have hsz : s.data.toList.length = s.size := Array.length_toList
  refine ⟨by omega, _, _, rfl, by omega, fun i hi => ⟨w.heap.size, 0, rfl, ?_⟩⟩
  rw [cell_of_row _ _ _ _ _ _ (heap_alloc_new w _)]
  have e : (Lib.splitB ⟨#[c]⟩ 0 (Lib.countB s ⟨#[c]⟩) s)[i]? = some (strB ((splitC c s.data.toList)[i])) := by
    have h2 := congrArg (fun l => l[i]?) (splitB_eq c s)
    simp only [List.getElem?_map, List.getElem?_eq_getElem hi] at h2
    obtain ⟨x, hx, hx2⟩ := Option.map_eq_some_iff.1 h2
    rw [hx, ← hx2]; rfl
  simp [e]

/-- What strings.Cut gives: the text ahead, the text behind, and whether the byte is there. -/
def cutC (c : UInt8) (s : Bs) : Bs × Bs × Bool := Lib.cut s [c]
theorem cutC_cases (c : UInt8) (s : Bs) : (cutC c s = (s, [], false) ∧ splitC c s = [s]) ∨ ∃ a r, cutC c s = (a, r, true) ∧ splitC c s = a :: splitC c r ∧ s.length = a.length + 1 + r.length := by
  unfold cutC Lib.cut
  rcases cut_split c s with ⟨h1, h2⟩ | ⟨i, h1, h2⟩
  · exact .inl ⟨by rw [if_neg (by omega)], h2⟩
  · refine .inr ⟨s.take i, s.drop (i + 1), by rw [if_pos (by omega), h1]; rfl, h2, ?_⟩
    have := Lib.index_room s [c] (by omega)
    simp at this
    rw [List.length_take, List.length_drop]; omega
theorem StrCut_any (c : UInt8) (s : ByteArray) (w : World) (hs : s.size < 4294967281) (hE : Env w) :
    Calls Tryz.prog 39 #[.string s, .string ⟨#[c]⟩] w fun e w' => e = .returned (.tuple #[strV (cutC c s.data.toList).1, strV (cutC c s.data.toList).2.1, .bool (cutC c s.data.toList).2.2]) ∧ Ext w w' := by
  obtain ⟨m, hm⟩ := hE.ml
  refine (Tryz.strings_Cut s ⟨#[c]⟩ m w hs hm).mono ?_
  rintro e w' ⟨rfl, n, rfl⟩
  exact ⟨rfl, (Ext.refl w).drewN n⟩

theorem grow_ext (w : World) (k : Nat) (os : Array Obj) : Ext w (Go.Sort.grow (w.drewN k) os) := by
  refine ⟨rfl, rfl, rfl, by simp [Go.Sort.grow], fun j hj => ?_⟩
  simp [Go.Sort.grow, Array.getElem?_append, hj]
theorem Itoa_any (n : Int) (w : World) (h0 : -9223372036854775808 ≤ n) (h1 : n ≤ 9223372036854775807) (hE : Env w) :
    Calls Tryz.prog 59 #[.int .i64 n] w fun e w' => e = .returned (strV (Lib.itoa n)) ∧ Ext w w' := by
  refine (Tryz.strconv_Itoa n h0 h1 w hE.tab).mono ?_
  rintro e w' ⟨rfl, k, os, rfl⟩
  exact ⟨rfl, grow_ext w k os⟩

theorem bytesWorld_ext (w : World) (e : TypeId) (s : ByteArray) : Ext w (Lib.bytesWorld w e s) := by
  refine ⟨?_, ?_, ?_, by rw [Lib.bytesWorld_size]; omega, fun j hj => Lib.bytesWorld_at_old w e s j hj⟩ <;> (unfold Lib.bytesWorld World.freeze; split <;> rfl)
/-- What strconv.Atoi answers: the number, and whether there is an error. -/
def atoiOk (s : Bs) : Option Int := match Lib.atoiAll s with
  | .ok v => some v
  | _ => none
theorem Atoi_any (s : ByteArray) (w : World) (hs : s.size < 4294967281) (hE : Env w) :
    Calls Tryz.prog 115 #[.string s] w fun e w' => ∃ (v : Int) (er : Value), e = .returned (.tuple #[.int .i64 v, er]) ∧ ((er = .nilIface ∧ atoiOk s.data.toList = some v ∧ -9223372036854775808 ≤ v ∧ v ≤ 9223372036854775807) ∨ ((∃ t p, er = .iface t (.pointer (some p))) ∧ atoiOk s.data.toList = none)) ∧ Ext w w' := by
  cases h : Lib.atoiAll s.data.toList with
  | ok v =>
    obtain ⟨b0, b1⟩ := Lib.atoiAll_bounds h
    refine (Tryz.strconv_Atoi_ok s (by omega) v h w).mono ?_
    rintro e w' ⟨rfl, hw⟩
    refine ⟨v, _, rfl, .inl ⟨rfl, by unfold atoiOk; rw [h], by omega, by omega⟩, ?_⟩
    rcases hw with rfl | ⟨t, rfl⟩
    · exact Ext.refl _
    · exact bytesWorld_ext _ _ _
  | «syntax» =>
    obtain ⟨ev, h1, h2⟩ := hE.syn
    refine (Tryz.strconv_Atoi_syntax s (by omega) h ev w h1 h2).mono ?_
    rintro e w' ⟨N, rfl, -, -, hb⟩
    exact ⟨0, _, rfl, .inr ⟨⟨_, _, rfl⟩, by unfold atoiOk; rw [h]⟩, hb⟩
  | range =>
    obtain ⟨ev, h1, h2⟩ := hE.rng
    refine (Tryz.strconv_Atoi_range s (by omega) h ev w h1 h2).mono ?_
    rintro e w' ⟨N, rfl, -, -, hb⟩
    exact ⟨_, _, rfl, .inr ⟨⟨_, _, rfl⟩, by unfold atoiOk; rw [h]⟩, hb⟩

end Go.Proofs.YteiamhapplnlaabGreatDoor
