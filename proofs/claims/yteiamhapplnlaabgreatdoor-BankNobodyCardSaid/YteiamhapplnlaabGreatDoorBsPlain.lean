/-
  The bank's state as data, and what each change makes of it. Plain Lean.
-/
import Derived.Test.YteiamhapplnlaabGreatDoorBase
import Derived.Lib.AtoiAll
import Derived.Lib.ItoaNum
import Derived.Lib.CutLaws
namespace Go.Proofs.YteiamhapplnlaabGreatDoor
open Go.RowKit

abbrev Bs := List UInt8
def strB (t : Bs) : ByteArray := ⟨t.toArray⟩
abbrev strV (t : Bs) : Value := .string (strB t)
theorem strB_list (t : Bs) : (strB t).data.toList = t := rfl
theorem strB_of (s : ByteArray) : strB s.data.toList = s := rfl
theorem strB_size (t : Bs) : (strB t).size = t.length := rfl
theorem strB_inj {a b : Bs} (h : strB a = strB b) : a = b := by rw [← strB_list a, ← strB_list b, h]

structure LotD where
  food : Bs
  owner : Bs
  units : Int
  date : Int
  gone : Bool
deriving DecidableEq
structure PanD where
  name : Bs
  stop : Int
  worth : List (Bs × Int)
structure HandD where
  name : Bs
  turns : List Int
/-- The state: the pantries by name, rising. -/
structure SD where
  day : Int
  pans : List PanD
  lots : List LotD
  hands : List HandD
  ballots : List (List Int)

/-- A string, parted at each byte c; its words. -/
def splitC (c : UInt8) : Bs → List Bs
  | [] => [[]]
  | b :: r => if b = c then [] :: splitC c r else match splitC c r with
    | [] => [[b]]
    | h :: t => (b :: h) :: t
abbrev splitSp (t : Bs) : List Bs := splitC 32 t
def asciiB (t : Bs) : Bool := t.all fun c => decide (32 ≤ c) && decide (c ≤ 126)
def lineB (t : Bs) : Bool := decide (t.length ≤ 100) && !(splitSp t).contains [] && asciiB t
def numB (w : Bs) : Option Int := match Lib.atoiAll w with
  | .ok n => if w.length ≤ 4 ∧ 0 ≤ n ∧ Lib.itoa n = w then some n else none
  | _ => none
def nameB (w : Bs) : Bool := w.all (fun c => decide (97 ≤ c) && decide (c ≤ 122)) && decide (w ≠ []) && decide (w.length ≤ 8)

/-- The words of a line, each of its sort (110: a name). -/
def formW : Bs → List Bs → Option (List Bs × List Int)
  | [], [] => some ([], [])
  | k :: ks, w :: ws => if k = 110 then (if nameB w = true then (formW ks ws).map fun p => (w :: p.1, p.2) else none)
    else (numB w).bind fun n => (formW ks ws).map fun p => (p.1, n :: p.2)
  | _, _ => none
/-- A line of some sorts; behind a + what may stand there from `least` to `most` times. -/
def formB (t : Bs) (head more : Bs) (plus : Bool) (least most : Int) : Option (List Bs × List Int) :=
  let w := (splitSp t).drop 1
  if plus = true then
    (let n := (w.length : Int) - head.length
     if n < least ∨ most < n then none else formW (head ++ (List.replicate n.toNat more).flatten) w)
  else formW head w

def LotD.free (l : LotD) : Bool := decide (l.owner = []) && !l.gone
/-- The indices of the elements of which something is true. -/
def idxs {α : Type} (p : α → Bool) (l : List α) : List Nat := (List.range l.length).filter fun i => match l[i]? with
  | some x => p x
  | none => false
/-- Go's order of strings: by bytes. -/
abbrev bsLt (a b : Bs) : Bool := bytesBefore a b
/-- Lists by names, rising: what is at a name; a name set. -/
def getS {α : Type} (l : List (Bs × α)) (k : Bs) : Option α := (l.find? fun p => p.1 == k).map (·.2)
def setS {α : Type} : List (Bs × α) → Bs → α → List (Bs × α)
  | [], k, v => [(k, v)]
  | p :: r, k, v => if p.1 = k then (k, v) :: r else if bsLt k p.1 = true then (k, v) :: p :: r else p :: setS r k v
def RisS {α : Type} (l : List (Bs × α)) : Prop := l.Pairwise fun p q => bsLt p.1 q.1 = true
def worthOf (l : List (Bs × Int)) (f : Bs) : Int := (getS l f).getD 0
abbrev worthSet (l : List (Bs × Int)) (f : Bs) (v : Int) : List (Bs × Int) := setS l f v
def panIns : List PanD → PanD → List PanD
  | [], p => [p]
  | q :: r, p => if bsLt p.name q.name = true then p :: q :: r else q :: panIns r p
def panAt (l : List PanD) (n : Bs) : Option PanD := l.find? (fun p => p.name == n)
def panPrice (l : List PanD) (n f : Bs) (v : Int) : List PanD := l.map fun p => if p.name = n then { p with worth := worthSet p.worth f v } else p
/-- What a lot is worth to a pantry. -/
def lotWorth (pans : List PanD) (n : Bs) (l : LotD) : Int := l.units * (match panAt pans n with
  | some p => worthOf p.worth l.food
  | none => 0)

def isOrderB (l : List Int) (n : Nat) : Bool := decide (l.length = n) && l.all (fun x => decide (0 ≤ x) && decide (x < n)) && decide l.Nodup
def ballotsB (l : List (List Int)) : Bool := decide (1 ≤ l.length) && decide (l.length ≤ 9) && decide (1 ≤ (l.headD []).length) && decide ((l.headD []).length ≤ 5) && l.all (fun b => isOrderB b (l.headD []).length)

/-- A day; a pantry; a worth; a lot; a volunteer; a ballot. -/
def SD.setDay (s : SD) (n : Int) : Int × Bs × SD :=
  if n < s.day then (2, [], s) else
    (0, [100, 97, 121, 32] ++ Lib.itoa (idxs (fun l => l.free && decide (l.date < n)) s.lots).length,
      { s with day := n, lots := s.lots.map fun l => if l.free && decide (l.date < n) then { l with gone := true } else l })
def SD.open (s : SD) (name : Bs) (stop : Int) : Int × Bs × SD :=
  if (panAt s.pans name).isSome = true then (5, [], s) else if s.pans.length = 4 then (7, [], s) else if stop < 1 ∨ 7 < stop then (2, [], s)
  else if s.pans.any (fun p => p.stop == stop) = true then (2, [], s) else (0, [112, 97, 110, 116, 114, 121], { s with pans := panIns s.pans ⟨name, stop, []⟩ })
def SD.price (s : SD) (name food : Bs) (v : Int) : Int × Bs × SD :=
  if (panAt s.pans name).isSome = false then (4, [], s) else if 20 < v then (2, [], s) else (0, [119, 111, 114, 116, 104], { s with pans := panPrice s.pans name food v })
def SD.give (s : SD) (food : Bs) (n d : Int) : Int × Bs × SD :=
  if n < 1 ∨ 5 < n ∨ d < s.day then (2, [], s) else if s.lots.length = 20 then (7, [], s)
  else (0, [103, 105, 118, 101, 32] ++ Lib.itoa (s.lots.length + 1), { s with lots := s.lots ++ [⟨food, [], n, d, false⟩] })
def SD.hand (s : SD) (name : Bs) (l : List Int) : Int × Bs × SD :=
  if s.hands.any (fun h => h.name == name) = true then (5, [], s) else if s.hands.length = 6 then (7, [], s)
  else if l.any (fun t => decide (3 < t)) = true ∨ ¬ l.Nodup then (2, [], s) else (0, [104, 97, 110, 100], { s with hands := s.hands ++ [⟨name, l⟩] })
def SD.vote (s : SD) (l : List Int) : Int × Bs × SD :=
  if s.ballots.length = 9 then (7, [], s) else if ballotsB (s.ballots ++ [l]) = false then (2, [], s) else (0, [118, 111, 116, 101], { s with ballots := s.ballots ++ [l] })

/-- What holds of every state. -/
structure SOk (s : SD) : Prop where
  day0 : 0 ≤ s.day ∧ s.day ≤ 9999
  pans4 : s.pans.length ≤ 4
  sorted : s.pans.Pairwise (fun p q => bsLt p.name q.name = true)
  pname : ∀ p ∈ s.pans, nameB p.name = true
  pstop : ∀ p ∈ s.pans, 1 ≤ p.stop ∧ p.stop ≤ 7
  stops : s.pans.Pairwise (fun p q => p.stop ≠ q.stop)
  psort : ∀ p ∈ s.pans, RisS p.worth
  pworth : ∀ p ∈ s.pans, ∀ x ∈ p.worth, nameB x.1 = true ∧ 0 ≤ x.2 ∧ x.2 ≤ 20
  lots20 : s.lots.length ≤ 20
  lfood : ∀ l ∈ s.lots, nameB l.food = true
  lunits : ∀ l ∈ s.lots, 1 ≤ l.units ∧ l.units ≤ 5
  ldate : ∀ l ∈ s.lots, 0 ≤ l.date ∧ l.date ≤ 9999
  lowner : ∀ l ∈ s.lots, l.owner = [] ∨ ∃ p ∈ s.pans, p.name = l.owner
  hands6 : s.hands.length ≤ 6
  hname : ∀ h ∈ s.hands, nameB h.name = true
  hnames : s.hands.Pairwise (fun a b => a.name ≠ b.name)
  hturns : ∀ h ∈ s.hands, h.turns.length ≤ 4 ∧ h.turns.Nodup ∧ ∀ t ∈ h.turns, 0 ≤ t ∧ t ≤ 3
  ball9 : s.ballots.length ≤ 9
  ball : s.ballots = [] ∨ ballotsB s.ballots = true
def SD.zero : SD := ⟨0, [], [], [], []⟩

end Go.Proofs.YteiamhapplnlaabGreatDoor
