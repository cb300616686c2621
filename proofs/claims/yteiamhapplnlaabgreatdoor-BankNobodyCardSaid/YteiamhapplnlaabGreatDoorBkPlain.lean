/-
  A disk as data: what each call makes of it. Plain Lean.
-/
import Derived.Test.YteiamhapplnlaabGreatDoorBase
namespace Go.Proofs.YteiamhapplnlaabGreatDoor
open Go.RowKit

structure DD where
  bytes : List Int
  size : Int
  safe : Int
  dark : Bool
  left : Int
/-- The power is off, or goes off. -/
def DD.dim (d : DD) : DD := { d with dark := d.dark || decide (d.left = 0) }
/-- One operation less. -/
def DD.burn (d : DD) : DD := { d with left := if 0 < d.left then d.left - 1 else d.left }
def DD.app (d : DD) (bs : List Int) : DD × Int :=
  if d.size < (d.bytes.length : Int) + bs.length then (d, 7) else if d.dim.dark = true then (d.dim, 8) else ({ d.burn with bytes := d.bytes ++ bs }, 0)
def DD.sync (d : DD) : DD × Int := if d.dim.dark = true then (d.dim, 8) else ({ d.burn with safe := d.bytes.length }, 0)
def DD.cut (d : DD) (n : Int) : DD × Int :=
  if n < 0 ∨ (d.bytes.length : Int) < n then (d, 2) else if d.dim.dark = true then (d.dim, 8) else ({ d.burn with bytes := d.bytes.take n.toNat, safe := n }, 0)
def DD.fuse (d : DD) (k : Int) : DD := if d.dark = true then d else { d with left := if k < -1 then -1 else k }
def DD.kept (d : DD) (keep : Int) : Int := d.safe + (if keep < (d.bytes.length : Int) - d.safe then (if keep < 0 then 0 else keep) else (d.bytes.length : Int) - d.safe)
def DD.crash (d : DD) (keep : Int) : DD := { d with bytes := d.bytes.take (d.kept keep).toNat, safe := d.kept keep, dark := false, left := -1 }
/-- What holds of every disk that a call made. -/
structure DOk (d : DD) : Prop where
  s1 : 1 ≤ d.size
  sm : d.size ≤ 1000000
  f0 : 0 ≤ d.safe
  fl : d.safe ≤ d.bytes.length
  ls : (d.bytes.length : Int) ≤ d.size
  l0 : -1 ≤ d.left
  lm : d.left ≤ 9223372036854775807
  by8 : ∀ x ∈ d.bytes, 0 ≤ x ∧ x < 256
theorem DOk.new {size : Int} (h1 : 1 ≤ size) (h2 : size ≤ 1000000) : DOk ⟨[], size, 0, false, -1⟩ := ⟨h1, h2, by simp, by simp, by simp; omega, by simp, by simp, fun x h => by simp at h⟩
theorem DOk.dim {d : DD} (h : DOk d) : DOk d.dim := ⟨h.s1, h.sm, h.f0, h.fl, h.ls, h.l0, h.lm, h.by8⟩
theorem DOk.burn {d : DD} (h : DOk d) : DOk d.burn := by
  refine ⟨h.s1, h.sm, h.f0, h.fl, h.ls, ?_, ?_, h.by8⟩
  · show -1 ≤ (if 0 < d.left then d.left - 1 else d.left)
    have := h.l0
    split <;> omega
  · show (if 0 < d.left then d.left - 1 else d.left) ≤ _
    have := h.lm
    split <;> omega
theorem DOk.app {d : DD} (h : DOk d) {bs : List Int} (hb : ∀ x ∈ bs, 0 ≤ x ∧ x < 256) : DOk (d.app bs).1 := by
  unfold DD.app
  split
  · exact h
  · split
    · exact h.dim
    · have b := h.burn
      refine ⟨b.s1, b.sm, b.f0, ?_, ?_, b.l0, b.lm, fun x hx => ?_⟩
      · have := b.fl
        show d.burn.safe ≤ ((d.bytes ++ bs).length : Int)
        rw [List.length_append]
        have e : d.burn.bytes = d.bytes := rfl
        rw [e] at this
        omega
      · show ((d.bytes ++ bs).length : Int) ≤ d.size
        rw [List.length_append]; omega
      · rcases List.mem_append.1 hx with g | g
        · exact h.by8 x g
        · exact hb x g
theorem DOk.sync {d : DD} (h : DOk d) : DOk d.sync.1 := by
  unfold DD.sync
  split
  · exact h.dim
  · have b := h.burn
    exact ⟨b.s1, b.sm, by show (0 : Int) ≤ (d.bytes.length : Int); omega, by show (d.bytes.length : Int) ≤ (d.bytes.length : Int); omega, b.ls, b.l0, b.lm, b.by8⟩
theorem DOk.cut {d : DD} (h : DOk d) {n : Int} : DOk (d.cut n).1 := by
  unfold DD.cut
  split
  · exact h
  · split
    · exact h.dim
    · have b := h.burn
      have hl : (d.bytes.take n.toNat).length = n.toNat := by rw [List.length_take]; omega
      refine ⟨b.s1, b.sm, by show (0 : Int) ≤ n; omega, ?_, ?_, b.l0, b.lm, fun x hx => h.by8 x (List.mem_of_mem_take hx)⟩
      · show n ≤ ((d.bytes.take n.toNat).length : Int)
        rw [hl]; omega
      · show ((d.bytes.take n.toNat).length : Int) ≤ d.size
        rw [hl]
        have := h.ls
        omega
theorem DOk.fuse {d : DD} (h : DOk d) {k : Int} (hk : k ≤ 9223372036854775807) : DOk (d.fuse k) := by
  unfold DD.fuse
  split
  · exact h
  · refine ⟨h.s1, h.sm, h.f0, h.fl, h.ls, ?_, ?_, h.by8⟩
    · show -1 ≤ (if k < -1 then -1 else k)
      split <;> omega
    · show (if k < -1 then -1 else k) ≤ _
      split <;> omega
theorem DD.kept_range {d : DD} (h : DOk d) (keep : Int) : d.safe ≤ d.kept keep ∧ d.kept keep ≤ d.bytes.length := by
  have h1 := h.f0
  have h2 := h.fl
  unfold DD.kept
  constructor
  · split
    · split <;> omega
    · omega
  · split
    · split <;> omega
    · omega
theorem DOk.crash {d : DD} (h : DOk d) {keep : Int} : DOk (d.crash keep) := by
  have hr := DD.kept_range h keep
  have h0 := h.f0
  have hl : (d.bytes.take (d.kept keep).toNat).length = (d.kept keep).toNat := by rw [List.length_take]; omega
  refine ⟨h.s1, h.sm, by show 0 ≤ d.kept keep; omega, ?_, ?_, by show (-1 : Int) ≤ -1; omega, by show (-1 : Int) ≤ _; omega, fun x hx => h.by8 x (List.mem_of_mem_take hx)⟩
  · show d.kept keep ≤ ((d.bytes.take (d.kept keep).toNat).length : Int)
    rw [hl]; omega
  · show ((d.bytes.take (d.kept keep).toNat).length : Int) ≤ d.size
    rw [hl]
    have := h.ls
    omega

end Go.Proofs.YteiamhapplnlaabGreatDoor
