/-
  Contracts of the disk's calls with an operation: Append, Sync, Cut.
-/
import Derived.Test.YteiamhapplnlaabGreatDoorBkDiskA
import Derived.Test.YteiamhapplnlaabGreatDoorBkBytes
namespace Go.Proofs.YteiamhapplnlaabGreatDoor
open Go.RowKit

theorem DiskP.setDark {B : Nat} {w : World} {b : Nat} {v : Value} {d d' : DD} {k : Bool} (h : DiskP B w b v d) (hd : d' = { d with dark := k }) (ok : DOk d') : DiskP B (w.setCell ⟨b, 3, none⟩ (.bool k)) b v d' := by
  subst hd
  exact ⟨h.lo, h.box.set3 _, ownB_set h.own h.box (by decide), ok⟩
theorem DiskP.setLeft2 {B : Nat} {w : World} {b : Nat} {v : Value} {d d' : DD} {k : Int} (h : DiskP B w b v d) (hd : d' = { d with left := k }) (ok : DOk d') : DiskP B (w.setCell ⟨b, 4, none⟩ (.int .i64 k)) b v d' := h.setLeft (h.box.set4 _) hd ok
/-- Where the new row lies: where the old one lay, or in a new block. -/
def Near (w : World) (v v' : Value) : Prop := ∀ k, v'.ownBlock = some k → v.ownBlock = some k ∨ w.heap.size ≤ k
theorem Near.refl (w : World) (v : Value) : Near w v v := fun _ h => .inl h
theorem DD.burn_bytes (d : DD) : d.burn.bytes = d.bytes := rfl

set_option maxHeartbeats 2000000 in
theorem appClo_any {B : Nat} (b p1 p2 : Nat) (v y : Value) (ys : List Int) (d : DD) (w : World) (hd : DiskP B w b v d) (h1 : w.cell? ⟨p1, 0, none⟩ = some (.pointer (some ⟨b, 0, none⟩))) (h2 : w.cell? ⟨p2, 0, none⟩ = some y)
    (hy : BytesI w y ys) (n1 : p1 ≠ b) (n2 : p2 ≠ b) (m1 : v.ownBlock ≠ some p1) (m2 : v.ownBlock ≠ some p2) (hl : (d.bytes.length : Int) + ys.length ≤ d.size) (h8 : ∀ x ∈ ys, 0 ≤ x ∧ x < 256) (hB : B ≤ w.heap.size) :
    Calls Tryz.prog 25 #[.pointer (some ⟨p1, 0, none⟩), .pointer (some ⟨p2, 0, none⟩)] w fun e w' => e = .returned (.tuple #[]) ∧ ∃ v', DiskP B w' b v' { d with bytes := d.bytes ++ ys } ∧ Near w v v' ∧ Moved (fp b v) w w' := by
  have HD := hid hd
  have HY := hid hy
  have hs := hd.ok.sm
  have HOK : Hid (DOk { d with bytes := d.bytes ++ ys }) := ⟨hd.ok.s1, hd.ok.sm, hd.ok.f0, by have := hd.ok.fl; show d.safe ≤ ((d.bytes ++ ys).length : Int); rw [List.length_append]; omega, by show ((d.bytes ++ ys).length : Int) ≤ d.size; rw [List.length_append]; omega, hd.ok.l0, hd.ok.lm, fun x hx => by
    rcases List.mem_append.1 hx with g | g
    · exact hd.ok.by8 x g
    · exact h8 x g⟩
  obtain ⟨c0, c1, c2, c3, c4⟩ := hd.box.cells
  obtain ⟨ay, cy, rfl, -⟩ := id hy
  obtain ⟨av, cv, hv, hcv⟩ := ownB_len hd.own
  subst hv
  obtain ⟨n, hn⟩ : ∃ n, n = d.bytes.length := ⟨_, rfl⟩
  have HM1 := hid m1
  have HM2 := hid m2
  clear hd hy c1 c2 c3 c4 m1 m2 h8
  go_enter Tryz.func25, Tryz.ntmps25
  go_wp2
  refine wp_region_held_drew (S := (fun w' => w'.cell? ⟨p1, 0, none⟩ = some (.pointer (some ⟨b, 0, none⟩)) ∧ w'.cell? ⟨p2, 0, none⟩ = some (.slice ay ys.length cy))) (by kernel_rfl) ?hSa0 (fun hHeld => ?_)
  case hSa0 => (first | ((first | exact ⟨h1, h2⟩ | exact ⟨k1, k2⟩ | (refine ⟨?_, ?_⟩ <;> (first | (rw [World.cell?_setCell_far _ _ _ _ (by exact n1.symm)]; exact k1) | (rw [World.cell?_setCell_far _ _ _ _ (by exact n2.symm)]; exact k2))))) | ((try dsimp only); (first | exact ⟨h1, h2⟩ | exact ⟨k1, k2⟩ | (refine ⟨?_, ?_⟩ <;> (first | (rw [World.cell?_setCell_far _ _ _ _ (by exact n1.symm)]; exact k1) | (rw [World.cell?_setCell_far _ _ _ _ (by exact n2.symm)]; exact k2))))))
  refine wpAnyH_tk 0 (v := ?va0) rfl (by kernel_rfl) (by kernel_rfl) (by kernel_rfl) (fun _ _ _ h => h) (by rfl) ?hya0 (by assumption) ?_
  case hya0 => (intro w hSw; (try dsimp only at hSw); go_simp <;> with_reducible rfl)
  (try simp only [Act.put, List.setIfInBounds_toArray, List.set_cons_zero, List.set_cons_succ])
  refine wpAnyH_tk 1 (v := ?va1) rfl (by kernel_rfl) (by kernel_rfl) (by kernel_rfl) (fun _ _ _ h => h) (by rfl) ?hya1 (by assumption) ?_
  case hya1 => (intro w hSw; (try dsimp only at hSw); go_simp <;> with_reducible rfl)
  (try simp only [Act.put, List.setIfInBounds_toArray, List.set_cons_zero, List.set_cons_succ])
  refine wpAnyH_tk 2 (v := ?va2) rfl (by kernel_rfl) (by kernel_rfl) (by kernel_rfl) (fun _ _ _ h => h) (by rfl) ?hya2 (by assumption) ?_
  case hya2 => (intro w hSw; (try dsimp only at hSw); go_simp <;> with_reducible rfl)
  (try simp only [Act.put, List.setIfInBounds_toArray, List.set_cons_zero, List.set_cons_succ])
  refine wpAnyH_tk 3 (v := ?va3) rfl (by kernel_rfl) (by kernel_rfl) (by kernel_rfl) (fun _ _ _ h => h) (by rfl) ?hya3 (by assumption) ?_
  case hya3 => (intro w hSw; (try dsimp only at hSw); go_simp <;> with_reducible rfl)
  (try simp only [Act.put, List.setIfInBounds_toArray, List.set_cons_zero, List.set_cons_succ])
  refine wpAnyH_tk 5 (v := ?va5) rfl (by kernel_rfl) (by kernel_rfl) (by kernel_rfl) (fun _ _ _ h => h) (by rfl) ?hya5 (by assumption) ?_
  case hya5 => (intro w hSw; (try dsimp only at hSw); go_simp <;> with_reducible rfl)
  (try simp only [Act.put, List.setIfInBounds_toArray, List.set_cons_zero, List.set_cons_succ])
  refine wpAnyH_one 4 rfl (by kernel_rfl) (by rfl) (fun K hK => ?_)
  go_simp
  (skip)
  refine hK.out _ _ ?hSa5 (fun hHeld => ?_)
  case hSa5 => (first | ((first | exact ⟨h1, h2⟩ | exact ⟨k1, k2⟩ | (refine ⟨?_, ?_⟩ <;> (first | (rw [World.cell?_setCell_far _ _ _ _ (by exact n1.symm)]; exact k1) | (rw [World.cell?_setCell_far _ _ _ _ (by exact n2.symm)]; exact k2))))) | ((try dsimp only); (first | exact ⟨h1, h2⟩ | exact ⟨k1, k2⟩ | (refine ⟨?_, ?_⟩ <;> (first | (rw [World.cell?_setCell_far _ _ _ _ (by exact n1.symm)]; exact k1) | (rw [World.cell?_setCell_far _ _ _ _ (by exact n2.symm)]; exact k2))))))
  clear hK K
  (try simp only [Act.put, List.setIfInBounds_toArray, List.set_cons_zero, List.set_cons_succ])
  refine wpAnyH_one 6 rfl (by kernel_rfl) (by rfl) (fun K hK => ?_)
  refine wp_append_bytes _ _ rfl B (.slice av d.bytes.length cv) d.bytes (by rfl) (ownsRow_ext HD.out.own ((Ext.refl w).drew)) (.slice ay ys.length cy) ys (by rfl) (HY.out.ext ((Ext.refl w).drew)) (by omega) hB ?_
  intro v8 w8 ho8 hg8 hn8
  have HO8 := hid ho8
  have HG8 := hid hg8
  have HN8 := hid hn8
  have k1 : w8.cell? ⟨p1, 0, none⟩ = some (.pointer (some ⟨b, 0, none⟩)) := (grown_moved hg8).cell HM1.out h1
  have k2 : w8.cell? ⟨p2, 0, none⟩ = some (.slice ay ys.length cy) := (grown_moved hg8).cell HM2.out h2
  have HBX : Hid (Box5 w8 b 28 (.slice av d.bytes.length cv) (.int .i64 d.size) (.int .i64 d.safe) (.bool d.dark) (.int .i64 d.left)) := (HD.out.box.ext (Ext.refl w).drew).moved (grown_moved hg8) (HD.out.boxApart)
  obtain ⟨a8, n8, c8, rfl⟩ := own_shapeB ho8
  obtain ⟨e0, -, -, -, -⟩ := HBX.out.cells
  have f0 := HBX.out.free 0
  clear ho8 hg8 hn8
  refine hK.out _ _ ?hSa7 (fun hHeld => ?_)
  case hSa7 => (first | ((first | exact ⟨h1, h2⟩ | exact ⟨k1, k2⟩ | (refine ⟨?_, ?_⟩ <;> (first | (rw [World.cell?_setCell_far _ _ _ _ (by exact n1.symm)]; exact k1) | (rw [World.cell?_setCell_far _ _ _ _ (by exact n2.symm)]; exact k2))))) | ((try dsimp only); (first | exact ⟨h1, h2⟩ | exact ⟨k1, k2⟩ | (refine ⟨?_, ?_⟩ <;> (first | (rw [World.cell?_setCell_far _ _ _ _ (by exact n1.symm)]; exact k1) | (rw [World.cell?_setCell_far _ _ _ _ (by exact n2.symm)]; exact k2))))))
  clear hK K
  (try simp only [Act.put, List.setIfInBounds_toArray, List.set_cons_zero, List.set_cons_succ])
  refine wpAnyH_tk 7 (v := ?va7) rfl (by kernel_rfl) (by kernel_rfl) (by kernel_rfl) (fun _ _ _ h => h) (by rfl) ?hya7 (by assumption) ?_
  case hya7 => (intro w hSw; (try dsimp only at hSw); go_simp <;> with_reducible rfl)
  (try simp only [Act.put, List.setIfInBounds_toArray, List.set_cons_zero, List.set_cons_succ])
  refine wpAnyH_tk 8 (v := ?va8) rfl (by kernel_rfl) (by kernel_rfl) (by kernel_rfl) (fun _ _ _ h => h) (by rfl) ?hya8 (by assumption) ?_
  case hya8 => (intro w hSw; (try dsimp only at hSw); go_simp <;> with_reducible rfl)
  (try simp only [Act.put, List.setIfInBounds_toArray, List.set_cons_zero, List.set_cons_succ])
  refine wpAnyH_one 9 rfl (by kernel_rfl) (by rfl) (fun K hK => ?_)
  go_simp
  (skip)
  refine hK.out _ _ ?hSa10 (fun hHeld => ?_)
  case hSa10 => (first | ((first | exact ⟨h1, h2⟩ | exact ⟨k1, k2⟩ | (refine ⟨?_, ?_⟩ <;> (first | (rw [World.cell?_setCell_far _ _ _ _ (by exact n1.symm)]; exact k1) | (rw [World.cell?_setCell_far _ _ _ _ (by exact n2.symm)]; exact k2))))) | ((try dsimp only); (first | exact ⟨h1, h2⟩ | exact ⟨k1, k2⟩ | (refine ⟨?_, ?_⟩ <;> (first | (rw [World.cell?_setCell_far _ _ _ _ (by exact n1.symm)]; exact k1) | (rw [World.cell?_setCell_far _ _ _ _ (by exact n2.symm)]; exact k2))))))
  clear hK K
  (try simp only [Act.put, List.setIfInBounds_toArray, List.set_cons_zero, List.set_cons_succ])
  refine wpAnyH_done (by kernel_rfl) ?_ _
  go_wp2
  go_end0
  refine ⟨rfl, _, ⟨HD.out.lo, HBX.out.set0 _, ownB_set HO8.out HBX.out (by decide), HOK.out⟩, ?_, ?_⟩
  · intro k hk
    rcases HN8.out with e | e
    · rw [e] at hk; exact .inl hk
    · rw [e] at hk; simp only [Option.some.injEq] at hk; right; rw [← hk]; exact Nat.le_refl _
  · exact (((Ext.refl w).drew.thenMoved ((grown_moved HG8.out).trans (Moved.refl (fun _ => False) _) (fun _ _ h => h.elim))).trans (Moved.refl (fun _ => False) _) (fun _ _ h => h.elim) |>.weaken (fun k hk => .inr hk)).set (.inl (.inl rfl)) 0 _

theorem DiskP.setSafe {B : Nat} {w : World} {b : Nat} {v : Value} {d d' : DD} {k : Int} (h : DiskP B w b v d) (hd : d' = { d with safe := k }) (ok : DOk d') : DiskP B (w.setCell ⟨b, 2, none⟩ (.int .i64 k)) b v d' := by
  subst hd
  exact ⟨h.lo, h.box.set2 _, ownB_set h.own h.box (by decide), ok⟩

set_option maxHeartbeats 2000000 in
theorem syncClo_any {B : Nat} (b p1 : Nat) (v : Value) (d : DD) (w : World) (hd : DiskP B w b v d) (h1 : w.cell? ⟨p1, 0, none⟩ = some (.pointer (some ⟨b, 0, none⟩))) (n1 : p1 ≠ b) :
    Calls Tryz.prog 26 #[.pointer (some ⟨p1, 0, none⟩)] w fun e w' => e = .returned (.tuple #[]) ∧ DiskP B w' b v { d with safe := d.bytes.length } ∧ Moved (fp b v) w w' := by
  have HD := hid hd
  have HOK : Hid (DOk { d with safe := d.bytes.length }) := ⟨hd.ok.s1, hd.ok.sm, by show (0 : Int) ≤ d.bytes.length; omega, by show (d.bytes.length : Int) ≤ d.bytes.length; omega, hd.ok.ls, hd.ok.l0, hd.ok.lm, hd.ok.by8⟩
  obtain ⟨c0, c1, c2, c3, c4⟩ := hd.box.cells
  have f2 := hd.box.free 2
  obtain ⟨av, cv, hv, hcv⟩ := ownB_len hd.own
  subst hv
  clear hd c1 c3 c4
  go_enter Tryz.func26, Tryz.ntmps26
  go_wp2
  refine wp_region_held_drew (S := (fun w' => w'.cell? ⟨p1, 0, none⟩ = some (.pointer (some ⟨b, 0, none⟩)))) (by kernel_rfl) ?hSb0 (fun hHeld => ?_)
  case hSb0 => (first | ((first | exact h1 | (show (World.setCell w _ _).cell? _ = _; rw [World.cell?_setCell_far _ _ _ _ (by exact n1.symm)]; exact h1))) | ((try dsimp only); (first | exact h1 | (show (World.setCell w _ _).cell? _ = _; rw [World.cell?_setCell_far _ _ _ _ (by exact n1.symm)]; exact h1))))
  refine wpAnyH_tk 0 (v := ?vb0) rfl (by kernel_rfl) (by kernel_rfl) (by kernel_rfl) (fun _ _ _ h => h) (by rfl) ?hyb0 (by assumption) ?_
  case hyb0 => (intro w hSw; (try dsimp only at hSw); go_simp <;> with_reducible rfl)
  (try simp only [Act.put, List.setIfInBounds_toArray, List.set_cons_zero, List.set_cons_succ])
  refine wpAnyH_tk 1 (v := ?vb1) rfl (by kernel_rfl) (by kernel_rfl) (by kernel_rfl) (fun _ _ _ h => h) (by rfl) ?hyb1 (by assumption) ?_
  case hyb1 => (intro w hSw; (try dsimp only at hSw); go_simp <;> with_reducible rfl)
  (try simp only [Act.put, List.setIfInBounds_toArray, List.set_cons_zero, List.set_cons_succ])
  refine wpAnyH_tk 2 (v := ?vb2) rfl (by kernel_rfl) (by kernel_rfl) (by kernel_rfl) (fun _ _ _ h => h) (by rfl) ?hyb2 (by assumption) ?_
  case hyb2 => (intro w hSw; (try dsimp only at hSw); go_simp <;> with_reducible rfl)
  (try simp only [Act.put, List.setIfInBounds_toArray, List.set_cons_zero, List.set_cons_succ])
  refine wpAnyH_tk 3 (v := ?vb3) rfl (by kernel_rfl) (by kernel_rfl) (by kernel_rfl) (fun _ _ _ h => h) (by rfl) ?hyb3 (by assumption) ?_
  case hyb3 => (intro w hSw; (try dsimp only at hSw); go_simp <;> with_reducible rfl)
  (try simp only [Act.put, List.setIfInBounds_toArray, List.set_cons_zero, List.set_cons_succ])
  refine wpAnyH_one 4 rfl (by kernel_rfl) (by rfl) (fun K hK => ?_)
  go_simp
  (skip)
  refine hK.out _ _ ?hSb5 (fun hHeld => ?_)
  case hSb5 => (first | ((first | exact h1 | (show (World.setCell w _ _).cell? _ = _; rw [World.cell?_setCell_far _ _ _ _ (by exact n1.symm)]; exact h1))) | ((try dsimp only); (first | exact h1 | (show (World.setCell w _ _).cell? _ = _; rw [World.cell?_setCell_far _ _ _ _ (by exact n1.symm)]; exact h1))))
  clear hK K
  (try simp only [Act.put, List.setIfInBounds_toArray, List.set_cons_zero, List.set_cons_succ])
  refine wpAnyH_tk 5 (v := ?vb5) rfl (by kernel_rfl) (by kernel_rfl) (by kernel_rfl) (fun _ _ _ h => h) (by rfl) ?hyb5 (by assumption) ?_
  case hyb5 => (intro w hSw; (try dsimp only at hSw); go_simp <;> with_reducible rfl)
  (try simp only [Act.put, List.setIfInBounds_toArray, List.set_cons_zero, List.set_cons_succ])
  refine wpAnyH_tk 6 (v := ?vb6) rfl (by kernel_rfl) (by kernel_rfl) (by kernel_rfl) (fun _ _ _ h => h) (by rfl) ?hyb6 (by assumption) ?_
  case hyb6 => (intro w hSw; (try dsimp only at hSw); go_simp <;> with_reducible rfl)
  (try simp only [Act.put, List.setIfInBounds_toArray, List.set_cons_zero, List.set_cons_succ])
  refine wpAnyH_tk 7 (v := ?vb7) rfl (by kernel_rfl) (by kernel_rfl) (by kernel_rfl) (fun _ _ _ h => h) (by rfl) ?hyb7 (by assumption) ?_
  case hyb7 => (intro w hSw; (try dsimp only at hSw); go_simp <;> with_reducible rfl)
  (try simp only [Act.put, List.setIfInBounds_toArray, List.set_cons_zero, List.set_cons_succ])
  refine wpAnyH_one 8 rfl (by kernel_rfl) (by rfl) (fun K hK => ?_)
  go_simp
  (skip)
  refine hK.out _ _ ?hSb9 (fun hHeld => ?_)
  case hSb9 => (first | ((first | exact h1 | (show (World.setCell w _ _).cell? _ = _; rw [World.cell?_setCell_far _ _ _ _ (by exact n1.symm)]; exact h1))) | ((try dsimp only); (first | exact h1 | (show (World.setCell w _ _).cell? _ = _; rw [World.cell?_setCell_far _ _ _ _ (by exact n1.symm)]; exact h1))))
  clear hK K
  (try simp only [Act.put, List.setIfInBounds_toArray, List.set_cons_zero, List.set_cons_succ])
  refine wpAnyH_done (by kernel_rfl) ?_ _
  go_wp2
  go_end0
  exact ⟨rfl, (HD.out.setSafe rfl HOK.out).ext (Ext.refl _).drew, ((Moved.refl _ w).set (.inl (.inl rfl)) 2 _).thenExt (Ext.refl _).drew⟩

theorem OwnB.take {B : Nat} {w : World} {a : Option Addr} {n c : Nat} {xs : List Int} (h : OwnB B w (.slice a n c) xs) {k : Nat} (hk : k ≤ xs.length) : OwnB B w (.slice a k c) (xs.take k) := by
  have hl : (xs.take k).length = k := by rw [List.length_take]; omega
  obtain ⟨h0, ⟨h, hn⟩ | ⟨g, cap, cur, h, hg, hh, hcn, hm, hs, ht⟩⟩ := h
  · simp only [Value.slice.injEq] at h
    obtain ⟨rfl, rfl, rfl⟩ := h
    have hk0 : k = 0 := by omega
    subst hk0
    exact ⟨by simp, .inl ⟨rfl, by simp⟩⟩
  · simp only [Value.slice.injEq] at h
    obtain ⟨rfl, rfl, rfl⟩ := h
    refine ⟨by simp, .inr ⟨g, _, cur, by rw [hl], hg, hh, by omega, hm, hs, ?_⟩⟩
    rw [hl, Nat.mul_one, List.map_take, ← ht, List.take_take]
    congr 1; omega

set_option maxHeartbeats 2000000 in
theorem cutClo_any {B : Nat} (b p1 p2 : Nat) (v : Value) (n : Int) (d : DD) (w : World) (hd : DiskP B w b v d) (h1 : w.cell? ⟨p1, 0, none⟩ = some (.pointer (some ⟨b, 0, none⟩))) (h2 : w.cell? ⟨p2, 0, none⟩ = some (.int .i64 n)) (n1 : p1 ≠ b) (n2 : p2 ≠ b) (l0 : 0 ≤ n) (l1 : n ≤ d.bytes.length) :
    Calls Tryz.prog 27 #[.pointer (some ⟨p1, 0, none⟩), .pointer (some ⟨p2, 0, none⟩)] w fun e w' => e = .returned (.tuple #[]) ∧ ∃ v', DiskP B w' b v' { d with bytes := d.bytes.take n.toNat, safe := n } ∧ Near w v v' ∧ Moved (fp b v) w w' := by
  have HD := hid hd
  obtain ⟨k, hk⟩ : ∃ k : Nat, n = k := Int.eq_ofNat_of_zero_le l0
  subst hk
  have hkl : k ≤ d.bytes.length := by omega
  have hlt : (d.bytes.take k).length = k := by rw [List.length_take]; omega
  have HOK : Hid (DOk { d with bytes := d.bytes.take k, safe := (k : Int) }) := ⟨hd.ok.s1, hd.ok.sm, by show (0 : Int) ≤ k; omega, by show (k : Int) ≤ ((d.bytes.take k).length : Int); rw [hlt]; exact Int.le_refl _, by show ((d.bytes.take k).length : Int) ≤ d.size; rw [hlt]; have := hd.ok.ls; omega, hd.ok.l0, hd.ok.lm, fun x hx => hd.ok.by8 x (List.mem_of_mem_take hx)⟩
  obtain ⟨c0, c1, c2, c3, c4⟩ := hd.box.cells
  obtain ⟨av, cv, hv, hcv⟩ := ownB_len hd.own
  subst hv
  have B5 := hid hd.box
  have OW : Hid (OwnB B w (.slice av k cv) (d.bytes.take k)) := hd.own.take hkl
  have M : Hid (Moved (fp b (.slice av d.bytes.length cv)) w w) := Moved.refl _ _
  have hki : (k : Int) ≤ cv := by omega
  have hkc : k ≤ cv := by omega
  have hk0 : ¬ (k : Int) < 0 := by omega
  clear hd c1 c2 c3 c4 hlt
  go_enter Tryz.func27, Tryz.ntmps27
  go_wp2
  refine wp_region_held_drew (S := (fun w' => w'.cell? ⟨p1, 0, none⟩ = some (.pointer (some ⟨b, 0, none⟩)) ∧ w'.cell? ⟨p2, 0, none⟩ = some (.int .i64 k))) (by kernel_rfl) ?hSc0 (fun hHeld => ?_)
  case hSc0 => (first | exact ⟨h1, h2⟩ | exact ⟨h1d, h2d⟩)
  refine wpAnyH_tk 0 (v := ?vc0x1) rfl (by kernel_rfl) (by kernel_rfl) (by kernel_rfl) (fun _ _ _ h => h) (by rfl) ?hyc0x1 (by assumption) ?_
  case hyc0x1 => (intro w hSw; (try dsimp only at hSw); go_simp <;> with_reducible rfl)
  (try simp only [Act.put, List.setIfInBounds_toArray, List.set_cons_zero, List.set_cons_succ])
  refine wpAnyH_tk 1 (v := ?vc1x2) rfl (by kernel_rfl) (by kernel_rfl) (by kernel_rfl) (fun _ _ _ h => h) (by rfl) ?hyc1x2 (by assumption) ?_
  case hyc1x2 => (intro w hSw; (try dsimp only at hSw); go_simp <;> with_reducible rfl)
  (try simp only [Act.put, List.setIfInBounds_toArray, List.set_cons_zero, List.set_cons_succ])
  refine wpAnyH_tk 2 (v := ?vc2x3) rfl (by kernel_rfl) (by kernel_rfl) (by kernel_rfl) (fun _ _ _ h => h) (by rfl) ?hyc2x3 (by assumption) ?_
  case hyc2x3 => (intro w hSw; (try dsimp only at hSw); go_simp <;> with_reducible rfl)
  (try simp only [Act.put, List.setIfInBounds_toArray, List.set_cons_zero, List.set_cons_succ])
  refine wpAnyH_tk 3 (v := ?vc3x4) rfl (by kernel_rfl) (by kernel_rfl) (by kernel_rfl) (fun _ _ _ h => h) (by rfl) ?hyc3x4 (by assumption) ?_
  case hyc3x4 => (intro w hSw; (try dsimp only at hSw); go_simp <;> with_reducible rfl)
  (try simp only [Act.put, List.setIfInBounds_toArray, List.set_cons_zero, List.set_cons_succ])
  refine wpAnyH_tk 4 (v := ?vc4x5) rfl (by kernel_rfl) (by kernel_rfl) (by kernel_rfl) (fun _ _ _ h => h) (by rfl) ?hyc4x5 (by assumption) ?_
  case hyc4x5 => (intro w hSw; (try dsimp only at hSw); go_simp <;> with_reducible rfl)
  (try simp only [Act.put, List.setIfInBounds_toArray, List.set_cons_zero, List.set_cons_succ])
  refine wpAnyH_tk 6 (v := ?vc6x6) rfl (by kernel_rfl) (by kernel_rfl) (by kernel_rfl) (fun _ _ _ h => h) (by rfl) ?hyc6x6 (by assumption) ?_
  case hyc6x6 => (intro w hSw; (try dsimp only at hSw); go_simp <;> with_reducible rfl)
  (try simp only [Act.put, List.setIfInBounds_toArray, List.set_cons_zero, List.set_cons_succ])
  refine wpAnyH_tk 8 (v := ?vc8x7) rfl (by kernel_rfl) (by kernel_rfl) (by kernel_rfl) (fun _ _ _ h => h) (by rfl) ?hyc8x7 (by assumption) ?_
  case hyc8x7 => (intro w hSw; (try dsimp only at hSw); go_simp <;> with_reducible rfl)
  (try simp only [Act.put, List.setIfInBounds_toArray, List.set_cons_zero, List.set_cons_succ])
  refine wpAnyH_one 5 rfl (by kernel_rfl) (by rfl) (fun K hK => ?_)
  go_simp
  refine hK.out _ _ ?hSc5x8 (fun hHeld => ?_)
  case hSc5x8 => (first | exact ⟨h1, h2⟩ | exact ⟨h1d, h2d⟩)
  clear hK K
  (try simp only [Act.put, List.setIfInBounds_toArray, List.set_cons_zero, List.set_cons_succ])
  refine wpAnyH_tk 7 (v := ?vc7x9) rfl (by kernel_rfl) (by kernel_rfl) (by kernel_rfl) (fun _ _ _ h => h) (by rfl) ?hyc7x9 (by assumption) ?_
  case hyc7x9 => (intro w hSw; (try dsimp only at hSw); go_simp <;> with_reducible rfl)
  (try simp only [Act.put, List.setIfInBounds_toArray, List.set_cons_zero, List.set_cons_succ])
  refine wpAnyH_tk 9 (v := ?vc9x10) rfl (by kernel_rfl) (by kernel_rfl) (by kernel_rfl) (fun _ _ _ h => h) (by rfl) ?hyc9x10 (by assumption) ?_
  case hyc9x10 => (intro w hSw; (try dsimp only at hSw); go_simp <;> with_reducible rfl)
  (try simp only [Act.put, List.setIfInBounds_toArray, List.set_cons_zero, List.set_cons_succ])
  refine wpAnyH_tk 10 (v := ?vc10x11) rfl (by kernel_rfl) (by kernel_rfl) (by kernel_rfl) (fun _ _ _ h => h) (by rfl) ?hyc10x11 (by assumption) ?_
  case hyc10x11 => (intro w hSw; (try dsimp only at hSw); go_simp <;> with_reducible rfl)
  (try simp only [Act.put, List.setIfInBounds_toArray, List.set_cons_zero, List.set_cons_succ])
  obtain ⟨e0, e1, e2, e3, e4⟩ := B5.out.cells
  have f0 := B5.out.free 0
  have f2 := B5.out.free 2
  refine wpAnyH_one 11 rfl (by kernel_rfl) (by rfl) (fun K hK => ?_)
  go_simp
  replace OW := hid (ownB_set (i := 0) (u := (.slice av k cv)) OW.out B5.out (by decide))
  replace M := hid (M.out.set (g := b) (.inl (.inl rfl)) 0 (.slice av k cv))
  replace B5 := hid (B5.out.set0 (.slice av k cv))
  have h1d : (World.drew (w.setCell ⟨b, 0, none⟩ (.slice av k cv))).cell? ⟨p1, 0, none⟩ = some (.pointer (some ⟨b, 0, none⟩)) := by show (World.setCell _ _ _).cell? _ = _; rw [World.cell?_setCell_far _ _ _ _ (by exact n1.symm)]; exact h1
  have h2d : (World.drew (w.setCell ⟨b, 0, none⟩ (.slice av k cv))).cell? ⟨p2, 0, none⟩ = some (.int .i64 k) := by show (World.setCell _ _ _).cell? _ = _; rw [World.cell?_setCell_far _ _ _ _ (by exact n2.symm)]; exact h2
  clear e0 e1 e2 e3 e4 f0 f2
  refine hK.out _ _ ?hSc11x12 (fun hHeld => ?_)
  case hSc11x12 => (first | exact ⟨h1, h2⟩ | exact ⟨h1d, h2d⟩)
  clear hK K
  (try simp only [Act.put, List.setIfInBounds_toArray, List.set_cons_zero, List.set_cons_succ])
  refine wpAnyH_tk 12 (v := ?vc12x13) rfl (by kernel_rfl) (by kernel_rfl) (by kernel_rfl) (fun _ _ _ h => h) (by rfl) ?hyc12x13 (by assumption) ?_
  case hyc12x13 => (intro w hSw; (try dsimp only at hSw); go_simp <;> with_reducible rfl)
  (try simp only [Act.put, List.setIfInBounds_toArray, List.set_cons_zero, List.set_cons_succ])
  refine wpAnyH_tk 13 (v := ?vc13x14) rfl (by kernel_rfl) (by kernel_rfl) (by kernel_rfl) (fun _ _ _ h => h) (by rfl) ?hyc13x14 (by assumption) ?_
  case hyc13x14 => (intro w hSw; (try dsimp only at hSw); go_simp <;> with_reducible rfl)
  (try simp only [Act.put, List.setIfInBounds_toArray, List.set_cons_zero, List.set_cons_succ])
  obtain ⟨e0, e1, e2, e3, e4⟩ := B5.out.cells
  have f0 := B5.out.free 0
  have f2 := B5.out.free 2
  refine wpAnyH_one 14 rfl (by kernel_rfl) (by rfl) (fun K hK => ?_)
  go_simp
  replace OW := hid (ownB_set (i := 2) (u := (.int .i64 k)) OW.out B5.out (by decide))
  replace M := hid (M.out.set (g := b) (.inl (.inl rfl)) 2 (.int .i64 k))
  replace B5 := hid (B5.out.set2 (.int .i64 k))
  have h1d : (World.drew ((w.setCell ⟨b, 0, none⟩ (.slice av k cv)).setCell ⟨b, 2, none⟩ (.int .i64 k))).cell? ⟨p1, 0, none⟩ = some (.pointer (some ⟨b, 0, none⟩)) := by show (World.setCell _ _ _).cell? _ = _; rw [World.cell?_setCell_far _ _ _ _ (by exact n1.symm)]; exact h1d
  have h2d : (World.drew ((w.setCell ⟨b, 0, none⟩ (.slice av k cv)).setCell ⟨b, 2, none⟩ (.int .i64 k))).cell? ⟨p2, 0, none⟩ = some (.int .i64 k) := by show (World.setCell _ _ _).cell? _ = _; rw [World.cell?_setCell_far _ _ _ _ (by exact n2.symm)]; exact h2d
  clear e0 e1 e2 e3 e4 f0 f2
  refine hK.out _ _ ?hSc14x15 (fun hHeld => ?_)
  case hSc14x15 => (first | exact ⟨h1, h2⟩ | exact ⟨h1d, h2d⟩)
  clear hK K
  (try simp only [Act.put, List.setIfInBounds_toArray, List.set_cons_zero, List.set_cons_succ])
  refine wpAnyH_done (by kernel_rfl) ?_ _
  go_wp2
  go_end0
  exact ⟨rfl, _, DiskP.ext ⟨HD.out.lo, B5.out, OW.out, HOK.out⟩ (Ext.refl _).drew, fun k hk => .inl (by cases av <;> first | exact hk | (simp [Value.ownBlock] at hk)), M.out.thenExt (Ext.refl _).drew⟩

end Go.Proofs.YteiamhapplnlaabGreatDoor
