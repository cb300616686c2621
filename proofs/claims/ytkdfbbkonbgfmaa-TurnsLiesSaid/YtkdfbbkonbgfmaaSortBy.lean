/-
  The shelf contract of slices.SortFunc at this program, as the plain mode of the shelf writes it; a row of the call of its own, sorted by the ranks in a list.
-/
import Derived.Shelf.SlSortCmp.Whole1
import Derived.Sort.OwnSortedInts
import Derived.Test.YtkdfbbkonbgfmaaSidesPlain
import Derived.Test.YtkdfbbkonbgfmaaBlock
namespace Go.Proofs
open Go.Shelf
def Try.laysSlF6_f78_ren : Go.Shelf.Ren := ⟨fun | 6 => 78 | 15 => 77 | 14 => 115 | 28 => 113 | 29 => 114 | 20 => 130 | 21 => 131 | 22 => 132 | 23 => 133 | 24 => 134 | 25 => 135 | 26 => 136 | 27 => 137 | 46 => 142 | 47 => 125 | 48 => 126 | 49 => 143 | 50 => 144 | 57 => 145 | n => n, fun | 22 => 23 | 24 => 3 | 25 => 82 | 3 => 3 | 39 => 32 | 0 => 0 | 53 => 107 | 55 => 109 | 4 => 4 | 46 => 100 | 45 => 99 | 50 => 104 | 5 => 5 | 9 => 9 | 66 => 117 | 70 => 121 | 76 => 133 | 77 => 134 | n => n, fun | n => n⟩
theorem Try.laysSlF6_f78 : Go.Proofs.SlLaysF.n6 Try.prog Try.laysSlF6_f78_ren := {
  mixed := by kernel_rfl
  f6 := ⟨Try.f78.name, by decide, Try.func78.trans (congrArg some (by kernel_rfl))⟩
  f14 := ⟨Try.f115.name, by decide, Try.func115.trans (congrArg some (by kernel_rfl))⟩
  f15 := Try.func77.trans (congrArg some (by kernel_rfl))
  f20 := ⟨Try.f130.name, by decide, Try.func130.trans (congrArg some (by kernel_rfl))⟩
  f21 := ⟨Try.f131.name, by decide, Try.func131.trans (congrArg some (by kernel_rfl))⟩
  f22 := ⟨Try.f132.name, by decide, Try.func132.trans (congrArg some (by kernel_rfl))⟩
  f23 := ⟨Try.f133.name, by decide, Try.func133.trans (congrArg some (by kernel_rfl))⟩
  f24 := ⟨Try.f134.name, by decide, Try.func134.trans (congrArg some (by kernel_rfl))⟩
  f25 := ⟨Try.f135.name, by decide, Try.func135.trans (congrArg some (by kernel_rfl))⟩
  f26 := ⟨Try.f136.name, by decide, Try.func136.trans (congrArg some (by kernel_rfl))⟩
  f27 := ⟨Try.f137.name, by decide, Try.func137.trans (congrArg some (by kernel_rfl))⟩
  f28 := Try.func113.trans (congrArg some (by kernel_rfl))
  f29 := Try.func114.trans (congrArg some (by kernel_rfl))
  f46 := ⟨Try.f142.name, by decide, Try.func142.trans (congrArg some (by kernel_rfl))⟩
  f47 := Try.func125.trans (congrArg some (by kernel_rfl))
  f48 := Try.func126.trans (congrArg some (by kernel_rfl))
  f49 := ⟨Try.f143.name, by decide, Try.func143.trans (congrArg some (by kernel_rfl))⟩
  f50 := ⟨Try.f144.name, by decide, Try.func144.trans (congrArg some (by kernel_rfl))⟩
  f57 := ⟨Try.f145.name, by decide, Try.func145.trans (congrArg some (by kernel_rfl))⟩
  t0 := Try.underlying0
  a0 := Try.isAgg0
  z0 := Try.sizeOf0
  v0 := Try.zeroValue0
  t3 := Try.underlying3
  a3 := Try.isAgg3
  z3 := Try.sizeOf3
  v3 := Try.zeroValue3
  t4 := Try.underlying4
  a4 := Try.isAgg4
  z4 := Try.sizeOf4
  v4 := Try.zeroValue4
  t5 := Try.underlying5
  a5 := Try.isAgg5
  z5 := Try.sizeOf5
  v5 := Try.zeroValue5
  t9 := Try.underlying9
  a9 := Try.isAgg9
  z9 := Try.sizeOf9
  v9 := Try.zeroValue9
  t22 := Try.underlying23
  a22 := Try.isAgg23
  z22 := Try.sizeOf23
  v22 := Try.zeroValue23
  a24 := Try.isAgg3
  z24 := Try.sizeOf3
  t25 := Try.underlying82
  a25 := Try.isAgg82
  z25 := Try.sizeOf82
  v25 := Try.zeroValue82
  t39 := Try.underlying32
  a39 := Try.isAgg32
  z39 := Try.sizeOf32
  v39 := Try.zeroValue32
  t45 := Try.underlying99
  a45 := Try.isAgg99
  z45 := Try.sizeOf99
  v45 := Try.zeroValue99
  t46 := Try.underlying100
  a46 := Try.isAgg100
  z46 := Try.sizeOf100
  v46 := Try.zeroValue100
  t50 := Try.underlying104
  a50 := Try.isAgg104
  z50 := Try.sizeOf104
  v50 := Try.zeroValue104
  t53 := Try.underlying107
  a53 := Try.isAgg107
  z53 := Try.sizeOf107
  v53 := Try.zeroValue107
  t55 := Try.underlying109
  a55 := Try.isAgg109
  z55 := Try.sizeOf109
  v55 := Try.zeroValue109
  t66 := Try.underlying117
  a66 := Try.isAgg117
  z66 := Try.sizeOf117
  v66 := Try.zeroValue117
  t70 := Try.underlying121
  a70 := Try.isAgg121
  z70 := Try.sizeOf121
  v70 := Try.zeroValue121
  t76 := Try.underlying133
  a76 := Try.isAgg133
  z76 := Try.sizeOf133
  v76 := Try.zeroValue133
  t77 := Try.underlying134
  a77 := Try.isAgg134
  z77 := Try.sizeOf134
  v77 := Try.zeroValue134 }
open Go.RowKit Go.Lib Go.Sort in
theorem Try.slices_SortFunc {α : Type} [Inhabited α] (enc : α → Value) (h1 : OneCell enc) (cf : α → α → Int) (hO : SWO (ltOf cf)) (g : Nat) (cb : Array Value) (blk off cap : Nat) (d : Array α) (w : World) (eg : ∀ args w, (callFunc g args).run Try.prog w = .ok (.enter g args) w) (hcmp : CmpLays1 Try.prog g cb enc cf blk off d.size w) (hH : Holds enc w blk off d) (hblk : blk < w.heap.size) (hsz : d.size < 4611686018427387904) :
    Calls Try.prog 78 #[.slice (some ⟨blk, off, none⟩) d.size cap, .func (.func g) #[] cb] w fun e w' =>
      e = .returned (.tuple #[]) ∧ ∃ d' n os, PermIn 0 d.size d d' ∧ SortedIn (ltOf cf) 0 d.size d' ∧ w' = sortWorld enc w blk off n d' os := Any.slices_SortFunc Try.laysSlF6_f78 enc h1 cf hO g cb blk off cap d w eg hcmp hH hblk hsz
end Go.Proofs
namespace Go.Proofs.Ytkdfbbkonbgfmaa
open Go.RowKit Go.Sort Go.Shelf

theorem Ints.ao {w : World} {v : Value} {xs : List Int} (h : Ints w v xs) : ∃ ao cap, v = .slice ao xs.length cap := by
  obtain ⟨-, ao, cap, rfl, -⟩ := h; exact ⟨_, _, rfl⟩

set_option maxHeartbeats 1000000 in
theorem cmp_any (bc : Nat) (vl : Value) (l : List Int) (x y : Int) (w : World) (hc : w.cell? ⟨bc, 0, none⟩ = some vl) (hl : Ints w vl l) (h98 : l.length ≤ 98) :
    Calls Try.prog 79 #[.int .i64 x, .int .i64 y, .pointer (some ⟨bc, 0, none⟩)] w fun e w' => e = .returned (.int .i64 (rankP l x - rankP l y)) ∧ ∃ n, w' = w.drewN n := by
  obtain ⟨ao, cap, rfl⟩ := hl.ao
  have HS : Hid (∀ n z, Calls Try.prog 80 #[.slice ao l.length cap, .int .i64 z] (w.drewN n) fun e w' => e = .returned (.int .i64 (rankP l z)) ∧ w' = w.drewN n) :=
    fun n z => (rank_any _ l z _ (hl.ext ((Ext.refl w).drewN n))).mono fun _ _ ⟨he, hw⟩ => ⟨he, hw.symm⟩
  have h1 := rankP_nonneg l x
  have h2 := rankP_nonneg l y
  have h3 := rankP_le l x
  have h4 := rankP_le l y
  have hwr : IntKind.i64.wrap (rankP l x - rankP l y) = rankP l x - rankP l y := IntWalk.i64_in _ (by omega)
  clear hl
  go_enter Try.func79, Try.ntmps79
  go_wp2
  go_quiet ((go_at_call 80; exact Calls.quiet_of_same (HS.out _ _)))
  go_wp2
  go_ret
  exact ⟨rfl, _, rfl⟩

theorem holds_ints {w : World} {g : Nat} {cur : Array Value} {e : TypeId} {ss : List Int} (hb : w.heap[g]? = some (.cells cur e (0, 0))) (ht : cur.toList.take ss.length = ss.map (Value.int .i64)) : Holds (Value.int .i64) w g 0 ss.toArray := holds_of_blockI hb ht

theorem swo_rank (l : List Int) : SWO (ltOf (fun x y => rankP l x - rankP l y)) := by
  refine ⟨fun x => ?_, fun x y z h1 h2 => ?_, fun x y z h1 h2 => ?_⟩
  · unfold ltOf; simp
  · unfold ltOf at *; simp only [decide_eq_true_eq] at *; omega
  · unfold ltOf at *; simp only [decide_eq_false_iff_not] at *; omega

theorem SortFunc_own (B bc : Nat) (v vl : Value) (xs l : List Int) (W w : World) (h : OwnI B w v xs) (h0 : 0 < xs.length) (hx : xs.length ≤ 17592186044416) (hW : Ext W w) (hB : W.heap.size ≤ B) (hc : W.cell? ⟨bc, 0, none⟩ = some vl) (hl : Ints W vl l) (h98 : l.length ≤ 98) :
    Calls Try.prog 78 #[v, .func (.func 79) #[] #[.pointer (some ⟨bc, 0, none⟩)]] w fun e w' => e = .returned (.tuple #[]) ∧ ∃ ys, OwnI B w' v ys ∧ ys.Perm xs ∧ ys.Pairwise (fun x y => rankP l x ≤ rankP l y) ∧ w.grownBy w' v.ownBlock := by
  obtain ⟨hlen, h | ⟨g, cap, cur, rfl, hg, hh, hn, hm, hs, ht⟩⟩ := id h
  · have := h.2; omega
  · rw [Nat.mul_one] at ht
    have hgs := lt_of_block hh
    have ext : ∀ m os (d : Array Int), Ext W (sortWorld (Value.int .i64) w g 0 m d os) := fun m os d => by
      have h1 : w.grownBy (grow (putRow (Value.int .i64) (Sort.ahead w m) g 0 d) os) (some g) := grownBy_sortedI d
      exact Below.grown hW h1 hW.size (fun k hk => by simp at hk; omega)
    have hcmp : CmpLays1 Try.prog 79 #[.pointer (some ⟨bc, 0, none⟩)] (Value.int .i64) (fun x y => rankP l x - rankP l y) g 0 xs.toArray.size w := by
      intro m os dk _ x y
      refine (cmp_any bc vl l x y _ ((ext m os dk).cell hc) (hl.ext (ext m os dk)) h98).mono ?_
      rintro e w' ⟨rfl, n, rfl⟩
      exact ⟨rfl, n, #[], by rw [grow_empty]⟩
    have hcall := Try.slices_SortFunc (Value.int .i64) (fun _ => rfl) (fun x y => rankP l x - rankP l y) (swo_rank l) 79 #[.pointer (some ⟨bc, 0, none⟩)] g 0 cap xs.toArray w
      (fun args w => (enters_of Try.func79 (by kernel_rfl) rfl) args w) hcmp (holds_ints hh ht) hgs (by simp; omega)
    have es : xs.toArray.size = xs.length := by simp
    rw [es] at hcall
    refine hcall.mono ?_
    rintro e w' ⟨rfl, d', n, os, ⟨p1, -, p3⟩, hsrt, rfl⟩
    have hd : d'.size = xs.length := by rw [p1]; simp
    have e1 : (d'.extract 0 xs.length).toList = d'.toList := by rw [← hd]; simp
    rw [e1] at p3
    have hd' : d' = d'.toList.toArray := by simp
    refine ⟨rfl, d'.toList, ?_, by simpa using p3, ?_, grownBy_sortedI _⟩
    · have h2 := ownsRow_sortedI (w := w) (base := B) (g := g) (cap := cap) (n := n) (e := 3) (os := os) (cur := cur) (ss := xs) (ts := d'.toList) (by rw [Array.length_toList, hd]) hg hh hn hm hs
      have e2 : d'.toList.length = xs.length := by rw [Array.length_toList, hd]
      show World.ownsRow _ B 3 1 _ d'.toList.length _
      rw [e2]
      unfold sortWorld
      rw [hd'] at *
      exact h2
    · rw [List.pairwise_iff_getElem]
      intro i j hi hj hij
      rw [Array.length_toList] at hi hj
      have h3 := hsrt i j (Nat.zero_le _) hij (by omega)
      unfold ltOf at h3
      simp only [decide_eq_false_iff_not] at h3
      have g1 : d'[i]! = d'.toList[i]'(by simpa using hi) := by rw [getElem!_pos d' i hi]; simp
      have g2 : d'[j]! = d'.toList[j]'(by simpa using hj) := by rw [getElem!_pos d' j hj]; simp
      rw [g1, g2] at h3
      omega

end Go.Proofs.Ytkdfbbkonbgfmaa
