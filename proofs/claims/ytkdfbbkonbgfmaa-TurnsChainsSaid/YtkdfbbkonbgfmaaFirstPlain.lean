/-
  One offer of a hand, on lists; what is left to offer. Plain.
-/
import Derived.Test.YtkdfbbkonbgfmaaPlan
namespace Go.Proofs.Ytkdfbbkonbgfmaa
open Mkt (upd cnt Stable Matching DA SA)

/-- Where the offers stand. -/
structure FS (p : PlanD) (hp : PlanOk p) (m a : List Int) : Prop where
  lm : m.length = p.hands.length
  la : a.length = p.hands.length
  lo : ∀ h : Nat, h < p.hands.length → 0 ≤ fn a h ∧ fn a h ≤ (rowAt p.hands h).length
  da : DA (mkt p hp) (fn m) (fun h => (fn a h).toNat)

/-- How many offers are left. -/
def rho (p : PlanD) (a : List Int) : Nat := Mkt.sumTo (fun h => ((rowAt p.hands h).length - fn a h).toNat) p.hands.length

theorem sumTo_upd (f g : Nat → Nat) (h : Nat) : ∀ n, h < n → (∀ x, x ≠ h → g x = f x) → Mkt.sumTo g n + f h = Mkt.sumTo f n + g h
  | 0, hh, _ => by omega
  | n + 1, hh, he => by
    simp only [Mkt.sumTo]
    by_cases e : h = n
    · subst e
      have := Mkt.sumTo_congr (f := g) (g := f) h (fun s hs => he s (by omega))
      omega
    · have := sumTo_upd f g h n (by omega) he
      have := he n (fun e' => e e'.symm)
      omega

theorem FS.start {p : PlanD} {hp : PlanOk p} : FS p hp (List.replicate p.hands.length (-1)) (List.replicate p.hands.length 0) := by
  have g : ∀ (v : Int) h, h < p.hands.length → fn (List.replicate p.hands.length v) h = v := fun v h hh => by rw [fn_get (by simpa using hh)]; simp
  refine ⟨by simp, by simp, fun h hh => ?_, Mkt.DA.start (fun h hh => g _ h hh) (fun h hh => ?_) (fun h _ s _ => rankP_nonneg _ _)⟩
  · rw [g 0 h hh]; omega
  · rw [g 0 h hh]; rfl

theorem fn_set_toNat {a : List Int} {h : Nat} (hh : h < a.length) (h0 : 0 ≤ fn a h) : (fun x => (fn (a.set h (fn a h + 1)) x).toNat) = upd (fun x => (fn a x).toNat) h ((fn a h).toNat + 1) := by
  funext x
  rw [fn_set hh]
  by_cases e : x = h
  · subst e; rw [Mkt.upd_same, Mkt.upd_same]; omega
  · rw [Mkt.upd_other _ _ _ e, Mkt.upd_other _ _ _ e]

theorem rho_step {p : PlanD} {a : List Int} {h : Nat} (hh : h < p.hands.length) (hl : a.length = p.hands.length) (hlt : fn a h < (rowAt p.hands h).length) : rho p (a.set h (fn a h + 1)) + 1 = rho p a := by
  have := sumTo_upd (fun x => ((rowAt p.hands x).length - fn a x).toNat) (fun x => ((rowAt p.hands x).length - fn (a.set h (fn a h + 1)) x).toNat) h p.hands.length hh
    (fun x hx => by rw [fn_set (by omega), Mkt.upd_other _ _ _ hx])
  simp only [fn_set (show h < a.length by omega), Mkt.upd_same] at this
  unfold rho
  simp only [fn_set (show h < a.length by omega)]
  omega

theorem FS.lo' {p : PlanD} {hp : PlanOk p} {m a : List Int} (F : FS p hp m a) {h : Nat} (hh : h < p.hands.length) (hlt : fn a h < (rowAt p.hands h).length) :
    ∀ x : Nat, x < p.hands.length → 0 ≤ fn (a.set h (fn a h + 1)) x ∧ fn (a.set h (fn a h + 1)) x ≤ (rowAt p.hands x).length := by
  intro x hx
  rw [fn_set (by rw [F.la]; exact hh)]
  have := F.lo h hh
  by_cases e : x = h
  · subst e; rw [Mkt.upd_same]; omega
  · rw [Mkt.upd_other _ _ _ e]; exact F.lo x hx

/-- The shift that a hand asks next. -/
def nextS (p : PlanD) (a : List Int) (h : Nat) : Int := (rowAt p.hands h).getD (fn a h).toNat (-2)

theorem nextS_get {p : PlanD} {a : List Int} {h : Nat} (h0 : 0 ≤ fn a h) (hlt : fn a h < (rowAt p.hands h).length) : nextS p a h = (rowAt p.hands h)[(fn a h).toNat]'(by omega) := by
  unfold nextS; rw [List.getD_eq_getElem?_getD, List.getElem?_eq_getElem (by omega)]; rfl
theorem nextS_mem {p : PlanD} {a : List Int} {h : Nat} (h0 : 0 ≤ fn a h) (hlt : fn a h < (rowAt p.hands h).length) : nextS p a h ∈ rowAt p.hands h := by
  rw [nextS_get h0 hlt]; exact List.getElem_mem _
theorem nextS_range {p : PlanD} (hp : PlanOk p) {a : List Int} {h : Nat} (h0 : 0 ≤ fn a h) (hlt : fn a h < (rowAt p.hands h).length) : 0 ≤ nextS p a h ∧ nextS p a h < p.shifts.length :=
  (hp.row (h := h) (by omega)).1 _ (nextS_mem h0 hlt)
theorem nextS_rank {p : PlanD} (hp : PlanOk p) {a : List Int} {h : Nat} (h0 : 0 ≤ fn a h) (hlt : fn a h < (rowAt p.hands h).length) : (mkt p hp).r h (nextS p a h) = ((fn a h).toNat : Nat) := by
  rw [nextS_get h0 hlt]
  exact rankP_getElem (hp.row (h := h) (by omega)).2 (by omega)

theorem FS.skip {p : PlanD} {hp : PlanOk p} {m a : List Int} (F : FS p hp m a) {h : Nat} (hh : h < p.hands.length) (he : fn m h = -1) (hlt : fn a h < (rowAt p.hands h).length) (hno : possB p h (nextS p a h) = false) :
    FS p hp m (a.set h (fn a h + 1)) := by
  have h0 := (F.lo h hh).1
  refine ⟨F.lm, by rw [List.length_set]; exact F.la, F.lo' hh hlt, ?_⟩
  rw [fn_set_toNat (by rw [F.la]; exact hh) h0]
  refine F.da.skip (h := h) hh he (fun s ps e => ?_)
  have hs : s = nextS p a h := rankP_inj (possB_iff.1 ps).1 (nextS_mem h0 hlt) (by
    have := nextS_rank hp h0 hlt
    show (mkt p hp).r h s = (mkt p hp).r h (nextS p a h)
    rw [this]; exact e)
  have ps' : possB p h s = true := ps
  rw [hs, hno] at ps'; simp at ps'

theorem FS.col {p : PlanD} {hp : PlanOk p} {m a : List Int} (F : FS p hp m a) {h : Nat} (hh : h < p.hands.length) {s : Int} (s0 : 0 ≤ s) (ps : possB p h s = true) :
    ∀ x, x < p.hands.length → fn (m.set h s) x = s → (x : Int) ∈ rowAt p.shifts s := by
  intro x hx e
  rw [fn_set (by rw [F.lm]; exact hh)] at e
  by_cases ex : x = h
  · subst ex; exact (possB_iff.1 ps).2
  · rw [Mkt.upd_other _ _ _ ex] at e
    rcases F.da.cur x hx with c | ⟨c, -⟩
    · omega
    · rw [e] at c; exact (possB_iff.1 c).2

theorem FS.kept {p : PlanD} {hp : PlanOk p} {m a : List Int} (F : FS p hp m a) {h : Nat} (hh : h < p.hands.length) (he : fn m h = -1) {s : Int} (s0 : 0 ≤ s) (ps : possB p h s = true) :
    (handsI (rowAt p.shifts s) (m.set h s) s).length = cnt (mkt p hp) (fn m) s + 1 := by
  rw [hands_cnt hp s0 (F.col hh s0 ps), fn_set (by rw [F.lm]; exact hh)]
  have := Mkt.cnt_upd (M := mkt p hp) (fn m) (h := h) hh s s
  rw [he, if_neg (by omega), if_pos rfl] at this; exact this

theorem FS.take {p : PlanD} {hp : PlanOk p} {m a : List Int} (F : FS p hp m a) {h : Nat} (hh : h < p.hands.length) (he : fn m h = -1) (hlt : fn a h < (rowAt p.hands h).length) (ps : possB p h (nextS p a h) = true)
    (hroom : ¬ intAt p.places (nextS p a h) < (handsI (rowAt p.shifts (nextS p a h)) (m.set h (nextS p a h)) (nextS p a h)).length) :
    FS p hp (m.set h (nextS p a h)) (a.set h (fn a h + 1)) := by
  have h0 := (F.lo h hh).1
  have hr := nextS_range hp h0 hlt
  have hk := F.kept hh he hr.1 ps
  refine ⟨by rw [List.length_set]; exact F.lm, by rw [List.length_set]; exact F.la, F.lo' hh hlt, ?_⟩
  rw [fn_set_toNat (by rw [F.la]; exact hh) h0, fn_set (by rw [F.lm]; exact hh)]
  refine F.da.take (h := h) hh he ps (nextS_rank hp h0 hlt) ?_
  show _ ≤ (intAt p.places (nextS p a h)).toNat
  omega

theorem FS.swap {p : PlanD} {hp : PlanOk p} {m a : List Int} (F : FS p hp m a) {h : Nat} (hh : h < p.hands.length) (he : fn m h = -1) (hlt : fn a h < (rowAt p.hands h).length) (ps : possB p h (nextS p a h) = true)
    {kept : List Int} (hkept : kept = handsI (rowAt p.shifts (nextS p a h)) (m.set h (nextS p a h)) (nextS p a h)) (hfull : intAt p.places (nextS p a h) < kept.length) {w : Int} (hw : kept.getD (kept.length - 1) (-2) = w) :
    0 ≤ w ∧ w < p.hands.length ∧ FS p hp ((m.set h (nextS p a h)).set w.toNat (-1)) (a.set h (fn a h + 1)) := by
  have h0 := (F.lo h hh).1
  have hr := nextS_range hp h0 hlt
  have hk := F.kept hh he hr.1 ps
  rw [← hkept] at hk
  have hlen : 0 < kept.length := by omega
  have hne : kept ≠ [] := by intro e; rw [e] at hlen; simp at hlen
  have hlast : kept.getLast hne = w := by
    rw [← hw, List.getLast_eq_getElem, List.getD_eq_getElem?_getD, List.getElem?_eq_getElem (by omega)]; rfl
  have hwm : w ∈ kept := hlast ▸ List.getLast_mem hne
  have hwm' := hwm
  rw [hkept] at hwm'
  unfold handsI at hwm'
  rw [List.mem_filter] at hwm'
  have wr := (hp.col hr.1).1 w hwm'.1
  refine ⟨wr.1, wr.2, by rw [List.length_set, List.length_set]; exact F.lm, by rw [List.length_set]; exact F.la, F.lo' hh hlt, ?_⟩
  obtain ⟨v, rfl⟩ := Int.eq_ofNat_of_zero_le wr.1
  rw [Int.toNat_natCast, fn_set_toNat (by rw [F.la]; exact hh) h0, fn_set (by rw [List.length_set, F.lm]; omega), fn_set (by rw [F.lm]; exact hh)]
  have hcol := F.col hh hr.1 ps
  rw [fn_set (by rw [F.lm]; exact hh)] at hcol
  refine F.da.swap (h := h) hh he ps (nextS_rank hp h0 hlt) ?_ (w := v) (show v < p.hands.length by omega) ?_ ?_
  · show (intAt p.places (nextS p a h)).toNat ≤ _
    omega
  · have := hwm'.2
    rw [← fn_set (by rw [F.lm]; exact hh)]
    simpa [fn] using this
  · intro x hx hxs hxv
    have hxm : (x : Int) ∈ kept := by
      rw [hkept]
      unfold handsI
      rw [List.mem_filter]
      refine ⟨hcol x hx hxs, ?_⟩
      rw [← fn_set (by rw [F.lm]; exact hh)] at hxs
      simpa [fn] using hxs
    have hpw : kept.Pairwise (fun x y => rankP (rowAt p.shifts (nextS p a h)) x < rankP (rowAt p.shifts (nextS p a h)) y) := by
      rw [hkept]; exact (row_pairwise (hp.col hr.1).2).sublist List.filter_sublist
    rcases last_max hpw hne x hxm with e | e
    · rw [hlast] at e; omega
    · rw [hlast] at e; exact e

theorem FS.first {p : PlanD} {hp : PlanOk p} {m a : List Int} (F : FS p hp m a) (hend : ∀ h, h < p.hands.length → fn m h ≠ -1 ∨ fn a h = (rowAt p.hands h).length) : IsFirst p hp m := by
  have he : ∀ h, h < (mkt p hp).n → fn m h = -1 → ∀ s, (mkt p hp).pos h s → (mkt p hp).r h s < ((fn a h).toNat : Nat) := by
    intro h hh e s ps
    have hlt : rankP (rowAt p.hands h) s < (rowAt p.hands h).length := rankP_lt (possB_iff.1 ps).1
    rcases hend h hh with c | c
    · exact absurd e c
    · rw [c]; exact hlt
  exact ⟨F.lm, F.da.stable he, fun μ hμ h hh => F.da.best he hμ h hh⟩

end Go.Proofs.Ytkdfbbkonbgfmaa
