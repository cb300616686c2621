/-
  One offer of a shift, on lists; what is left to offer. Plain.
-/
import Derived.Test.YtkdfbbkonbgfmaaFirstPlain
namespace Go.Proofs.Ytkdfbbkonbgfmaa
open Mkt (upd updI cnt Stable Matching SA)

def askF (a : List Int) (s : Int) : Nat := if 0 ≤ s then (intAt a s).toNat else 0

/-- Where the offers of the shifts stand. -/
structure LS (p : PlanD) (hp : PlanOk p) (m a : List Int) : Prop where
  lm : m.length = p.hands.length
  la : a.length = p.shifts.length
  lo : ∀ s : Nat, s < p.shifts.length → 0 ≤ fn a s ∧ fn a s ≤ (rowAt p.shifts s).length
  sa : SA (mkt p hp) (fn m) (askF a)

/-- How many offers are left. -/
def sig (p : PlanD) (a : List Int) : Nat := Mkt.sumTo (fun s => ((rowAt p.shifts s).length - fn a s).toNat) p.shifts.length

theorem LS.start {p : PlanD} {hp : PlanOk p} : LS p hp (List.replicate p.hands.length (-1)) (List.replicate p.shifts.length 0) := by
  have g : ∀ (v : Int) n h, h < n → fn (List.replicate n v) h = v := fun v n h hh => by rw [fn_get (by simpa using hh)]; simp
  refine ⟨by simp, by simp, fun s hs => ?_, SA.start (fun h hh => g _ _ h hh) (fun s s0 s1 => ?_) (fun h _ s _ => rankP_nonneg _ _)⟩
  · rw [g 0 _ s hs]; omega
  · unfold askF
    rw [if_pos s0]
    have := g 0 p.shifts.length s.toNat (by have : s < p.shifts.length := s1; omega)
    unfold fn at this
    rw [Int.toNat_of_nonneg s0] at this
    rw [this]; rfl

theorem askF_set {a : List Int} {s : Nat} (hs : s < a.length) (h0 : 0 ≤ fn a s) : askF (a.set s (fn a s + 1)) = updI (askF a) s (askF a s + 1) := by
  funext x
  unfold askF updI
  by_cases hx : 0 ≤ x
  · obtain ⟨x, rfl⟩ := Int.eq_ofNat_of_zero_le hx
    have e := fn_set hs (fn a s + 1)
    have ex := congrFun e x
    rw [if_pos hx]
    have h1 : intAt (a.set s (fn a s + 1)) (x : Int) = upd (fn a) s (fn a s + 1) x := ex
    rw [h1]
    by_cases e2 : x = s
    · subst e2
      rw [Mkt.upd_same, if_pos rfl, if_pos (by omega)]
      show _ = (fn a x).toNat + 1
      omega
    · rw [Mkt.upd_other _ _ _ e2, if_neg (by omega)]
      show (fn a x).toNat = if 0 ≤ (x : Int) then _ else _
      rw [if_pos hx]; rfl
  · rw [if_neg hx, if_neg (by omega)]
    show 0 = if 0 ≤ x then _ else _
    rw [if_neg hx]

theorem sig_step {p : PlanD} {a : List Int} {s : Nat} (hs : s < p.shifts.length) (hl : a.length = p.shifts.length) (hlt : fn a s < (rowAt p.shifts s).length) : sig p (a.set s (fn a s + 1)) + 1 = sig p a := by
  have := sumTo_upd (fun x => ((rowAt p.shifts x).length - fn a x).toNat) (fun x => ((rowAt p.shifts x).length - fn (a.set s (fn a s + 1)) x).toNat) s p.shifts.length hs
    (fun x hx => by rw [fn_set (by omega), Mkt.upd_other _ _ _ hx])
  simp only [fn_set (show s < a.length by omega), Mkt.upd_same] at this
  unfold sig
  simp only [fn_set (show s < a.length by omega)]
  omega

theorem LS.lo' {p : PlanD} {hp : PlanOk p} {m a : List Int} (F : LS p hp m a) {s : Nat} (hs : s < p.shifts.length) (hlt : fn a s < (rowAt p.shifts s).length) :
    ∀ x : Nat, x < p.shifts.length → 0 ≤ fn (a.set s (fn a s + 1)) x ∧ fn (a.set s (fn a s + 1)) x ≤ (rowAt p.shifts x).length := by
  intro x hx
  rw [fn_set (by rw [F.la]; exact hs)]
  have := F.lo s hs
  by_cases e : x = s
  · subst e; rw [Mkt.upd_same]; omega
  · rw [Mkt.upd_other _ _ _ e]; exact F.lo x hx

/-- The hand that a shift asks next. -/
def nextH (p : PlanD) (a : List Int) (s : Nat) : Int := (rowAt p.shifts s).getD (fn a s).toNat (-2)

theorem nextH_get {p : PlanD} {a : List Int} {s : Nat} (h0 : 0 ≤ fn a s) (hlt : fn a s < (rowAt p.shifts s).length) : nextH p a s = (rowAt p.shifts s)[(fn a s).toNat]'(by omega) := by
  unfold nextH; rw [List.getD_eq_getElem?_getD, List.getElem?_eq_getElem (by omega)]; rfl
theorem nextH_mem {p : PlanD} {a : List Int} {s : Nat} (h0 : 0 ≤ fn a s) (hlt : fn a s < (rowAt p.shifts s).length) : nextH p a s ∈ rowAt p.shifts s := by
  rw [nextH_get h0 hlt]; exact List.getElem_mem _
theorem nextH_range {p : PlanD} (hp : PlanOk p) {a : List Int} {s : Nat} (h0 : 0 ≤ fn a s) (hlt : fn a s < (rowAt p.shifts s).length) : 0 ≤ nextH p a s ∧ nextH p a s < p.hands.length :=
  (hp.col (s := s) (by omega)).1 _ (nextH_mem h0 hlt)
theorem nextH_rank {p : PlanD} (hp : PlanOk p) {a : List Int} {s : Nat} (h0 : 0 ≤ fn a s) (hlt : fn a s < (rowAt p.shifts s).length) : rankP (rowAt p.shifts s) (nextH p a s) = ((fn a s).toNat : Nat) := by
  rw [nextH_get h0 hlt]
  exact rankP_getElem (hp.col (s := s) (by omega)).2 (by omega)

theorem LS.col {p : PlanD} {hp : PlanOk p} {m a : List Int} (F : LS p hp m a) {s : Int} (s0 : 0 ≤ s) : ∀ x, x < p.hands.length → fn m x = s → (x : Int) ∈ rowAt p.shifts s := by
  intro x hx e
  rcases F.sa.cur x hx with c | ⟨c, -⟩
  · omega
  · rw [e] at c; exact (possB_iff.1 c).2

theorem LS.cnt {p : PlanD} {hp : PlanOk p} {m a : List Int} (F : LS p hp m a) {s : Int} (s0 : 0 ≤ s) : (handsI (rowAt p.shifts s) m s).length = cnt (mkt p hp) (fn m) s := hands_cnt hp s0 (F.col s0)

/-- One offer, not taken. -/
theorem LS.skip {p : PlanD} {hp : PlanOk p} {m a : List Int} (F : LS p hp m a) {s : Nat} (hs : s < p.shifts.length) (hlt : fn a s < (rowAt p.shifts s).length)
    (hno : possB p (nextH p a s) s = false ∨ rankP (rowAt p.hands (nextH p a s)) (intAt m (nextH p a s)) ≤ rankP (rowAt p.hands (nextH p a s)) s) :
    LS p hp m (a.set s (fn a s + 1)) := by
  have h0 := (F.lo s hs).1
  have hr := nextH_range hp h0 hlt
  refine ⟨F.lm, by rw [List.length_set]; exact F.la, F.lo' hs hlt, ?_⟩
  rw [askF_set (by rw [F.la]; exact hs) h0]
  have ha : askF a s = (fn a s).toNat := by unfold askF; rw [if_pos (by omega)]; rfl
  by_cases hps : possB p (nextH p a s) s = true
  · rcases hno with e | hno
    · rw [hps] at e; simp at e
    obtain ⟨h, hh⟩ := Int.eq_ofNat_of_zero_le hr.1
    rw [hh] at hps hno hr
    refine F.sa.stay (h := h) (show h < p.hands.length by omega) hps ?_ hno
    rw [ha]
    show rankP (rowAt p.shifts s) h = _
    rw [← nextH_rank hp h0 hlt, hh]
  · refine F.sa.skip fun h hh ps e => ?_
    have hm : (h : Int) = nextH p a s := rankP_inj (possB_iff.1 ps).2 (nextH_mem h0 hlt) (by
      rw [nextH_rank hp h0 hlt, ← ha]; exact e)
    have ps' : possB p h s = true := ps
    rw [hm] at ps'; exact hps ps'

/-- One offer, taken. -/
theorem LS.come {p : PlanD} {hp : PlanOk p} {m a : List Int} (F : LS p hp m a) {s : Nat} (hs : s < p.shifts.length) (hlt : fn a s < (rowAt p.shifts s).length)
    (hps : possB p (nextH p a s) s = true) (hr : rankP (rowAt p.hands (nextH p a s)) s < rankP (rowAt p.hands (nextH p a s)) (intAt m (nextH p a s)))
    (hroom : ((handsI (rowAt p.shifts s) m s).length : Int) < intAt p.places s) :
    LS p hp (m.set (nextH p a s).toNat s) (a.set s (fn a s + 1)) := by
  have h0 := (F.lo s hs).1
  have hrg := nextH_range hp h0 hlt
  have ha : askF a s = (fn a s).toNat := by unfold askF; rw [if_pos (by omega)]; rfl
  rw [F.cnt (by omega)] at hroom
  have hk := nextH_rank hp h0 hlt
  obtain ⟨h, hh⟩ := Int.eq_ofNat_of_zero_le hrg.1
  rw [hh] at hps hr hrg hk ⊢
  rw [Int.toNat_natCast]
  refine ⟨by rw [List.length_set]; exact F.lm, by rw [List.length_set]; exact F.la, F.lo' hs hlt, ?_⟩
  rw [askF_set (by rw [F.la]; exact hs) h0, fn_set (by rw [F.lm]; omega)]
  refine F.sa.come (h := h) (show h < p.hands.length by omega) hps ?_ hr ?_
  · rw [ha]; exact hk
  · show _ < (intAt p.places s).toNat
    omega

theorem LS.last {p : PlanD} {hp : PlanOk p} {m a : List Int} (F : LS p hp m a)
    (hend : ∀ s : Nat, s < p.shifts.length → intAt p.places s ≤ (handsI (rowAt p.shifts s) m s).length ∨ fn a s = (rowAt p.shifts s).length) : IsLast p hp m := by
  refine ⟨F.lm, F.sa.stable fun s s0 s1 => ?_, fun μ hμ h hh => F.sa.worst hμ h hh⟩
  obtain ⟨s, rfl⟩ := Int.eq_ofNat_of_zero_le s0
  have hs : s < p.shifts.length := by have : (s : Int) < p.shifts.length := s1; omega
  rcases hend s hs with c | c
  · rw [F.cnt (by omega)] at c
    left
    show (intAt p.places s).toNat ≤ _
    omega
  · right
    intro h hh ps
    have h1 := rankP_lt (possB_iff.1 ps).2
    have ha : askF a s = (fn a s).toNat := by unfold askF; rw [if_pos (by omega)]; rfl
    rw [ha, c]; exact h1

/-- The range of what the shifts' offers give. -/
theorem LS.val {p : PlanD} {hp : PlanOk p} {m a : List Int} (F : LS p hp m a) {h : Nat} (hh : h < p.hands.length) : -1 ≤ fn m h ∧ fn m h < p.shifts.length := by
  rcases F.sa.cur h hh with c | ⟨c, -⟩
  · rw [c]; omega
  · exact ⟨by have := (mkt p hp).pos_lo _ _ c; omega, (mkt p hp).pos_hi _ _ c⟩

end Go.Proofs.Ytkdfbbkonbgfmaa
