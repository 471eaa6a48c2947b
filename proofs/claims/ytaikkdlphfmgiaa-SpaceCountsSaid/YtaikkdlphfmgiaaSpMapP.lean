/-
  space.Map, plainly: which regions overlap a stretch, where a region is put.
-/
import Derived.Test.YtaikkdlphfmgiaaSpIns2
namespace Go.Proofs.Ytaikkdlphfmgiaa
open Go.RowKit
set_option linter.unusedVariables false
set_option linter.unusedSimpArgs false
def ovl (l : List Reg) (r : Reg) : Bool := l.any fun x => decide (x.f < r.f + r.c) && decide (r.f < x.f + x.c)
def insR : List Reg → Reg → List Reg
  | [], r => [r]
  | x :: t, r => if r.f < x.f then r :: x :: t else x :: insR t r
theorem ovl_yes {l : List Reg} {r : Reg} (k : Nat) (hk : k < l.length) (h1 : (rg l k).f < r.f + r.c) (h2 : r.f < (rg l k).f + (rg l k).c) : ovl l r = true := by
  unfold ovl
  rw [List.any_eq_true]
  exact ⟨rg l k, rg_mem l k hk, by simp [h1, h2]⟩
theorem ovl_no {l : List Reg} {r : Reg} (h : ∀ i, i < l.length → (rg l i).f < r.f + r.c → ¬ r.f < (rg l i).f + (rg l i).c) : ovl l r = false := by
  unfold ovl
  rw [List.any_eq_false]
  intro x hx
  obtain ⟨i, hi, rfl⟩ := List.mem_iff_getElem.1 hx
  have := h i hi
  unfold rg at this
  rw [List.getD_eq_getElem?_getD, List.getElem?_eq_getElem hi, Option.getD_some] at this
  simp only [Bool.and_eq_true, decide_eq_true_eq, not_and]
  exact this
theorem ovl_plc_yes {l : List Reg} {r : Reg} {k : Nat} (hp : Plc l r.f k) (hk : k < l.length) (h : (rg l k).f < r.f + r.c) : ovl l r = true :=
  ovl_yes k hk h (hp.2.2 k (Nat.le_refl _) hk)
theorem ovl_plc_no {l : List Reg} {r : Reg} {k : Nat} (hc : chainB 0 l = true) (hp : Plc l r.f k) (h : k < l.length → ¬ (rg l k).f < r.f + r.c) : ovl l r = false := by
  refine ovl_no (fun i hi h1 h2 => ?_)
  by_cases a : i < k
  · have := hp.2.1 i a
    omega
  · have hk : k < l.length := by omega
    have hh := h hk
    by_cases e : i = k
    · subst e; omega
    · have := chain_lt l 0 hc k i (by omega) hi
      have := chain_at l 0 hc k hk
      omega
theorem insR_at : ∀ (l : List Reg) (k : Nat) (r : Reg), k ≤ l.length → (∀ i, i < k → ¬ r.f < (rg l i).f) → (k < l.length → r.f < (rg l k).f) → insR l r = insAt l k r
  | [], k, r, hk, _, _ => by
    obtain rfl : k = 0 := by simpa using hk
    rfl
  | x :: t, 0, r, _, _, h => by
    have : r.f < x.f := h (by simp)
    unfold insR
    rw [if_pos this]
    rfl
  | x :: t, k + 1, r, hk, h1, h2 => by
    have : ¬ r.f < x.f := h1 0 (by omega)
    unfold insR
    rw [if_neg this, insR_at t k r (by simpa using hk) (fun i hi => h1 (i + 1) (by omega)) (fun hlt => h2 (by simpa using hlt))]
    rfl
theorem insR_plc {l : List Reg} {r : Reg} {k : Nat} (hc : chainB 0 l = true) (hp : Plc l r.f k) (h : k < l.length → ¬ (rg l k).f < r.f + r.c) (h1 : 1 ≤ r.c) : insR l r = insAt l k r := by
  refine insR_at l k r hp.1 (fun i hi => ?_) (fun hk => ?_)
  · have := hp.2.1 i hi
    have := chain_at l 0 hc i (by have := hp.1; omega)
    omega
  · have := h hk
    omega
/-- The error of Map. -/
def mapE (l : List Reg) (r : Reg) : Int := if chk l then (if eB r.f r.c then (if ovl l r then 190 else if pgs l + r.c ≤ 16 ∧ l.length < 8 then 0 else 20) else 190) else 2
end Go.Proofs.Ytaikkdlphfmgiaa
