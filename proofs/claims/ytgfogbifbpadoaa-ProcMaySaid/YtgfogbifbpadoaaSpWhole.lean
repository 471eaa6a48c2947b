/-
  Whole stretches: the walks of the two Whole.
-/
import Derived.Test.YtgfogbifbpadoaaSpFind2
import Derived.Test.YtgfogbifbpadoaaRwMore
namespace Go.Proofs.Ytgfogbifbpadoaa
open Go.RowKit
set_option linter.unusedVariables false
set_option linter.unusedSimpArgs false
def encG (r : Reg) : List Value := [.int .u64 r.f, .int .i64 r.c, .bool r.w]
theorem encG_len (r : Reg) : (encG r).length = 3 := rfl
theorem encG_one (r : Reg) : ∀ u ∈ encG r, u.oneCell' = true := by simp [encG, Value.oneCell']
theorem rg_get {l : List Reg} {k : Nat} {r : Reg} (h : l[k]? = some r) : rg l k = r := by
  unfold rg
  rw [List.getD_eq_getElem?_getD, h, Option.getD_some]
theorem rg_some {l : List Reg} {k : Nat} (h : k < l.length) : l[k]? = some (rg l k) := by
  unfold rg
  rw [List.getD_eq_getElem?_getD, List.getElem?_eq_getElem h, Option.getD_some]
theorem RegsK.rk {w : World} {O : Option Addr} {l : List Reg} (h : RegsK w O l) : RK encG 3 w O l := fun h0 => by
  obtain ⟨b, off, e, hc⟩ := h h0
  refine ⟨b, off, e, fun i x hx j u hu => ?_⟩
  obtain ⟨h1, h2, h3⟩ := hc i (List.getElem?_eq_some_iff.1 hx).1
  rw [rg_get hx] at h1 h2 h3
  match j, hu with
  | 0, hu => simp [encG] at hu; subst hu; exact h1
  | 1, hu => simp [encG] at hu; subst hu; exact h2
  | 2, hu => simp [encG] at hu; subst hu; exact h3
  | j + 3, hu => simp [encG] at hu
theorem RK.regs {w : World} {O : Option Addr} {l : List Reg} (h : RK encG 3 w O l) : RegsK w O l := fun h0 => by
  obtain ⟨b, off, e, hc⟩ := h h0
  refine ⟨b, off, e, fun i hi => ?_⟩
  have hx := rg_some hi
  exact ⟨hc i _ hx 0 _ rfl, hc i _ hx 1 _ rfl, hc i _ hx 2 _ rfl⟩
/-- All pages of a stretch are in the regions. -/
def whB (l : List Reg) (f : Int) : Nat → Bool
  | 0 => true
  | k + 1 => whB l f k && (fnd l (f + k)).isSome
def whl (l : List Reg) (f c : Int) : Bool := (eB f c && decide (c ≤ 16)) && whB l f c.toNat
theorem whB_no {l : List Reg} {f : Int} : ∀ {n k : Nat}, k < n → fnd l (f + k) = none → whB l f n = false
  | n + 1, k, h, e => by
    unfold whB
    by_cases hk : k = n
    · subst hk; simp [e]
    · rw [whB_no (n := n) (k := k) (by omega) e]; rfl
theorem fndV_isSome (o : Option Reg) : ∃ r : Reg, fndV o = .tuple #[.agg #[.int .u64 r.f, .int .i64 r.c, .bool r.w], .bool o.isSome] := by
  cases o with
  | none => exact ⟨⟨0, 0, false⟩, rfl⟩
  | some r => exact ⟨r, rfl⟩
end Go.Proofs.Ytgfogbifbpadoaa
