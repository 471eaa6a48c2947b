/-
  The laws ShareEnds and ShareLoads of layer 20: the walks.
-/
import Derived.Test.YtaikkdlphfmgiaaDoorShWakes
import Derived.Deep.RegionHeld3
namespace Go.Proofs.YtaikkdlphfmgiaaDoor
open Go.RowKit
set_option linter.unusedVariables false
set_option linter.unusedSimpArgs false
theorem ends_long (O : Option Addr) (len cap : Nat) (p x ct fr : Int) (w : World) (hG : G w) (hl : 20 < len) : Calls Tryd.prog 3 #[.slice O len cap, .int .u64 p, .int .u64 x, .int .i64 ct, .int .i64 fr] w fun e w' => e = .returned (.bool true) ∧ Below w.heap.size w w' := by
  have HG := Lib.hid hG
  clear hG
  go_enter Tryd.func3, Tryd.ntmps3
  go_wp2_with fail
  refine (wakes20_any _ HG.out).mono ?_
  rintro e w1 ⟨rfl, hb⟩
  go_wp2_with fail
  go_ret
  exact ⟨rfl, hb⟩
/-- A frame's number out of any number. -/
def nf (k : Int) : Int := (wrap64 (k.tmod 64 + 64)).tmod 64
theorem nf_bd (k : Int) : 0 ≤ nf k ∧ nf k < 64 := norm_mod k 64 (by omega) (by omega)
/-- What a store's decision comes to. -/
theorem dcs_store {l : List Reg} {p x ct : Int} : (chk l = false ∨ ct < 0) ∧ dcs l p true x ct = (0, 0, 2) ∨
    chk l = true ∧ 0 ≤ ct ∧ ((fnd l p = none ∧ dcs l p true x ct = (0, 1, 0)) ∨ ∃ r, fnd l p = some r ∧ ((r.w = false ∧ dcs l p true x ct = (0, 2, 0)) ∨ (r.w = true ∧ ((dcs l p true x ct = (1, 0, 0) ∧ pgOk x = true) ∨ dcs l p true x ct = (2, 0, 0) ∨ dcs l p true x ct = (3, 0, 0) ∨ dcs l p true x ct = (4, 0, 0))))) := by
  by_cases h : chk l = false ∨ ct < 0
  · exact .inl ⟨h, dcs_no h⟩
  · have h1 : chk l = true := by cases hc : chk l <;> simp_all
    have h2 : 0 ≤ ct := by omega
    refine .inr ⟨h1, h2, ?_⟩
    rcases hf : fnd l p with _ | r
    · exact .inl ⟨rfl, dcs_none h1 h2 hf⟩
    · refine .inr ⟨r, rfl, ?_⟩
      rw [dcs_some h1 h2 hf]
      rcases hw : r.w with _ | _
      · exact .inl ⟨rfl, rfl⟩
      · refine .inr ⟨rfl, ?_⟩
        rw [if_neg (by simp)]
        rcases hp : pgOk x with _ | _
        · rw [if_pos rfl]; simp
        · rw [if_neg (by simp)]
          rcases h7 : dfl x 3 7 with _ | _
          · simp
          · rw [if_neg (by simp)]
            by_cases hc : ct = 1
            · rw [if_pos hc]; simp
            · rw [if_neg hc]; simp
theorem leaf_ok (f : Int) (ro : Bool) (h0 : 0 ≤ f) (h1 : f < 64) : pgOk (wordV f false ro true true) = true ∧ dfl (wordV f false ro true true) 3 7 = ro ∧ U64 (wordV f false ro true true) := by
  obtain ⟨n, rfl⟩ := Int.eq_ofNat_of_zero_le h0
  have hn : n < 64 := by omega
  have h := word_back3 ⟨n, hn⟩ false ro true true
  have hu : ∀ (f : Fin 64) (ro : Bool), 0 ≤ wordV f.val false ro true true ∧ wordV f.val false ro true true < 18446744073709551616 := by decide +kernel
  have hpg : ∀ (f : Fin 64) (ro : Bool), pgOk (wordV f.val false ro true true) = true ∧ dfl (wordV f.val false ro true true) 3 7 = ro := by decide +kernel
  exact ⟨(hpg ⟨n, hn⟩ ro).1, (hpg ⟨n, hn⟩ ro).2, hu ⟨n, hn⟩ ro⟩
/-- A page that may be written, stored to once more: all is well, and a load then, too. -/
theorem again_well {l : List Reg} {p x ct : Int} {r : Reg} (h1 : chk l = true) (h2 : 0 ≤ ct) (hf : fnd l p = some r) (hw : r.w = true) (hp : pgOk x = true) (h7 : dfl x 3 7 = false) : dcs l p true x ct = (1, 0, 0) ∧ dcs l p false x ct = (1, 0, 0) := by
  rw [dcs_some h1 h2 hf, dcs_some h1 h2 hf]
  simp [hw, hp, h7]
theorem well_ro {l : List Reg} {p x ct : Int} (h : dcs l p true x ct = (1, 0, 0)) : dfl x 3 7 = false := by
  rcases dcs_store (l := l) (p := p) (x := x) (ct := ct) with ⟨_, e⟩ | ⟨h1, h2, ⟨_, e⟩ | ⟨r, hf, ⟨_, e⟩ | ⟨hw, _⟩⟩⟩
  · rw [h] at e; simp at e
  · rw [h] at e; simp at e
  · rw [h] at e; simp at e
  · rw [dcs_some h1 h2 hf, hw] at h
    rcases h7 : dfl x 3 7 with _ | _
    · rfl
    · exfalso
      rw [if_neg (by simp)] at h
      split at h
      · simp at h
      · rw [if_neg (by simp [h7])] at h
        split at h <;> simp at h
end Go.Proofs.YtaikkdlphfmgiaaDoor
