/-
  Regions of an address space, as plain numbers: which rows may be, where a page is.
-/
import Derived.Test.YtgfogbifbpadoaaCommon
namespace Go.Proofs.Ytgfogbifbpadoaa
open Go.RowKit
set_option linter.unusedVariables false
set_option linter.unusedSimpArgs false
/-- A stretch of pages. -/
structure Reg where
  f : Int
  c : Int
  w : Bool
/-- Its fields are numbers of their kinds. -/
def Reg.wf (r : Reg) : Prop := (0 ≤ r.f ∧ r.f < 18446744073709551616) ∧ (-9223372036854775808 ≤ r.c ∧ r.c < 9223372036854775808)
def rg (l : List Reg) (k : Nat) : Reg := l.getD k ⟨0, 0, false⟩
theorem rg_drop (l : List Reg) (k : Nat) (h : k < l.length) : l.drop k = rg l k :: l.drop (k + 1) := by
  unfold rg
  rw [List.drop_eq_getElem_cons h, List.getD_eq_getElem?_getD, List.getElem?_eq_getElem h, Option.getD_some]
theorem rg_mem (l : List Reg) (k : Nat) (h : k < l.length) : rg l k ∈ l := by
  unfold rg
  rw [List.getD_eq_getElem?_getD, List.getElem?_eq_getElem h, Option.getD_some]
  exact List.getElem_mem h
/-- A stretch that may be. -/
def eB (f c : Int) : Bool := decide (1 ≤ c) && decide (c ≤ 34359738368) && decide (f ≤ 34359738368 - c)
theorem eB_iff (f c : Int) : eB f c = true ↔ 1 ≤ c ∧ c ≤ 34359738368 ∧ f ≤ 34359738368 - c := by simp [eB, and_assoc]
def chainB (at0 : Int) : List Reg → Bool
  | [] => true
  | r :: l => eB r.f r.c && (decide (at0 ≤ r.f) && chainB (r.f + r.c) l)
def rchainB (at0 : Int) : List Reg → Bool
  | [] => true
  | r :: l => (decide (1 ≤ r.c) && decide (r.c ≤ 16) && decide (r.f ≤ 34359738368 - r.c)) && (decide (at0 ≤ r.f) && rchainB (r.f + r.c) l)
def pgs : List Reg → Int
  | [] => 0
  | r :: l => r.c + pgs l
/-- The rows of regions that may be. -/
def chk (l : List Reg) : Bool := decide (l.length ≤ 8) && (chainB 0 l && decide (pgs l ≤ 16))
def chkR (l : List Reg) : Bool := decide (l.length ≤ 8) && (rchainB 0 l && decide (pgs l ≤ 16))
theorem chain_of_r : ∀ (l : List Reg) (a : Int), rchainB a l = true → chainB a l = true
  | [], _, _ => rfl
  | r :: l, a, h => by
    simp only [rchainB, Bool.and_eq_true, decide_eq_true_eq] at h
    simp only [chainB, Bool.and_eq_true, decide_eq_true_eq, eB_iff]
    exact ⟨⟨h.1.1.1, by omega, h.1.2⟩, h.2.1, chain_of_r l _ h.2.2⟩
theorem chain_pgs : ∀ (l : List Reg) (a : Int), chainB a l = true → 0 ≤ pgs l
  | [], _, _ => by simp [pgs]
  | r :: l, a, h => by
    simp only [chainB, Bool.and_eq_true, decide_eq_true_eq, eB_iff] at h
    have := chain_pgs l _ h.2.2
    simp only [pgs]
    omega
theorem r_of_chain : ∀ (l : List Reg) (a : Int), chainB a l = true → pgs l ≤ 16 → rchainB a l = true
  | [], _, _, _ => rfl
  | r :: l, a, h, hp => by
    simp only [chainB, Bool.and_eq_true, decide_eq_true_eq, eB_iff] at h
    have h0 := chain_pgs l _ h.2.2
    simp only [pgs] at hp
    simp only [rchainB, Bool.and_eq_true, decide_eq_true_eq]
    exact ⟨⟨⟨h.1.1, by omega⟩, h.1.2.2⟩, h.2.1, r_of_chain l _ h.2.2 (by omega)⟩
theorem chk_eq (l : List Reg) : chkR l = chk l := by
  rw [Bool.eq_iff_iff]
  simp only [chk, chkR, Bool.and_eq_true, decide_eq_true_eq]
  exact ⟨fun h => ⟨h.1, chain_of_r l _ h.2.1, h.2.2⟩, fun h => ⟨h.1, r_of_chain l _ h.2.1 h.2.2, h.2.2⟩⟩
theorem chain_at : ∀ (l : List Reg) (a : Int), chainB a l = true → ∀ k, k < l.length → a ≤ (rg l k).f ∧ 1 ≤ (rg l k).c ∧ (rg l k).c ≤ 34359738368 ∧ (rg l k).f ≤ 34359738368 - (rg l k).c
  | [], _, _, k, hk => by simp at hk
  | r :: l, a, h, 0, _ => by
    simp only [chainB, Bool.and_eq_true, decide_eq_true_eq, eB_iff] at h
    exact ⟨h.2.1, h.1⟩
  | r :: l, a, h, k + 1, hk => by
    simp only [chainB, Bool.and_eq_true, decide_eq_true_eq, eB_iff] at h
    have := chain_at l _ h.2.2 k (by simpa using hk)
    have e : rg (r :: l) (k + 1) = rg l k := rfl
    rw [e]
    exact ⟨by omega, this.2⟩
theorem chain_lt : ∀ (l : List Reg) (a : Int), chainB a l = true → ∀ i j, i < j → j < l.length → (rg l i).f + (rg l i).c ≤ (rg l j).f
  | [], _, _, i, j, _, hj => by simp at hj
  | r :: l, a, h, i, 0, hi, _ => by omega
  | r :: l, a, h, 0, j + 1, _, hj => by
    simp only [chainB, Bool.and_eq_true, decide_eq_true_eq, eB_iff] at h
    exact (chain_at l _ h.2.2 j (by simpa using hj)).1
  | r :: l, a, h, i + 1, j + 1, hi, hj => by
    simp only [chainB, Bool.and_eq_true, decide_eq_true_eq, eB_iff] at h
    exact chain_lt l _ h.2.2 i j (by omega) (by simpa using hj)
theorem chk_parts {l : List Reg} (h : chk l = true) : l.length ≤ 8 ∧ chainB 0 l = true ∧ pgs l ≤ 16 := by
  simpa [chk] using h
/-- Is a page in a region? -/
def inR (p : Int) (r : Reg) : Bool := decide (r.f ≤ p) && decide (p < r.f + r.c)
def fnd (l : List Reg) (p : Int) : Option Reg := if chk l then l.find? (inR p) else none
theorem fnd_no {l : List Reg} {p : Int} (h : chk l = false) : fnd l p = none := by simp [fnd, h]
theorem find_rg (l : List Reg) (q : Reg → Bool) (k : Nat) (hk : k < l.length) (hq : q (rg l k) = true) (hl : ∀ i, i < k → q (rg l i) = false) : l.find? q = some (rg l k) := by
  induction l generalizing k with
  | nil => simp at hk
  | cons r l ih =>
    cases k with
    | zero =>
      have : q r = true := hq
      rw [List.find?_cons_of_pos this]; rfl
    | succ k =>
      have h0 : q r = false := hl 0 (by omega)
      rw [List.find?_cons_of_neg (by simp [h0])]
      exact ih k (by simpa using hk) hq (fun i hi => hl (i + 1) (by omega))
theorem find_none (l : List Reg) (q : Reg → Bool) (hl : ∀ i, i < l.length → q (rg l i) = false) : l.find? q = none := by
  rw [List.find?_eq_none]
  intro r hr
  obtain ⟨i, hi, rfl⟩ := List.mem_iff_getElem.1 hr
  have := hl i hi
  unfold rg at this
  rw [List.getD_eq_getElem?_getD, List.getElem?_eq_getElem hi, Option.getD_some] at this
  simp [this]
/-- Where a search ends: the first region that ends behind a page. -/
def Plc (l : List Reg) (p : Int) (k : Nat) : Prop := k ≤ l.length ∧ (∀ i, i < k → (rg l i).f + (rg l i).c ≤ p) ∧ (∀ i, k ≤ i → i < l.length → p < (rg l i).f + (rg l i).c)
theorem plc_none {l : List Reg} {p : Int} {k : Nat} (hc : chk l = true) (h : Plc l p k) (hk : k = l.length ∨ p < (rg l k).f) : fnd l p = none := by
  obtain ⟨_, h1, _⟩ := chk_parts hc
  unfold fnd
  rw [if_pos hc]
  refine find_none l _ (fun i hi => ?_)
  unfold inR
  by_cases a : i < k
  · have := h.2.1 i a
    simp; omega
  · rcases hk with hk | hk
    · omega
    · by_cases e : i = k
      · subst e; simp; omega
      · have := chain_lt l 0 h1 k i (by omega) hi
        have := h.2.2 k (Nat.le_refl _) (by omega)
        simp; omega
theorem plc_some {l : List Reg} {p : Int} {k : Nat} (hc : chk l = true) (h : Plc l p k) (hk : k < l.length) (hp : (rg l k).f ≤ p) : fnd l p = some (rg l k) := by
  unfold fnd
  rw [if_pos hc]
  refine find_rg l _ k hk ?_ (fun i hi => ?_)
  · have := h.2.2 k (Nat.le_refl _) hk
    simp [inR, hp, this]
  · have := h.2.1 i hi
    simp [inR]; omega
theorem fnd_drop {l : List Reg} {p : Int} (hc : chk l = true) : fnd l p = (l.drop 0).find? (inR p) := by simp [fnd, hc]
/-- What a page's look-up answers. -/
def fndV : Option Reg → Value
  | none => .tuple #[.agg #[.int .u64 0, .int .i64 0, .bool false], .bool false]
  | some r => .tuple #[.agg #[.int .u64 r.f, .int .i64 r.c, .bool r.w], .bool true]
end Go.Proofs.Ytgfogbifbpadoaa
