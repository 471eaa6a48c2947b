/-
  Rows of entries, plain: which may be, where one of a place stands, what filling, taking out and dropping make of them.
-/
namespace Go.Proofs.Ytencifnopfianaa
set_option linter.unusedVariables false
section
variable {α : Type} (may : α → Bool) (pl : α → Int × Int × Int)
/-- None of the first j has the place q. -/
def NoB (xs : List α) (q : Int × Int × Int) (j : Nat) : Prop := ∀ (i : Nat) (y : α), i < j → xs[i]? = some y → pl y ≠ q
/-- The first j may be. -/
def OkB (xs : List α) (j : Nat) : Prop := ∀ (i : Nat) (x : α), i < j → xs[i]? = some x → may x = true ∧ NoB pl xs (pl x) i
/-- The row may be. -/
def Ck (mx : Nat) (xs : List α) : Prop := xs.length ≤ mx ∧ OkB may pl xs xs.length
open Classical in
noncomputable def ckE (mx : Nat) (xs : List α) : Int := if Ck may pl mx xs then 0 else 2
/-- Where the entry of a place stands. -/
def fdx (xs : List α) (q : Int × Int × Int) : Option Nat := xs.findIdx? (fun y => decide (pl y = q))
def fdV (xs : List α) (q : Int × Int × Int) : Int := match fdx pl xs q with | some i => (i : Int) | none => -1
open Classical in
noncomputable def filL (mx : Nat) (xs : List α) (e : α) : List α :=
  if Ck may pl mx xs ∧ may e = true then (match fdx pl xs (pl e) with | some n => xs.set n e | none => (if xs.length = mx then xs.drop 1 else xs) ++ [e]) else []
open Classical in
noncomputable def filE (mx : Nat) (xs : List α) (e : α) : Int := if Ck may pl mx xs ∧ may e = true then 0 else 2
open Classical in
noncomputable def witL (mx : Nat) (xs : List α) (k : Int) : List α := if Ck may pl mx xs ∧ 0 ≤ k ∧ k < xs.length then xs.take k.toNat ++ xs.drop (k.toNat + 1) else []
open Classical in
noncomputable def witE (mx : Nat) (xs : List α) (k : Int) : Int := if Ck may pl mx xs then (if 0 ≤ k ∧ k < xs.length then 0 else 4) else 2
open Classical in
noncomputable def drpL (mx : Nat) (xs : List α) (hit : α → Bool) : List α := if Ck may pl mx xs then xs.filter (fun y => !hit y) else []
variable {may} {pl}
theorem NoB.zero (xs : List α) (q : Int × Int × Int) : NoB pl xs q 0 := fun i y hi => by omega
theorem NoB.succ {xs : List α} {q : Int × Int × Int} {j : Nat} {x : α} (h : NoB pl xs q j) (hx : xs[j]? = some x) (hn : pl x ≠ q) : NoB pl xs q (j + 1) := fun i y hi hy => by
  by_cases e : i = j
  · subst e
    rw [hx] at hy
    injection hy with hy
    subst hy
    exact hn
  · exact h i y (by omega) hy
theorem fd_hit {xs : List α} {q : Int × Int × Int} {j : Nat} {x : α} (h : NoB pl xs q j) (hx : xs[j]? = some x) (he : pl x = q) : fdx pl xs q = some j := by
  obtain ⟨hj, rfl⟩ := List.getElem?_eq_some_iff.1 hx
  unfold fdx
  rw [List.findIdx?_eq_some_iff_getElem]
  refine ⟨hj, by simpa using he, fun i hi => ?_⟩
  have := h i xs[i] hi (List.getElem?_eq_getElem (by omega))
  simpa using this
theorem fd_no {xs : List α} {q : Int × Int × Int} {j : Nat} (h : NoB pl xs q j) (hj : xs.length ≤ j) : fdx pl xs q = none := by
  unfold fdx
  rw [List.findIdx?_eq_none_iff]
  intro x hx
  obtain ⟨i, hi, rfl⟩ := List.getElem_of_mem hx
  have := h i xs[i] (by omega) (List.getElem?_eq_getElem hi)
  simpa using this
theorem fd_some {xs : List α} {q : Int × Int × Int} {j : Nat} (h : fdx pl xs q = some j) : ∃ x, xs[j]? = some x ∧ pl x = q ∧ NoB pl xs q j := by
  unfold fdx at h
  rw [List.findIdx?_eq_some_iff_getElem] at h
  obtain ⟨hj, he, hn⟩ := h
  refine ⟨xs[j], List.getElem?_eq_getElem hj, by simpa using he, fun i y hi hy => ?_⟩
  obtain ⟨hi', rfl⟩ := List.getElem?_eq_some_iff.1 hy
  have := hn i hi
  simpa using this
theorem fd_none {xs : List α} {q : Int × Int × Int} (h : fdx pl xs q = none) (j : Nat) : NoB pl xs q j := by
  intro i y hi hy
  unfold fdx at h
  rw [List.findIdx?_eq_none_iff] at h
  have := h y (List.mem_of_getElem? hy)
  simpa using this
theorem fv_hit {xs : List α} {q : Int × Int × Int} {j : Nat} {x : α} (h : NoB pl xs q j) (hx : xs[j]? = some x) (he : pl x = q) : fdV pl xs q = j := by unfold fdV; rw [fd_hit h hx he]
theorem fv_no {xs : List α} {q : Int × Int × Int} {j : Nat} (h : NoB pl xs q j) (hj : xs.length ≤ j) : fdV pl xs q = -1 := by unfold fdV; rw [fd_no h hj]
theorem fv_cases (xs : List α) (q : Int × Int × Int) : (∃ j : Nat, fdx pl xs q = some j ∧ fdV pl xs q = j ∧ j < xs.length) ∨ (fdx pl xs q = none ∧ fdV pl xs q = -1) := by
  unfold fdV
  cases h : fdx pl xs q with
  | none => exact Or.inr ⟨rfl, rfl⟩
  | some j =>
    obtain ⟨x, hx, -, -⟩ := fd_some h
    exact Or.inl ⟨j, rfl, rfl, (List.getElem?_eq_some_iff.1 hx).1⟩
theorem OkB.zero (xs : List α) : OkB may pl xs 0 := fun i x hi => by omega
theorem NoB.take {xs : List α} {q : Int × Int × Int} {j : Nat} (h : fdV pl (xs.take j) q = -1) : NoB pl xs q j := by
  rcases fv_cases (pl := pl) (xs.take j) q with ⟨i, -, h2, -⟩ | ⟨h1, -⟩
  · rw [h] at h2; omega
  · intro i y hi hy
    exact fd_none h1 (i + 1) i y (by omega) (by rw [List.getElem?_take_of_lt hi]; exact hy)
theorem NoB.not_take {xs : List α} {q : Int × Int × Int} {j : Nat} (h : 0 ≤ fdV pl (xs.take j) q) : ¬ NoB pl xs q j := fun hn => by
  rcases fv_cases (pl := pl) (xs.take j) q with ⟨i, h1, h2, h3⟩ | ⟨-, h2⟩
  · obtain ⟨x, hx, he, -⟩ := fd_some h1
    have hl : i < j := by rw [List.length_take] at h3; omega
    rw [List.getElem?_take_of_lt hl] at hx
    exact hn i x hl hx he
  · omega
theorem OkB.succ {xs : List α} {j : Nat} {x : α} (h : OkB may pl xs j) (hx : xs[j]? = some x) (h1 : may x = true) (h2 : NoB pl xs (pl x) j) : OkB may pl xs (j + 1) := fun i y hi hy => by
  by_cases e : i = j
  · subst e
    rw [hx] at hy
    injection hy with hy
    subst hy
    exact ⟨h1, h2⟩
  · exact h i y (by omega) hy
theorem ck_yes {mx : Nat} {xs : List α} (h : Ck may pl mx xs) : ckE may pl mx xs = 0 := if_pos h
theorem ck_no {mx : Nat} {xs : List α} (h : ¬ Ck may pl mx xs) : ckE may pl mx xs = 2 := if_neg h
theorem ck_done {mx : Nat} {xs : List α} {j : Nat} (h : OkB may pl xs j) (hj : xs.length ≤ j) (hl : xs.length ≤ mx) : ckE may pl mx xs = 0 := ck_yes ⟨hl, fun i x hi hx => h i x (by omega) hx⟩
theorem ck_long {mx : Nat} {xs : List α} (h : mx < xs.length) : ckE may pl mx xs = 2 := ck_no (fun hc => by have := hc.1; omega)
theorem ck_may {mx : Nat} {xs : List α} {j : Nat} {x : α} (hx : xs[j]? = some x) (h : may x = false) : ckE may pl mx xs = 2 := ck_no (fun hc => by
  have := (hc.2 j x (List.getElem?_eq_some_iff.1 hx).1 hx).1
  rw [h] at this
  exact Bool.noConfusion this)
theorem ck_twice {mx : Nat} {xs : List α} {j : Nat} {x : α} (hx : xs[j]? = some x) (h : ¬ NoB pl xs (pl x) j) : ckE may pl mx xs = 2 := ck_no (fun hc => h (hc.2 j x (List.getElem?_eq_some_iff.1 hx).1 hx).2)
theorem ckE_cases (may : α → Bool) (pl : α → Int × Int × Int) (mx : Nat) (xs : List α) : (Ck may pl mx xs ∧ ckE may pl mx xs = 0) ∨ (¬ Ck may pl mx xs ∧ ckE may pl mx xs = 2) := by
  by_cases h : Ck may pl mx xs
  · exact Or.inl ⟨h, ck_yes h⟩
  · exact Or.inr ⟨h, ck_no h⟩
end
end Go.Proofs.Ytencifnopfianaa
