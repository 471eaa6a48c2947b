/-
  ProcMay's tables: how many live threads a space has so far, who runs so far.
-/
import Derived.Test.YtgfogbifbpadoaaPcInvE
namespace Go.Proofs.Ytgfogbifbpadoaa
open Go.RowKit Go.Maps
set_option linter.unusedVariables false
set_option linter.unusedSimpArgs false
/-- Live threads of space q among those from 1 to n - 1. -/
def lvF (H : Hs) (q : Nat) : Nat → Nat
  | 0 => 0
  | n + 1 => lvF H q n + (if n = 0 then 0 else ln q (H.th n))
theorem lvF_one (H : Hs) (q : Nat) : lvF H q 1 = 0 := rfl
theorem lvF_succ (H : Hs) (q : Nat) {n : Nat} (h : 1 ≤ n) : lvF H q (n + 1) = lvF H q n + ln q (H.th n) := by
  rw [lvF, if_neg (by omega)]
theorem lvF_nine (H : Hs) (q : Nat) : lvF H q 9 = cntL H q := by
  rw [lvF_succ H q (by omega), lvF_succ H q (by omega), lvF_succ H q (by omega), lvF_succ H q (by omega), lvF_succ H q (by omega), lvF_succ H q (by omega), lvF_succ H q (by omega), lvF_succ H q (by omega), lvF_one]
  unfold cntL sum8
  dsimp only
  omega
theorem lvF_le (H : Hs) (q : Nat) : ∀ n, lvF H q n ≤ n
  | 0 => Nat.le_refl _
  | n + 1 => by
    have h1 := lvF_le H q n
    have h2 := ln_le q (H.th n)
    unfold lvF
    split <;> omega
/-- Does one of the threads from 1 to n - 1 run on core d? -/
def onF (H : Hs) (d : Int) : Nat → Bool
  | 0 => false
  | n + 1 => onF H d n || (decide (1 ≤ n) && (decide (0 < d) && (H.th n).core == d))
theorem onF_one (H : Hs) (d : Int) : onF H d 1 = false := rfl
theorem onF_succ (H : Hs) (d : Int) {n : Nat} (h : 1 ≤ n) (hd : 0 < d) : onF H d (n + 1) = (onF H d n || (H.th n).core == d) := by
  rw [onF, decide_eq_true h, decide_eq_true hd, Bool.true_and, Bool.true_and]
theorem onF_some {H : Hs} {d : Int} : ∀ {n : Nat}, onF H d n = true → ∃ k, 1 ≤ k ∧ k < n ∧ 0 < d ∧ (H.th k).core = d
  | 0, h => by cases h
  | n + 1, h => by
    rw [onF, Bool.or_eq_true] at h
    rcases h with h | h
    · obtain ⟨k, h1, h2, h3⟩ := onF_some h
      exact ⟨k, h1, by omega, h3⟩
    · simp only [Bool.and_eq_true, decide_eq_true_eq, beq_iff_eq] at h
      exact ⟨n, h.1, by omega, h.2.1, h.2.2⟩
theorem onF_of {H : Hs} {d : Int} : ∀ {n k : Nat}, 1 ≤ k → k < n → 0 < d → (H.th k).core = d → onF H d n = true
  | 0, _, _, h, _, _ => by omega
  | n + 1, k, h1, h2, h3, h4 => by
    rw [onF, Bool.or_eq_true]
    by_cases e : k = n
    · subst e
      exact .inr (by simp [h1, h3, h4])
    · exact .inl (onF_of h1 (by omega) h3 h4)
/-- No two run on one core. -/
theorem onF_fresh {H : Hs} (hI : Inv H) {n : Nat} (h1 : 1 ≤ n) (h8 : n ≤ 8) (hc : (H.th n).core ≠ 0) : onF H (H.th n).core n = false := by
  cases h : onF H (H.th n).core n with
  | false => rfl
  | true =>
    obtain ⟨k, k1, k2, -, k4⟩ := onF_some h
    have a := (hI.runs n h1 h8 hc).1
    have b := (hI.runs k k1 (by omega) (by rw [k4]; exact hc)).1
    rw [k4, a] at b
    injection b with b
    omega
/-- Behind all threads: who runs is who is said to. -/
theorem onF_end {H : Hs} (hI : Inv H) {d : Int} (hd : 1 ≤ d) : onF H d 9 = (H.on d).isSome := by
  cases h : H.on d with
  | some t =>
    obtain ⟨k, e, k1, k8, k4, -⟩ := hI.on d t h
    exact onF_of k1 (by omega) (by omega) k4
  | none =>
    cases h2 : onF H d 9 with
    | false => rfl
    | true =>
      obtain ⟨k, k1, k9, -, k4⟩ := onF_some h2
      have := (hI.runs k k1 (by omega) (by rw [k4]; omega)).1
      rw [k4, h] at this
      cases this
/-- What a space that is not there has. -/
theorem cnt_gone {H : Hs} (hI : Inv H) {q : Nat} (q1 : 1 ≤ q) (q6 : q ≤ 6) (h : sthereB H q = false) : cntL H q = 0 := by
  have := hI.thr q q1 q6
  simp only [sthereB, Int.toNat_natCast, Bool.and_eq_false_iff, decide_eq_false_iff_not, Bool.not_eq_false', beq_iff_eq] at h
  rcases h with (h | h) | h <;> omega
/-- The law's own table of live threads. -/
def lvI (H : Hs) (n i : Nat) : Nat := if i = 0 then 0 else lvF H i n
def lvA (H : Hs) (n : Nat) : Array Value := Array.ofFn (n := 7) fun i => Value.int .i64 (lvI H n i.val : Nat)
def onA (H : Hs) (n : Nat) : Array Value := Array.ofFn (n := 9) fun i => Value.bool (onF H ((i.val : Nat) : Int) n)
theorem lvA_at (H : Hs) (n : Nat) {i : Nat} (hi : i < 7) : (lvA H n)[i]? = some (.int .i64 (lvI H n i : Nat)) := by simp [lvA, hi]
theorem onA_at (H : Hs) (n : Nat) {i : Nat} (hi : i < 9) : (onA H n)[i]? = some (.bool (onF H ((i : Nat) : Int) n)) := by simp [onA, hi]
theorem lvA_one (H : Hs) : lvA H 1 = #[.int .i64 0, .int .i64 0, .int .i64 0, .int .i64 0, .int .i64 0, .int .i64 0, .int .i64 0] := by
  have h : ∀ i, lvI H 1 i = 0 := fun i => by unfold lvI; split <;> rfl
  apply Array.ext_getElem?
  intro j
  by_cases hj : j < 7
  · rw [lvA_at H 1 hj, h]
    rcases (show j = 0 ∨ j = 1 ∨ j = 2 ∨ j = 3 ∨ j = 4 ∨ j = 5 ∨ j = 6 by omega) with rfl | rfl | rfl | rfl | rfl | rfl | rfl <;> rfl
  · simp [lvA, hj]
theorem onA_one (H : Hs) : onA H 1 = #[.bool false, .bool false, .bool false, .bool false, .bool false, .bool false, .bool false, .bool false, .bool false] := by
  apply Array.ext_getElem?
  intro j
  by_cases hj : j < 9
  · rw [onA_at H 1 hj, onF_one]
    rcases (show j = 0 ∨ j = 1 ∨ j = 2 ∨ j = 3 ∨ j = 4 ∨ j = 5 ∨ j = 6 ∨ j = 7 ∨ j = 8 by omega) with rfl | rfl | rfl | rfl | rfl | rfl | rfl | rfl | rfl <;> rfl
  · simp [onA, hj]
theorem lvA_set (H : Hs) {n q : Nat} (h1 : 1 ≤ n) (hq : (H.th n).sp = q) (q1 : 1 ≤ q) (q6 : q ≤ 6) (hd : (H.th n).dead = false) : (lvA H n).setIfInBounds q (.int .i64 ((lvI H n q : Nat) + 1)) = lvA H (n + 1) := by
  have hs : ∀ i : Nat, lvI H (n + 1) i = if i = q then lvI H n q + 1 else lvI H n i := fun i => by
    unfold lvI
    by_cases e : i = q
    · subst e
      rw [if_neg (by omega), if_pos rfl, if_neg (by omega), lvF_succ H i h1]
      unfold ln
      rw [if_pos ⟨hq, hd⟩]
    · by_cases e0 : i = 0
      · rw [if_pos e0, if_neg e, if_pos e0]
      · rw [if_neg e0, if_neg e, if_neg e0, lvF_succ H i h1]
        unfold ln
        rw [if_neg (fun hh => e (by have := hh.1; omega))]
        rfl
  apply Array.ext_getElem?
  intro j
  rw [Array.getElem?_setIfInBounds]
  by_cases e : q = j
  · subst e
    rw [if_pos rfl, if_pos (by simp [lvA]; omega), lvA_at _ _ (by omega), hs, if_pos rfl]
    simp
  · rw [if_neg e]
    by_cases hj : j < 7
    · rw [lvA_at _ _ hj, lvA_at _ _ hj, hs, if_neg (fun h => e h.symm)]
    · simp [lvA, hj]
theorem lvA_same (H : Hs) {n : Nat} (h1 : 1 ≤ n) (h : (H.th n).sp = 0 ∨ (H.th n).dead = true) : lvA H (n + 1) = lvA H n := by
  have hs : ∀ i : Nat, lvI H (n + 1) i = lvI H n i := fun i => by
    unfold lvI
    by_cases e0 : i = 0
    · rw [if_pos e0, if_pos e0]
    · rw [if_neg e0, if_neg e0, lvF_succ H i h1]
      unfold ln
      rw [if_neg]
      · rfl
      · rintro ⟨a, b⟩
        rcases h with h | h
        · omega
        · rw [h] at b; cases b
  unfold lvA
  simp only [hs]
theorem onA_same (H : Hs) {n : Nat} (h1 : 1 ≤ n) (h : (H.th n).core = 0) : onA H (n + 1) = onA H n := by
  have hs : ∀ i : Nat, onF H (i : Int) (n + 1) = onF H (i : Int) n := fun i => by
    rw [onF, h]
    by_cases e : i = 0
    · subst e; simp
    · have : ((0 : Int) == (i : Int)) = false := by simp; omega
      rw [this]; simp
  unfold onA
  simp only [hs]
theorem onA_set (H : Hs) {n j : Nat} (h1 : 1 ≤ n) (hj : (H.th n).core = j) (j1 : 1 ≤ j) (j8 : j ≤ 8) : (onA H n).setIfInBounds j (.bool true) = onA H (n + 1) := by
  have hs : ∀ i : Nat, onF H (i : Int) (n + 1) = if i = j then true else onF H (i : Int) n := fun i => by
    rw [onF, hj]
    by_cases e : i = j
    · subst e
      rw [if_pos rfl]
      have : decide (0 < (i : Int)) = true := by simp; omega
      simp [h1]
      right; omega
    · have : ((j : Int) == (i : Int)) = false := by simp; omega
      rw [this, if_neg e]; simp
  apply Array.ext_getElem?
  intro i
  rw [Array.getElem?_setIfInBounds]
  by_cases e : j = i
  · subst e
    rw [if_pos rfl, if_pos (by simp [onA]; omega), onA_at _ _ (by omega), hs, if_pos rfl]
  · rw [if_neg e]
    by_cases hi : i < 9
    · rw [onA_at _ _ hi, onA_at _ _ hi, hs, if_neg (fun h => e h.symm)]
    · simp [onA, hi]
/-- What is not there runs nowhere. -/
theorem gone_core {H : Hs} (hI : Inv H) {n : Nat} (h1 : 1 ≤ n) (h8 : n ≤ 8) (h : (H.th n).sp = 0) : (H.th n).core = 0 := by
  by_cases e : (H.th n).core = 0
  · exact e
  · exact absurd h (hI.runs n h1 h8 e).2.2
theorem thereB_nat (H : Hs) {n : Nat} (h1 : 1 ≤ n) (h8 : n ≤ 8) : thereB H (n : Int) = !((H.th n).sp == 0) := by
  have a1 : decide (1 ≤ (n : Int)) = true := by simp; omega
  have a2 : decide ((n : Int) ≤ 8) = true := by simp; omega
  rw [thereB, a1, a2, Int.toNat_natCast]; rfl
theorem sthereB_nat (H : Hs) {n : Nat} (h1 : 1 ≤ n) (h6 : n ≤ 6) : sthereB H (n : Int) = !((H.sp n).thr == 0) := by
  have a1 : decide (1 ≤ (n : Int)) = true := by simp; omega
  have a2 : decide ((n : Int) ≤ 6) = true := by simp; omega
  rw [sthereB, a1, a2, Int.toNat_natCast]; rfl
theorem chain_wf : ∀ (l : List Reg) (a : Int), 0 ≤ a → chainB a l = true → ∀ i, i < l.length → (rg l i).wf
  | [], _, _, _, i, hi => by simp at hi
  | r :: l, a, ha, h, i, hi => by
    simp only [chainB, Bool.and_eq_true, decide_eq_true_eq, eB_iff] at h
    cases i with
    | zero => exact ⟨⟨by show 0 ≤ r.f; omega, by show r.f < _; omega⟩, ⟨by show _ ≤ r.c; omega, by show r.c < _; omega⟩⟩
    | succ i => exact chain_wf l _ (by omega) h.2.2 i (by simpa using hi)
theorem chk_wf {l : List Reg} (h : chk l = true) : ∀ i, i < l.length → (rg l i).wf := chain_wf l 0 (Int.le_refl 0) (chk_parts h).2.1
end Go.Proofs.Ytgfogbifbpadoaa
