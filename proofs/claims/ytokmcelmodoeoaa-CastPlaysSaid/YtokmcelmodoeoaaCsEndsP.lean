/-
  The law CastEnds of layer 13, without the program: what was sent and is not yet acknowledged, sender by sender.
-/
import Derived.Test.YtokmcelmodoeoaaCsSent
import Derived.Test.YtokmcelmodoeoaaCsAloneW
namespace Go.Proofs.Ytokmcelmodoeoaa
open Go.RowKit
set_option linter.unusedVariables false
set_option linter.unusedSimpArgs false
/-- What core k has of sender s. -/
def proj (rows : Nat → List Pr) (k s : Nat) : List Tq := ((rows (k - 1)).filter fun x => x.s == (s : Int)).map Pr.t
/-- All rows are of cores that are, all senders too. -/
structure Wr (n : Nat) (rows : Nat → List Pr) : Prop where
  out : ∀ k, n ≤ k → rows k = []
  snd : ∀ k x, x ∈ rows k → 1 ≤ x.s ∧ x.s ≤ n
def Pj (n : Nat) (rows : Nat → List Pr) (ss : Nat → List Tq) : Prop := ∀ k s, 1 ≤ k → k ≤ n → 1 ≤ s → s ≤ n → ss (k * 9 + s) = proj rows k s
theorem wr_no (n : Nat) : Wr n noRows := ⟨fun _ _ => rfl, fun k x hx => by simp [noRows] at hx⟩
theorem pj_no (n : Nat) : Pj n noRows noQ := fun k s _ _ _ _ => rfl
theorem sndE_has {n : Nat} {rows : Nat → List Pr} {x : Pr} (h : sndE n rows x = 0) : hasB n x.s = true := by
  unfold sndE at h
  rcases hh : hasB n x.s with _ | _
  · rw [hh] at h; simp at h
  · rfl
theorem wr_snd {n : Nat} {rows : Nat → List Pr} (h : Wr n rows) (x : Pr) : Wr n (sndR n rows x) := by
  unfold sndR
  by_cases e : sndE n rows x = 0
  · rw [if_pos e]
    have hh := (hasB_iff _ _).1 (sndE_has e)
    refine ⟨fun k hk => ?_, fun k y hy => ?_⟩
    · simp only [sndK]
      rw [if_neg (by omega)]
      exact h.out k hk
    · simp only [sndK] at hy
      by_cases h1 : k < n ∧ (k : Int) + 1 ≠ x.s
      · rw [if_pos h1] at hy
        rcases List.mem_append.1 hy with hy | hy
        · exact h.snd k y hy
        · simp at hy; rw [hy]; exact hh
      · rw [if_neg h1] at hy
        exact h.snd k y hy
  · rw [if_neg e]; exact h
theorem wr_all (n : Nat) (l : List Ac) : Wr n (sendAll n l) := by
  unfold sendAll
  have : ∀ (l : List Ac) (r : Nat → List Pr), Wr n r → Wr n (l.foldl (fun r x => sndR n r (acP x)) r) := by
    intro l
    induction l with
    | nil => intro r h; exact h
    | cons x l ih => intro r h; exact ih _ (wr_snd h _)
  exact this l _ (wr_no n)
theorem proj_snd {n : Nat} {rows : Nat → List Pr} {x : Pr} {k s : Nat} (h0 : sndE n rows x = 0) (hk1 : 1 ≤ k) (hk : k ≤ n) : proj (sndR n rows x) k s = if (k : Int) ≠ x.s ∧ (s : Int) = x.s then proj rows k s ++ [x.t] else proj rows k s := by
  unfold sndR
  rw [if_pos h0]
  unfold proj
  simp only [sndK]
  by_cases h1 : (k : Int) = x.s
  · rw [if_neg (by omega), if_neg (by omega)]
  · rw [if_pos (by omega)]
    rw [List.filter_append, List.map_append]
    by_cases h2 : (s : Int) = x.s
    · rw [if_pos ⟨h1, h2⟩]
      congr 1
      simp [h2]
    · rw [if_neg (fun h => h2 h.2)]
      have : (x.s == (s : Int)) = false := by simpa using fun e => h2 e.symm
      simp [this]
/-- While sent is written: cores below k have it. -/
def Pk (n : Nat) (rows rows' : Nat → List Pr) (k : Nat) (ss : Nat → List Tq) : Prop := ∀ j s, 1 ≤ j → j ≤ n → 1 ≤ s → s ≤ n → ss (j * 9 + s) = if j < k then proj rows' j s else proj rows j s
theorem pk_start {n : Nat} {rows rows' : Nat → List Pr} {ss : Nat → List Tq} (h : Pj n rows ss) : Pk n rows rows' 1 ss := fun j s h1 h2 h3 h4 => by rw [if_neg (by omega)]; exact h j s h1 h2 h3 h4
theorem pk_end {n : Nat} {rows rows' : Nat → List Pr} {ss : Nat → List Tq} (h : Pk n rows rows' (n + 1) ss) : Pj n rows' ss := fun j s h1 h2 h3 h4 => by have := h j s h1 h2 h3 h4; rwa [if_pos (by omega)] at this
theorem pk_skip {n : Nat} {rows : Nat → List Pr} {x : Pr} {k : Nat} {ss : Nat → List Tq} (h0 : sndE n rows x = 0) (hk1 : 1 ≤ k) (hk : k ≤ n) (hx : (k : Int) = x.s) (h : Pk n rows (sndR n rows x) k ss) : Pk n rows (sndR n rows x) (k + 1) ss := fun j s h1 h2 h3 h4 => by
  rw [h j s h1 h2 h3 h4]
  by_cases e : j < k
  · rw [if_pos e, if_pos (by omega)]
  · rw [if_neg e]
    by_cases e2 : j < k + 1
    · obtain rfl : j = k := by omega
      rw [if_pos e2, proj_snd h0 h1 h2, if_neg (fun h => h.1 hx)]
    · rw [if_neg e2]
theorem pk_push {n : Nat} {rows : Nat → List Pr} {x : Pr} {k t : Nat} {ss : Nat → List Tq} (h0 : sndE n rows x = 0) (hk1 : 1 ≤ k) (hk : k ≤ n) (hn : n ≤ 8) (hx : (k : Int) ≠ x.s) (ht : (t : Int) = x.s) (h : Pk n rows (sndR n rows x) k ss) : Pk n rows (sndR n rows x) (k + 1) (upS ss (k * 9 + t) (ss (k * 9 + t) ++ [x.t])) := fun j s h1 h2 h3 h4 => by
  have hh := (hasB_iff _ _).1 (sndE_has h0)
  by_cases e : j = k
  · subst e
    rw [if_pos (by omega), proj_snd h0 h1 h2]
    have h' := h j s h1 h2 h3 h4
    rw [if_neg (by omega)] at h'
    by_cases e2 : s = t
    · subst e2
      rw [upS_same, if_pos ⟨hx, ht⟩, h']
    · rw [upS_other _ _ (by omega), if_neg (fun h => by omega), h']
  · rw [upS_other _ _ (by omega), h j s h1 h2 h3 h4]
    by_cases e2 : j < k
    · rw [if_pos e2, if_pos (by omega)]
    · rw [if_neg e2, if_neg (by omega)]
/-- All pairs. -/
def sumLen (rows : Nat → List Pr) : Nat → Nat
  | 0 => 0
  | n + 1 => sumLen rows n + (rows n).length
theorem sumLen_le {rows : Nat → List Pr} (h : ∀ k, k < 8 → (rows k).length ≤ 16) : ∀ n, n ≤ 8 → sumLen rows n ≤ n * 16
  | 0, _ => by simp [sumLen]
  | n + 1, hn => by
    have := sumLen_le h n (by omega)
    have := h n (by omega)
    simp only [sumLen]
    omega
theorem sumLen_upd {rows : Nat → List Pr} {k : Nat} {l : List Pr} : ∀ n, sumLen (upR rows k l) n + (if k < n then (rows k).length else 0) = sumLen rows n + (if k < n then l.length else 0)
  | 0 => by simp [sumLen]
  | n + 1 => by
    have ih := sumLen_upd (rows := rows) (k := k) (l := l) n
    simp only [sumLen]
    by_cases e : n = k
    · subst e
      rw [upR_same]
      simp only [Nat.lt_irrefl, if_false] at ih
      simp only [Nat.lt_succ_self, if_true]
      omega
    · rw [upR_other _ _ e]
      by_cases e2 : k < n
      · simp only [if_pos e2] at ih
        simp only [if_pos (show k < n + 1 by omega)]
        omega
      · simp only [if_neg e2] at ih
        simp only [if_neg (show ¬ k < n + 1 by omega)]
        omega
theorem sumLen_pos {rows : Nat → List Pr} : ∀ n, 0 < sumLen rows n → ∃ k, k < n ∧ 0 < (rows k).length
  | 0, h => by simp [sumLen] at h
  | n + 1, h => by
    simp only [sumLen] at h
    by_cases h1 : 0 < (rows n).length
    · exact ⟨n, by omega, h1⟩
    · obtain ⟨k, hk, h2⟩ := sumLen_pos (rows := rows) n (by omega)
      exact ⟨k, by omega, h2⟩
theorem sumLen_zero {rows : Nat → List Pr} : ∀ n, sumLen rows n = 0 → ∀ k, k < n → rows k = []
  | 0, _, k, hk => by omega
  | n + 1, h, k, hk => by
    simp only [sumLen] at h
    by_cases e : k = n
    · subst e; exact List.eq_nil_of_length_eq_zero (by omega)
    · exact sumLen_zero (rows := rows) n (by omega) k (by omega)
theorem wr_ack {n : Nat} {rows : Nat → List Pr} {k : Nat} {x : Pr} {xs : List Pr} (h : Wr n rows) (hk : k < n) (hr : rows k = x :: xs) : Wr n (upR rows k xs) := by
  refine ⟨fun j hj => ?_, fun j y hy => ?_⟩
  · rw [upR_other _ _ (by omega)]; exact h.out j hj
  · by_cases e : j = k
    · subst e
      rw [upR_same] at hy
      exact h.snd j y (by rw [hr]; exact List.mem_cons_of_mem _ hy)
    · rw [upR_other _ _ e] at hy
      exact h.snd j y hy
theorem ack_eq {n : Nat} {rows : Nat → List Pr} {k : Nat} {x : Pr} {xs : List Pr} (hk : k < n) (hr : rows k = x :: xs) : firE n rows ((k : Int) + 1) = 0 ∧ firP n rows ((k : Int) + 1) = x ∧ ackR n rows ((k : Int) + 1) = upR rows k xs := by
  have hh : hasB n ((k : Int) + 1) = true := by rw [hasB_iff]; omega
  have e0 : ((k : Int) + 1 - 1).toNat = k := by omega
  have e1 : firE n rows ((k : Int) + 1) = 0 := by simp [firE, hh, hr]
  refine ⟨e1, by simp [firP, hh, hr], ?_⟩
  unfold ackR
  rw [if_pos e1, e0, hr]
  rfl
theorem proj_head {rows : Nat → List Pr} {k : Nat} {x : Pr} {xs : List Pr} {s : Nat} (hr : rows k = x :: xs) (hs : (s : Int) = x.s) : proj rows (k + 1) s = x.t :: proj (upR rows k xs) (k + 1) s := by
  unfold proj
  rw [Nat.add_sub_cancel, hr, upR_same]
  have : (x.s == (s : Int)) = true := by simpa using hs.symm
  simp [this]
theorem proj_ack {n : Nat} {rows : Nat → List Pr} {k : Nat} {x : Pr} {xs : List Pr} {s : Nat} {ss : Nat → List Tq} (hn : n ≤ 8) (hk : k < n) (hr : rows k = x :: xs) (hs : (s : Int) = x.s) (hs1 : 1 ≤ s) (hs8 : s ≤ n) (h : Pj n rows ss) :
    ∃ qs, ss ((k + 1) * 9 + s) = x.t :: qs ∧ Pj n (upR rows k xs) (upS ss ((k + 1) * 9 + s) qs) := by
  have h1 := h (k + 1) s (by omega) (by omega) hs1 hs8
  rw [proj_head hr hs] at h1
  refine ⟨_, h1, fun j t h2 h3 h4 h5 => ?_⟩
  by_cases e : j = k + 1
  · subst e
    by_cases e2 : t = s
    · subst e2; rw [upS_same]
    · rw [upS_other _ _ (by omega), h (k + 1) t (by omega) (by omega) h4 h5]
      unfold proj
      rw [Nat.add_sub_cancel, hr, upR_same]
      have : (x.s == (t : Int)) = false := by simp; omega
      simp [this]
  · rw [upS_other _ _ (by omega), h j t h2 h3 h4 h5]
    unfold proj
    rw [upR_other _ _ (by omega)]
theorem done_nil {n : Nat} {rows : Nat → List Pr} {ss : Nat → List Tq} (hn : n ≤ 8) (h : Pj n rows ss) {s : Nat} (hs1 : 1 ≤ s) (hs8 : s ≤ n) (hd : dnB n rows s = true) : ∀ k, 1 ≤ k → k ≤ n → ss (k * 9 + s) = [] := fun k h1 h2 => by
  rw [h k s h1 h2 hs1 hs8]
  unfold proj
  have hh : hasB n (s : Int) = true := by rw [hasB_iff]; omega
  unfold dnB at hd
  rw [if_pos hh, doneB_iff] at hd
  rw [List.filter_eq_nil_iff.2 (fun x hx => by have := hd (k - 1) (by omega) x hx; simpa using this)]
  rfl
theorem all_done {n : Nat} {rows : Nat → List Pr} (hw : Wr n rows) (h0 : sumLen rows n = 0) (c : Int) : dnB n rows c = true ∧ waitsN n rows c = 0 := by
  have hz : ∀ k, rows k = [] := fun k => by
    by_cases hk : k < n
    · exact sumLen_zero n h0 k hk
    · exact hw.out k (by omega)
  constructor
  · unfold dnB
    by_cases hh : hasB n c = true
    · rw [if_pos hh, doneB_iff]
      intro k _ x hx
      rw [hz] at hx
      simp at hx
    · rw [if_neg hh]
  · unfold waitsN
    by_cases hh : hasB n c = true
    · rw [if_pos hh, hz]; rfl
    · rw [if_neg hh]
end Go.Proofs.Ytokmcelmodoeoaa
