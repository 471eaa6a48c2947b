/-
  A cast and the document's one, side by side: what relates them, without the program.
-/
import Derived.Test.YtokmcelmodoeoaaCsRefA
import Derived.Test.YtokmcelmodoeoaaCsEndsP
namespace Go.Proofs.Ytokmcelmodoeoaa
open Go.RowKit
set_option linter.unusedVariables false
set_option linter.unusedSimpArgs false
def toP (x : Rp) : Pr := ⟨x.s, x.k, x.a, x.p⟩
structure Rl (n : Nat) (rows : Nat → List Pr) (L : List Rp) : Prop where
  eq : ∀ k : Nat, rows k = (L.filter fun x => x.c == (k : Int) + 1).map toP
  core : ∀ x ∈ L, 1 ≤ x.c ∧ x.c ≤ n
  snd : ∀ x ∈ L, 1 ≤ x.s ∧ x.s ≤ n
theorem rl_no (n : Nat) : Rl n noRows [] := ⟨fun k => rfl, fun x hx => by simp at hx, fun x hx => by simp at hx⟩
section
variable {n : Nat} {rows : Nat → List Pr} {L : List Rp}
theorem Rl.len (h : Rl n rows L) (k : Nat) : (rows k).length = cntL L ((k : Int) + 1) := by
  rw [h.eq k, List.length_map]; rfl
theorem cnt_out (h : Rl n rows L) {c : Int} (hc : hasB n c = false) : cntL L c = 0 := by
  unfold cntL
  rw [List.length_eq_zero_iff, List.filter_eq_nil_iff]
  intro x hx e
  have e' : x.c = c := by simpa using e
  have := h.core x hx
  rw [Bool.eq_false_iff] at hc
  exact hc ((hasB_iff n c).2 (by omega))
theorem Rl.waits (h : Rl n rows L) (c : Int) : waitsN n rows c = cntL L c := by
  unfold waitsN
  rcases hh : hasB n c with _ | _
  · rw [cnt_out h hh]; rfl
  · obtain ⟨k, rfl, hk⟩ := hasB_core hh
    rw [if_pos rfl, show ((k : Int) + 1 - 1).toNat = k by omega]
    exact h.len k
theorem Rl.done (h : Rl n rows L) (hn : n ≤ 8) (c : Int) : dnB n rows c = doneL L c := by
  rw [Bool.eq_iff_iff]
  unfold dnB doneL
  rw [List.all_eq_true]
  rcases hh : hasB n c with _ | _
  · refine ⟨fun _ x hx => ?_, fun _ => rfl⟩
    have := h.snd x hx
    rw [Bool.eq_false_iff] at hh
    have hne : x.s ≠ c := fun e => hh ((hasB_iff n c).2 (by omega))
    simpa using hne
  · rw [if_pos rfl, doneB_iff]
    constructor
    · intro hd x hx
      have hc := h.core x hx
      have := hd (x.c - 1).toNat (by omega) (toP x) (by
        rw [h.eq]
        exact List.mem_map.2 ⟨x, List.mem_filter.2 ⟨hx, by simp; omega⟩, rfl⟩)
      have h3 : x.s ≠ c := this
      simpa using h3
    · intro hd k _ y hy
      rw [h.eq k] at hy
      obtain ⟨x, hx, rfl⟩ := List.mem_map.1 hy
      have := hd x (List.mem_filter.1 hx).1
      have h3 : x.s ≠ c := by simpa using this
      exact h3
theorem filter_at {L : List Rp} {c : Int} : (L.filter fun x => x.c == c) = if atL L c < L.length then (L.getD (atL L c) zR) :: ((L.eraseIdx (atL L c)).filter fun x => x.c == c) else [] := by
  induction L with
  | nil => simp [atL]
  | cons y L ih =>
    by_cases e : y.c = c
    · have ha : atL (y :: L) c = 0 := by simp [atL, List.findIdx_cons, e]
      rw [ha]
      simp [e]
    · have e2 : (y.c == c) = false := by simpa using e
      have ha : atL (y :: L) c = atL L c + 1 := by simp [atL, List.findIdx_cons, e2]
      rw [ha, List.filter_cons_of_neg (by simp [e2]), ih]
      by_cases h1 : atL L c < L.length
      · rw [if_pos h1, if_pos (by simp; omega)]
        simp [e2]
      · rw [if_neg h1, if_neg (by simp; omega)]
theorem atL_core {L : List Rp} {c : Int} (h : atL L c < L.length) : (L.getD (atL L c) zR).c = c ∧ L.getD (atL L c) zR ∈ L := by
  have hx : L.getD (atL L c) zR = L[atL L c] := by rw [List.getD_eq_getElem?_getD, List.getElem?_eq_getElem h]; rfl
  rw [hx]
  refine ⟨?_, List.getElem_mem _⟩
  have := List.findIdx_getElem (p := fun x : Rp => x.c == c) (xs := L) (w := h)
  exact eq_of_beq (show (L[atL L c].c == c) = true from this)
theorem Rl.fire (h : Rl n rows L) (c : Int) : firE n rows c = rfE n L c := by
  unfold firE rfE
  rcases hh : hasB n c with _ | _
  · rfl
  · obtain ⟨k, rfl, hk⟩ := hasB_core hh
    rw [if_pos rfl, if_pos rfl, show ((k : Int) + 1 - 1).toNat = k by omega, h.eq k, filter_at]
    by_cases h1 : atL L ((k : Int) + 1) < L.length
    · rw [if_pos h1, if_pos h1]; simp
    · rw [if_neg h1, if_neg h1]; simp
theorem Rl.firp (h : Rl n rows L) (c : Int) : firP n rows c = toP (rfP n L c) := by
  unfold firP rfP
  rcases hh : hasB n c with _ | _
  · rfl
  · obtain ⟨k, rfl, hk⟩ := hasB_core hh
    rw [if_pos rfl, if_pos rfl, show ((k : Int) + 1 - 1).toNat = k by omega, h.eq k, filter_at]
    by_cases h1 : atL L ((k : Int) + 1) < L.length
    · rw [if_pos h1, if_pos h1]; rfl
    · rw [if_neg h1, if_neg h1]; rfl
theorem filter_erase {L : List Rp} {c d : Int} (hne : d ≠ c) (h : atL L c < L.length) : (L.eraseIdx (atL L c)).filter (fun x => x.c == d) = L.filter fun x => x.c == d := by
  induction L with
  | nil => simp at h
  | cons y L ih =>
    by_cases e : y.c = c
    · have ha : atL (y :: L) c = 0 := by simp [atL, List.findIdx_cons, e]
      rw [ha]
      have : (y.c == d) = false := by simp; omega
      simp [this]
    · have e2 : (y.c == c) = false := by simpa using e
      have ha : atL (y :: L) c = atL L c + 1 := by simp [atL, List.findIdx_cons, e2]
      rw [ha] at h ⊢
      simp only [List.length_cons] at h
      have := ih (by omega)
      rw [List.eraseIdx_cons_succ, List.filter_cons, List.filter_cons, this]
theorem Rl.ack (h : Rl n rows L) (c : Int) : Rl n (ackR n rows c) (raL n L c) := by
  unfold ackR raL
  rw [h.fire c]
  by_cases hf : rfE n L c = 0
  · rw [if_pos hf, if_pos hf]
    have hh : hasB n c = true := by
      rcases hh : hasB n c with _ | _
      · simp [rfE, hh] at hf
      · rfl
    have h1 : atL L c < L.length := by
      unfold rfE at hf
      rw [if_pos hh] at hf
      by_cases h1 : atL L c < L.length
      · exact h1
      · rw [if_neg h1] at hf; omega
    obtain ⟨k, rfl, hk⟩ := hasB_core hh
    rw [show ((k : Int) + 1 - 1).toNat = k by omega]
    refine ⟨fun j => ?_, fun x hx => h.core x (List.mem_of_mem_eraseIdx hx), fun x hx => h.snd x (List.mem_of_mem_eraseIdx hx)⟩
    by_cases e : j = k
    · subst e
      rw [upR_same, h.eq j, filter_at, if_pos h1]
      rfl
    · rw [upR_other _ _ e, h.eq j, filter_erase (by omega) h1]
  · rw [if_neg hf, if_neg hf]; exact h
theorem Rl.full (h : Rl n rows L) (s : Int) : fullB n rows s = fullL n L s := by
  rw [Bool.eq_iff_iff, fullB_iff, fullL_iff]
  simp only [h.len]
theorem Rl.sende (h : Rl n rows L) (x : Pr) : sndE n rows x = rsE n L x := by
  unfold sndE rsE rlE
  rw [h.full]
theorem addK_filter (L : List Rp) (x : Pr) (d : Nat) : ∀ m, (addK L x m).filter (fun y => y.c == (d : Int) + 1) = (L.filter fun y => y.c == (d : Int) + 1) ++ (if d < m ∧ (d : Int) + 1 ≠ x.s then [⟨(d : Int) + 1, x.s, x.k, x.a, x.p⟩] else [])
  | 0 => by simp [addK]
  | m + 1 => by
    have ih := addK_filter L x d m
    unfold addK
    by_cases e : (m : Int) + 1 = x.s
    · rw [if_pos e, ih]
      by_cases h2 : d < m ∧ (d : Int) + 1 ≠ x.s
      · rw [if_pos h2, if_pos ⟨by omega, h2.2⟩]
      · rw [if_neg h2, if_neg (fun h3 => h2 ⟨by omega, h3.2⟩)]
    · rw [if_neg e, List.filter_append, ih]
      by_cases h2 : d = m
      · subst h2
        rw [if_neg (by omega), if_pos ⟨by omega, e⟩]
        simp
      · have hfil : ([⟨(m : Int) + 1, x.s, x.k, x.a, x.p⟩] : List Rp).filter (fun y => y.c == (d : Int) + 1) = [] := by
          rw [List.filter_eq_nil_iff]
          intro y hy e
          simp at hy
          subst hy
          simp at e
          omega
        rw [hfil, List.append_nil]
        by_cases h3 : d < m ∧ (d : Int) + 1 ≠ x.s
        · rw [if_pos h3, if_pos ⟨by omega, h3.2⟩]
        · rw [if_neg h3, if_neg (fun h4 => h3 ⟨by omega, h4.2⟩)]
theorem addK_mem {L : List Rp} {x : Pr} {y : Rp} : ∀ m, y ∈ addK L x m → y ∈ L ∨ (1 ≤ y.c ∧ y.c ≤ m ∧ y.s = x.s)
  | 0, h => Or.inl h
  | m + 1, h => by
    unfold addK at h
    split at h
    · exact (addK_mem m h).imp id (fun h => ⟨h.1, by omega, h.2.2⟩)
    · rcases List.mem_append.1 h with h | h
      · exact (addK_mem m h).imp id (fun h => ⟨h.1, by omega, h.2.2⟩)
      · simp at h
        subst h
        exact Or.inr ⟨by simp; omega, by simp, rfl⟩
theorem Rl.send (h : Rl n rows L) (x : Pr) : Rl n (sndR n rows x) (rsL n L x) := by
  unfold sndR rsL
  rcases hx : (hasB n x.s && mayB x.k x.a x.p) with _ | _
  · have : sndE n rows x = 2 := by simp [sndE, hx]
    rw [this, if_neg (by omega), if_neg (by simp)]
    exact h
  · have e1 : sndE n rows x = if fullB n rows x.s then 20 else 0 := by simp [sndE, hx]
    rw [e1, if_pos rfl]
    unfold rlL
    rw [h.full]
    rcases hf : fullL n L x.s with _ | _
    · simp only [Bool.false_eq_true, if_false, if_true]
      rw [Bool.and_eq_true] at hx
      have hs := (hasB_iff _ _).1 hx.1
      refine ⟨fun k => ?_, fun y hy => ?_, fun y hy => ?_⟩
      · rw [addK_filter, List.map_append, ← h.eq k]
        simp only [sndK]
        by_cases h2 : k < n ∧ (k : Int) + 1 ≠ x.s
        · rw [if_pos h2, if_pos h2]; rfl
        · rw [if_neg h2, if_neg h2]; simp
      · rcases addK_mem n hy with hy | hy
        · exact h.core y hy
        · exact ⟨hy.1, hy.2.1⟩
      · rcases addK_mem n hy with hy | hy
        · exact h.snd y hy
        · rw [hy.2.2]; exact hs
    · simp only [if_true]
      rw [if_neg (by omega)]
      exact h
theorem allL_full (h : ∀ x ∈ L, 1 ≤ x.c ∧ x.c ≤ n) : ∀ m, n ≤ m → allL L m = allL L n
  | 0, hm => by
    obtain rfl : n = 0 := by omega
    rfl
  | m + 1, hm => by
    by_cases e : n = m + 1
    · rw [e]
    · rw [← allL_full h m (by omega)]
      rw [show allL L (m + 1) = allL L m ++ L.filter (fun x => x.c == (m : Int) + 1) from rfl, List.filter_eq_nil_iff.2 (fun x hx e => by
        have := h x hx
        have e' : x.c = (m : Int) + 1 := by simpa using e
        omega), List.append_nil]
/-- What the cast's iterator gives, row by row. -/
def allV (rows : Nat → List Pr) : Nat → List (Int × Tq)
  | 0 => []
  | m + 1 => allV rows m ++ (rows m).map fun x => ((m : Int) + 1, x.t)
theorem Rl.all (h : Rl n rows L) : ∀ m, allV rows m = (allL L m).map fun x => (x.c, (toP x).t)
  | 0 => rfl
  | m + 1 => by
    unfold allV allL
    rw [h.all m, List.map_append, h.eq m, List.map_map]
    congr 1
    apply List.map_congr_left
    intro x hx
    have := (List.mem_filter.1 hx).2
    have e : x.c = (m : Int) + 1 := by simpa using this
    simp [e]
theorem allL_perm_len : ∀ m, (allL L m).length = sumLen (fun k => (L.filter fun x => x.c == (k : Int) + 1).map toP) m
  | 0 => rfl
  | m + 1 => by
    unfold allL sumLen
    rw [List.length_append, allL_perm_len m, List.length_map]
theorem cnt_sum : ∀ (L : List Rp) (m : Nat), (∀ x ∈ L, 1 ≤ x.c ∧ x.c ≤ m) → (allL L m).length = L.length
  | [], m, _ => by
    induction m with
    | zero => rfl
    | succ m ih => unfold allL; rw [List.length_append, ih (by simp)]; rfl
  | y :: L, m, hm => by
    have ih := cnt_sum L m (fun x hx => hm x (List.mem_cons_of_mem _ hx))
    have hy := hm y List.mem_cons_self
    have key : ∀ j, (allL (y :: L) j).length = (allL L j).length + if y.c ≤ j then 1 else 0 := by
      intro j
      induction j with
      | zero => unfold allL; rw [if_neg (by omega)]; rfl
      | succ j ihj =>
        unfold allL
        rw [List.length_append, List.length_append, ihj]
        by_cases e : y.c = (j : Int) + 1
        · have e2 : (y.c == (j : Int) + 1) = true := by simpa using e
          rw [List.filter_cons_of_pos (by simpa using e), List.length_cons, if_neg (by omega), if_pos (by omega)]
          omega
        · rw [List.filter_cons_of_neg (by simpa using e)]
          by_cases e3 : y.c ≤ j
          · rw [if_pos e3, if_pos (by omega)]; omega
          · rw [if_neg e3, if_neg (by omega)]; omega
    rw [key m, if_pos hy.2, ih]
    rfl
theorem Rl.short (h : Rl n rows L) (hn : n ≤ 8) (hs : ∀ k, k < 8 → (rows k).length ≤ 16) : L.length ≤ 128 := by
  have h1 := cnt_sum L n h.core
  have h2 := allL_perm_len (L := L) n
  have h3 : (fun k : Nat => (L.filter fun x => x.c == (k : Int) + 1).map toP) = rows := by funext k; exact (h.eq k).symm
  rw [h3] at h2
  have h4 := sumLen_le hs n hn
  omega
end
end Go.Proofs.Ytokmcelmodoeoaa
