/-
  Tickets in turn: plain lists and numbers, no program.
-/
import Derived.Test.YtlhbofgcgfbchaaLockRef
namespace Go.Proofs.Ytlhbofgcgfbchaa
set_option linter.unusedVariables false

/-- What holds of the cores' phases and tickets, of who waits in which order, and of the lock's two words. -/
structure TurnInv (q : List Int) (ph tk : Nat → Int) (nx sv : Int) : Prop where
  nod : q.Nodup
  dom : ∀ x ∈ q, 1 ≤ x ∧ x ≤ 8
  ph0 : ∀ i : Nat, 1 ≤ i → i ≤ 8 → (ph i = 0 ∧ (i : Int) ∉ q) ∨ ((ph i = 1 ∨ ph i = 2) ∧ (i : Int) ∈ q)
  ph2 : ∀ i : Nat, 1 ≤ i → i ≤ 8 → ph i = 2 → q[0]? = some (i : Int)
  tks : ∀ j i : Nat, q[j]? = some (i : Int) → tk i = (sv + j) % 18446744073709551616
  nxs : nx = (sv + q.length) % 18446744073709551616
  usv : 0 ≤ sv ∧ sv < 18446744073709551616
theorem TurnInv.start (x : Int) (hx : 0 ≤ x ∧ x < 18446744073709551616) : TurnInv [] (fun _ => 0) (fun _ => 0) x x where
  nod := List.nodup_nil
  dom := fun x hx => by cases hx
  ph0 := fun i _ _ => .inl ⟨rfl, by simp⟩
  ph2 := fun i _ _ h => by cases h
  tks := fun j i h => by simp at h
  nxs := by simp; omega
  usv := hx
section
variable {q : List Int} {ph tk : Nat → Int} {nx sv : Int}
theorem TurnInv.take (h : TurnInv q ph tk nx sv) {i : Nat} (h1 : 1 ≤ i) (h8 : i ≤ 8) (h0 : ph i = 0) : TurnInv (q ++ [(i : Int)]) (upd ph i 1) (upd tk i nx) ((nx + 1) % 18446744073709551616) sv where
  nod := by
    have hn : (i : Int) ∉ q := by
      rcases h.ph0 i h1 h8 with ⟨_, hn⟩ | ⟨hp, _⟩
      · exact hn
      · omega
    rw [List.nodup_append]
    refine ⟨h.nod, by simp, fun a ha b hb => ?_⟩
    simp at hb
    subst hb
    exact fun e => hn (e ▸ ha)
  dom := fun x hx => by
    rcases List.mem_append.1 hx with hx | hx
    · exact h.dom x hx
    · simp at hx; omega
  ph0 := fun j a b => by
    by_cases e : j = i
    · subst e; exact .inr ⟨.inl (upd_same _ _ _), by simp⟩
    · rw [upd_other _ _ e]
      rcases h.ph0 j a b with ⟨p, n⟩ | ⟨p, n⟩
      · refine .inl ⟨p, fun hm => ?_⟩
        rcases List.mem_append.1 hm with hm | hm
        · exact n hm
        · simp at hm; omega
      · exact .inr ⟨p, List.mem_append_left _ n⟩
  ph2 := fun j a b hp => by
    by_cases e : j = i
    · subst e; rw [upd_same] at hp; omega
    · rw [upd_other _ _ e] at hp
      have := h.ph2 j a b hp
      have hl : 0 < q.length := (List.getElem?_eq_some_iff.1 this).1
      rw [List.getElem?_append_left hl]
      exact this
  tks := fun j i' hj => by
    rcases Nat.lt_or_ge j q.length with hl | hl
    · rw [List.getElem?_append_left hl] at hj
      have hm : (i' : Int) ∈ q := List.mem_of_getElem? hj
      have e : i' ≠ i := by
        rintro rfl
        rcases h.ph0 i' h1 h8 with ⟨_, hn⟩ | ⟨hp, _⟩
        · exact hn hm
        · omega
      rw [upd_other _ _ e]
      exact h.tks j i' hj
    · rw [List.getElem?_append_right hl] at hj
      have hj0 : j - q.length = 0 := by
        have := (List.getElem?_eq_some_iff.1 hj).1
        simp at this
        omega
      rw [hj0] at hj
      simp at hj
      have : i' = i := by omega
      subst this
      rw [upd_same, h.nxs, show j = q.length by omega]
  nxs := by
    have := h.nxs
    simp only [List.length_append, List.length_cons, List.length_nil]
    omega
  usv := h.usv
theorem TurnInv.head (h : TurnInv q ph tk nx sv) (hl : q.length ≤ 1000) {i : Nat} (h1 : 1 ≤ i) (h8 : i ≤ 8) (hp : ph i = 1) (ht : sv = tk i) : q[0]? = some (i : Int) := by
  rcases h.ph0 i h1 h8 with ⟨a, _⟩ | ⟨_, hm⟩
  · omega
  · obtain ⟨j, hj⟩ := List.getElem?_of_mem hm
    have := h.tks j i hj
    have hlt := (List.getElem?_eq_some_iff.1 hj).1
    have := h.usv
    have e : j = 0 := by omega
    subst e
    exact hj
theorem TurnInv.serve (h : TurnInv q ph tk nx sv) {i : Nat} (h1 : 1 ≤ i) (h8 : i ≤ 8) (hp : ph i = 1) (hh : q[0]? = some (i : Int)) : TurnInv q (upd ph i 2) tk nx sv where
  nod := h.nod
  dom := h.dom
  ph0 := fun j a b => by
    by_cases e : j = i
    · subst e; exact .inr ⟨.inr (upd_same _ _ _), List.mem_of_getElem? hh⟩
    · rw [upd_other _ _ e]; exact h.ph0 j a b
  ph2 := fun j a b hp => by
    by_cases e : j = i
    · subst e; exact hh
    · rw [upd_other _ _ e] at hp; exact h.ph2 j a b hp
  tks := h.tks
  nxs := h.nxs
  usv := h.usv
theorem TurnInv.pass (h : TurnInv q ph tk nx sv) {i : Nat} (h1 : 1 ≤ i) (h8 : i ≤ 8) (hp : ph i = 2) : TurnInv (q.drop 1) (upd ph i 0) tk nx ((sv + 1) % 18446744073709551616) := by
  have hh := h.ph2 i h1 h8 hp
  obtain ⟨r, rfl⟩ : ∃ r, q = (i : Int) :: r := by
    cases q with
    | nil => simp at hh
    | cons a r => simp at hh; exact ⟨r, by rw [hh]⟩
  have hn := h.nod
  rw [List.nodup_cons] at hn
  simp only [List.drop_succ_cons, List.drop_zero]
  refine ⟨hn.2, fun x hx => h.dom x (List.mem_cons_of_mem _ hx), ?_, ?_, ?_, ?_, by omega⟩
  · intro j a b
    by_cases e : j = i
    · subst e; exact .inl ⟨upd_same _ _ _, hn.1⟩
    · rw [upd_other _ _ e]
      rcases h.ph0 j a b with ⟨p, n⟩ | ⟨p, n⟩
      · exact .inl ⟨p, fun hm => n (List.mem_cons_of_mem _ hm)⟩
      · refine .inr ⟨p, ?_⟩
        rcases List.mem_cons.1 n with n | n
        · omega
        · exact n
  · intro j a b hp'
    by_cases e : j = i
    · subst e; rw [upd_same] at hp'; omega
    · rw [upd_other _ _ e] at hp'
      have := h.ph2 j a b hp'
      simp at this
      omega
  · intro j i' hj
    have := h.tks (j + 1) i' (by simpa using hj)
    omega
  · have := h.nxs
    simp only [List.length_cons] at this
    omega
/-- How many of the cores below k are in. -/
def cntIn (ph : Nat → Int) : Nat → Int
  | 0 => 0
  | k + 1 => cntIn ph k + if 1 ≤ k ∧ ph k = 2 then 1 else 0
theorem TurnInv.cnt (h : TurnInv q ph tk nx sv) : ∀ k : Nat, k ≤ 9 → 0 ≤ cntIn ph k ∧ (cntIn ph k = 0 ∨ (cntIn ph k = 1 ∧ ∃ x : Int, q[0]? = some x ∧ x < k))
  | 0, _ => ⟨by simp [cntIn], .inl rfl⟩
  | k + 1, hk => by
    obtain ⟨a, b⟩ := h.cnt k (by omega)
    unfold cntIn
    by_cases hc : 1 ≤ k ∧ ph k = 2
    · rw [if_pos hc]
      have hh := h.ph2 k hc.1 (by omega) hc.2
      rcases b with b | ⟨b, x, hx, hlt⟩
      · exact ⟨by omega, .inr ⟨by omega, k, hh, by omega⟩⟩
      · rw [hh] at hx
        injection hx with hx
        omega
    · rw [if_neg hc]
      rcases b with b | ⟨b, x, hx, hlt⟩
      · exact ⟨by omega, .inl (by omega)⟩
      · exact ⟨by omega, .inr ⟨by omega, x, hx, by omega⟩⟩
theorem TurnInv.wait (h : TurnInv q ph tk nx sv) (hl : q.length ≤ 1000) : wt nx sv = q.length := by
  rw [wt_eq, IntKind.wrap_u64]
  have := h.nxs
  have := h.usv
  omega
end
end Go.Proofs.Ytlhbofgcgfbchaa
