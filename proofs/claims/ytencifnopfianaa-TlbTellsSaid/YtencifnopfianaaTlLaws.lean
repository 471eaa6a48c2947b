/-
  Rows of entries, plain: the laws.
-/
import Derived.Test.YtencifnopfianaaTlOutB
namespace Go.Proofs.Ytencifnopfianaa
set_option linter.unusedVariables false
set_option linter.unusedSimpArgs false
section
variable {α : Type} {may : α → Bool} {pl : α → Int × Int × Int}
/-- No two have one place. -/
def Apart (pl : α → Int × Int × Int) (xs : List α) : Prop := xs.Pairwise (fun a b => pl a ≠ pl b)
theorem ok_iff (xs : List α) : OkB may pl xs xs.length ↔ (∀ x ∈ xs, may x = true) ∧ Apart pl xs := by
  constructor
  · intro h
    refine ⟨fun x hx => ?_, ?_⟩
    · obtain ⟨i, hi, rfl⟩ := List.getElem_of_mem hx
      exact (h i _ hi (List.getElem?_eq_getElem hi)).1
    · unfold Apart
      rw [List.pairwise_iff_getElem]
      intro i j hi hj hij
      exact (h j _ hj (List.getElem?_eq_getElem hj)).2 i _ hij (List.getElem?_eq_getElem hi)
  · rintro ⟨h1, h2⟩ i x hi hx
    refine ⟨h1 x (List.mem_of_getElem? hx), fun j y hj hy => ?_⟩
    unfold Apart at h2
    rw [List.pairwise_iff_getElem] at h2
    obtain ⟨hi', rfl⟩ := List.getElem?_eq_some_iff.1 hx
    obtain ⟨hj', rfl⟩ := List.getElem?_eq_some_iff.1 hy
    exact h2 j i hj' hi' hj
theorem ck_iff {mx : Nat} {xs : List α} : Ck may pl mx xs ↔ xs.length ≤ mx ∧ (∀ x ∈ xs, may x = true) ∧ Apart pl xs := by
  unfold Ck
  rw [ok_iff]
theorem Ck.sub {mx : Nat} {xs ys : List α} (h : Ck may pl mx xs) (hs : List.Sublist ys xs) : Ck may pl mx ys := by
  rw [ck_iff] at h ⊢
  exact ⟨Nat.le_trans hs.length_le h.1, fun x hx => h.2.1 x (hs.subset hx), h.2.2.sublist hs⟩
theorem Ck.filter {mx : Nat} {xs : List α} (h : Ck may pl mx xs) (p : α → Bool) : Ck may pl mx (xs.filter p) := h.sub List.filter_sublist
theorem Apart.one {xs : List α} (h : Apart pl xs) {x y : α} (hx : x ∈ xs) (hy : y ∈ xs) (e : pl x = pl y) : x = y := by
  obtain ⟨i, hi, rfl⟩ := List.getElem_of_mem hx
  obtain ⟨j, hj, rfl⟩ := List.getElem_of_mem hy
  unfold Apart at h
  rw [List.pairwise_iff_getElem] at h
  rcases Nat.lt_trichotomy i j with hl | rfl | hl
  · exact absurd e (h i j hi hj hl)
  · rfl
  · exact absurd e.symm (h j i hj hi hl)
/-- The entry of a place. -/
def fnd (pl : α → Int × Int × Int) (xs : List α) (q : Int × Int × Int) : Option α := (fdx pl xs q).bind (fun n => xs[n]?)
theorem fnd_some {xs : List α} {q : Int × Int × Int} {x : α} (h : fnd pl xs q = some x) : x ∈ xs ∧ pl x = q := by
  unfold fnd at h
  cases hn : fdx pl xs q with
  | none => rw [hn] at h; simp at h
  | some n =>
    rw [hn] at h
    simp only [Option.bind_some] at h
    obtain ⟨y, hy, he, -⟩ := fd_some hn
    rw [hy] at h
    injection h with h
    subst h
    exact ⟨List.mem_of_getElem? hy, he⟩
theorem fnd_none {xs : List α} {q : Int × Int × Int} (h : fnd pl xs q = none) : ∀ x ∈ xs, pl x ≠ q := by
  intro x hx
  obtain ⟨i, hi, rfl⟩ := List.getElem_of_mem hx
  unfold fnd at h
  cases hn : fdx pl xs q with
  | none => exact fd_none hn (i + 1) i _ (by omega) (List.getElem?_eq_getElem hi)
  | some n =>
    rw [hn] at h
    obtain ⟨y, hy, -, -⟩ := fd_some hn
    simp only [Option.bind_some] at h
    rw [hy] at h
    exact (by cases h)
theorem fnd_mem {xs : List α} (ha : Apart pl xs) {x : α} (hx : x ∈ xs) : fnd pl xs (pl x) = some x := by
  cases h : fnd pl xs (pl x) with
  | none => exact absurd rfl (fnd_none h x hx)
  | some y =>
    obtain ⟨hy, he⟩ := fnd_some h
    rw [ha.one hy hx he]
theorem fnd_no {xs : List α} {q : Int × Int × Int} (h : ∀ x ∈ xs, pl x ≠ q) : fnd pl xs q = none := by
  cases hn : fnd pl xs q with
  | none => rfl
  | some y => exact absurd (fnd_some hn).2 (h y (fnd_some hn).1)
theorem fdx_none_iff {xs : List α} {q : Int × Int × Int} : fdx pl xs q = none ↔ ∀ x ∈ xs, pl x ≠ q := by
  constructor
  · intro h
    exact fnd_none (by unfold fnd; rw [h]; rfl)
  · intro h
    cases hn : fdx pl xs q with
    | none => rfl
    | some n =>
      obtain ⟨y, hy, he, -⟩ := fd_some hn
      exact absurd he (h y (List.mem_of_getElem? hy))
variable {mx : Nat}
/-- Behind filling: the row may be, and the entry is found. -/
theorem Ck.fill {xs : List α} {e : α} (h0 : 0 < mx) (h : Ck may pl mx xs) (he : may e = true) : Ck may pl mx (filL may pl mx xs e) ∧ e ∈ filL may pl mx xs e := by
  unfold filL
  rw [if_pos ⟨h, he⟩]
  cases hn : fdx pl xs (pl e) with
  | some n =>
    simp only
    obtain ⟨y, hy, hq, hno⟩ := fd_some hn
    have hl := (List.getElem?_eq_some_iff.1 hy).1
    rw [ck_iff] at h ⊢
    obtain ⟨c1, c2, c3⟩ := h
    refine ⟨⟨by rw [List.length_set]; exact c1, fun x hx => ?_, ?_⟩, List.mem_set hl e⟩
    · rcases List.mem_or_eq_of_mem_set hx with h | rfl
      · exact c2 x h
      · exact he
    · unfold Apart at c3 ⊢
      rw [List.pairwise_iff_getElem] at c3 ⊢
      intro i j hi hj hij
      rw [List.length_set] at hi hj
      have hyy : pl xs[n] = pl e := by
        rw [List.getElem?_eq_getElem hl] at hy
        injection hy with hy
        rw [hy, hq]
      rw [List.getElem_set, List.getElem_set]
      by_cases a : n = i
      · rw [if_pos a]
        by_cases b : n = j
        · omega
        · rw [if_neg b]
          subst a
          rw [← hyy]
          exact c3 n j hi hj hij
      · rw [if_neg a]
        by_cases b : n = j
        · rw [if_pos b]
          subst b
          rw [← hyy]
          exact c3 i n hi hj hij
        · rw [if_neg b]
          exact c3 i j hi hj hij
  | none =>
    simp only
    have hno := fdx_none_iff.1 hn
    obtain ⟨ys, hys, hlen, hsub⟩ : ∃ ys, (if xs.length = mx then xs.drop 1 else xs) = ys ∧ ys.length < mx ∧ List.Sublist ys xs := by
      by_cases hl : xs.length = mx
      · exact ⟨xs.drop 1, if_pos hl, by rw [List.length_drop]; omega, List.drop_sublist 1 xs⟩
      · exact ⟨xs, if_neg hl, by have := h.1; omega, List.Sublist.refl _⟩
    rw [hys]
    have hk := h.sub hsub
    rw [ck_iff] at hk ⊢
    refine ⟨⟨by rw [List.length_append]; simp; omega, fun x hx => ?_, ?_⟩, by simp⟩
    · rw [List.mem_append] at hx
      rcases hx with h | h
      · exact hk.2.1 x h
      · simp at h; subst h; exact he
    · unfold Apart
      rw [List.pairwise_append]
      refine ⟨hk.2.2, by simp, fun a ha b hb => ?_⟩
      simp at hb
      subst hb
      exact hno a (hsub.subset ha)
theorem fill_again {xs : List α} {e : α} (h0 : 0 < mx) (h : Ck may pl mx xs) (he : may e = true) : filL may pl mx (filL may pl mx xs e) e = filL may pl mx xs e := by
  obtain ⟨hk, hm⟩ := Ck.fill h0 h he
  generalize filL may pl mx xs e = ys at *
  unfold filL
  rw [if_pos ⟨hk, he⟩]
  cases hn : fdx pl ys (pl e) with
  | none => exact absurd rfl (fdx_none_iff.1 hn e hm)
  | some n =>
    simp only
    obtain ⟨y, hy, hq, -⟩ := fd_some hn
    have : y = e := (ck_iff.1 hk).2.2.one (List.mem_of_getElem? hy) hm hq
    subst this
    obtain ⟨hl, rfl⟩ := List.getElem?_eq_some_iff.1 hy
    exact List.set_getElem_self hl
theorem drp_yes {xs : List α} (h : Ck may pl mx xs) (hit : α → Bool) : drpL may pl mx xs hit = xs.filter (fun y => !hit y) := if_pos h
theorem drp_ck {xs : List α} (h : Ck may pl mx xs) (hit : α → Bool) : Ck may pl mx (drpL may pl mx xs hit) := by rw [drp_yes h]; exact h.filter _
theorem drp_again {xs : List α} (h : Ck may pl mx xs) (hit : α → Bool) : drpL may pl mx (drpL may pl mx xs hit) hit = drpL may pl mx xs hit := by
  rw [drp_yes (drp_ck h hit), drp_yes h, List.filter_filter]
  simp
theorem drp_both {xs : List α} (h : Ck may pl mx xs) (p q : α → Bool) : drpL may pl mx (drpL may pl mx xs p) q = drpL may pl mx (drpL may pl mx xs q) p := by
  rw [drp_yes (drp_ck h p), drp_yes (drp_ck h q), drp_yes h, drp_yes h, List.filter_filter, List.filter_filter]
  congr 1
  funext y
  exact Bool.and_comm _ _
theorem fnd_drop {xs : List α} (h : Ck may pl mx xs) (hit : α → Bool) (q : Int × Int × Int) : fnd pl (drpL may pl mx xs hit) q = (fnd pl xs q).filter (fun x => !hit x) := by
  have ha := (ck_iff.1 h).2.2
  have hk := drp_ck h hit
  have hb := (ck_iff.1 hk).2.2
  cases hn : fnd pl xs q with
  | none =>
    refine fnd_no (fun x hx => fnd_none hn x ?_)
    rw [drp_yes h] at hx
    exact (List.mem_filter.1 hx).1
  | some x =>
    obtain ⟨hx, he⟩ := fnd_some hn
    subst he
    rcases hh : hit x with _ | _
    · rw [show (some x).filter (fun x => !hit x) = some x by simp [hh]]
      exact fnd_mem hb (by rw [drp_yes h]; exact List.mem_filter.2 ⟨hx, by simp [hh]⟩)
    · rw [show (some x).filter (fun x => !hit x) = none by simp [hh]]
      refine fnd_no (fun y hy e => ?_)
      rw [drp_yes h] at hy
      obtain ⟨hy, hny⟩ := List.mem_filter.1 hy
      rw [ha.one hy hx e, hh] at hny
      exact Bool.noConfusion hny
/-- Behind filling each other entry is found, but the first one of a full row. -/
theorem fill_other {xs : List α} {e : α} (h0 : 0 < mx) (h : Ck may pl mx xs) (he : may e = true) {i : Nat} {o : α} (ho : xs[i]? = some o) (hne : pl o ≠ pl e) :
    fnd pl (filL may pl mx xs e) (pl o) = if i = 0 ∧ xs.length = mx ∧ fnd pl xs (pl e) = none then none else some o := by
  have ha := (ck_iff.1 h).2.2
  have hk := (Ck.fill h0 h he).1
  have hb := (ck_iff.1 hk).2.2
  have hi := (List.getElem?_eq_some_iff.1 ho).1
  cases hn : fdx pl xs (pl e) with
  | some n =>
    have hL : filL may pl mx xs e = xs.set n e := by unfold filL; rw [if_pos ⟨h, he⟩, hn]
    obtain ⟨y, hy, hq, -⟩ := fd_some hn
    have hf : fnd pl xs (pl e) = some y := by unfold fnd; rw [hn]; exact hy
    rw [if_neg (by rw [hf]; simp)]
    have hni : n ≠ i := fun e' => by subst e'; rw [hy] at ho; injection ho with ho; subst ho; exact hne hq
    refine fnd_mem hb ?_
    rw [hL]
    exact List.mem_of_getElem? (i := i) (by rw [List.getElem?_set_ne hni]; exact ho)
  | none =>
    have hL : filL may pl mx xs e = (if xs.length = mx then xs.drop 1 else xs) ++ [e] := by unfold filL; rw [if_pos ⟨h, he⟩, hn]
    have hf : fnd pl xs (pl e) = none := by unfold fnd; rw [hn]; rfl
    by_cases hl : xs.length = mx
    · rw [if_pos hl] at hL
      by_cases h1 : i = 0
      · rw [if_pos ⟨h1, hl, hf⟩]
        subst h1
        refine fnd_no (fun x hx ex => ?_)
        rw [hL, List.mem_append] at hx
        rcases hx with hx | hx
        · obtain ⟨j, hj, rfl⟩ := List.getElem_of_mem hx
          rw [List.getElem_drop] at ex
          rw [List.length_drop] at hj
          unfold Apart at ha
          rw [List.pairwise_iff_getElem] at ha
          rw [List.getElem?_eq_getElem hi] at ho
          injection ho with ho
          subst ho
          exact ha 0 (1 + j) hi (by omega) (by omega) ex.symm
        · simp at hx
          subst hx
          exact hne ex.symm
      · rw [if_neg (fun h => h1 h.1)]
        refine fnd_mem hb ?_
        rw [hL]
        refine List.mem_append_left _ (List.mem_of_getElem? (i := i - 1) ?_)
        rw [List.getElem?_drop, show 1 + (i - 1) = i by omega]
        exact ho
    · rw [if_neg (fun h => hl h.2.1)]
      rw [if_neg hl] at hL
      refine fnd_mem hb ?_
      rw [hL]
      exact List.mem_append_left _ (List.mem_of_getElem? ho)
theorem filE_yes {xs : List α} {e : α} (h : filE may pl mx xs e = 0) : Ck may pl mx xs ∧ may e = true := by
  unfold filE at h
  split at h
  · assumption
  · omega
end
theorem fndO_eq {xs : List Tb} (h : Ck mayT plT 8 xs) (a p : Int) : fndO xs a p = fnd plT xs (a, 0, p) := if_pos h
/-- The best step is one of the ASID and the page, and none of these is of a greater level. -/
theorem bst_inv (of : Sb → Bool) : ∀ (xs : List Sb), (∀ b, bst of xs = some b → b ∈ xs ∧ of b = true) ∧ (bst of xs = none → ∀ x ∈ xs, of x = false) ∧ (∀ b, bst of xs = some b → ∀ x ∈ xs, of x = true → x.l ≤ b.l) := by
  intro xs
  have key : ∀ j, j ≤ xs.length → (∀ b, bst of (xs.take j) = some b → b ∈ xs ∧ of b = true) ∧ (bst of (xs.take j) = none → ∀ (i : Nat) x, i < j → xs[i]? = some x → of x = false) ∧ (∀ b, bst of (xs.take j) = some b → ∀ (i : Nat) x, i < j → xs[i]? = some x → of x = true → x.l ≤ b.l) := by
    intro j
    induction j with
    | zero =>
      intro _
      refine ⟨fun b h => ?_, fun _ i x hi => by omega, fun b h => ?_⟩
      · simp [bst] at h
      · simp [bst] at h
    | succ j ih =>
      intro hj
      obtain ⟨i1, i2, i3⟩ := ih (by omega)
      obtain ⟨x, hx⟩ : ∃ x, xs[j]? = some x := ⟨xs[j], List.getElem?_eq_getElem (by omega)⟩
      rw [bst_succ of xs j x hx]
      rcases hq : of x with _ | _
      · rw [bstep_no hq]
        refine ⟨i1, fun h i y hi hy => ?_, fun b h i y hi hy hoy => ?_⟩
        · by_cases e : i = j
          · subst e; rw [hx] at hy; injection hy with hy; subst hy; exact hq
          · exact i2 h i y (by omega) hy
        · by_cases e : i = j
          · subst e; rw [hx] at hy; injection hy with hy; subst hy; rw [hq] at hoy; exact Bool.noConfusion hoy
          · exact i3 b h i y (by omega) hy hoy
      · cases ho : bst of (xs.take j) with
        | none =>
          rw [bstep_first hq]
          refine ⟨fun b h => ?_, (fun h => by cases h), fun b h i y hi hy hoy => ?_⟩
          · injection h with h; subst h; exact ⟨List.mem_of_getElem? hx, hq⟩
          · injection h with h
            subst h
            by_cases e : i = j
            · subst e; rw [hx] at hy; injection hy with hy; subst hy; exact Int.le_refl _
            · have := i2 ho i y (by omega) hy
              rw [this] at hoy
              exact Bool.noConfusion hoy
        | some bb =>
          by_cases hl : bb.l < x.l
          · rw [bstep_more hq hl]
            refine ⟨fun b h => ?_, (fun h => by cases h), fun b h i y hi hy hoy => ?_⟩
            · injection h with h; subst h; exact ⟨List.mem_of_getElem? hx, hq⟩
            · injection h with h
              subst h
              by_cases e : i = j
              · subst e; rw [hx] at hy; injection hy with hy; subst hy; exact Int.le_refl _
              · have := i3 bb ho i y (by omega) hy hoy
                omega
          · rw [bstep_less hq hl]
            refine ⟨fun b h => ?_, (fun h => by cases h), fun b h i y hi hy hoy => ?_⟩
            · exact i1 b (ho.trans h)
            · by_cases e : i = j
              · subst e; rw [hx] at hy; injection hy with hy; subst hy; injection h with h; subst h; omega
              · exact i3 b (ho.trans h) i y (by omega) hy hoy
  obtain ⟨k1, k2, k3⟩ := key xs.length (Nat.le_refl _)
  rw [List.take_length] at k1 k2 k3
  refine ⟨k1, fun h x hx => ?_, fun b h x hx hox => ?_⟩
  · obtain ⟨i, hi, rfl⟩ := List.getElem_of_mem hx
    exact k2 h i _ hi (List.getElem?_eq_getElem hi)
  · obtain ⟨i, hi, rfl⟩ := List.getElem_of_mem hx
    exact k3 b h i _ hi (List.getElem?_eq_getElem hi) hox
end Go.Proofs.Ytencifnopfianaa
