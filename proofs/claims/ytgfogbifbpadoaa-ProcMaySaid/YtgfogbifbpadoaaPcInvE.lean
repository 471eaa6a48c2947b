/-
  A house's invariant: End keeps it.
-/
import Derived.Test.YtgfogbifbpadoaaPcInv
namespace Go.Proofs.Ytgfogbifbpadoaa
open Go.RowKit Go.Maps
set_option linter.unusedVariables false
set_option linter.unusedSimpArgs false
/-- What a house may be while space q ends. -/
structure InvX (H : Hs) (q : Nat) : Prop where
  cores : 1 ≤ H.cores ∧ H.cores ≤ 8
  sp : ∀ k, k < 9 → 0 ≤ (H.th k).sp ∧ (H.th k).sp ≤ 6
  pc : ∀ k, k < 9 → 0 ≤ (H.th k).pc
  core : ∀ k, k < 9 → 0 ≤ (H.th k).core ∧ (H.th k).core ≤ H.cores
  runs : ∀ k, 1 ≤ k → k ≤ 8 → (H.th k).core ≠ 0 → H.on (H.th k).core = some k ∧ (H.th k).dead = false ∧ (H.th k).sp ≠ 0
  on : ∀ c t, H.on c = some t → ∃ k : Nat, t = k ∧ 1 ≤ k ∧ k ≤ 8 ∧ (H.th k).core = c ∧ 1 ≤ c
  thr : ∀ q, 1 ≤ q → q ≤ 6 → (H.sp q).thr = cntL H q
  thr0 : (H.sp 0).thr = 0
  there : ∀ k, k < 9 → (H.th k).sp ≠ 0 → (H.th k).sp = q ∨ ∃ p : Nat, (H.th k).sp = p ∧ 1 ≤ (H.sp p).thr
  zero : (H.th 0).sp = 0 ∧ (H.th 0).core = 0
theorem InvX.inv {H : Hs} {q : Nat} (h : InvX H q) (hq : 1 ≤ (H.sp q).thr) : Inv H :=
  ⟨h.cores, h.sp, h.pc, h.core, h.runs, h.on, h.thr, h.thr0, fun k hk h0 => (h.there k hk h0).elim (fun e => ⟨q, e, hq⟩) id, h.zero⟩
theorem invX_clr {H : Hs} {q : Nat} (h : InvX H q) (q1 : 1 ≤ q) (q6 : q ≤ 6) (hq : (H.sp q).thr = 0) : Inv (clr (H.setSp q Spc.z) q 9) := by
  have eth : ∀ j, (clr (H.setSp q Spc.z) q 9).th j = if j < 9 ∧ (H.th j).sp = q then Th.z else H.th j := fun j => rfl
  have esp : ∀ j, (clr (H.setSp q Spc.z) q 9).sp j = if j = q then Spc.z else H.sp j := fun j => rfl
  have hdead : ∀ j, 1 ≤ j → j ≤ 8 → (H.th j).sp = q → (H.th j).dead = true := fun j j1 j8 e => by
    cases hd : (H.th j).dead with
    | true => rfl
    | false =>
      have h1 := h.thr q q1 q6
      have h2 := sum8_pos (f := fun k => ln q (H.th k)) j1 j8
      have h3 : ln q (H.th j) = 1 := by unfold ln; rw [if_pos ⟨e, hd⟩]
      simp only [h3] at h2
      unfold cntL at h1
      omega
  have z1 : Th.z.sp = 0 := rfl
  have z2 : Th.z.core = 0 := rfl
  have z3 : Th.z.pc = 0 := rfl
  refine ⟨h.cores, fun j hj => ?_, fun j hj => ?_, fun j hj => ?_, fun j j1 j8 hj => ?_, fun d u hu => ?_, fun p p1 p6 => ?_, ?_, fun j hj h0 => ?_, ?_⟩
  · rw [eth]; split
    · rw [z1]; omega
    · exact h.sp j hj
  · rw [eth]; split
    · rw [z3]; omega
    · exact h.pc j hj
  · rw [eth]; split
    · rw [z2]; have := h.cores; exact ⟨by omega, by show (0 : Int) ≤ H.cores; omega⟩
    · exact h.core j hj
  · rw [eth] at hj ⊢
    split at hj
    · exact absurd z2 hj
    · rename_i e
      rw [if_neg e]
      exact h.runs j j1 j8 hj
  · obtain ⟨j, e1, j1, j8, h3, h4⟩ := h.on d u hu
    refine ⟨j, e1, j1, j8, ?_, h4⟩
    rw [eth, if_neg]
    · exact h3
    · rintro ⟨-, e⟩
      have := (h.runs j j1 j8 (by omega)).2.1
      rw [hdead j j1 j8 e] at this
      cases this
  · rw [esp]
    split
    · rename_i e
      subst e
      have : cntL (clr (H.setSp p Spc.z) p 9) p = 0 := sum8_zero fun j j1 j8 => by
        show ln p ((clr (H.setSp p Spc.z) p 9).th j) = 0
        rw [eth]
        split
        · exact ln_none p1 z1
        · rename_i e
          unfold ln
          rw [if_neg (fun e' => e ⟨by omega, e'.1⟩)]
      rw [this]
      rfl
    · rename_i e
      have : cntL (clr (H.setSp q Spc.z) q 9) p = cntL H p := sum8_congr fun j j1 j8 => by
        show ln p ((clr (H.setSp q Spc.z) q 9).th j) = ln p (H.th j)
        rw [eth]
        split
        · rename_i e2
          rw [ln_none p1 z1]
          unfold ln
          rw [if_neg (fun e' => e (by have := e'.1; have := e2.2; omega))]
        · rfl
      rw [this]
      exact h.thr p p1 p6
  · rw [esp, if_neg (by omega)]; exact h.thr0
  · rw [eth] at h0 ⊢
    split at h0
    · exact absurd z1 h0
    · rename_i e
      rw [if_neg e]
      rcases h.there j hj h0 with e2 | ⟨p, e2, e3⟩
      · exact absurd ⟨hj, e2⟩ e
      · refine ⟨p, e2, ?_⟩
        rw [esp, if_neg (fun e' => e ⟨hj, by rw [e2, e']⟩)]
        exact e3
  · rw [eth, if_neg (by rintro ⟨-, e⟩; have := h.zero.1; omega)]; exact h.zero
theorem inv_en3 {H : Hs} (h : Inv H) {k q : Nat} (hl : livesB H k = true) (hq : (H.th k).sp = q) : InvX (en3 H k q) q ∧ 1 ≤ q ∧ q ≤ 6 ∧ ((en3 H k q).sp q).thr = (H.sp q).thr - 1 ∧ 1 ≤ (H.sp q).thr := by
  obtain ⟨k', ek, k1, k8, hk0, hkd⟩ := livesB_some hl
  obtain rfl : k = k' := by omega
  have hq6 := h.sp k (by omega)
  obtain ⟨q', e1, e2⟩ := h.there k (by omega) hk0
  obtain rfl : q = q' := by omega
  have q1 : 1 ≤ q := by omega
  have eth : ∀ j, (en3 H k q).th j = if j = k then { H.th k with core := 0, dead := true } else H.th j := fun j => by
    show (if j = k then _ else (en1 H k).th j) = _
    rw [en1_th]
  have esp : ∀ j, (en3 H k q).sp j = if j = q then { H.sp q with thr := (H.sp q).thr - 1 } else H.sp j := fun j => by
    show (if j = q then _ else (en1 H k).sp j) = _
    rw [en1_sp]
  have eco : (en3 H k q).cores = H.cores := by show (en1 H k).cores = _; unfold en1; split <;> rfl
  have eon : ∀ d, (en3 H k q).on d = if (H.th k).core ≠ 0 ∧ d = (H.th k).core then none else H.on d := fun d => by
    show (en1 H k).on d = _
    unfold en1
    split
    · rename_i e; rw [if_neg (fun e' => e'.1 e)]
    · rename_i e
      show updI H.on (H.th k).core none d = _
      unfold updI
      split
      · rename_i e2; rw [if_pos ⟨e, e2⟩]
      · rename_i e2; rw [if_neg (fun e' => e2 e'.2)]
  have hsame : ∀ j, ((en3 H k q).th j).sp = (H.th j).sp ∧ ((en3 H k q).th j).pc = (H.th j).pc := fun j => by
    rw [eth]; split
    · rename_i e; subst e; exact ⟨rfl, rfl⟩
    · exact ⟨rfl, rfl⟩
  refine ⟨⟨by rw [eco]; exact h.cores, fun j hj => by rw [(hsame j).1]; exact h.sp j hj, fun j hj => by rw [(hsame j).2]; exact h.pc j hj, fun j hj => ?_, fun j j1 j8 hj => ?_, fun d u hu => ?_, fun p p1 p6 => ?_, ?_, fun j hj h0 => ?_, ?_⟩, q1, by omega, by rw [esp, if_pos rfl], e2⟩
  · rw [eth, eco]; split
    · have := h.cores; exact ⟨Int.le_refl 0, by show (0 : Int) ≤ H.cores; omega⟩
    · exact h.core j hj
  · rw [eth] at hj ⊢
    split at hj
    · exact absurd rfl hj
    · rename_i e
      rw [if_neg e]
      obtain ⟨r1, r2, r3⟩ := h.runs j j1 j8 hj
      refine ⟨?_, r2, r3⟩
      rw [eon, if_neg]
      · exact r1
      · rintro ⟨c1, c2⟩
        have := (h.runs k k1 k8 c1).1
        rw [← c2, r1] at this
        injection this with this
        omega
  · rw [eon] at hu
    split at hu
    · cases hu
    · rename_i e
      obtain ⟨j, f1, j1, j8, h3, h4⟩ := h.on d u hu
      refine ⟨j, f1, j1, j8, ?_, h4⟩
      rw [eth, if_neg]
      · exact h3
      · intro e'
        subst e'
        exact e ⟨by omega, h3.symm⟩
  · have hu := cnt_upd H (en3 H k q) p k k1 k8 (fun j hj => by rw [eth, if_neg hj])
    have hn : ln p ((en3 H k q).th k) = 0 := by
      rw [eth, if_pos rfl]
      unfold ln
      rw [if_neg (fun e' => by cases e'.2)]
    rw [hn] at hu
    rw [esp]
    have := h.thr p p1 p6
    split
    · rename_i e
      subst e
      have hl1 : ln p (H.th k) = 1 := by unfold ln; rw [if_pos ⟨hq, hkd⟩]
      show (H.sp p).thr - 1 = _
      omega
    · rename_i e
      have hl0 : ln p (H.th k) = 0 := by unfold ln; rw [if_neg (fun e' => e (by have := e'.1; omega))]
      omega
  · rw [esp, if_neg (by omega)]; exact h.thr0
  · rw [(hsame j).1] at h0 ⊢
    obtain ⟨p, f1, f2⟩ := h.there j hj h0
    by_cases e : p = q
    · exact .inl (by rw [f1, e])
    · exact .inr ⟨p, f1, by rw [esp, if_neg e]; exact f2⟩
  · rw [eth, if_neg (by omega)]; exact h.zero
theorem inv_en {H : Hs} (h : Inv H) (n : Int) : Inv (enH H n) := by
  unfold enH
  split
  · rename_i hl
    obtain ⟨k, rfl, k1, k8, hk0, hkd⟩ := livesB_some hl
    obtain ⟨q, hq⟩ := Int.eq_ofNat_of_zero_le (h.sp k (by omega)).1
    rw [Int.toNat_natCast, hq, Int.toNat_natCast]
    obtain ⟨hX, q1, q6, ht, ht1⟩ := inv_en3 h hl hq
    split
    · rename_i hg
      exact hX.inv (by rw [ht]; omega)
    · rename_i hg
      exact invX_clr hX q1 q6 (by rw [ht]; omega)
  · exact h
end Go.Proofs.Ytgfogbifbpadoaa
