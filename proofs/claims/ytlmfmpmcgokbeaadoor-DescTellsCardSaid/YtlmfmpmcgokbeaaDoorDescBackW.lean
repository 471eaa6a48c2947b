/-
  The law DescBack of layer 3.
-/
import Derived.Test.YtlmfmpmcgokbeaaDoorDescLaws
namespace Go.Proofs.YtlmfmpmcgokbeaaDoor
open Go.RowKit
set_option linter.unusedVariables false
set_option linter.unusedSimpArgs false

theorem enc_dec {k f l : Int} {af ro us ng : Bool} (h : dOk k f af ro us ng = true) (hl : (k = 1 ∧ 0 ≤ l ∧ l ≤ 2) ∨ (k ≠ 1 ∧ l = 3)) :
    U64 (dV k f af ro us ng) ∧ dk (dV k f af ro us ng) l = k ∧ df (dV k f af ro us ng) l = f ∧ dfl (dV k f af ro us ng) l 10 = af ∧ dfl (dV k f af ro us ng) l 7 = ro ∧ dfl (dV k f af ro us ng) l 6 = us ∧ dfl (dV k f af ro us ng) l 11 = ng ∧ de (dV k f af ro us ng) l = 0 := by
  rw [dOk_iff] at h
  obtain ⟨⟨h0, h1⟩, hk⟩ := h
  have hu : U64 (dV k f af ro us ng) := by
    unfold dV wordV U64
    have b : ∀ b : Bool, 0 ≤ bI b ∧ bI b ≤ 1 := fun b => by cases b <;> decide
    have := b af; have := b ro; have := b us; have := b ng
    split <;> omega
  refine ⟨hu, ?_⟩
  clear hu
  obtain ⟨n, rfl⟩ := fin_of h0 h1
  rcases hk with ⟨rfl, hf, hn⟩ | ⟨rfl, hn⟩ | rfl
  · obtain rfl : l = 3 := by omega
    have : af = false ∧ ro = false ∧ us = false ∧ ng = false := by simpa [noFlag] using hn
    obtain ⟨rfl, rfl, rfl, rfl⟩ := this
    rw [hf]
    decide +kernel
  · have : af = false ∧ ro = false ∧ us = false ∧ ng = false := by simpa [noFlag] using hn
    obtain ⟨rfl, rfl, rfl, rfl⟩ := this
    have key : ∀ (n : Fin 64) (l : Fin 3), dk (wordV n.val false false false false) l.val = 1 ∧ df (wordV n.val false false false false) l.val = n.val ∧ dfl (wordV n.val false false false false) l.val 10 = false ∧ dfl (wordV n.val false false false false) l.val 7 = false ∧ dfl (wordV n.val false false false false) l.val 6 = false ∧ dfl (wordV n.val false false false false) l.val 11 = false ∧ de (wordV n.val false false false false) l.val = 0 := by decide +kernel
    obtain ⟨m, rfl⟩ : ∃ m : Fin 3, l = m.val := ⟨⟨l.toNat, by omega⟩, by simp; omega⟩
    exact key n m
  · obtain rfl : l = 3 := by omega
    obtain ⟨b1, b2, b3, b4, b5, b6⟩ := word_back3 n af ro us ng
    have e : dV 2 n.val af ro us ng = wordV n.val af ro us ng := rfl
    rw [e]
    refine ⟨?_, b2, b3, b4, b5, b6, ?_⟩
    · simp [dk, b1, kdOf]
    · have := wOk_odd ((good3 _).symm.trans b1)
      simp [de, lvl, kdOf, (good3 _).symm.trans b1]
theorem dec_enc {x l : Int} (hx : U64 x) (h : de x l = 0) (ho : x % 2 = 1) :
    dOk (dk x l) (df x l) (dfl x l 10) (dfl x l 7) (dfl x l 6) (dfl x l 11) = true ∧ dV (dk x l) (df x l) (dfl x l 10) (dfl x l 7) (dfl x l 6) (dfl x l 11) = x := by
  have hl : lvl l = true := by
    rcases e : lvl l with _ | _
    · simp [de, e] at h
    · rfl
  have hw : wOk (kdOf l) x = true := by
    rcases e : wOk (kdOf l) x with _ | _
    · simp [de, hl, e, ho] at h
    · rfl
  have hg : good x l = true := by simp [good, hl, hw]
  rw [dOk_iff]
  by_cases h3 : l = 3
  · subst h3
    obtain ⟨e, f0, f1⟩ := wOk_word2 hx hw
    refine ⟨⟨?_, .inr (.inr ?_)⟩, ?_⟩
    · simp [df, hg]; omega
    · simp [dk, hg, kdOf]
    · simp only [dV, dk, df, dfl, hg, kdOf, Bool.true_and, if_true]
      exact e.symm
  · have e3 : kdOf l = 1 := by simp [kdOf, h3]
    rw [e3] at hw
    obtain ⟨e, f0, f1, g1, g2, g3, g4⟩ := wOk_word1 hx hw
    have d1 : dfl x l 10 = false := by simp [dfl, g1]
    have d2 : dfl x l 7 = false := by simp [dfl, g2]
    have d3 : dfl x l 6 = false := by simp [dfl, g3]
    have d4 : dfl x l 11 = false := by simp [dfl, g4]
    rw [d1, d2, d3, d4]
    refine ⟨⟨?_, .inr (.inl ⟨?_, rfl⟩)⟩, ?_⟩
    · simp [df, hg]; omega
    · simp [dk, hg, e3]
    · simp only [dV, dk, df, hg, e3, if_true]
      exact e.symm
theorem dec_even {x l : Int} (ho : x % 2 = 0) : dk x l = 0 := by
  refine (zero_of (l := l) ?_).1
  rcases e : good x l with _ | _
  · rfl
  · simp only [good, Bool.and_eq_true] at e
    have := (wOk_odd e.2).1
    omega
end Go.Proofs.YtlmfmpmcgokbeaaDoor
