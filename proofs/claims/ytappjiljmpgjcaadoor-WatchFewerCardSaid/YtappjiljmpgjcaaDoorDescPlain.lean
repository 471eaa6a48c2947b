/-
  What a word is as a descriptor, and back: plain arithmetic; and desc.Decode by it.
-/
import Derived.Test.YtappjiljmpgjcaaDoorDescDec0
import Derived.Test.YtappjiljmpgjcaaDoorDescDec1
import Derived.Test.YtappjiljmpgjcaaDoorDescDec2
import Derived.Test.YtappjiljmpgjcaaDoorDescDec3
namespace Go.Proofs.YtappjiljmpgjcaaDoor
open Go.RowKit
set_option linter.unusedVariables false
set_option linter.unusedSimpArgs false

def lvl (l : Int) : Bool := decide (0 ≤ l ∧ l ≤ 3)
def kdOf (l : Int) : Int := if l = 3 then 2 else 1
def good (x l : Int) : Bool := lvl l && wOk (kdOf l) x
def dk (x l : Int) : Int := if good x l then kdOf l else 0
def df (x l : Int) : Int := if good x l then fGet x 47 12 else 0
def dfl (x l hi : Int) : Bool := good x l && (fGet x hi hi == 1)
def de (x l : Int) : Int := if lvl l then (if x % 2 = 0 then 0 else if wOk (kdOf l) x then 0 else 30) else 2
theorem wOk_odd {kd x : Int} (h : wOk kd x = true) : x % 2 = 1 ∧ x % 4 = 3 := by
  have : x % 4 = 3 := by
    simp only [wOk, Bool.and_eq_true] at h
    simpa using h.1
  omega
theorem zero_of {x l : Int} (h : good x l = false) : dk x l = 0 ∧ df x l = 0 ∧ ∀ hi, dfl x l hi = false := by
  simp [dk, df, dfl, h]
theorem dDecode_any (x l : Int) (w : World) (hG : G w) (hx : U64 x) :
    Calls Tryd.prog 28 #[.int .u64 x, .int .i64 l] w fun e w' => e = .returned (.tuple #[.agg #[.int .i8 (dk x l), .int .i64 (df x l), .bool (dfl x l 10), .bool (dfl x l 7), .bool (dfl x l 6), .bool (dfl x l 11)], .int .i64 (de x l)]) ∧ Below w.heap.size w w' := by
  by_cases hl : 0 ≤ l ∧ l ≤ 3
  · have hlv : lvl l = true := by simp [lvl, hl]
    by_cases he : x % 2 = 0
    · have hg : good x l = false := by
        rcases hw : wOk (kdOf l) x with _ | _
        · simp [good, hw]
        · have := (wOk_odd hw).1; omega
      obtain ⟨z1, z2, z3⟩ := zero_of hg
      have z4 : de x l = 0 := by simp [de, hlv, he]
      rw [z1, z2, z3, z3, z3, z3, z4]
      exact dDecode_even x l w hx hl.1 hl.2 he
    · have h1 : (bits .and .u64 x 1 == 0) = false := by rw [and1 x hx]; simp; omega
      have hl' : l = 0 ∨ l = 1 ∨ l = 2 ∨ l = 3 := by omega
      have a3 := and3' x hx
      rcases hw : wOk (kdOf l) x with _ | _
      · have hg : good x l = false := by simp [good, hw]
        obtain ⟨z1, z2, z3⟩ := zero_of hg
        have z4 : de x l = 30 := by simp [de, hlv, he, hw]
        rw [z1, z2, z3, z3, z3, z3, z4]
        clear hg z1 z2 z3 z4
        simp only [wOk, ← a3] at hw
        rcases h3 : (bits .and .u64 x 3 != 3) with _ | _
        · rcases hl' with rfl | rfl | rfl | rfl
          · rcases hn : (bits .andNot .u64 x 281474976706563 != 0) with _ | _
            · exact dDecode_0_bf x w hG hx h1 h3 hn (by simpa [h3, nmd, kdOf, hn] using hw)
            · exact dDecode_0_bn x w hG hx h1 h3 hn
          · rcases hn : (bits .andNot .u64 x 281474976706563 != 0) with _ | _
            · exact dDecode_1_bf x w hG hx h1 h3 hn (by simpa [h3, nmd, kdOf, hn] using hw)
            · exact dDecode_1_bn x w hG hx h1 h3 hn
          · rcases hn : (bits .andNot .u64 x 281474976706563 != 0) with _ | _
            · exact dDecode_2_bf x w hG hx h1 h3 hn (by simpa [h3, nmd, kdOf, hn] using hw)
            · exact dDecode_2_bn x w hG hx h1 h3 hn
          · rcases hn : (bits .andNot .u64 x 281474976709827 != 0) with _ | _
            · exact dDecode_3_bf x w hG hx h1 h3 hn (by simpa [h3, nmd, kdOf, hn] using hw)
            · exact dDecode_3_bn x w hG hx h1 h3 hn
        · rcases hl' with rfl | rfl | rfl | rfl
          · exact dDecode_0_b3 x w hG hx h1 h3
          · exact dDecode_1_b3 x w hG hx h1 h3
          · exact dDecode_2_b3 x w hG hx h1 h3
          · exact dDecode_3_b3 x w hG hx h1 h3
      · have hg : good x l = true := by simp [good, hw, hlv]
        have z4 : de x l = 0 := by simp [de, hlv, he, hw]
        have z1 : dk x l = kdOf l := by simp [dk, hg]
        have z2 : df x l = fGet x 47 12 := by simp [df, hg]
        have z3 : ∀ hi, dfl x l hi = (fGet x hi hi == 1) := by simp [dfl, hg]
        rw [z1, z2, z3, z3, z3, z3, z4]
        clear hg z1 z2 z3 z4
        simp only [wOk, ← a3, Bool.and_eq_true, Bool.not_eq_true', decide_eq_false_iff_not, Int.not_le] at hw
        obtain ⟨h3, hn, hf⟩ := hw
        rcases hl' with rfl | rfl | rfl | rfl
        · exact dDecode_0_ok x w hG hx h1 h3 hn hf
        · exact dDecode_1_ok x w hG hx h1 h3 hn hf
        · exact dDecode_2_ok x w hG hx h1 h3 hn hf
        · exact dDecode_3_ok x w hG hx h1 h3 hn hf
  · have hlv : lvl l = false := by simp only [lvl, decide_eq_false_iff_not]; exact hl
    have hg : good x l = false := by simp [good, hlv]
    obtain ⟨z1, z2, z3⟩ := zero_of hg
    have z4 : de x l = 2 := by simp [de, hlv]
    rw [z1, z2, z3, z3, z3, z3, z4]
    exact dDecode_level x l w (by omega)

/-! ### words and back -/
theorem word_back3 : ∀ (f : Fin 64) (af ro us ng : Bool), good (wordV f.val af ro us ng) 3 = true ∧ df (wordV f.val af ro us ng) 3 = f.val ∧ dfl (wordV f.val af ro us ng) 3 10 = af ∧ dfl (wordV f.val af ro us ng) 3 7 = ro ∧ dfl (wordV f.val af ro us ng) 3 6 = us ∧ dfl (wordV f.val af ro us ng) 3 11 = ng := by decide +kernel
theorem word_back1 : ∀ (f : Fin 64), wOk 1 (wordV f.val false false false false) = true ∧ fGet (wordV f.val false false false false) 47 12 = f.val ∧ fGet (wordV f.val false false false false) 10 10 = 0 ∧ fGet (wordV f.val false false false false) 7 7 = 0 ∧ fGet (wordV f.val false false false false) 6 6 = 0 ∧ fGet (wordV f.val false false false false) 11 11 = 0 := by decide +kernel
theorem bI_eq (n : Int) (h : n = 0 ∨ n = 1) : bI (n == 1) = n := by rcases h with rfl | rfl <;> rfl
theorem get_nat_val (x h l : Nat) (h1 : l ≤ h) (h2 : h ≤ 63) : fGet x h l = ((x / 2 ^ l % 2 ^ (h - l + 1) : Nat) : Int) := fGet_nat x h l h1 h2
theorem fields (x : Nat) : fGet x 47 12 = ((x / 4096 % 68719476736 : Nat) : Int) ∧ fGet x 6 6 = ((x / 64 % 2 : Nat) : Int) ∧ fGet x 7 7 = ((x / 128 % 2 : Nat) : Int) ∧ fGet x 10 10 = ((x / 1024 % 2 : Nat) : Int) ∧ fGet x 11 11 = ((x / 2048 % 2 : Nat) : Int) :=
  ⟨get_nat_val x 47 12 (by omega) (by omega), get_nat_val x 6 6 (by omega) (by omega), get_nat_val x 7 7 (by omega) (by omega), get_nat_val x 10 10 (by omega) (by omega), get_nat_val x 11 11 (by omega) (by omega)⟩
theorem wOk_word2 {x : Int} (hx : U64 x) (h : wOk 2 x = true) : x = wordV (fGet x 47 12) (fGet x 10 10 == 1) (fGet x 7 7 == 1) (fGet x 6 6 == 1) (fGet x 11 11 == 1) ∧ 0 ≤ fGet x 47 12 ∧ fGet x 47 12 ≤ 63 := by
  obtain ⟨x, rfl, hx'⟩ := u64_nat hx
  obtain ⟨e1, e2, e3, e4, e5⟩ := fields x
  have h3 := (wOk_odd h).2
  simp only [wOk, nmd, Bool.and_eq_true, Bool.not_eq_true', decide_eq_false_iff_not, Int.not_le, bne_eq_false_iff_eq] at h
  obtain ⟨_, hn, hf⟩ := h
  have hn' := (named2_iff x hx').1 (by simpa using hn)
  unfold wordV
  rw [e1] at hf ⊢
  rw [e2, e3, e4, e5, bI_eq _ (by omega), bI_eq _ (by omega), bI_eq _ (by omega), bI_eq _ (by omega)]
  omega
theorem wOk_word1 {x : Int} (hx : U64 x) (h : wOk 1 x = true) : x = wordV (fGet x 47 12) false false false false ∧ 0 ≤ fGet x 47 12 ∧ fGet x 47 12 ≤ 63 ∧ fGet x 10 10 = 0 ∧ fGet x 7 7 = 0 ∧ fGet x 6 6 = 0 ∧ fGet x 11 11 = 0 := by
  obtain ⟨x, rfl, hx'⟩ := u64_nat hx
  obtain ⟨e1, e2, e3, e4, e5⟩ := fields x
  have h3 := (wOk_odd h).2
  simp only [wOk, nmd, Bool.and_eq_true, Bool.not_eq_true', decide_eq_false_iff_not, Int.not_le, bne_eq_false_iff_eq] at h
  obtain ⟨_, hn, hf⟩ := h
  have hn' := (named1_iff x hx').1 (by simpa using hn)
  unfold wordV
  simp only [bI, if_false, Bool.false_eq_true]
  rw [e1] at hf ⊢
  rw [e2, e3, e4, e5]
  omega
end Go.Proofs.YtappjiljmpgjcaaDoor
