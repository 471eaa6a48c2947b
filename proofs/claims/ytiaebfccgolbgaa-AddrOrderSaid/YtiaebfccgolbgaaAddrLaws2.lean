/-
  The walks of the laws AddrOrder, AddrPrefixes and AddrBack.
-/
import Derived.Test.YtiaebfccgolbgaaAddrLaws
namespace Go.Proofs.Ytiaebfccgolbgaa
open Go.RowKit
set_option linter.unusedVariables false
set_option linter.unusedSimpArgs false

theorem norm_mod (k m : Int) (hm : 1 ≤ m) (hm2 : m ≤ 4294967296) : 0 ≤ (wrap64 (k.tmod m + m)).tmod m ∧ (wrap64 (k.tmod m + m)).tmod m < m := by
  have h1 := Int.tmod_lt_of_pos k (show 0 < m by omega)
  have h2 : -m < k.tmod m := by
    have := Int.tmod_lt_of_pos (-k) (show 0 < m by omega)
    rw [Int.neg_tmod] at this
    omega
  rw [IntWalk.wrap64_in _ (by omega)]
  rw [Int.tmod_eq_emod_of_nonneg (by omega)]
  exact ⟨Int.emod_nonneg _ (by omega), Int.emod_lt_of_pos _ (by omega)⟩
theorem and3 (n : Int) : 0 ≤ bits .and .i64 n 3 ∧ bits .and .i64 n 3 ≤ 3 := by
  have e : bits .and .i64 n 3 = IntKind.i64.wrap (((BitVec.ofInt 64 n &&& BitVec.ofInt 64 3).toNat : Nat) : Int) := rfl
  have a : (BitVec.ofInt 64 n &&& BitVec.ofInt 64 3).toNat ≤ 3 := by
    rw [BitVec.toNat_and]
    exact Nat.le_trans Nat.and_le_right (by decide)
  rw [e, IntWalk.i64_in _ (by omega)]
  omega
theorem u64_of (a : Int) (h : 0 ≤ a) (h' : a < 34359738368) : U64 a := ⟨h, by omega⟩
theorem mod35 (a : Int) : 0 ≤ a % 34359738368 ∧ a % 34359738368 < 34359738368 := ⟨by omega, by omega⟩
set_option maxHeartbeats 2000000 in
theorem addrOrder_any (a b x y : Int) (w : World) (ha : U64 a) (hb : U64 b) :
    Calls Try.prog 8 #[.int .u64 a, .int .u64 b, .int .i64 x, .int .i64 y] w fun e w' => e = .returned (.bool true) ∧ Below w.heap.size w w' := by
  have ha0 := ha.1
  have hb0 := hb.1
  go_enter Try.func8, Try.ntmps8
  go_wp2_with fail
  obtain ⟨a0, a1⟩ := mod35 a
  obtain ⟨b0, b1⟩ := mod35 b
  obtain ⟨x0, x1⟩ := norm_mod x 512 (by omega) (by omega)
  obtain ⟨y0, y1⟩ := norm_mod y 512 (by omega) (by omega)
  generalize a % 34359738368 = A at a0 a1 ⊢
  generalize b % 34359738368 = B at b0 b1 ⊢
  generalize (wrap64 (x.tmod 512 + 512)).tmod 512 = X at x0 x1 ⊢
  generalize (wrap64 (y.tmod 512 + 512)).tmod 512 = Y at y0 y1 ⊢
  clear ha hb ha0 hb0
  refine (va_yes A X _ a0 ((vaOk_iff _ _).2 ⟨a1, x0, by omega⟩)).mono ?_
  rintro e w1 ⟨rfl, rfl⟩
  go_wp2_with fail
  refine (va_yes B Y _ b0 ((vaOk_iff _ _).2 ⟨b1, y0, by omega⟩)).mono ?_
  rintro e w2 ⟨rfl, rfl⟩
  by_cases c1 : A < B
  · have e1 : (A == B) = false := by simp; omega
    have e2 : (A * 4096 + X * 8 == B * 4096 + Y * 8) = false := by simp; omega
    have e3 : A * 4096 + X * 8 < B * 4096 + Y * 8 := by omega
    go_wp2_with (go_at_call 29; refine (wakes2_any _).mono ?_; rintro e w3 ⟨rfl, hb3⟩)
    go_ret
    exact ⟨rfl, hb3⟩
  · by_cases c2 : B < A
    · have e1 : (A == B) = false := by simp; omega
      have e2 : (A * 4096 + X * 8 == B * 4096 + Y * 8) = false := by simp; omega
      have e3 : ¬ A * 4096 + X * 8 < B * 4096 + Y * 8 := by omega
      go_wp2_with (go_at_call 29; refine (wakes2_any _).mono ?_; rintro e w3 ⟨rfl, hb3⟩)
      go_ret
      exact ⟨rfl, hb3⟩
    · obtain rfl : A = B := by omega
      clear c1 c2
      by_cases c3 : X < Y
      · have e1 : (X == Y) = false := by simp; omega
        have e2 : (A * 4096 + X * 8 == A * 4096 + Y * 8) = false := by simp; omega
        have e3 : A * 4096 + X * 8 < A * 4096 + Y * 8 := by omega
        go_wp2_with (go_at_call 29; refine (wakes2_any _).mono ?_; rintro e w3 ⟨rfl, hb3⟩)
        go_ret
        exact ⟨rfl, hb3⟩
      · by_cases c4 : Y < X
        · have e1 : (X == Y) = false := by simp; omega
          have e2 : (A * 4096 + X * 8 == A * 4096 + Y * 8) = false := by simp; omega
          have e3 : ¬ A * 4096 + X * 8 < A * 4096 + Y * 8 := by omega
          go_wp2_with (go_at_call 29; refine (wakes2_any _).mono ?_; rintro e w3 ⟨rfl, hb3⟩)
          go_ret
          exact ⟨rfl, hb3⟩
        · obtain rfl : X = Y := by omega
          go_wp2_with (go_at_call 29; refine (wakes2_any _).mono ?_; rintro e w3 ⟨rfl, hb3⟩)
          go_ret
          exact ⟨rfl, hb3⟩
/-- Have two pages the same indices below level i? -/
def sameTo (a b : Int) (i : Nat) : Bool := a / 2 ^ (36 - 9 * i) == b / 2 ^ (36 - 9 * i)
theorem fGet_int (x h l : Int) (hx : U64 x) (hk : 0 ≤ l ∧ l ≤ h ∧ h ≤ 63) : fGet x h l = x / 2 ^ l.toNat % 2 ^ (h - l + 1).toNat := by
  obtain ⟨h', l', rfl, rfl, h1, h2⟩ := nat_of_ok hk
  obtain ⟨x, rfl, hx'⟩ := u64_nat hx
  rw [fGet_nat x h' l' h1 h2]
  unfold nGet
  rw [show ((h' : Int) - l' + 1).toNat = h' - l' + 1 by omega, Int.toNat_natCast]
  simp only [Int.natCast_emod, Int.natCast_ediv, Int.natCast_pow, Int.cast_ofNat_Int]
theorem sameTo_succ (a b : Int) (i : Nat) (hi : i ≤ 3) (ha : U64 a) (hb : U64 b) : (sameTo a b i && (aIdx a i == aIdx b i)) = sameTo a b (i + 1) := by
  have e : i = 0 ∨ i = 1 ∨ i = 2 ∨ i = 3 := by omega
  have a0 := ha.1
  have b0 := hb.1
  unfold sameTo aIdx
  rcases e with rfl | rfl | rfl | rfl
  all_goals
    rw [fGet_int a _ _ ha (by decide), fGet_int b _ _ hb (by decide), Bool.eq_iff_iff]
    simp only [Bool.and_eq_true, beq_iff_eq]
    simp
    omega
theorem sameTo_zero (a b : Int) (ha : 0 ≤ a) (ha' : a < 34359738368) (hb : 0 ≤ b) (hb' : b < 34359738368) : sameTo a b 0 = true := by
  unfold sameTo
  simp only [beq_iff_eq]
  simp
  omega
theorem sameTo_pre (a b : Int) (l : Nat) (hl : l ≤ 3) : (aPre a l == aPre b l) = sameTo a b (l + 1) := by
  have e : l = 0 ∨ l = 1 ∨ l = 2 ∨ l = 3 := by omega
  unfold sameTo aPre
  rcases e with rfl | rfl | rfl | rfl <;> rfl
theorem same_false (a b : Int) (i : Nat) (hi : i ≤ 3) (ha : U64 a) (hb : U64 b) (h : sameTo a b i = false) : sameTo a b (i + 1) = false := by
  rw [← sameTo_succ a b i hi ha hb, h]; rfl
set_option maxHeartbeats 4000000 in
theorem addrPrefixes_any (a b level : Int) (w : World) (ha : U64 a) (hb : U64 b) :
    Calls Try.prog 7 #[.int .u64 a, .int .u64 b, .int .i64 level] w fun e w' => e = .returned (.bool true) ∧ Below w.heap.size w w' := by
  have ha0 := ha.1
  have hb0 := hb.1
  go_enter Try.func7, Try.ntmps7
  go_wp2_with fail
  obtain ⟨a0, a1⟩ := mod35 a
  obtain ⟨b0, b1⟩ := mod35 b
  obtain ⟨l0, l1⟩ := and3 level
  generalize a % 34359738368 = A at a0 a1 ⊢
  generalize b % 34359738368 = B at b0 b1 ⊢
  generalize bits BinOp.and IntKind.i64 level 3 = L at l0 l1 ⊢
  clear ha hb ha0 hb0
  have hA := u64_of A a0 a1
  have hB := u64_of B b0 b1
  obtain ⟨L, rfl⟩ := Int.eq_ofNat_of_zero_le l0
  refine (prefix_yes A L _ ((aOk_iff _ _).2 ⟨a1, l0, l1⟩)).mono ?_
  rintro e w1 ⟨rfl, rfl⟩
  go_wp2_with fail
  refine (prefix_yes B L _ ((aOk_iff _ _).2 ⟨b1, l0, l1⟩)).mono ?_
  rintro e w2 ⟨rfl, rfl⟩
  go_wp2_with fail
  go_loopw [11, 12] (fun s i wr => ∃ k : Nat, k ≤ L + 1 ∧ i = .int .i64 k ∧ s = .bool (sameTo A B k) ∧ Below w.heap.size w wr) (fun _ i _ => (L + 1 - (intOf i).toNat))
  case atStart => exact ⟨0, by omega, rfl, by rw [sameTo_zero A B a0 a1 b0 b1], Below.refl _ _⟩
  case round =>
    obtain ⟨k, hk, rfl, rfl, hW⟩ := hrel
    by_cases hlt : k ≤ L
    · have HS := Lib.hid (sameTo_succ A B k (by omega) hA hB)
      rcases hs : sameTo A B k with _ | _
      · rw [hs] at HS
        clear hs
        go_wp2_with fail
        refine (index_yes A k _ hA ((aOk_iff _ _).2 ⟨a1, by omega, by omega⟩)).mono ?_
        rintro e w3 ⟨rfl, hb3⟩
        go_wp2_with fail
        refine (index_yes B k _ hB ((aOk_iff _ _).2 ⟨b1, by omega, by omega⟩)).mono ?_
        rintro e w4 ⟨rfl, hb4⟩
        go_wp2_with fail
        go_roundw
        case rel => exact ⟨k + 1, by omega, by go_num, by rw [← HS.out]; rfl, bthen (bthen hW hb3) hb4⟩
        case measure => simp [intOf] <;> omega
      · rw [hs] at HS
        clear hs
        rcases hq : (aIdx A k == aIdx B k) with _ | _
        · rw [hq] at HS
          go_wp2_with fail
          refine (index_yes A k _ hA ((aOk_iff _ _).2 ⟨a1, by omega, by omega⟩)).mono ?_
          rintro e w3 ⟨rfl, hb3⟩
          go_wp2_with fail
          refine (index_yes B k _ hB ((aOk_iff _ _).2 ⟨b1, by omega, by omega⟩)).mono ?_
          rintro e w4 ⟨rfl, hb4⟩
          go_wp2_with fail
          go_roundw
          case rel => exact ⟨k + 1, by omega, by go_num, by rw [← HS.out]; rfl, bthen (bthen hW hb3) hb4⟩
          case measure => simp [intOf] <;> omega
        · rw [hq] at HS
          go_wp2_with fail
          refine (index_yes A k _ hA ((aOk_iff _ _).2 ⟨a1, by omega, by omega⟩)).mono ?_
          rintro e w3 ⟨rfl, hb3⟩
          go_wp2_with fail
          refine (index_yes B k _ hB ((aOk_iff _ _).2 ⟨b1, by omega, by omega⟩)).mono ?_
          rintro e w4 ⟨rfl, hb4⟩
          go_wp2_with fail
          go_roundw
          case rel => exact ⟨k + 1, by omega, by go_num, by rw [← HS.out]; rfl, bthen (bthen hW hb3) hb4⟩
          case measure => simp [intOf] <;> omega
    · obtain rfl : k = L + 1 := by omega
      have HP := Lib.hid (sameTo_pre A B L (by omega))
      rcases hs : sameTo A B (L + 1) with _ | _
      · rw [hs] at HP
        have hp := HP.out
        go_wp2_with (go_at_call 29; refine (wakes2_any _).mono ?_; rintro e w3 ⟨rfl, hb3⟩)
        go_ret
        exact ⟨rfl, bthen hW hb3⟩
      · rw [hs] at HP
        have hp := HP.out
        go_wp2_with (go_at_call 29; refine (wakes2_any _).mono ?_; rintro e w3 ⟨rfl, hb3⟩)
        go_ret
        exact ⟨rfl, bthen hW hb3⟩
end Go.Proofs.Ytiaebfccgolbgaa
