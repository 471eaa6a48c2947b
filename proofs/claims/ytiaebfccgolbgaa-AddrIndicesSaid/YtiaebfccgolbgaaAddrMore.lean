/-
  The walks of package addr: what each function computes.
-/
import Derived.Test.YtiaebfccgolbgaaAddrFrom
import Derived.LoopTactic
import Derived.LoopN
namespace Go.Proofs.Ytiaebfccgolbgaa
open Go.RowKit
set_option linter.unusedVariables false
set_option linter.unusedSimpArgs false

theorem or_va (p i : Int) (h0 : 0 ≤ p) (h1 : p < 34359738368) (h2 : 0 ≤ i) (h3 : i ≤ 511) : bits .or .u64 (IntKind.u64.wrap (p * 4096)) (IntKind.u64.wrap (i * 8)) = p * 4096 + i * 8 := by
  obtain ⟨p, rfl⟩ := Int.eq_ofNat_of_zero_le h0
  obtain ⟨i, rfl⟩ := Int.eq_ofNat_of_zero_le h2
  have e : IntKind.u64.wrap ((p : Int) * 4096) = ((p * 4096 : Nat) : Int) := by rw [IntKind.wrap_u64]; omega
  have e' : IntKind.u64.wrap ((i : Int) * 8) = ((i * 8 : Nat) : Int) := by rw [IntKind.wrap_u64]; omega
  rw [e, e', u64_or_nat _ _ (by omega) (by omega), nat_join 12 (p * 4096) (i * 8) (by omega) (by omega)]
  omega
theorem or_va' (p i : Int) (h0 : 0 ≤ p) (h1 : p < 34359738368) (h2 : 0 ≤ i) (h3 : i ≤ 511) : bits .or .u64 (p * 4096) (i * 8) = p * 4096 + i * 8 := by
  have := or_va p i h0 h1 h2 h3
  rwa [IntWalk.u64_in (p * 4096) (by omega), IntWalk.u64_in (i * 8) (by omega)] at this
def vaOk (page place : Int) : Bool := decide (page < 34359738368 ∧ 0 ≤ place ∧ place ≤ 511)
theorem vaOk_iff (page place : Int) : vaOk page place = true ↔ page < 34359738368 ∧ 0 ≤ place ∧ place ≤ 511 := by simp [vaOk]
set_option maxHeartbeats 1000000 in
theorem va_yes (page place : Int) (w : World) (h0 : 0 ≤ page) (hk : vaOk page place = true) :
    Calls Try.prog 30 #[.int .u64 page, .int .i64 place] w fun e w' => e = .returned (.tuple #[.int .u64 (page * 4096 + place * 8), .int .i64 0]) ∧ w = w' := by
  obtain ⟨h1, h2, h3⟩ := (vaOk_iff _ _).1 hk
  clear hk
  have HV := Lib.hid (or_va' page place h0 h1 h2 h3)
  go_enter Try.func30, Try.ntmps30
  go_wp2
  go_ret2
  exact ⟨ret_two HV.out, rfl⟩
set_option maxHeartbeats 1000000 in
theorem va_no (page place : Int) (w : World) (hk : vaOk page place = false) :
    Calls Try.prog 30 #[.int .u64 page, .int .i64 place] w fun e w' => e = .returned (.tuple #[.int .u64 0, .int .i64 2]) ∧ w = w' := by
  have hk' : ¬ (page < 34359738368 ∧ 0 ≤ place ∧ place ≤ 511) := by rw [← vaOk_iff]; simp [hk]
  clear hk
  have hcases : 34359738368 ≤ page ∨ (page < 34359738368 ∧ place < 0) ∨ (page < 34359738368 ∧ 0 ≤ place ∧ 511 < place) := by omega
  clear hk'
  rcases hcases with h1 | ⟨h1, h2⟩ | ⟨h1, h2, h3⟩
  all_goals
    go_enter Try.func30, Try.ntmps30
    go_wp2
    go_ret2
    exact ⟨rfl, rfl⟩
def wordOk (frame place : Int) : Bool := decide (0 ≤ frame ∧ frame ≤ 1048576 ∧ 0 ≤ place ∧ place ≤ 511)
theorem wordOk_iff (frame place : Int) : wordOk frame place = true ↔ 0 ≤ frame ∧ frame ≤ 1048576 ∧ 0 ≤ place ∧ place ≤ 511 := by simp [wordOk]
set_option maxHeartbeats 1000000 in
theorem word_yes (frame place : Int) (w : World) (hk : wordOk frame place = true) :
    Calls Try.prog 40 #[.int .i64 frame, .int .i64 place] w fun e w' => e = .returned (.tuple #[.int .u64 (512 * frame + place), .int .i64 0]) ∧ w = w' := by
  obtain ⟨h0, h1, h2, h3⟩ := (wordOk_iff _ _).1 hk
  clear hk
  go_enter Try.func40, Try.ntmps40
  go_wp2
  go_ret2
  exact ⟨rfl, rfl⟩
set_option maxHeartbeats 1000000 in
theorem word_no (frame place : Int) (w : World) (hk : wordOk frame place = false) :
    Calls Try.prog 40 #[.int .i64 frame, .int .i64 place] w fun e w' => e = .returned (.tuple #[.int .u64 0, .int .i64 2]) ∧ w = w' := by
  have hk' : ¬ (0 ≤ frame ∧ frame ≤ 1048576 ∧ 0 ≤ place ∧ place ≤ 511) := by rw [← wordOk_iff]; simp [hk]
  clear hk
  have hcases : frame < 0 ∨ (0 ≤ frame ∧ 1048576 < frame) ∨ (0 ≤ frame ∧ frame ≤ 1048576 ∧ place < 0) ∨ (0 ≤ frame ∧ frame ≤ 1048576 ∧ 0 ≤ place ∧ 511 < place) := by omega
  clear hk'
  rcases hcases with h1 | ⟨h1, h2⟩ | ⟨h1, h2, h3⟩ | ⟨h1, h2, h3, h4⟩
  all_goals
    go_enter Try.func40, Try.ntmps40
    go_wp2
    go_ret2
    exact ⟨rfl, rfl⟩
theorem fGet_top (x : Int) (l : Nat) (hx : U64 x) (h2 : l ≤ 63) : fGet x 63 l = x / 2 ^ l := by
  obtain ⟨x, rfl, hx'⟩ := u64_nat hx
  have e := fGet_nat x 63 l h2 (by omega)
  simp only [Int.cast_ofNat_Int] at e
  rw [e]
  unfold nGet
  have a : x / 2 ^ l < 2 ^ (63 - l + 1) := by
    rw [Nat.div_lt_iff_lt_mul (pow_pos2 l), ← Nat.pow_add, show 63 - l + 1 + l = 64 by omega]
    simpa using hx'
  rw [Nat.mod_eq_of_lt a]
  simp only [Int.natCast_ediv, Int.natCast_pow, Int.cast_ofNat_Int]
theorem fGet_bot (x : Int) (h : Nat) (hx : U64 x) (h2 : h ≤ 63) : fGet x h 0 = x % 2 ^ (h + 1) := by
  obtain ⟨x, rfl, hx'⟩ := u64_nat hx
  have e := fGet_nat x h 0 (by omega) h2
  simp only [Int.cast_ofNat_Int] at e
  rw [e]
  unfold nGet
  simp only [Nat.pow_zero, Nat.div_one, Nat.sub_zero, Int.natCast_emod, Int.natCast_pow, Int.cast_ofNat_Int]
set_option maxHeartbeats 1000000 in
theorem user_any (va : Int) (w : World) (hx : U64 va) :
    Calls Try.prog 32 #[.int .u64 va] w fun e w' => e = .returned (.bool (va / 140737488355328 == 0)) ∧ Below w.heap.size w w' := by
  have HV := Lib.hid (fGet_top va 47 hx (by omega))
  go_enter Try.func32, Try.ntmps32
  go_wp2_with (go_at_call 14; refine (get_any _ _ _ _ hx).mono ?_; rintro e w1 ⟨rfl, hb1⟩)
  go_ret
  exact ⟨by have := HV.out; simp at this; simp [this], hb1⟩
set_option maxHeartbeats 1000000 in
theorem aligned_any (va : Int) (w : World) (hx : U64 va) :
    Calls Try.prog 34 #[.int .u64 va] w fun e w' => e = .returned (.bool (va % 8 == 0)) ∧ Below w.heap.size w w' := by
  have HV := Lib.hid (fGet_bot va 2 hx (by omega))
  go_enter Try.func34, Try.ntmps34
  go_wp2_with (go_at_call 14; refine (get_any _ _ _ _ hx).mono ?_; rintro e w1 ⟨rfl, hb1⟩)
  go_ret
  exact ⟨by have := HV.out; simp at this; simp [this], hb1⟩
set_option maxHeartbeats 1000000 in
theorem page_any (va : Int) (w : World) (hx : U64 va) :
    Calls Try.prog 36 #[.int .u64 va] w fun e w' => e = .returned (.int .u64 (va / 4096)) ∧ Below w.heap.size w w' := by
  have HV := Lib.hid (fGet_top va 12 hx (by omega))
  go_enter Try.func36, Try.ntmps36
  go_wp2_with (go_at_call 14; refine (get_any _ _ _ _ hx).mono ?_; rintro e w1 ⟨rfl, hb1⟩)
  go_ret
  exact ⟨by have := HV.out; simp at this; simp [this], hb1⟩
set_option maxHeartbeats 1000000 in
theorem place_any (va : Int) (w : World) (hx : U64 va) :
    Calls Try.prog 38 #[.int .u64 va] w fun e w' => e = .returned (.int .i64 (fGet va 11 3)) ∧ Below w.heap.size w w' := by
  obtain ⟨a0, a1⟩ := fGet_9 va 11 3 (by omega)
  go_enter Try.func38, Try.ntmps38
  go_wp2_with (go_at_call 14; refine (get_any _ _ _ _ hx).mono ?_; rintro e w1 ⟨rfl, hb1⟩)
  go_ret
  exact ⟨rfl, hb1⟩
set_option maxHeartbeats 1000000 in
theorem split_yes (word : Int) (w : World) (hx : U64 word) (hk : word ≤ 1099511627776) :
    Calls Try.prog 42 #[.int .u64 word] w fun e w' => e = .returned (.tuple #[.int .i64 (word / 512), .int .i64 (word % 512)]) ∧ Below w.heap.size w w' := by
  have h0 := hx.1
  have e1 := fGet_top word 9 hx (by omega)
  have e2 := fGet_bot word 8 hx (by omega)
  simp at e1 e2
  have HV1 := Lib.hid e1
  have HV2 := Lib.hid e2
  clear e1 e2
  go_enter Try.func42, Try.ntmps42
  go_wp2_with fail
  refine (get_any _ _ _ _ hx).mono ?_
  rintro e w1 ⟨rfl, hb1⟩
  rw [HV1.out]
  go_wp2_with fail
  refine (get_any _ _ _ _ hx).mono ?_
  rintro e w2 ⟨rfl, hb2⟩
  rw [HV2.out]
  go_wp2_with fail
  go_ret2
  exact ⟨rfl, bthen hb1 hb2⟩
set_option maxHeartbeats 1000000 in
theorem split_no (word : Int) (w : World) (hk : 1099511627776 < word) :
    Calls Try.prog 42 #[.int .u64 word] w fun e w' => e = .returned (.tuple #[.int .i64 0, .int .i64 0]) ∧ w = w' := by
  go_enter Try.func42, Try.ntmps42
  go_wp2
  go_ret2
  exact ⟨rfl, rfl⟩
end Go.Proofs.Ytiaebfccgolbgaa
