/-
  The walks of package addr: what each function computes.
-/
import Derived.Test.YtiaebfccgolbgaaAddrWalks
import Derived.LoopTactic
import Derived.LoopN
namespace Go.Proofs.Ytiaebfccgolbgaa
open Go.RowKit
set_option linter.unusedVariables false
set_option linter.unusedSimpArgs false

theorem or9 (p i : Int) (h0 : 0 ≤ p) (h1 : p < 34359738368) (h2 : 0 ≤ i) (h3 : i ≤ 511) : bits .or .u64 (IntKind.u64.wrap (p * 512)) i = p * 512 + i := by
  obtain ⟨p, rfl⟩ := Int.eq_ofNat_of_zero_le h0
  obtain ⟨i, rfl⟩ := Int.eq_ofNat_of_zero_le h2
  have e : IntKind.u64.wrap ((p : Int) * 512) = ((p * 512 : Nat) : Int) := by rw [IntKind.wrap_u64]; omega
  rw [e, u64_or_nat _ _ (by omega) (by omega), nat_join 9 (p * 512) i (by omega) (by omega)]
  omega
theorem or0 (i : Int) (h2 : 0 ≤ i) (h3 : i ≤ 511) : bits .or .u64 0 i = i := by
  have := or9 0 i (by omega) (by omega) h2 h3
  rw [show IntKind.u64.wrap ((0 : Int) * 512) = 0 by rw [IntKind.wrap_u64]; omega] at this
  omega
theorem from_val (a b c d : Int) (ha : 0 ≤ a) (ha' : a ≤ 255) (hb : 0 ≤ b) (hb' : b ≤ 511) (hc : 0 ≤ c) (hc' : c ≤ 511) (hd : 0 ≤ d) (hd' : d ≤ 511) :
    bits .or .u64 (IntKind.u64.wrap (bits .or .u64 (IntKind.u64.wrap (bits .or .u64 (IntKind.u64.wrap (bits .or .u64 0 a * 512)) b * 512)) c * 512)) d = ((a * 512 + b) * 512 + c) * 512 + d := by
  rw [or0 a ha (by omega), or9 a b (by omega) (by omega) hb hb', or9 _ c (by omega) (by omega) hc hc', or9 _ d (by omega) (by omega) hd hd']
def fromOk (a b c d : Int) : Bool := decide (0 ≤ a ∧ a ≤ 255 ∧ 0 ≤ b ∧ b ≤ 511 ∧ 0 ≤ c ∧ c ≤ 511 ∧ 0 ≤ d ∧ d ≤ 511)
theorem fromOk_iff (a b c d : Int) : fromOk a b c d = true ↔ 0 ≤ a ∧ a ≤ 255 ∧ 0 ≤ b ∧ b ≤ 511 ∧ 0 ≤ c ∧ c ≤ 511 ∧ 0 ≤ d ∧ d ≤ 511 := by simp [fromOk]
theorem ret_two {k l : IntKind} {a b c : Int} (h : a = b) : Ending.returned (.tuple #[.int k a, .int l c]) = .returned (.tuple #[.int k b, .int l c]) := by rw [h]
set_option maxHeartbeats 1000000 in
theorem from_yes (a b c d : Int) (w : World) (hk : fromOk a b c d = true) :
    Calls Try.prog 27 #[.agg #[.int .i64 a, .int .i64 b, .int .i64 c, .int .i64 d]] w fun e w' => e = .returned (.tuple #[.int .u64 (((a * 512 + b) * 512 + c) * 512 + d), .int .i64 0]) ∧ Below w.heap.size w w' := by
  obtain ⟨ha, ha', hb, hb', hc, hc', hd, hd'⟩ := (fromOk_iff _ _ _ _).1 hk
  clear hk
  have HV := Lib.hid (from_val a b c d ha ha' hb hb' hc hc' hd hd')
  go_enter Try.func27, Try.ntmps27
  go_wp2
  refine wp_loop_rounds 5 ?_
  repeat any_goals (rw [rounds_succ]; go_wp2)
  go_ret2
  exact ⟨ret_two HV.out, ba (Below.refl _ _) _⟩
set_option maxHeartbeats 4000000 in
theorem from_no (a b c d : Int) (w : World) (hk : fromOk a b c d = false) :
    Calls Try.prog 27 #[.agg #[.int .i64 a, .int .i64 b, .int .i64 c, .int .i64 d]] w fun e w' => e = .returned (.tuple #[.int .u64 0, .int .i64 2]) ∧ Below w.heap.size w w' := by
  have hk' : ¬ (0 ≤ a ∧ a ≤ 255 ∧ 0 ≤ b ∧ b ≤ 511 ∧ 0 ≤ c ∧ c ≤ 511 ∧ 0 ≤ d ∧ d ≤ 511) := by rw [← fromOk_iff]; simp [hk]
  clear hk
  have hcases : 255 < a ∨ (a ≤ 255 ∧ a < 0) ∨ (a ≤ 255 ∧ 0 ≤ a ∧ b < 0) ∨ (a ≤ 255 ∧ 0 ≤ a ∧ 511 < b) ∨ (a ≤ 255 ∧ 0 ≤ a ∧ 0 ≤ b ∧ b ≤ 511 ∧ c < 0) ∨ (a ≤ 255 ∧ 0 ≤ a ∧ 0 ≤ b ∧ b ≤ 511 ∧ 511 < c)
      ∨ (a ≤ 255 ∧ 0 ≤ a ∧ 0 ≤ b ∧ b ≤ 511 ∧ 0 ≤ c ∧ c ≤ 511 ∧ d < 0) ∨ (a ≤ 255 ∧ 0 ≤ a ∧ 0 ≤ b ∧ b ≤ 511 ∧ 0 ≤ c ∧ c ≤ 511 ∧ 511 < d) := by omega
  clear hk'
  rcases hcases with h1 | ⟨h1, h2⟩ | ⟨h1, h2, h3⟩ | ⟨h1, h2, h3⟩ | ⟨h1, h2, h3, h4, h5⟩ | ⟨h1, h2, h3, h4, h5⟩ | ⟨h1, h2, h3, h4, h5, h6, h7⟩ | ⟨h1, h2, h3, h4, h5, h6, h7⟩
  · go_enter Try.func27, Try.ntmps27
    go_wp2
    go_ret2
    exact ⟨rfl, ba (Below.refl _ _) _⟩
  all_goals
    go_enter Try.func27, Try.ntmps27
    go_wp2
    refine wp_loop_rounds 5 ?_
    repeat any_goals (rw [rounds_succ]; go_wp2)
    go_ret2
    exact ⟨rfl, ba (Below.refl _ _) _⟩
end Go.Proofs.Ytiaebfccgolbgaa
