/-
  The walks of inval's Encode, Decode and Covers.
-/
import Derived.Test.YtokmcelmodoeoaaInvalWalks
namespace Go.Proofs.Ytokmcelmodoeoaa
open Go.RowKit
set_option linter.unusedVariables false
set_option linter.unusedSimpArgs false

def encV (a p : Int) : Int := a * 281474976710656 + p
theorem enc_val (a p : Int) (h0 : 0 ≤ a) (h1 : a ≤ 255) (h2 : 0 ≤ p) (h3 : p < 34359738368) : bits .or .u64 (a * 281474976710656) p = encV a p := by
  obtain ⟨a, rfl⟩ := Int.eq_ofNat_of_zero_le h0
  obtain ⟨p, rfl⟩ := Int.eq_ofNat_of_zero_le h2
  have e : ((a : Int) * 281474976710656) = ((a * 281474976710656 : Nat) : Int) := by omega
  unfold encV
  rw [e, u64_or_nat _ _ (by omega) (by omega), nat_join 48 (a * 281474976710656) p (by omega) (by omega)]
  omega
theorem mayB_p {k a p : Int} (h : mayB k a p = true) : 0 ≤ a ∧ a ≤ 255 ∧ p < 34359738368 := by
  rw [mayB_iff] at h; omega
set_option maxHeartbeats 1000000 in
theorem encode_yes (k a p : Int) (w : World) (hp : 0 ≤ p) (hm : mayB k a p = true) :
    Calls Try.prog 22 #[.agg #[.int .i8 k, .int .i64 a, .int .u64 p]] w fun e w' => e = .returned (.tuple #[.int .u64 (encV a p), .int .i64 0]) ∧ Below w.heap.size w w' := by
  obtain ⟨h0, h1, h2⟩ := mayB_p hm
  have HM := Lib.hid hm
  have HV := Lib.hid (enc_val a p h0 h1 hp h2)
  clear hm
  go_enter Try.func22, Try.ntmps22
  go_wp2_with (go_at_call 29; refine (may_any _ _ _ _).mono ?_; rintro e w1 ⟨rfl, hb1⟩; rw [HM.out]; obtain ⟨hc1, hf1⟩ := bcell hb1)
  go_ret2
  exact ⟨ret_two HV.out, bthen (ba (Below.refl _ _) _) hb1⟩
set_option maxHeartbeats 1000000 in
theorem encode_no (k a p : Int) (w : World) (hm : mayB k a p = false) :
    Calls Try.prog 22 #[.agg #[.int .i8 k, .int .i64 a, .int .u64 p]] w fun e w' => e = .returned (.tuple #[.int .u64 0, .int .i64 2]) ∧ Below w.heap.size w w' := by
  have HM := Lib.hid hm
  clear hm
  go_enter Try.func22, Try.ntmps22
  go_wp2_with (go_at_call 29; refine (may_any _ _ _ _).mono ?_; rintro e w1 ⟨rfl, hb1⟩; rw [HM.out]; obtain ⟨hc1, hf1⟩ := bcell hb1)
  go_ret2
  exact ⟨rfl, bthen (ba (Below.refl _ _) _) hb1⟩
def decOk (k x : Int) : Bool := mayB k (x / 281474976710656) (x % 17592186044416) && (encV (x / 281474976710656) (x % 17592186044416) == x)
theorem and44 (x : Int) (hx : U64 x) : bits .and .u64 x 17592186044415 = x % 17592186044416 := by
  obtain ⟨x, rfl, hx'⟩ := u64_nat hx
  have := Nat.and_two_pow_sub_one_eq_mod x 44
  rw [show (17592186044415 : Int) = ((17592186044415 : Nat) : Int) from rfl, u64_and_nat _ _ hx' (by decide)]
  simp at this
  rw [this]
  omega
theorem ne_of_dec {k x : Int} (hm : mayB k (x / 281474976710656) (x % 17592186044416) = true) (h : decOk k x = false) : (encV (x / 281474976710656) (x % 17592186044416) != x) = true := by
  unfold decOk at h
  rw [hm] at h
  simpa [bne] using h
/-- Does a hit all that b hits? -/
def covB (k a p k' a' p' : Int) : Bool := mayB k a p && (mayB k' a' p' && ((k == 0) || (!(k' == 0) && ((a == a') && ((k == 1) || ((k == k') && (p == p')))))))
end Go.Proofs.Ytokmcelmodoeoaa
