/-
  The walks of inval's Encode, Decode and Covers.
-/
import Derived.Test.YtlmfmpmcgokbeaaInvalWalks
namespace Go.Proofs.Ytlmfmpmcgokbeaa
open Go.RowKit
set_option linter.unusedVariables false
set_option linter.unusedSimpArgs false

def encV (a p : Int) : Int := a * 281474976710656 + p
theorem enc_val (a p : Int) (h0 : 0 ≤ a) (h1 : a ≤ 255) (h2 : 0 ≤ p) (h3 : p < 34359738368) : bits .or .u64 (a * 281474976710656) p = encV a p := by
  obtain ⟨a, rfl⟩ := Int.eq_ofNat_of_zero_le h0
  obtain ⟨p, rfl⟩ := Int.eq_ofNat_of_zero_le h2
  have e : ((a : Int) * 281474976710656) = ((a * 281474976710656 : Nat) : Int) := by omega
  unfold encV
  rw [e, u64_or_nat _ _ (by omega) (by omega), nat_join 48 (a * 281474976710656) p (by omega) (by omega)]
  omega
theorem mayB_p {k a p : Int} (h : mayB k a p = true) : 0 ≤ a ∧ a ≤ 255 ∧ p < 34359738368 := by
  rw [mayB_iff] at h; omega
set_option maxHeartbeats 1000000 in
theorem encode_yes (k a p : Int) (w : World) (hp : 0 ≤ p) (hm : mayB k a p = true) :
    Calls Try.prog 10 #[.agg #[.int .i8 k, .int .i64 a, .int .u64 p]] w fun e w' => e = .returned (.tuple #[.int .u64 (encV a p), .int .i64 0]) ∧ Below w.heap.size w w' := by
  obtain ⟨h0, h1, h2⟩ := mayB_p hm
  have HM := Lib.hid hm
  have HV := Lib.hid (enc_val a p h0 h1 hp h2)
  clear hm
  go_enter Try.func10, Try.ntmps10
  go_wp2_with (go_at_call 20; refine (may_any _ _ _ _).mono ?_; rintro e w1 ⟨rfl, hb1⟩; rw [HM.out]; obtain ⟨hc1, hf1⟩ := bcell hb1)
  go_ret2
  exact ⟨ret_two HV.out, bthen (ba (Below.refl _ _) _) hb1⟩
set_option maxHeartbeats 1000000 in
theorem encode_no (k a p : Int) (w : World) (hm : mayB k a p = false) :
    Calls Try.prog 10 #[.agg #[.int .i8 k, .int .i64 a, .int .u64 p]] w fun e w' => e = .returned (.tuple #[.int .u64 0, .int .i64 2]) ∧ Below w.heap.size w w' := by
  have HM := Lib.hid hm
  clear hm
  go_enter Try.func10, Try.ntmps10
  go_wp2_with (go_at_call 20; refine (may_any _ _ _ _).mono ?_; rintro e w1 ⟨rfl, hb1⟩; rw [HM.out]; obtain ⟨hc1, hf1⟩ := bcell hb1)
  go_ret2
  exact ⟨rfl, bthen (ba (Below.refl _ _) _) hb1⟩
def decOk (k x : Int) : Bool := mayB k (x / 281474976710656) (x % 17592186044416) && (encV (x / 281474976710656) (x % 17592186044416) == x)
theorem and44 (x : Int) (hx : U64 x) : bits .and .u64 x 17592186044415 = x % 17592186044416 := by
  obtain ⟨x, rfl, hx'⟩ := u64_nat hx
  have := Nat.and_two_pow_sub_one_eq_mod x 44
  rw [show (17592186044415 : Int) = ((17592186044415 : Nat) : Int) from rfl, u64_and_nat _ _ hx' (by decide)]
  simp at this
  rw [this]
  omega
theorem ne_of_dec {k x : Int} (hm : mayB k (x / 281474976710656) (x % 17592186044416) = true) (h : decOk k x = false) : (encV (x / 281474976710656) (x % 17592186044416) != x) = true := by
  unfold decOk at h
  rw [hm] at h
  simpa [bne] using h
set_option maxHeartbeats 1000000 in
theorem decode_yes (k x : Int) (w : World) (hx : U64 x) (hd : decOk k x = true) :
    Calls Try.prog 11 #[.int .i8 k, .int .u64 x] w fun e w' => e = .returned (.tuple #[.agg #[.int .i8 k, .int .i64 (x / 281474976710656), .int .u64 (x % 17592186044416)], .int .i64 0]) ∧ Below w.heap.size w w' := by
  have hd' : mayB k (x / 281474976710656) (x % 17592186044416) = true ∧ encV (x / 281474976710656) (x % 17592186044416) = x := by simpa [decOk] using hd
  have HM := Lib.hid hd'.1
  have HE := Lib.hid hd'.2
  have HA := and44 x hx
  have x0 := hx.1
  have x1 : x ≤ 18446744073709551615 := by have := hx.2; omega
  have hne : (x != x) = false := bne_self_i x
  clear hd hd'
  go_enter Try.func11, Try.ntmps11
  go_wp2_with (go_at_call 10; refine (encode_yes _ _ _ _ (by omega) HM.out).mono ?_; rintro e w1 ⟨rfl, hb1⟩; rw [HE.out]; obtain ⟨hc1, hf1⟩ := bcell hb1
               have hz : w.heap.size + 1 < w1.heap.size := by (have := hb1.size; simp at this; omega)
               have hy : w.heap.size < w1.heap.size := by omega)
  have q0 : w1.cell? ⟨w.heap.size, 0, none⟩ = some (.int .i8 0) := by rw [hc1 _ _ (by simp <;> omega)]; simp [go_sem]
  have q1 : w1.cell? ⟨w.heap.size, 1, none⟩ = some (.int .i64 0) := by rw [hc1 _ _ (by simp <;> omega)]; simp [go_sem]
  have q2 : w1.cell? ⟨w.heap.size, 2, none⟩ = some (.int .u64 0) := by rw [hc1 _ _ (by simp <;> omega)]; simp [go_sem]
  clear hc1 hf1
  refine bodyPost_ret (v := .tuple #[.agg #[.int .i8 k, .int .i64 (x / 281474976710656), .int .u64 (x % 17592186044416)], .int .i64 0]) (by simp [results, Try.results11, go_sem, q0, q1, q2]) rfl ⟨rfl, ?_⟩
  exact bs (bs (bs (bthen (ba (ba (Below.refl _ _) _) _) hb1) (by simp) _) (by simp) _) (by simp) _
set_option maxHeartbeats 1000000 in
theorem decode_no (k x : Int) (w : World) (hx : U64 x) (hd : decOk k x = false) :
    Calls Try.prog 11 #[.int .i8 k, .int .u64 x] w fun e w' => e = .returned (.tuple #[.agg #[.int .i8 0, .int .i64 0, .int .u64 0], .int .i64 2]) ∧ Below w.heap.size w w' := by
  have HA := and44 x hx
  have x0 := hx.1
  have x1 : x ≤ 18446744073709551615 := by have := hx.2; omega
  rcases hm : mayB k (x / 281474976710656) (x % 17592186044416) with _ | _
  · have HM := Lib.hid hm
    clear hd hm
    go_enter Try.func11, Try.ntmps11
    go_wp2_with (go_at_call 10; refine (encode_no _ _ _ _ HM.out).mono ?_; rintro e w1 ⟨rfl, hb1⟩; obtain ⟨hc1, hf1⟩ := bcell hb1
                 have hz : w.heap.size + 1 < w1.heap.size := by (have := hb1.size; simp at this; omega)
                 have hy : w.heap.size < w1.heap.size := by omega)
    have q0 : w1.cell? ⟨w.heap.size, 0, none⟩ = some (.int .i8 0) := by rw [hc1 _ _ (by simp <;> omega)]; simp [go_sem]
    have q1 : w1.cell? ⟨w.heap.size, 1, none⟩ = some (.int .i64 0) := by rw [hc1 _ _ (by simp <;> omega)]; simp [go_sem]
    have q2 : w1.cell? ⟨w.heap.size, 2, none⟩ = some (.int .u64 0) := by rw [hc1 _ _ (by simp <;> omega)]; simp [go_sem]
    clear hc1 hf1
    refine bodyPost_ret (v := .tuple #[.agg #[.int .i8 0, .int .i64 0, .int .u64 0], .int .i64 2]) (by simp [results, Try.results11, go_sem, q0, q1, q2]) rfl ⟨rfl, ?_⟩
    exact bs (bs (bs (bthen (ba (ba (Below.refl _ _) _) _) hb1) (by simp) _) (by simp) _) (by simp) _
  · have HN := ne_of_dec hm hd
    have HM := Lib.hid hm
    clear hd hm
    go_enter Try.func11, Try.ntmps11
    go_wp2_with (go_at_call 10; refine (encode_yes _ _ _ _ (by omega) HM.out).mono ?_; rintro e w1 ⟨rfl, hb1⟩; obtain ⟨hc1, hf1⟩ := bcell hb1
                 have hz : w.heap.size + 1 < w1.heap.size := by (have := hb1.size; simp at this; omega)
                 have hy : w.heap.size < w1.heap.size := by omega)
    have q0 : w1.cell? ⟨w.heap.size, 0, none⟩ = some (.int .i8 0) := by rw [hc1 _ _ (by simp <;> omega)]; simp [go_sem]
    have q1 : w1.cell? ⟨w.heap.size, 1, none⟩ = some (.int .i64 0) := by rw [hc1 _ _ (by simp <;> omega)]; simp [go_sem]
    have q2 : w1.cell? ⟨w.heap.size, 2, none⟩ = some (.int .u64 0) := by rw [hc1 _ _ (by simp <;> omega)]; simp [go_sem]
    clear hc1 hf1
    refine bodyPost_ret (v := .tuple #[.agg #[.int .i8 0, .int .i64 0, .int .u64 0], .int .i64 2]) (by simp [results, Try.results11, go_sem, q0, q1, q2]) rfl ⟨rfl, ?_⟩
    exact bs (bs (bs (bthen (ba (ba (Below.refl _ _) _) _) hb1) (by simp) _) (by simp) _) (by simp) _
/-- Does a hit all that b hits? -/
def covB (k a p k' a' p' : Int) : Bool := mayB k a p && (mayB k' a' p' && ((k == 0) || (!(k' == 0) && ((a == a') && ((k == 1) || ((k == k') && (p == p')))))))
set_option maxHeartbeats 4000000 in
theorem covers_any (k a p k' a' p' : Int) (w : World) :
    Calls Try.prog 12 #[.agg #[.int .i8 k, .int .i64 a, .int .u64 p], .agg #[.int .i8 k', .int .i64 a', .int .u64 p']] w fun e w' => e = .returned (.bool (covB k a p k' a' p')) ∧ Below w.heap.size w w' := by
  rcases hm : mayB k a p with _ | _
  · have HR := Lib.hid (show covB k a p k' a' p' = false by simp [covB, hm])
    have HM := Lib.hid hm
    clear hm
    go_enter Try.func12, Try.ntmps12
    go_wp2_with fail
    refine (may_any _ _ _ _).mono ?_
    rintro e w1 ⟨rfl, hb1⟩
    rw [HM.out]
    go_wp2_with fail
    go_ret
    exact ⟨ret_bool HR.out.symm, bthen (ba (ba (Below.refl _ _) _) _) hb1⟩
  have HM := Lib.hid hm
  rcases hn : mayB k' a' p' with _ | _
  · have HR := Lib.hid (show covB k a p k' a' p' = false by simp [covB, hn])
    have HN := Lib.hid hn
    clear hm hn
    go_enter Try.func12, Try.ntmps12
    go_wp2_with fail
    refine (may_any _ _ _ _).mono ?_
    rintro e w1 ⟨rfl, hb1⟩
    rw [HM.out]
    obtain ⟨hc1, hf1⟩ := bcell hb1
    go_wp2_with fail
    refine (may_any _ _ _ _).mono ?_
    rintro e w2 ⟨rfl, hb2⟩
    rw [HN.out]
    go_wp2_with fail
    go_ret
    exact ⟨ret_bool HR.out.symm, bthen (bthen (ba (ba (Below.refl _ _) _) _) hb1) hb2⟩
  have HN := Lib.hid hn
  have HR := Lib.hid (show covB k a p k' a' p' = ((k == 0) || (!(k' == 0) && ((a == a') && ((k == 1) || ((k == k') && (p == p')))))) by simp only [covB, hm, hn, Bool.true_and])
  clear hm hn
  go_enter Try.func12, Try.ntmps12
  go_wp2_with fail
  refine (may_any _ _ _ _).mono ?_
  rintro e w1 ⟨rfl, hb1⟩
  rw [HM.out]
  obtain ⟨hc1, hf1⟩ := bcell hb1
  go_wp2_with fail
  refine (may_any _ _ _ _).mono ?_
  rintro e w2 ⟨rfl, hb2⟩
  rw [HN.out]
  clear hc1 hf1
  obtain ⟨hc1, hf1⟩ := bcell (bthen hb1 hb2)
  have hB := bthen (bthen (ba (ba (Below.refl w.heap.size w) _) _) hb1) hb2
  clear hb1 hb2
  go_wp2
  all_goals
    go_ret
    refine ⟨ret_bool ?_, hB⟩
    rw [HR.out]
    clear hc1 hf1 HM HN HR hB
    simp_all
end Go.Proofs.Ytlmfmpmcgokbeaa
