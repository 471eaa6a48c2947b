/-
  The walks of the laws FieldBack and FieldHalves, and the plain facts on fields that they need.
-/
import Derived.Test.YtiaebfccgolbgaaFieldLaws
namespace Go.Proofs.Ytiaebfccgolbgaa
open Go.RowKit

theorem fPut_nat (x h l v : Nat) : fPut x h l v = nPut x h l v := by unfold fPut; simp
theorem fPut_u64 {x hi lo v : Int} (hx : U64 x) (hv : U64 v) (hf : fFits v hi lo = true) : U64 (fPut x hi lo v) := by
  obtain ⟨hk, hlt⟩ := fPut_ok hf
  obtain ⟨h, l, rfl, rfl, h1, h2⟩ := nat_of_ok hk
  obtain ⟨x, rfl, hx'⟩ := u64_nat hx
  obtain ⟨v, rfl, hv'⟩ := u64_nat hv
  rw [fFits_nat v h l h1 h2] at hf
  rw [fPut_nat]
  exact u64_lit (put_lt x h l v hx' h1 h2 (by simpa using hf))
theorem fGet_fPut {x hi lo v : Int} (hx : U64 x) (hv : U64 v) (hf : fFits v hi lo = true) : fGet (fPut x hi lo v) hi lo = v := by
  obtain ⟨hk, hlt⟩ := fPut_ok hf
  obtain ⟨h, l, rfl, rfl, h1, h2⟩ := nat_of_ok hk
  obtain ⟨x, rfl, hx'⟩ := u64_nat hx
  obtain ⟨v, rfl, hv'⟩ := u64_nat hv
  rw [fFits_nat v h l h1 h2] at hf
  have hv2 : v < 2 ^ (h - l + 1) := by simpa using hf
  rw [fPut_nat, fGet_nat _ h l h1 h2]
  congr 1
  apply Nat.eq_of_testBit_eq
  intro i
  rw [get_bit, put_bit x h l v _ h1 hv2]
  by_cases hi : i < h - l + 1
  · rw [if_pos (by omega)]; simp [hi, show l + i - l = i by omega]
  · simp only [hi, decide_false, Bool.false_and]
    exact (Nat.testBit_lt_two_pow (Nat.lt_of_lt_of_le hv2 (Nat.pow_le_pow_right (by omega) (by omega)))).symm
theorem andNot_bit (x o i : Nat) (ho : o < 18446744073709551616) : (x &&& (18446744073709551615 - o)).testBit i = (x.testBit i && (decide (i < 64) && !o.testBit i)) := by
  have e : 18446744073709551615 - o = 2 ^ 64 - (o + 1) := by
    rw [show (2 : Nat) ^ 64 = 18446744073709551616 by decide]; omega
  rw [Nat.testBit_and, e, Nat.testBit_two_pow_sub_succ (by simpa using ho)]
theorem keeps_fPut {x hi lo v : Int} (hx : U64 x) (hv : U64 v) (hf : fFits v hi lo = true) : bits .andNot .u64 (fPut x hi lo v) (fOnes hi lo) = bits .andNot .u64 x (fOnes hi lo) := by
  obtain ⟨hk, hlt⟩ := fPut_ok hf
  obtain ⟨h, l, rfl, rfl, h1, h2⟩ := nat_of_ok hk
  obtain ⟨x, rfl, hx'⟩ := u64_nat hx
  obtain ⟨v, rfl, hv'⟩ := u64_nat hv
  rw [fFits_nat v h l h1 h2] at hf
  have hv2 : v < 2 ^ (h - l + 1) := by simpa using hf
  have ho := ones_lt h l h1 h2
  rw [fPut_nat, fOnes_nat h l h1 h2, u64_andNot_nat _ _ (put_lt x h l v hx' h1 h2 hv2) ho, u64_andNot_nat _ _ hx' ho]
  congr 1
  apply Nat.eq_of_testBit_eq
  intro i
  rw [andNot_bit _ _ _ ho, andNot_bit _ _ _ ho, ones_bit h l i h1, put_bit x h l v i h1 hv2]
  by_cases hi : l ≤ i ∧ i ≤ h
  · simp [hi]
  · rw [if_neg hi]
/-- Fields apart: their ones have no bit in common. -/
theorem apart_of {hi lo top low : Int} (hk : 0 ≤ lo ∧ lo ≤ hi ∧ hi ≤ 63) (hk' : 0 ≤ low ∧ low ≤ top ∧ top ≤ 63) (h : (bits .and .u64 (fOnes hi lo) (fOnes top low) != 0) = false) :
    hi < low ∨ top < lo := by
  obtain ⟨h', l, rfl, rfl, h1, h2⟩ := nat_of_ok hk
  obtain ⟨t, b, rfl, rfl, h3, h4⟩ := nat_of_ok hk'
  rw [fOnes_nat h' l h1 h2, fOnes_nat t b h3 h4, u64_and_nat _ _ (ones_lt h' l h1 h2) (ones_lt t b h3 h4)] at h
  have h0 : nOnes h' l &&& nOnes t b = 0 := by
    have : ((nOnes h' l &&& nOnes t b : Nat) : Int) = 0 := by simpa using h
    omega
  by_cases hc : h' < b ∨ t < l
  · omega
  · exfalso
    have hbit : (nOnes h' l &&& nOnes t b).testBit (max l b) = true := by
      rw [Nat.testBit_and, ones_bit h' l _ h1, ones_bit t b _ h3]
      simp; omega
    rw [h0] at hbit
    simp at hbit
theorem swap_nat (x h l v t b u : Nat) (h1 : l ≤ h) (h3 : b ≤ t) (hv : v < 2 ^ (h - l + 1)) (hu : u < 2 ^ (t - b + 1)) (ha : h < b ∨ t < l) :
    nPut (nPut x h l v) t b u = nPut (nPut x t b u) h l v := by
  apply Nat.eq_of_testBit_eq
  intro i
  rw [put_bit _ t b u i h3 hu, put_bit _ h l v i h1 hv, put_bit _ h l v i h1 hv, put_bit _ t b u i h3 hu]
  by_cases c1 : b ≤ i ∧ i ≤ t
  · rw [if_pos c1, if_neg (by omega), if_pos c1]
  · rw [if_neg c1, if_neg c1]
theorem swap_fPut {x hi lo v top low u : Int} (hx : U64 x) (hv : U64 v) (hu : U64 u) (hf : fFits v hi lo = true) (hg : fFits u top low = true)
    (h : (bits .and .u64 (fOnes hi lo) (fOnes top low) != 0) = false) : fPut (fPut x hi lo v) top low u = fPut (fPut x top low u) hi lo v := by
  have ha := apart_of (fPut_ok hf).1 (fPut_ok hg).1 h
  obtain ⟨h', l, rfl, rfl, h1, h2⟩ := nat_of_ok (fPut_ok hf).1
  obtain ⟨t, b, rfl, rfl, h3, h4⟩ := nat_of_ok (fPut_ok hg).1
  obtain ⟨x, rfl, hx'⟩ := u64_nat hx
  obtain ⟨v, rfl, hv'⟩ := u64_nat hv
  obtain ⟨u, rfl, hu'⟩ := u64_nat hu
  rw [fFits_nat v h' l h1 h2] at hf
  rw [fFits_nat u t b h3 h4] at hg
  rw [fPut_nat, fPut_nat, fPut_nat, fPut_nat]
  congr 1
  exact swap_nat x h' l v t b u h1 h3 (by simpa using hf) (by simpa using hg) (by omega)
theorem bne_self_i (a : Int) : (a != a) = false := by simp

set_option maxHeartbeats 1000000 in
theorem fieldBack_no (x v u hi lo top low : Int) (w : World) (hv : U64 v) (hf : fFits v hi lo = false) :
    Calls Try.prog 4 #[.int .u64 x, .int .u64 v, .int .u64 u, .int .i64 hi, .int .i64 lo, .int .i64 top, .int .i64 low] w fun e w' => e = .returned (.bool true) ∧ Below w.heap.size w w' := by
  have HF := Lib.hid hf
  clear hf
  go_enter Try.func4, Try.ntmps4
  go_wp2_with fail
  refine (put_no _ _ _ _ _ hv HF.out).mono ?_
  rintro e w1 ⟨rfl, hb1⟩
  go_wp2_with fail
  refine (wakes1_any _).mono ?_
  rintro e w2 ⟨rfl, hb2⟩
  go_wp2_with fail
  go_ret
  exact ⟨rfl, bthen hb1 hb2⟩
set_option maxHeartbeats 1000000 in
theorem fieldBack_yes (x v u hi lo top low : Int) (w : World) (hx : U64 x) (hv : U64 v) (hu : U64 u) (hf : fFits v hi lo = true) :
    Calls Try.prog 4 #[.int .u64 x, .int .u64 v, .int .u64 u, .int .i64 hi, .int .i64 lo, .int .i64 top, .int .i64 low] w fun e w' => e = .returned (.bool true) ∧ Below w.heap.size w w' := by
  have HF := Lib.hid hf
  have HG := Lib.hid (fGet_fPut hx hv hf)
  have HK := Lib.hid (keeps_fPut hx hv hf)
  have HA := fPut_u64 hx hv hf
  clear hf
  go_enter Try.func4, Try.ntmps4
  go_wp2_with fail
  refine (put_yes _ _ _ _ _ hx hv HF.out).mono ?_
  rintro e w1 ⟨rfl, hb1⟩
  go_wp2_with fail
  refine (get_any _ _ _ _ HA).mono ?_
  rintro e w2 ⟨rfl, hb2⟩
  rw [HG.out]
  have hvv : (v != v) = false := bne_self_i v
  go_wp2_with fail
  refine (ones_any _ _ _).mono ?_
  rintro e w3 ⟨rfl, hb3⟩
  go_wp2_with fail
  refine (ones_any _ _ _).mono ?_
  rintro e w4 ⟨rfl, hb4⟩
  have hkk : (bits .andNot .u64 (fPut x hi lo v) (fOnes hi lo) != bits .andNot .u64 x (fOnes hi lo)) = false := by rw [HK.out]; exact bne_self_i _
  rcases hap : (bits .and .u64 (fOnes hi lo) (fOnes top low) != 0) with _ | _
  · have HAP := Lib.hid hap
    go_wp2_with fail
    refine (ones_any _ _ _).mono ?_
    rintro e w5 ⟨rfl, hb5⟩
    go_wp2_with fail
    refine (ones_any _ _ _).mono ?_
    rintro e w6 ⟨rfl, hb6⟩
    go_wp2_with fail
    clear hkk hap
    rcases hg : fFits u top low with _ | _
    · have HW := Lib.hid hg
      clear hg
      refine (put_no _ _ _ _ _ hu HW.out).mono ?_
      rintro e w7 ⟨rfl, hb7⟩
      go_wp2_with fail
      refine (put_no _ _ _ _ _ hu HW.out).mono ?_
      rintro e w8 ⟨rfl, hb8⟩
      go_wp2_with fail
      refine (put_yes _ _ _ _ _ hx hv HF.out).mono ?_
      rintro e w9 ⟨rfl, hb9⟩
      go_wp2_with fail
      refine (wakes1_any _).mono ?_
      rintro e w10 ⟨rfl, hb10⟩
      go_wp2_with fail
      go_ret
      exact ⟨rfl, bthen (bthen (bthen (bthen (bthen (bthen (bthen (bthen (bthen hb1 hb2) hb3) hb4) hb5) hb6) hb7) hb8) hb9) hb10⟩
    · have HW := Lib.hid hg
      have HSW := Lib.hid (swap_fPut hx hv hu HF.out hg HAP.out)
      have HX2 := fPut_u64 hx hu hg
      have HG2 := Lib.hid (fGet_fPut HX2 hv HF.out)
      have HU2 := fPut_u64 HX2 hv HF.out
      clear hg
      refine (put_yes _ _ _ _ _ HA hu HW.out).mono ?_
      rintro e w7 ⟨rfl, hb7⟩
      rw [HSW.out]
      go_wp2_with fail
      refine (put_yes _ _ _ _ _ hx hu HW.out).mono ?_
      rintro e w8 ⟨rfl, hb8⟩
      go_wp2_with fail
      refine (put_yes _ _ _ _ _ HX2 hv HF.out).mono ?_
      rintro e w9 ⟨rfl, hb9⟩
      go_wp2_with fail
      refine (get_any _ _ _ _ HU2).mono ?_
      rintro e w10 ⟨rfl, hb10⟩
      rw [HG2.out]
      go_wp2_with fail
      refine (wakes1_any _).mono ?_
      rintro e w11 ⟨rfl, hb11⟩
      go_wp2_with fail
      go_ret
      exact ⟨rfl, bthen (bthen (bthen (bthen (bthen (bthen (bthen (bthen (bthen (bthen hb1 hb2) hb3) hb4) hb5) hb6) hb7) hb8) hb9) hb10) hb11⟩
  · go_wp2_with fail
    refine (ones_any _ _ _).mono ?_
    rintro e w5 ⟨rfl, hb5⟩
    go_wp2_with fail
    refine (ones_any _ _ _).mono ?_
    rintro e w6 ⟨rfl, hb6⟩
    go_wp2_with fail
    refine (wakes1_any _).mono ?_
    rintro e w7 ⟨rfl, hb7⟩
    go_wp2_with fail
    go_ret
    exact ⟨rfl, bthen (bthen (bthen (bthen (bthen (bthen hb1 hb2) hb3) hb4) hb5) hb6) hb7⟩
theorem fieldBack_any (x v u hi lo top low : Int) (w : World) (hx : U64 x) (hv : U64 v) (hu : U64 u) :
    Calls Try.prog 4 #[.int .u64 x, .int .u64 v, .int .u64 u, .int .i64 hi, .int .i64 lo, .int .i64 top, .int .i64 low] w fun e w' => e = .returned (.bool true) ∧ Below w.heap.size w w' := by
  rcases hf : fFits v hi lo with _ | _
  · exact fieldBack_no x v u hi lo top low w hv hf
  · exact fieldBack_yes x v u hi lo top low w hx hv hu hf

/-! ### FieldHalves -/
theorem fGet_u64 {x hi lo : Int} (hx : U64 x) : U64 (fGet x hi lo) := by
  by_cases hk : 0 ≤ lo ∧ lo ≤ hi ∧ hi ≤ 63
  · obtain ⟨h, l, rfl, rfl, h1, h2⟩ := nat_of_ok hk
    obtain ⟨x, rfl, hx'⟩ := u64_nat hx
    rw [fGet_nat x h l h1 h2]
    exact u64_lit (get_lt64 x h l hx')
  · rw [fGet_no hk]; exact u64_lit (n := 0) (by decide)
theorem fGet_fits {x hi lo : Int} (hx : U64 x) (hk : 0 ≤ lo ∧ lo ≤ hi ∧ hi ≤ 63) : fFits (fGet x hi lo) hi lo = true := by
  obtain ⟨h, l, rfl, rfl, h1, h2⟩ := nat_of_ok hk
  obtain ⟨x, rfl, hx'⟩ := u64_nat hx
  rw [fGet_nat x h l h1 h2, fFits_nat _ h l h1 h2]
  simpa using get_lt x h l
theorem halves_nat (x k : Nat) (hx : x < 18446744073709551616) (hk : k ≤ 62) : nPut (nPut 0 63 (k + 1) (nGet x 63 (k + 1))) k 0 (nGet x k 0) = x := by
  apply Nat.eq_of_testBit_eq
  intro i
  have h1 := get_lt x k 0
  have h2 := get_lt x 63 (k + 1)
  rw [put_bit _ k 0 _ i (by omega) h1, put_bit _ 63 (k + 1) _ i (by omega) h2]
  by_cases c1 : 0 ≤ i ∧ i ≤ k
  · rw [if_pos c1, get_bit]; simp; omega
  · rw [if_neg c1]
    by_cases c2 : k + 1 ≤ i ∧ i ≤ 63
    · rw [if_pos c2, get_bit, show k + 1 + (i - (k + 1)) = i by omega]; simp; omega
    · rw [if_neg c2, Nat.zero_testBit]
      exact (Nat.testBit_lt_two_pow (Nat.lt_of_lt_of_le (show x < 2 ^ 64 by simpa using hx) (Nat.pow_le_pow_right (by omega) (by omega)))).symm
theorem halves_f (x k : Int) (hx : U64 x) (h0 : 0 ≤ k) (hk : k ≤ 62) : fPut (fPut 0 63 (k + 1) (fGet x 63 (k + 1))) k 0 (fGet x k 0) = x := by
  obtain ⟨x, rfl, hx'⟩ := u64_nat hx
  obtain ⟨k, rfl⟩ := Int.eq_ofNat_of_zero_le h0
  have a := fGet_nat x 63 (k + 1) (by omega) (by omega)
  have b := fGet_nat x k 0 (by omega) (by omega)
  have c := halves_nat x k hx' (by omega)
  have d := fPut_nat 0 63 (k + 1) (nGet x 63 (k + 1))
  have e := fPut_nat (nPut 0 63 (k + 1) (nGet x 63 (k + 1))) k 0 (nGet x k 0)
  rw [c] at e
  simp only [Int.natCast_add, Int.cast_ofNat_Int] at a b d e
  rw [a, b, d, e]
theorem halves_ones (k : Int) (h0 : 0 ≤ k) (hk : k ≤ 62) : (bits .xor .u64 (fOnes 63 (k + 1)) (fOnes k 0) == 18446744073709551615) = true := by
  obtain ⟨k, rfl⟩ := Int.eq_ofNat_of_zero_le h0
  have a := fOnes_nat 63 (k + 1) (by omega) (by omega)
  have b := fOnes_nat k 0 (by omega) (by omega)
  simp only [Int.natCast_add, Int.cast_ofNat_Int] at a b
  rw [a, b, u64_xor_nat _ _ (ones_lt 63 (k + 1) (by omega) (by omega)) (ones_lt k 0 (by omega) (by omega))]
  have c : nOnes 63 (k + 1) ^^^ nOnes k 0 = 2 ^ 64 - 1 := by
    apply Nat.eq_of_testBit_eq
    intro i
    rw [Nat.testBit_xor, ones_bit 63 (k + 1) i (by omega), ones_bit k 0 i (by omega), Nat.testBit_two_pow_sub_one]
    by_cases c1 : i ≤ k
    · have : ¬ k + 1 ≤ i := by omega
      have : i < 64 := by omega
      simp [*]
    · by_cases c2 : i ≤ 63
      · have : k + 1 ≤ i := by omega
        have : i < 64 := by omega
        simp [*]
      · have : ¬ i < 64 := by omega
        simp [*]
  rw [c]; decide
theorem norm_mod (k m : Int) (hm : 1 ≤ m) (hm2 : m ≤ 4294967296) : 0 ≤ (wrap64 (k.tmod m + m)).tmod m ∧ (wrap64 (k.tmod m + m)).tmod m < m := by
  have h1 := Int.tmod_lt_of_pos k (show 0 < m by omega)
  have h2 : -m < k.tmod m := by
    have := Int.tmod_lt_of_pos (-k) (show 0 < m by omega)
    rw [Int.neg_tmod] at this
    omega
  rw [IntWalk.wrap64_in _ (by omega)]
  rw [Int.tmod_eq_emod_of_nonneg (by omega)]
  exact ⟨Int.emod_nonneg _ (by omega), Int.emod_lt_of_pos _ (by omega)⟩
set_option maxHeartbeats 1000000 in
theorem fieldHalves_any (x k : Int) (w : World) (hx : U64 x) :
    Calls Try.prog 5 #[.int .u64 x, .int .i64 k] w fun e w' => e = .returned (.bool true) ∧ Below w.heap.size w w' := by
  go_enter Try.func5, Try.ntmps5
  go_wp2_with fail
  obtain ⟨hk0, hk1⟩ := norm_mod k 63 (by omega) (by omega)
  generalize (wrap64 (k.tmod 63 + 63)).tmod 63 = K at hk0 hk1 ⊢
  rw [IntWalk.wrap64_in (K + 1) (by omega)]
  have HF1 := Lib.hid (fGet_fits (hi := 63) (lo := K + 1) hx (by omega))
  have HF2 := Lib.hid (fGet_fits (hi := K) (lo := 0) hx (by omega))
  have HU1 := fGet_u64 (hi := 63) (lo := K + 1) hx
  have HU2 := fGet_u64 (hi := K) (lo := 0) hx
  have HP := fPut_u64 (u64_lit (n := 0) (by decide)) HU1 HF1.out
  have HX := Lib.hid (halves_f x K hx hk0 (by omega))
  have HO := Lib.hid (halves_ones K hk0 (by omega))
  refine (get_any _ _ _ _ hx).mono ?_
  rintro e w1 ⟨rfl, hb1⟩
  go_wp2_with fail
  refine (put_yes _ _ _ _ _ (u64_lit (n := 0) (by decide)) HU1 HF1.out).mono ?_
  rintro e w2 ⟨rfl, hb2⟩
  go_wp2_with fail
  refine (get_any _ _ _ _ hx).mono ?_
  rintro e w3 ⟨rfl, hb3⟩
  go_wp2_with fail
  refine (put_yes _ _ _ _ _ HP HU2 HF2.out).mono ?_
  rintro e w4 ⟨rfl, hb4⟩
  have hxx : (fPut (fPut 0 63 (K + 1) (fGet x 63 (K + 1))) K 0 (fGet x K 0) == x) = true := by rw [HX.out]; simp
  go_wp2_with fail
  refine (ones_any _ _ _).mono ?_
  rintro e w5 ⟨rfl, hb5⟩
  go_wp2_with fail
  refine (ones_any _ _ _).mono ?_
  rintro e w6 ⟨rfl, hb6⟩
  have hoo := HO.out
  go_wp2_with fail
  refine (wakes1_any _).mono ?_
  rintro e w7 ⟨rfl, hb7⟩
  go_wp2_with fail
  go_ret
  exact ⟨rfl, bthen (bthen (bthen (bthen (bthen (bthen hb1 hb2) hb3) hb4) hb5) hb6) hb7⟩
end Go.Proofs.Ytiaebfccgolbgaa
