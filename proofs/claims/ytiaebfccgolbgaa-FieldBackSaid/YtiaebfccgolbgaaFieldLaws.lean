import Derived.Test.YtiaebfccgolbgaaFieldRefPut
import Derived.Test.YtiaebfccgolbgaaFieldRefSign
import Derived.OpenShut
namespace Go.Proofs.Ytiaebfccgolbgaa
open Go.RowKit

theorem u64_wf {n : Int} (h : (Lit.int .u64 n).wf = true) : U64 n := ⟨(bounds_u64 h).1, by have := (bounds_u64 h).2; omega⟩
theorem u64_lit {n : Nat} (h : n < 18446744073709551616) : U64 n := ⟨by omega, by omega⟩
set_option maxHeartbeats 1000000 in
theorem wakes1_any (w : World) : Calls Try.prog 22 #[] w fun e w' => e = .returned (.bool true) ∧ Below w.heap.size w w' := by
  have HG := Lib.hid (show fGet 43981 11 4 = 188 by decide)
  have HP := Lib.hid (show fPut 0 7 4 15 = 240 by decide)
  have HS := Lib.hid (show fSign 15 3 = -1 by decide)
  go_enter Try.func22, Try.ntmps22
  go_wp2_with fail
  refine (put_no 0 7 4 16 _ (u64_lit (by decide)) (by decide)).mono ?_
  rintro e w1 ⟨rfl, hb1⟩
  go_wp2_with fail
  refine (put_yes 0 7 4 15 _ (u64_lit (by decide)) (u64_lit (by decide)) (by decide)).mono ?_
  rintro e w2 ⟨rfl, hb2⟩
  rw [HP.out]
  go_wp2_with fail
  refine (get_any 43981 11 4 _ (u64_lit (by decide))).mono ?_
  rintro e w3 ⟨rfl, hb3⟩
  rw [HG.out]
  go_wp2_with fail
  refine (sign_any 15 3 _ (u64_lit (by decide))).mono ?_
  rintro e w4 ⟨rfl, rfl⟩
  rw [HS.out]
  go_wp2_with fail
  go_ret
  exact ⟨rfl, bthen (bthen hb1 hb2) hb3⟩
set_option maxHeartbeats 1000000 in
theorem fieldTells_any (x v hi lo : Int) (w : World) (hx : U64 x) (hv : U64 v) :
    Calls Try.prog 3 #[.int .u64 x, .int .u64 v, .int .i64 hi, .int .i64 lo] w fun e w' => e = .returned (.bool true) ∧ Below w.heap.size w w' := by
  rcases hf : fFits v hi lo with _ | _
  · have HF := Lib.hid hf
    clear hf
    go_enter Try.func3, Try.ntmps3
    go_wp2_with (first
      | (go_at_call 12; refine (put_no _ _ _ _ _ hv HF.out).mono ?_; rintro e w1 ⟨rfl, hb1⟩)
      | (go_at_call 13; refine (rput_no _ _ _ _ _ hv HF.out).mono ?_; rintro e w2 ⟨rfl, rfl⟩)
      | (go_at_call 14; refine (get_any _ _ _ _ hx).mono ?_; rintro e w3 ⟨rfl, hb3⟩)
      | (go_at_call 15; refine (rget_any _ _ _ _ hx).mono ?_; rintro e w4 ⟨rfl, rfl⟩)
      | (go_at_call 16; refine (ones_any _ _ _).mono ?_; rintro e w5 ⟨rfl, hb5⟩)
      | (go_at_call 17; refine (rones_any _ _ _).mono ?_; rintro e w6 ⟨rfl, rfl⟩)
      | (go_at_call 18; refine (fits_any _ _ _ _ hv).mono ?_; rintro e w7 ⟨rfl, hb7⟩)
      | (go_at_call 19; refine (rfits_any _ _ _ _ hv).mono ?_; rintro e w8 ⟨rfl, rfl⟩)
      | (go_at_call 20; refine (sign_any _ _ _ hx).mono ?_; rintro e w9 ⟨rfl, rfl⟩)
      | (go_at_call 21; refine (rsign_any _ _ _ hx).mono ?_; rintro e w10 ⟨rfl, rfl⟩)
      | (go_at_call 22; refine (wakes1_any _).mono ?_; rintro e w11 ⟨rfl, hb11⟩))
    go_ret
    exact ⟨rfl, bthen (bthen (bthen (bthen hb1 hb3) hb5) hb7) hb11⟩
  · have HF := Lib.hid hf
    clear hf
    go_enter Try.func3, Try.ntmps3
    go_wp2_with (first
      | (go_at_call 12; refine (put_yes _ _ _ _ _ hx hv HF.out).mono ?_; rintro e w1 ⟨rfl, hb1⟩)
      | (go_at_call 13; refine (rput_yes _ _ _ _ _ hx hv HF.out).mono ?_; rintro e w2 ⟨rfl, rfl⟩)
      | (go_at_call 14; refine (get_any _ _ _ _ hx).mono ?_; rintro e w3 ⟨rfl, hb3⟩)
      | (go_at_call 15; refine (rget_any _ _ _ _ hx).mono ?_; rintro e w4 ⟨rfl, rfl⟩)
      | (go_at_call 16; refine (ones_any _ _ _).mono ?_; rintro e w5 ⟨rfl, hb5⟩)
      | (go_at_call 17; refine (rones_any _ _ _).mono ?_; rintro e w6 ⟨rfl, rfl⟩)
      | (go_at_call 18; refine (fits_any _ _ _ _ hv).mono ?_; rintro e w7 ⟨rfl, hb7⟩)
      | (go_at_call 19; refine (rfits_any _ _ _ _ hv).mono ?_; rintro e w8 ⟨rfl, rfl⟩)
      | (go_at_call 20; refine (sign_any _ _ _ hx).mono ?_; rintro e w9 ⟨rfl, rfl⟩)
      | (go_at_call 21; refine (rsign_any _ _ _ hx).mono ?_; rintro e w10 ⟨rfl, rfl⟩)
      | (go_at_call 22; refine (wakes1_any _).mono ?_; rintro e w11 ⟨rfl, hb11⟩))
    go_ret
    exact ⟨rfl, bthen (bthen (bthen (bthen hb1 hb3) hb5) hb7) hb11⟩
end Go.Proofs.Ytiaebfccgolbgaa
