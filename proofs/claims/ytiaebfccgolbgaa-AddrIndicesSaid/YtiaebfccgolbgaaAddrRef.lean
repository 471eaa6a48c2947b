/-
  The walks of the reference of layer 2 and of the laws' own 'wakes'.
-/
import Derived.Test.YtiaebfccgolbgaaAddrMore
import Derived.Test.YtiaebfccgolbgaaFieldRef
namespace Go.Proofs.Ytiaebfccgolbgaa
open Go.RowKit
set_option linter.unusedVariables false
set_option linter.unusedSimpArgs false

theorem ruser_any (va : Int) (w : World) (hx : U64 va) :
    Calls Try.prog 33 #[.int .u64 va] w fun e w' => e = .returned (.bool (va / 140737488355328 == 0)) ∧ w = w' := by
  have h0 := hx.1
  go_enter Try.func33, Try.ntmps33
  go_wp2
  go_ret
  exact ⟨by simp, rfl⟩
theorem raligned_any (va : Int) (w : World) (hx : U64 va) :
    Calls Try.prog 35 #[.int .u64 va] w fun e w' => e = .returned (.bool (va % 8 == 0)) ∧ w = w' := by
  have h0 := hx.1
  go_enter Try.func35, Try.ntmps35
  go_wp2
  go_ret
  exact ⟨rfl, rfl⟩
theorem rpage_any (va : Int) (w : World) (hx : U64 va) :
    Calls Try.prog 37 #[.int .u64 va] w fun e w' => e = .returned (.int .u64 (va / 4096)) ∧ w = w' := by
  have h0 := hx.1
  go_enter Try.func37, Try.ntmps37
  go_wp2
  go_ret
  exact ⟨by simp, rfl⟩
theorem rplace_any (va : Int) (w : World) (hx : U64 va) :
    Calls Try.prog 39 #[.int .u64 va] w fun e w' => e = .returned (.int .i64 (fGet va 11 3)) ∧ w = w' := by
  obtain ⟨a0, a1⟩ := fGet_9 va 11 3 (by omega)
  go_enter Try.func39, Try.ntmps39
  go_wp2_with (go_at_call 15; refine (rget_any _ _ _ _ hx).mono ?_; rintro e w1 ⟨rfl, rfl⟩)
  go_ret
  exact ⟨rfl, rfl⟩
set_option maxHeartbeats 1000000 in
theorem rva_yes (page place : Int) (w : World) (h0 : 0 ≤ page) (hk : vaOk page place = true) :
    Calls Try.prog 31 #[.int .u64 page, .int .i64 place] w fun e w' => e = .returned (.tuple #[.int .u64 (page * 4096 + place * 8), .int .i64 0]) ∧ w = w' := by
  obtain ⟨h1, h2, h3⟩ := (vaOk_iff _ _).1 hk
  clear hk
  go_enter Try.func31, Try.ntmps31
  go_wp2
  go_ret2
  exact ⟨rfl, rfl⟩
set_option maxHeartbeats 1000000 in
theorem rva_no (page place : Int) (w : World) (hk : vaOk page place = false) :
    Calls Try.prog 31 #[.int .u64 page, .int .i64 place] w fun e w' => e = .returned (.tuple #[.int .u64 0, .int .i64 2]) ∧ w = w' := by
  have hk' : ¬ (page < 34359738368 ∧ 0 ≤ place ∧ place ≤ 511) := by rw [← vaOk_iff]; simp [hk]
  clear hk
  have hcases : 34359738368 ≤ page ∨ (page < 34359738368 ∧ place < 0) ∨ (page < 34359738368 ∧ 0 ≤ place ∧ 511 < place) := by omega
  clear hk'
  rcases hcases with h1 | ⟨h1, h2⟩ | ⟨h1, h2, h3⟩
  all_goals
    go_enter Try.func31, Try.ntmps31
    go_wp2
    go_ret2
    exact ⟨rfl, rfl⟩
set_option maxHeartbeats 1000000 in
theorem rindex_yes (page level : Int) (w : World) (hp : U64 page) (hk : aOk page level = true) :
    Calls Try.prog 24 #[.int .u64 page, .int .i64 level] w fun e w' => e = .returned (.tuple #[.int .i64 (aIdx page level), .int .i64 0]) ∧ w = w' := by
  obtain ⟨h0, h1, h2⟩ := (aOk_iff _ _).1 hk
  clear hk
  have hb : 0 ≤ fGet page (9 * (3 - level) + 8) (9 * (3 - level)) ∧ fGet page (9 * (3 - level) + 8) (9 * (3 - level)) ≤ 511 := fGet_9 _ _ _ (by omega)
  obtain ⟨b0, b1⟩ := hb
  go_enter Try.func24, Try.ntmps24
  go_wp2_with (go_at_call 15; refine (rget_any _ _ _ _ hp).mono ?_; rintro e w1 ⟨rfl, rfl⟩)
  go_ret2
  exact ⟨rfl, rfl⟩
set_option maxHeartbeats 1000000 in
theorem rindex_no (page level : Int) (w : World) (hk : aOk page level = false) :
    Calls Try.prog 24 #[.int .u64 page, .int .i64 level] w fun e w' => e = .returned (.tuple #[.int .i64 0, .int .i64 2]) ∧ w = w' := by
  have hk' : ¬ (page < 34359738368 ∧ 0 ≤ level ∧ level ≤ 3) := by rw [← aOk_iff]; simp [hk]
  clear hk
  have hcases : 34359738368 ≤ page ∨ (page < 34359738368 ∧ level < 0) ∨ (page < 34359738368 ∧ 0 ≤ level ∧ 3 < level) := by omega
  clear hk'
  rcases hcases with h1 | ⟨h1, h2⟩ | ⟨h1, h2, h3⟩
  all_goals
    go_enter Try.func24, Try.ntmps24
    go_wp2
    go_ret2
    exact ⟨rfl, rfl⟩
set_option maxHeartbeats 1000000 in
theorem rprefix_yes (page level : Int) (w : World) (hk : aOk page level = true) :
    Calls Try.prog 26 #[.int .u64 page, .int .i64 level] w fun e w' => e = .returned (.tuple #[.int .u64 (aPre page level), .int .i64 0]) ∧ w = w' := by
  obtain ⟨h0, h1, h2⟩ := (aOk_iff _ _).1 hk
  clear hk
  go_enter Try.func26, Try.ntmps26
  go_wp2
  go_ret2
  exact ⟨rfl, rfl⟩
set_option maxHeartbeats 1000000 in
theorem rprefix_no (page level : Int) (w : World) (hk : aOk page level = false) :
    Calls Try.prog 26 #[.int .u64 page, .int .i64 level] w fun e w' => e = .returned (.tuple #[.int .u64 0, .int .i64 2]) ∧ w = w' := by
  have hk' : ¬ (page < 34359738368 ∧ 0 ≤ level ∧ level ≤ 3) := by rw [← aOk_iff]; simp [hk]
  clear hk
  have hcases : 34359738368 ≤ page ∨ (page < 34359738368 ∧ level < 0) ∨ (page < 34359738368 ∧ 0 ≤ level ∧ 3 < level) := by omega
  clear hk'
  rcases hcases with h1 | ⟨h1, h2⟩ | ⟨h1, h2, h3⟩
  all_goals
    go_enter Try.func26, Try.ntmps26
    go_wp2
    go_ret2
    exact ⟨rfl, rfl⟩
set_option maxHeartbeats 1000000 in
theorem rfrom_yes (a b c d : Int) (w : World) (hk : fromOk a b c d = true) :
    Calls Try.prog 28 #[.agg #[.int .i64 a, .int .i64 b, .int .i64 c, .int .i64 d]] w fun e w' => e = .returned (.tuple #[.int .u64 (((a * 512 + b) * 512 + c) * 512 + d), .int .i64 0]) ∧ Below w.heap.size w w' := by
  obtain ⟨ha, ha', hb, hb', hc, hc', hd, hd'⟩ := (fromOk_iff _ _ _ _).1 hk
  clear hk
  go_enter Try.func28, Try.ntmps28
  go_wp2
  refine wp_loop_rounds 5 ?_
  repeat any_goals (rw [rounds_succ]; go_wp2)
  go_ret2
  exact ⟨rfl, ba (Below.refl _ _) _⟩
set_option maxHeartbeats 4000000 in
theorem rfrom_no (a b c d : Int) (w : World) (hk : fromOk a b c d = false) :
    Calls Try.prog 28 #[.agg #[.int .i64 a, .int .i64 b, .int .i64 c, .int .i64 d]] w fun e w' => e = .returned (.tuple #[.int .u64 0, .int .i64 2]) ∧ Below w.heap.size w w' := by
  have hk' : ¬ (0 ≤ a ∧ a ≤ 255 ∧ 0 ≤ b ∧ b ≤ 511 ∧ 0 ≤ c ∧ c ≤ 511 ∧ 0 ≤ d ∧ d ≤ 511) := by rw [← fromOk_iff]; simp [hk]
  clear hk
  have hcases : a < 0 ∨ 511 < a ∨ (255 < a ∧ a ≤ 511) ∨ (a ≤ 255 ∧ 0 ≤ a ∧ b < 0) ∨ (a ≤ 255 ∧ 0 ≤ a ∧ 511 < b) ∨ (a ≤ 255 ∧ 0 ≤ a ∧ 0 ≤ b ∧ b ≤ 511 ∧ c < 0) ∨ (a ≤ 255 ∧ 0 ≤ a ∧ 0 ≤ b ∧ b ≤ 511 ∧ 511 < c)
      ∨ (a ≤ 255 ∧ 0 ≤ a ∧ 0 ≤ b ∧ b ≤ 511 ∧ 0 ≤ c ∧ c ≤ 511 ∧ d < 0) ∨ (a ≤ 255 ∧ 0 ≤ a ∧ 0 ≤ b ∧ b ≤ 511 ∧ 0 ≤ c ∧ c ≤ 511 ∧ 511 < d) := by omega
  clear hk'
  rcases hcases with h1 | h1 | ⟨h1, h2⟩ | ⟨h1, h2, h3⟩ | ⟨h1, h2, h3⟩ | ⟨h1, h2, h3, h4, h5⟩ | ⟨h1, h2, h3, h4, h5⟩ | ⟨h1, h2, h3, h4, h5, h6, h7⟩ | ⟨h1, h2, h3, h4, h5, h6, h7⟩
  all_goals
    go_enter Try.func28, Try.ntmps28
    go_wp2
    refine wp_loop_rounds 5 ?_
    repeat any_goals (rw [rounds_succ]; go_wp2)
    go_ret2
    exact ⟨rfl, ba (Below.refl _ _) _⟩
set_option maxHeartbeats 1000000 in
theorem rword_yes (frame place : Int) (w : World) (hk : wordOk frame place = true) :
    Calls Try.prog 41 #[.int .i64 frame, .int .i64 place] w fun e w' => e = .returned (.tuple #[.int .u64 (512 * frame + place), .int .i64 0]) ∧ w = w' := by
  obtain ⟨h0, h1, h2, h3⟩ := (wordOk_iff _ _).1 hk
  clear hk
  have HE := Lib.hid (show frame * 512 + place = 512 * frame + place by omega)
  go_enter Try.func41, Try.ntmps41
  go_wp2
  go_ret2
  exact ⟨ret_two HE.out, rfl⟩
set_option maxHeartbeats 1000000 in
theorem rword_no (frame place : Int) (w : World) (hk : wordOk frame place = false) :
    Calls Try.prog 41 #[.int .i64 frame, .int .i64 place] w fun e w' => e = .returned (.tuple #[.int .u64 0, .int .i64 2]) ∧ w = w' := by
  have hk' : ¬ (0 ≤ frame ∧ frame ≤ 1048576 ∧ 0 ≤ place ∧ place ≤ 511) := by rw [← wordOk_iff]; simp [hk]
  clear hk
  have hcases : frame < 0 ∨ (0 ≤ frame ∧ 1048576 < frame) ∨ (0 ≤ frame ∧ frame ≤ 1048576 ∧ place < 0) ∨ (0 ≤ frame ∧ frame ≤ 1048576 ∧ 0 ≤ place ∧ 511 < place) := by omega
  clear hk'
  rcases hcases with h1 | ⟨h1, h2⟩ | ⟨h1, h2, h3⟩ | ⟨h1, h2, h3, h4⟩
  all_goals
    go_enter Try.func41, Try.ntmps41
    go_wp2
    go_ret2
    exact ⟨rfl, rfl⟩
set_option maxHeartbeats 1000000 in
theorem rsplit_yes (word : Int) (w : World) (hx : U64 word) (hk : word ≤ 1099511627776) :
    Calls Try.prog 43 #[.int .u64 word] w fun e w' => e = .returned (.tuple #[.int .i64 (word / 512), .int .i64 (word % 512)]) ∧ w = w' := by
  have h0 := hx.1
  go_enter Try.func43, Try.ntmps43
  go_wp2
  go_ret2
  exact ⟨rfl, rfl⟩
set_option maxHeartbeats 1000000 in
theorem rsplit_no (word : Int) (w : World) (hk : 1099511627776 < word) :
    Calls Try.prog 43 #[.int .u64 word] w fun e w' => e = .returned (.tuple #[.int .i64 0, .int .i64 0]) ∧ w = w' := by
  go_enter Try.func43, Try.ntmps43
  go_wp2
  go_ret2
  exact ⟨rfl, rfl⟩
theorem u64_lit {n : Nat} (h : n < 18446744073709551616) : U64 n := ⟨by omega, by omega⟩
set_option maxHeartbeats 1000000 in
theorem wakes2_any (w : World) : Calls Try.prog 29 #[] w fun e w' => e = .returned (.bool true) ∧ Below w.heap.size w w' := by
  have H1 := Lib.hid (show aIdx 513 3 = 1 by decide)
  have H2 := Lib.hid (show aIdx 513 2 = 1 by decide)
  have H3 := Lib.hid (show aPre 513 2 = 1 by decide)
  have H4 := Lib.hid (show fGet 140737488351240 11 3 = 1 by decide)
  go_enter Try.func29, Try.ntmps29
  go_wp2_with fail
  refine (index_yes 513 3 _ (u64_lit (n := 513) (by decide)) (by decide)).mono ?_
  rintro e w1 ⟨rfl, hb1⟩
  rw [H1.out]
  go_wp2_with fail
  refine (index_yes 513 2 _ (u64_lit (n := 513) (by decide)) (by decide)).mono ?_
  rintro e w2 ⟨rfl, hb2⟩
  rw [H2.out]
  go_wp2_with fail
  refine (prefix_yes 513 2 _ (by decide)).mono ?_
  rintro e w3 ⟨rfl, rfl⟩
  rw [H3.out]
  go_wp2_with fail
  refine (from_no 256 0 0 0 _ (by decide)).mono ?_
  rintro e w4 ⟨rfl, hb4⟩
  go_wp2_with fail
  refine (page_any 140737488351240 _ (u64_lit (n := 140737488351240) (by decide))).mono ?_
  rintro e w5 ⟨rfl, hb5⟩
  go_wp2_with fail
  refine (place_any 140737488351240 _ (u64_lit (n := 140737488351240) (by decide))).mono ?_
  rintro e w6 ⟨rfl, hb6⟩
  rw [H4.out]
  go_wp2_with fail
  go_ret
  exact ⟨rfl, bthen (bthen (bthen (bthen hb1 hb2) hb4) hb5) hb6⟩
end Go.Proofs.Ytiaebfccgolbgaa
