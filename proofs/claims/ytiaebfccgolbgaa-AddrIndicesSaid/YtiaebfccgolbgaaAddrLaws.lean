/-
  The walks of the laws AddrPages, AddrIndices and AddrWords.
-/
import Derived.Test.YtiaebfccgolbgaaAddrRef
import Derived.OpenShut
namespace Go.Proofs.Ytiaebfccgolbgaa
open Go.RowKit
set_option linter.unusedVariables false
set_option linter.unusedSimpArgs false

theorem u64_wf {n : Int} (h : (Lit.int .u64 n).wf = true) : U64 n := ⟨(bounds_u64 h).1, by have := (bounds_u64 h).2; omega⟩
set_option maxHeartbeats 2000000 in
theorem addrPages_any (va page place : Int) (w : World) (hv : U64 va) (hp : U64 page) :
    Calls Try.prog 9 #[.int .u64 va, .int .u64 page, .int .i64 place] w fun e w' => e = .returned (.bool true) ∧ Below w.heap.size w w' := by
  have h0 := hp.1
  rcases hk : vaOk page place with _ | _
  · have HK := Lib.hid hk
    clear hk
    go_enter Try.func9, Try.ntmps9
    go_wp2_with (first
      | (go_at_call 30; refine (va_no _ _ _ HK.out).mono ?_; rintro e w1 ⟨rfl, rfl⟩)
      | (go_at_call 31; refine (rva_no _ _ _ HK.out).mono ?_; rintro e w2 ⟨rfl, rfl⟩)
      | (go_at_call 32; refine (user_any _ _ hv).mono ?_; rintro e w3 ⟨rfl, hb3⟩)
      | (go_at_call 33; refine (ruser_any _ _ hv).mono ?_; rintro e w4 ⟨rfl, rfl⟩)
      | (go_at_call 34; refine (aligned_any _ _ hv).mono ?_; rintro e w5 ⟨rfl, hb5⟩)
      | (go_at_call 35; refine (raligned_any _ _ hv).mono ?_; rintro e w6 ⟨rfl, rfl⟩)
      | (go_at_call 36; refine (page_any _ _ hv).mono ?_; rintro e w7 ⟨rfl, hb7⟩)
      | (go_at_call 37; refine (rpage_any _ _ hv).mono ?_; rintro e w8 ⟨rfl, rfl⟩)
      | (go_at_call 38; refine (place_any _ _ hv).mono ?_; rintro e w9 ⟨rfl, hb9⟩)
      | (go_at_call 39; refine (rplace_any _ _ hv).mono ?_; rintro e w10 ⟨rfl, rfl⟩)
      | (go_at_call 29; refine (wakes2_any _).mono ?_; rintro e w11 ⟨rfl, hb11⟩))
    go_ret
    exact ⟨rfl, bthen (bthen (bthen (bthen hb3 hb5) hb7) hb9) hb11⟩
  · have HK := Lib.hid hk
    clear hk
    go_enter Try.func9, Try.ntmps9
    go_wp2_with (first
      | (go_at_call 30; refine (va_yes _ _ _ h0 HK.out).mono ?_; rintro e w1 ⟨rfl, rfl⟩)
      | (go_at_call 31; refine (rva_yes _ _ _ h0 HK.out).mono ?_; rintro e w2 ⟨rfl, rfl⟩)
      | (go_at_call 32; refine (user_any _ _ hv).mono ?_; rintro e w3 ⟨rfl, hb3⟩)
      | (go_at_call 33; refine (ruser_any _ _ hv).mono ?_; rintro e w4 ⟨rfl, rfl⟩)
      | (go_at_call 34; refine (aligned_any _ _ hv).mono ?_; rintro e w5 ⟨rfl, hb5⟩)
      | (go_at_call 35; refine (raligned_any _ _ hv).mono ?_; rintro e w6 ⟨rfl, rfl⟩)
      | (go_at_call 36; refine (page_any _ _ hv).mono ?_; rintro e w7 ⟨rfl, hb7⟩)
      | (go_at_call 37; refine (rpage_any _ _ hv).mono ?_; rintro e w8 ⟨rfl, rfl⟩)
      | (go_at_call 38; refine (place_any _ _ hv).mono ?_; rintro e w9 ⟨rfl, hb9⟩)
      | (go_at_call 39; refine (rplace_any _ _ hv).mono ?_; rintro e w10 ⟨rfl, rfl⟩)
      | (go_at_call 29; refine (wakes2_any _).mono ?_; rintro e w11 ⟨rfl, hb11⟩))
    go_ret
    exact ⟨rfl, bthen (bthen (bthen (bthen hb3 hb5) hb7) hb9) hb11⟩
set_option maxHeartbeats 2000000 in
theorem addrWords_any (frame place word : Int) (w : World) (hw : U64 word) :
    Calls Try.prog 10 #[.int .i64 frame, .int .i64 place, .int .u64 word] w fun e w' => e = .returned (.bool true) ∧ Below w.heap.size w w' := by
  rcases hk : wordOk frame place with _ | _
  · have HK := Lib.hid hk
    clear hk
    by_cases hs : word ≤ 1099511627776
    · go_enter Try.func10, Try.ntmps10
      go_wp2_with (first
        | (go_at_call 40; refine (word_no _ _ _ HK.out).mono ?_; rintro e w1 ⟨rfl, rfl⟩)
        | (go_at_call 41; refine (rword_no _ _ _ HK.out).mono ?_; rintro e w2 ⟨rfl, rfl⟩)
        | (go_at_call 42; refine (split_yes _ _ hw hs).mono ?_; rintro e w3 ⟨rfl, hb3⟩)
        | (go_at_call 43; refine (rsplit_yes _ _ hw hs).mono ?_; rintro e w4 ⟨rfl, rfl⟩)
        | (go_at_call 29; refine (wakes2_any _).mono ?_; rintro e w11 ⟨rfl, hb11⟩))
      go_ret
      exact ⟨rfl, bthen hb3 hb11⟩
    · have hs' : 1099511627776 < word := by omega
      clear hs
      go_enter Try.func10, Try.ntmps10
      go_wp2_with (first
        | (go_at_call 40; refine (word_no _ _ _ HK.out).mono ?_; rintro e w1 ⟨rfl, rfl⟩)
        | (go_at_call 41; refine (rword_no _ _ _ HK.out).mono ?_; rintro e w2 ⟨rfl, rfl⟩)
        | (go_at_call 42; refine (split_no _ _ hs').mono ?_; rintro e w3 ⟨rfl, rfl⟩)
        | (go_at_call 43; refine (rsplit_no _ _ hs').mono ?_; rintro e w4 ⟨rfl, rfl⟩)
        | (go_at_call 29; refine (wakes2_any _).mono ?_; rintro e w11 ⟨rfl, hb11⟩))
      go_ret
      exact ⟨rfl, hb11⟩
  · have HK := Lib.hid hk
    clear hk
    by_cases hs : word ≤ 1099511627776
    · go_enter Try.func10, Try.ntmps10
      go_wp2_with (first
        | (go_at_call 40; refine (word_yes _ _ _ HK.out).mono ?_; rintro e w1 ⟨rfl, rfl⟩)
        | (go_at_call 41; refine (rword_yes _ _ _ HK.out).mono ?_; rintro e w2 ⟨rfl, rfl⟩)
        | (go_at_call 42; refine (split_yes _ _ hw hs).mono ?_; rintro e w3 ⟨rfl, hb3⟩)
        | (go_at_call 43; refine (rsplit_yes _ _ hw hs).mono ?_; rintro e w4 ⟨rfl, rfl⟩)
        | (go_at_call 29; refine (wakes2_any _).mono ?_; rintro e w11 ⟨rfl, hb11⟩))
      go_ret
      exact ⟨rfl, bthen hb3 hb11⟩
    · have hs' : 1099511627776 < word := by omega
      clear hs
      go_enter Try.func10, Try.ntmps10
      go_wp2_with (first
        | (go_at_call 40; refine (word_yes _ _ _ HK.out).mono ?_; rintro e w1 ⟨rfl, rfl⟩)
        | (go_at_call 41; refine (rword_yes _ _ _ HK.out).mono ?_; rintro e w2 ⟨rfl, rfl⟩)
        | (go_at_call 42; refine (split_no _ _ hs').mono ?_; rintro e w3 ⟨rfl, rfl⟩)
        | (go_at_call 43; refine (rsplit_no _ _ hs').mono ?_; rintro e w4 ⟨rfl, rfl⟩)
        | (go_at_call 29; refine (wakes2_any _).mono ?_; rintro e w11 ⟨rfl, hb11⟩))
      go_ret
      exact ⟨rfl, hb11⟩
/-- What a function answers of a kind and an error, under one name: for callers that hang on neither. -/
def Two (P : Int → Int → Prop) (k : IntKind) (w : World) (e : Ending) (w' : World) : Prop := ∃ a b : Int, P a b ∧ e = .returned (.tuple #[.int k a, .int .i64 b]) ∧ Below w.heap.size w w'
def idxIs (page level a b : Int) : Prop := (aOk page level = true ∧ a = aIdx page level ∧ b = 0) ∨ (aOk page level = false ∧ a = 0 ∧ b = 2)
def preIs (page level a b : Int) : Prop := (aOk page level = true ∧ a = aPre page level ∧ b = 0) ∨ (aOk page level = false ∧ a = 0 ∧ b = 2)
def fromIs (p q r s a b : Int) : Prop := (fromOk p q r s = true ∧ a = ((p * 512 + q) * 512 + r) * 512 + s ∧ b = 0) ∨ (fromOk p q r s = false ∧ a = 0 ∧ b = 2)
theorem idxIs_eq {page level a b c d : Int} (h : idxIs page level a b) (h' : idxIs page level c d) : a = c ∧ b = d := by
  rcases h with ⟨h1, h2, h3⟩ | ⟨h1, h2, h3⟩ <;> rcases h' with ⟨k1, k2, k3⟩ | ⟨k1, k2, k3⟩ <;> simp_all
theorem preIs_eq {page level a b c d : Int} (h : preIs page level a b) (h' : preIs page level c d) : a = c ∧ b = d := by
  rcases h with ⟨h1, h2, h3⟩ | ⟨h1, h2, h3⟩ <;> rcases h' with ⟨k1, k2, k3⟩ | ⟨k1, k2, k3⟩ <;> simp_all
theorem fromIs_eq {p q r s a b c d : Int} (h : fromIs p q r s a b) (h' : fromIs p q r s c d) : a = c ∧ b = d := by
  rcases h with ⟨h1, h2, h3⟩ | ⟨h1, h2, h3⟩ <;> rcases h' with ⟨k1, k2, k3⟩ | ⟨k1, k2, k3⟩ <;> simp_all
theorem index_any (page level : Int) (w : World) (hp : U64 page) : Calls Try.prog 23 #[.int .u64 page, .int .i64 level] w (Two (idxIs page level) .i64 w) := by
  rcases hk : aOk page level with _ | _
  · exact (index_no page level w hk).mono fun e w' ⟨h1, h2⟩ => ⟨_, _, .inr ⟨hk, rfl, rfl⟩, h1, h2⟩
  · exact (index_yes page level w hp hk).mono fun e w' ⟨h1, h2⟩ => ⟨_, _, .inl ⟨hk, rfl, rfl⟩, h1, h2⟩
theorem rindex_any (page level : Int) (w : World) (hp : U64 page) : Calls Try.prog 24 #[.int .u64 page, .int .i64 level] w (Two (idxIs page level) .i64 w) := by
  rcases hk : aOk page level with _ | _
  · exact (rindex_no page level w hk).mono fun e w' ⟨h1, h2⟩ => ⟨_, _, .inr ⟨hk, rfl, rfl⟩, h1, h2 ▸ Below.refl _ _⟩
  · exact (rindex_yes page level w hp hk).mono fun e w' ⟨h1, h2⟩ => ⟨_, _, .inl ⟨hk, rfl, rfl⟩, h1, h2 ▸ Below.refl _ _⟩
theorem prefix_any (page level : Int) (w : World) : Calls Try.prog 25 #[.int .u64 page, .int .i64 level] w (Two (preIs page level) .u64 w) := by
  rcases hk : aOk page level with _ | _
  · exact (prefix_no page level w hk).mono fun e w' ⟨h1, h2⟩ => ⟨_, _, .inr ⟨hk, rfl, rfl⟩, h1, h2 ▸ Below.refl _ _⟩
  · exact (prefix_yes page level w hk).mono fun e w' ⟨h1, h2⟩ => ⟨_, _, .inl ⟨hk, rfl, rfl⟩, h1, h2 ▸ Below.refl _ _⟩
theorem rprefix_any (page level : Int) (w : World) : Calls Try.prog 26 #[.int .u64 page, .int .i64 level] w (Two (preIs page level) .u64 w) := by
  rcases hk : aOk page level with _ | _
  · exact (rprefix_no page level w hk).mono fun e w' ⟨h1, h2⟩ => ⟨_, _, .inr ⟨hk, rfl, rfl⟩, h1, h2 ▸ Below.refl _ _⟩
  · exact (rprefix_yes page level w hk).mono fun e w' ⟨h1, h2⟩ => ⟨_, _, .inl ⟨hk, rfl, rfl⟩, h1, h2 ▸ Below.refl _ _⟩
theorem from_any (a b c d : Int) (w : World) : Calls Try.prog 27 #[.agg #[.int .i64 a, .int .i64 b, .int .i64 c, .int .i64 d]] w (Two (fromIs a b c d) .u64 w) := by
  rcases hk : fromOk a b c d with _ | _
  · exact (from_no a b c d w hk).mono fun e w' ⟨h1, h2⟩ => ⟨_, _, .inr ⟨hk, rfl, rfl⟩, h1, h2⟩
  · exact (from_yes a b c d w hk).mono fun e w' ⟨h1, h2⟩ => ⟨_, _, .inl ⟨hk, rfl, rfl⟩, h1, h2⟩
theorem rfrom_any (a b c d : Int) (w : World) : Calls Try.prog 28 #[.agg #[.int .i64 a, .int .i64 b, .int .i64 c, .int .i64 d]] w (Two (fromIs a b c d) .u64 w) := by
  rcases hk : fromOk a b c d with _ | _
  · exact (rfrom_no a b c d w hk).mono fun e w' ⟨h1, h2⟩ => ⟨_, _, .inr ⟨hk, rfl, rfl⟩, h1, h2⟩
  · exact (rfrom_yes a b c d w hk).mono fun e w' ⟨h1, h2⟩ => ⟨_, _, .inl ⟨hk, rfl, rfl⟩, h1, h2⟩
set_option maxHeartbeats 2000000 in
theorem addrIndices_any (page level a b c d : Int) (w : World) (hp : U64 page) :
    Calls Try.prog 6 #[.int .u64 page, .int .i64 level, .agg #[.int .i64 a, .int .i64 b, .int .i64 c, .int .i64 d]] w fun e w' => e = .returned (.bool true) ∧ Below w.heap.size w w' := by
  go_enter Try.func6, Try.ntmps6
  go_wp2_with fail
  refine (index_any _ _ _ hp).mono ?_
  rintro e w1 ⟨x1, y1, H1, rfl, hb1⟩
  go_wp2_with fail
  refine (rindex_any _ _ _ hp).mono ?_
  rintro e w2 ⟨x2, y2, H2, rfl, hb2⟩
  obtain ⟨rfl, rfl⟩ := idxIs_eq H1 H2
  clear H2
  go_wp2_with fail
  refine (prefix_any _ _ _).mono ?_
  rintro e w3 ⟨x3, y3, H3, rfl, hb3⟩
  go_wp2_with fail
  refine (rprefix_any _ _ _).mono ?_
  rintro e w4 ⟨x4, y4, H4, rfl, hb4⟩
  obtain ⟨rfl, rfl⟩ := preIs_eq H3 H4
  clear H4
  have hB := bthen (bthen (bthen hb1 hb2) hb3) hb4
  obtain ⟨hc, hf⟩ := bcell hB
  go_wp2_with fail
  refine (from_any _ _ _ _ _).mono ?_
  rintro e w5 ⟨x5, y5, H5, rfl, hb5⟩
  clear hc hf
  obtain ⟨hc, hf⟩ := bcell (bthen hB hb5)
  go_wp2_with fail
  refine (rfrom_any _ _ _ _ _).mono ?_
  rintro e w6 ⟨x6, y6, H6, rfl, hb6⟩
  obtain ⟨rfl, rfl⟩ := fromIs_eq H5 H6
  clear H6 hc hf
  go_wp2_with fail
  refine (wakes2_any _).mono ?_
  rintro e w7 ⟨rfl, hb7⟩
  go_wp2_with fail
  go_ret
  exact ⟨rfl, bthen (bthen (bthen (bthen (ba (Below.refl _ _) _) hB) hb5) hb6) hb7⟩

end Go.Proofs.Ytiaebfccgolbgaa
