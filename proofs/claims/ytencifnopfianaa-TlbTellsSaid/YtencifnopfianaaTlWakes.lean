/-
  Layer 11's wakes: what the document says of an entry that is put in another one's place.
-/
import Derived.Test.YtencifnopfianaaTlOutB
namespace Go.Proofs.Ytencifnopfianaa
open Go.RowKit
set_option linter.unusedVariables false
set_option linter.unusedSimpArgs false
section
variable {α : Type} {may : α → Bool} {pl : α → Int × Int × Int}
theorem ok2 {a b : α} (h1 : may a = true) (h2 : may b = true) (h3 : pl a ≠ pl b) : OkB may pl [a, b] 2 := by
  refine OkB.succ (OkB.succ (OkB.zero _) (j := 0) (x := a) rfl h1 (NoB.zero _ _)) (j := 1) (x := b) rfl h2 ?_
  exact NoB.succ (NoB.zero _ _) (j := 0) (x := a) rfl h3
theorem ok3 {a b c : α} (h1 : may a = true) (h2 : may b = true) (h3 : may c = true) (h4 : pl a ≠ pl b) (h5 : pl a ≠ pl c) (h6 : pl b ≠ pl c) : OkB may pl [a, b, c] 3 := by
  refine OkB.succ (OkB.succ (OkB.succ (OkB.zero _) (j := 0) (x := a) rfl h1 (NoB.zero _ _)) (j := 1) (x := b) rfl h2 (NoB.succ (NoB.zero _ _) (j := 0) (x := a) rfl h4)) (j := 2) (x := c) rfl h3 ?_
  exact NoB.succ (NoB.succ (NoB.zero _ _) (j := 0) (x := a) rfl h5) (j := 1) (x := b) rfl h6
end
theorem rk_lit {α : Type} {enc : α → List Value} {k : Nat} (hk : ∀ x, (enc x).length = k) {w : World} {g : Nat} {xs : List α} (h : Arr w g (flat enc xs)) : RK enc k w (some ⟨g, 0, none⟩) xs := fun _ => ⟨g, 0, rfl, fun i x hx j u hu => by
  have := h.cell (i * k + j) u (flat_at hk xs i x hx j u hu)
  rw [Nat.zero_add]
  exact this⟩
def wk1 : Tb := ⟨1, 5, 2, false⟩
def wk2 : Tb := ⟨1, 6, 0, false⟩
def wk3 : Tb := ⟨1, 5, 3, false⟩
def ws1 : Sb := ⟨1, 1, 0, 0⟩
def ws2 : Sb := ⟨1, 3, 0, 0⟩
def ws3 : Sb := ⟨1, 2, 0, 0⟩
theorem wk_ck : Ck mayT plT 8 [wk1, wk2] := ⟨by simp, ok2 (by decide) (by decide) (by decide)⟩
theorem wk_ck2 : Ck mayT plT 8 [wk3, wk2] := ⟨by simp, ok2 (by decide) (by decide) (by decide)⟩
theorem ws_ck : Ck mayS plS 4 [ws1, ws2, ws3] := ⟨by simp, ok3 (by decide) (by decide) (by decide) (by decide) (by decide) (by decide)⟩
theorem wk_filE : filE mayT plT 8 [wk1, wk2] wk3 = 0 := if_pos ⟨wk_ck, by decide⟩
theorem wk_filL : filL mayT plT 8 [wk1, wk2] wk3 = [wk3, wk2] := by
  unfold filL
  rw [if_pos ⟨wk_ck, by decide⟩, show fdx plT [wk1, wk2] (plT wk3) = some 0 by decide]
  rfl
theorem wk_fnd : fndO [wk3, wk2] 1 5 = some wk3 := by
  unfold fndO
  rw [if_pos wk_ck2, show fdx plT [wk3, wk2] (1, 0, 5) = some 0 by decide]
  rfl
theorem ws_best : bestO [ws1, ws2, ws3] 1 7 = some ws3 := by
  unfold bestO
  rw [if_pos ws_ck]
  have h1 : ofB 1 7 ws1 = true := by decide
  have h2 : ofB 1 7 ws2 = false := by decide
  have h3 : ofB 1 7 ws3 = true := by decide
  unfold bst
  simp only [List.foldl_cons, List.foldl_nil]
  rw [bstep_first h1, bstep_no h2, bstep_more h3 (by decide)]
set_option maxRecDepth 100000 in
set_option maxHeartbeats 2000000 in
theorem wakes11_any (w : World) : Calls Try.prog 9 #[] w fun e w' => e = .returned (.bool true) ∧ Below w.heap.size w w' := by
  have HA := Lib.hid (Arr.new w #[.int .i64 1, .int .u64 5, .int .i64 2, .bool false, .int .i64 1, .int .u64 6, .int .i64 0, .bool false] 25)
  have HB0 := Lib.hid (ba (Below.refl w.heap.size w) (.cells #[.int .i64 1, .int .u64 5, .int .i64 2, .bool false, .int .i64 1, .int .u64 6, .int .i64 0, .bool false] 25))
  go_enter Try.func9, Try.ntmps9
  go_wp2_with fail
  generalize w.alloc (.cells #[.int .i64 1, .int .u64 5, .int .i64 2, .bool false, .int .i64 1, .int .u64 6, .int .i64 0, .bool false] 25) = W0 at *
  have hR : RK encT 4 W0 (some ⟨w.heap.size, 0, none⟩) [wk1, wk2] := rk_lit encT_len HA.out
  refine (fillT_out (some ⟨w.heap.size, 0, none⟩) 2 [wk1, wk2] wk3 _ hR (by simp)).mono ?_
  rintro e w1 ⟨v, rfl, hO, hb1⟩
  rw [wk_filL] at hO
  rw [wk_filE]
  obtain ⟨O1, c1, rfl, lc, lm, hR1⟩ := hO.form encT_len
  have HR1 := Lib.hid hR1
  have HA1 := Lib.hid (HA.out.call hb1)
  have HB1 := Lib.hid (bthen HB0.out hb1)
  clear hb1 hO hR1 hR HA HB0
  have lc' : 2 ≤ c1 := lc
  go_wp2_with fail
  refine (find_out O1 c1 [wk3, wk2] 1 5 _ HR1.out lc).mono ?_
  rintro e w2 ⟨rfl, hb2⟩
  rw [wk_fnd]
  simp only [Option.getD_some, Option.isSome_some, wk3]
  have HA2 := Lib.hid ((HA1.out.call hb2).alloc (.cells #[.int .i64 1, .int .u64 5, .int .i64 3, .bool false] 25))
  have HX2 := Lib.hid (Arr.new w2 #[.int .i64 1, .int .u64 5, .int .i64 3, .bool false] 25)
  have HB2 := Lib.hid (ba (bthen HB1.out hb2) (.cells #[.int .i64 1, .int .u64 5, .int .i64 3, .bool false] 25))
  have HZ := Lib.hid (show (w2.alloc (.cells #[.int .i64 1, .int .u64 5, .int .i64 3, .bool false] 25)).heap.size = w2.heap.size + 1 by simp)
  clear hb2 HA1 HR1 HB1 lc
  go_wp2_with fail
  generalize w2.heap.size = Y at *
  generalize w2.alloc (.cells #[.int .i64 1, .int .u64 5, .int .i64 3, .bool false] 25) = W2 at *
  have HS := Lib.hid (show RK encS 4 _ (some ⟨Y + 1, 0, none⟩) [ws1, ws2, ws3] from by rw [← HZ.out]; exact rk_lit encS_len (Arr.new W2 #[.int .i64 1, .int .i8 1, .int .u64 0, .int .i64 0, .int .i64 1, .int .i8 3, .int .u64 0, .int .i64 0, .int .i64 1, .int .i8 2, .int .u64 0, .int .i64 0] 44))
  have HA3 := Lib.hid (HA2.out.alloc (.cells #[.int .i64 1, .int .i8 1, .int .u64 0, .int .i64 0, .int .i64 1, .int .i8 3, .int .u64 0, .int .i64 0, .int .i64 1, .int .i8 2, .int .u64 0, .int .i64 0] 44))
  have HX3 := Lib.hid (HX2.out.alloc (.cells #[.int .i64 1, .int .i8 1, .int .u64 0, .int .i64 0, .int .i64 1, .int .i8 3, .int .u64 0, .int .i64 0, .int .i64 1, .int .i8 2, .int .u64 0, .int .i64 0] 44))
  have HB3 := Lib.hid (ba HB2.out (.cells #[.int .i64 1, .int .i8 1, .int .u64 0, .int .i64 0, .int .i64 1, .int .i8 3, .int .u64 0, .int .i64 0, .int .i64 1, .int .i8 2, .int .u64 0, .int .i64 0] 44))
  clear HA2 HX2 HB2
  generalize W2.alloc (.cells #[.int .i64 1, .int .i8 1, .int .u64 0, .int .i64 0, .int .i64 1, .int .i8 3, .int .u64 0, .int .i64 0, .int .i64 1, .int .i8 2, .int .u64 0, .int .i64 0] 44) = W3 at *
  refine (best_out (some ⟨Y + 1, 0, none⟩) 3 [ws1, ws2, ws3] 1 7 _ HS.out (by simp)).mono ?_
  rintro e w4 ⟨rfl, hb4⟩
  rw [ws_best]
  simp only [Option.getD_some, Option.isSome_some, ws3]
  have HB4 := Lib.hid (bthen HB3.out hb4)
  have hA4 := HA3.out.call hb4
  have hX4 := HX3.out.call hb4
  have a2 := hA4.cell 2 _ rfl
  have x2 := hX4.cell 2 _ rfl
  have lA := hA4.lt
  have lX := hX4.lt
  clear hb4 hA4 hX4 HA3 HX3 HB3 HS HZ
  go_wp2_with fail
  go_ret
  exact ⟨rfl, ba HB4.out _⟩
end Go.Proofs.Ytencifnopfianaa
