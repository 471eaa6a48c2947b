/-
  The walks of the laws InvalBack and InvalTells.
-/
import Derived.Test.YtlmfmpmcgokbeaaInvalLaws
import Derived.Test.YtlmfmpmcgokbeaaArr
import Derived.Deep.RegionHeld3
namespace Go.Proofs.Ytlmfmpmcgokbeaa
open Go.RowKit
set_option linter.unusedVariables false
set_option linter.unusedSimpArgs false

theorem dec_enc (k a p : Int) (hp : 0 ≤ p) (hm : mayB k a p = true) : decOk k (encV a p) = true ∧ encV a p / 281474976710656 = a ∧ encV a p % 17592186044416 = p ∧ U64 (encV a p) := by
  obtain ⟨h0, h1, h2⟩ := mayB_p hm
  have e1 : encV a p / 281474976710656 = a := by unfold encV; omega
  have e2 : encV a p % 17592186044416 = p := by unfold encV; omega
  refine ⟨?_, e1, e2, ?_⟩
  · unfold decOk; rw [e1, e2, hm]; simp
  · unfold encV; exact ⟨by omega, by omega⟩
theorem dec_of {k x : Int} (h : decOk k x = true) : mayB k (x / 281474976710656) (x % 17592186044416) = true ∧ encV (x / 281474976710656) (x % 17592186044416) = x := by
  simpa [decOk] using h
set_option maxHeartbeats 2000000 in
theorem invalBack_ff (k a p x : Int) (w : World) (hp : 0 ≤ p) (hx : U64 x) (hm : mayB k a p = false) (hd : decOk k x = false) :
    Calls Try.prog 4 #[.agg #[.int .i8 k, .int .i64 a, .int .u64 p], .int .u64 x] w fun e w' => e = .returned (.bool true) ∧ Below w.heap.size w w' := by
  have HM := Lib.hid hm
  have HD := Lib.hid hd
  clear hm hd
  have hR := Arr.new w #[.int .i8 k, .int .i64 a, .int .u64 p] 30
  have hB := ba (Below.refl w.heap.size w) (.cells #[.int .i8 k, .int .i64 a, .int .u64 p] 30)
  go_enter Try.func4, Try.ntmps4
  go_wp2_with fail
  refine (encode_no _ _ _ _ HM.out).mono ?_
  rintro e w1 ⟨rfl, hb⟩
  replace hR := hR.call hb
  replace hB := bthen hB hb
  clear hb
  have q0 := hR.cell 0 _ rfl
  have q1 := hR.cell 1 _ rfl
  have q2 := hR.cell 2 _ rfl
  have f := hR.lt
  go_wp2_with fail
  refine (decode_no _ _ _ hx HD.out).mono ?_
  rintro e w3 ⟨rfl, hb⟩
  replace hR := hR.call hb
  replace hB := bthen hB hb
  clear hb
  clear q0 q1 q2 f
  have q0 := hR.cell 0 _ rfl
  have q1 := hR.cell 1 _ rfl
  have q2 := hR.cell 2 _ rfl
  have f := hR.lt
  go_wp2_with fail
  replace hB := ba hB (.cells #[.int .i8 0, .int .i64 0, .int .u64 0] 30)
  refine (wakes5_any _).mono ?_
  rintro e w5 ⟨rfl, hb⟩
  replace hB := bthen hB hb
  clear hb
  go_wp2_with fail
  go_ret
  exact ⟨rfl, hB⟩
set_option maxHeartbeats 2000000 in
theorem invalBack_ft (k a p x : Int) (w : World) (hp : 0 ≤ p) (hx : U64 x) (hm : mayB k a p = false) (hd : decOk k x = true) :
    Calls Try.prog 4 #[.agg #[.int .i8 k, .int .i64 a, .int .u64 p], .int .u64 x] w fun e w' => e = .returned (.bool true) ∧ Below w.heap.size w w' := by
  have HM := Lib.hid hm
  have HD := Lib.hid hd
  obtain ⟨d1, d2⟩ := dec_of hd
  have D1 := Lib.hid d1
  have D2 := Lib.hid d2
  have x0 := hx.1
  have hne := bne_self_i x
  clear d1 d2
  clear hm hd
  have hR := Arr.new w #[.int .i8 k, .int .i64 a, .int .u64 p] 30
  have hB := ba (Below.refl w.heap.size w) (.cells #[.int .i8 k, .int .i64 a, .int .u64 p] 30)
  go_enter Try.func4, Try.ntmps4
  go_wp2_with fail
  refine (encode_no _ _ _ _ HM.out).mono ?_
  rintro e w1 ⟨rfl, hb⟩
  replace hR := hR.call hb
  replace hB := bthen hB hb
  clear hb
  have q0 := hR.cell 0 _ rfl
  have q1 := hR.cell 1 _ rfl
  have q2 := hR.cell 2 _ rfl
  have f := hR.lt
  go_wp2_with fail
  refine (decode_yes _ _ _ hx HD.out).mono ?_
  rintro e w3 ⟨rfl, hb⟩
  replace hR := hR.call hb
  replace hB := bthen hB hb
  clear hb
  clear q0 q1 q2 f
  have q0 := hR.cell 0 _ rfl
  have q1 := hR.cell 1 _ rfl
  have q2 := hR.cell 2 _ rfl
  have f := hR.lt
  go_wp2_with fail
  have hR2 := Arr.new w3 #[.int .i8 k, .int .i64 (x / 281474976710656), .int .u64 (x % 17592186044416)] 30
  replace hR := hR.alloc (.cells #[.int .i8 k, .int .i64 (x / 281474976710656), .int .u64 (x % 17592186044416)] 30)
  replace hB := ba hB (.cells #[.int .i8 k, .int .i64 (x / 281474976710656), .int .u64 (x % 17592186044416)] 30)
  refine (encode_yes _ _ _ _ (by omega) D1.out).mono ?_
  rintro e w4 ⟨rfl, hb⟩
  rw [D2.out]
  replace hR := hR.call hb
  replace hR2 := hR2.call hb
  replace hB := bthen hB hb
  clear hb
  clear q0 q1 q2 f
  have q0 := hR.cell 0 _ rfl
  have q1 := hR.cell 1 _ rfl
  have q2 := hR.cell 2 _ rfl
  have f := hR.lt
  have r0 := hR2.cell 0 _ rfl
  have r1 := hR2.cell 1 _ rfl
  have r2 := hR2.cell 2 _ rfl
  go_wp2_with fail
  refine (wakes5_any _).mono ?_
  rintro e w5 ⟨rfl, hb⟩
  replace hB := bthen hB hb
  clear hb
  go_wp2_with fail
  go_ret
  exact ⟨rfl, hB⟩
set_option maxHeartbeats 2000000 in
theorem invalBack_tf (k a p x : Int) (w : World) (hp : 0 ≤ p) (hx : U64 x) (hm : mayB k a p = true) (hd : decOk k x = false) :
    Calls Try.prog 4 #[.agg #[.int .i8 k, .int .i64 a, .int .u64 p], .int .u64 x] w fun e w' => e = .returned (.bool true) ∧ Below w.heap.size w w' := by
  have HM := Lib.hid hm
  have HD := Lib.hid hd
  obtain ⟨g1, g2, g3, g4⟩ := dec_enc k a p hp hm
  have G1 := Lib.hid g1
  have G2 := Lib.hid g2
  have G3 := Lib.hid g3
  clear g1 g2 g3
  clear hm hd
  have hR := Arr.new w #[.int .i8 k, .int .i64 a, .int .u64 p] 30
  have hB := ba (Below.refl w.heap.size w) (.cells #[.int .i8 k, .int .i64 a, .int .u64 p] 30)
  go_enter Try.func4, Try.ntmps4
  go_wp2_with fail
  refine (encode_yes _ _ _ _ hp HM.out).mono ?_
  rintro e w1 ⟨rfl, hb⟩
  replace hR := hR.call hb
  replace hB := bthen hB hb
  clear hb
  have q0 := hR.cell 0 _ rfl
  have q1 := hR.cell 1 _ rfl
  have q2 := hR.cell 2 _ rfl
  have f := hR.lt
  go_wp2_with fail
  refine (decode_yes _ _ _ g4 G1.out).mono ?_
  rintro e w2 ⟨rfl, hb⟩
  rw [G2.out, G3.out]
  replace hR := hR.call hb
  replace hB := bthen hB hb
  clear hb
  clear q0 q1 q2 f
  have q0 := hR.cell 0 _ rfl
  have q1 := hR.cell 1 _ rfl
  have q2 := hR.cell 2 _ rfl
  have f := hR.lt
  go_wp2_with fail
  replace hR := hR.alloc (.cells #[.int .i8 k, .int .i64 a, .int .u64 p] 30)
  replace hB := ba hB (.cells #[.int .i8 k, .int .i64 a, .int .u64 p] 30)
  refine (decode_no _ _ _ hx HD.out).mono ?_
  rintro e w3 ⟨rfl, hb⟩
  replace hR := hR.call hb
  replace hB := bthen hB hb
  clear hb
  clear q0 q1 q2 f
  have q0 := hR.cell 0 _ rfl
  have q1 := hR.cell 1 _ rfl
  have q2 := hR.cell 2 _ rfl
  have f := hR.lt
  go_wp2_with fail
  replace hB := ba hB (.cells #[.int .i8 0, .int .i64 0, .int .u64 0] 30)
  refine (wakes5_any _).mono ?_
  rintro e w5 ⟨rfl, hb⟩
  replace hB := bthen hB hb
  clear hb
  go_wp2_with fail
  go_ret
  exact ⟨rfl, hB⟩
set_option maxHeartbeats 2000000 in
theorem invalBack_tt (k a p x : Int) (w : World) (hp : 0 ≤ p) (hx : U64 x) (hm : mayB k a p = true) (hd : decOk k x = true) :
    Calls Try.prog 4 #[.agg #[.int .i8 k, .int .i64 a, .int .u64 p], .int .u64 x] w fun e w' => e = .returned (.bool true) ∧ Below w.heap.size w w' := by
  have HM := Lib.hid hm
  have HD := Lib.hid hd
  obtain ⟨g1, g2, g3, g4⟩ := dec_enc k a p hp hm
  have G1 := Lib.hid g1
  have G2 := Lib.hid g2
  have G3 := Lib.hid g3
  clear g1 g2 g3
  obtain ⟨d1, d2⟩ := dec_of hd
  have D1 := Lib.hid d1
  have D2 := Lib.hid d2
  have x0 := hx.1
  have hne := bne_self_i x
  clear d1 d2
  clear hm hd
  have hR := Arr.new w #[.int .i8 k, .int .i64 a, .int .u64 p] 30
  have hB := ba (Below.refl w.heap.size w) (.cells #[.int .i8 k, .int .i64 a, .int .u64 p] 30)
  go_enter Try.func4, Try.ntmps4
  go_wp2_with fail
  refine (encode_yes _ _ _ _ hp HM.out).mono ?_
  rintro e w1 ⟨rfl, hb⟩
  replace hR := hR.call hb
  replace hB := bthen hB hb
  clear hb
  have q0 := hR.cell 0 _ rfl
  have q1 := hR.cell 1 _ rfl
  have q2 := hR.cell 2 _ rfl
  have f := hR.lt
  go_wp2_with fail
  refine (decode_yes _ _ _ g4 G1.out).mono ?_
  rintro e w2 ⟨rfl, hb⟩
  rw [G2.out, G3.out]
  replace hR := hR.call hb
  replace hB := bthen hB hb
  clear hb
  clear q0 q1 q2 f
  have q0 := hR.cell 0 _ rfl
  have q1 := hR.cell 1 _ rfl
  have q2 := hR.cell 2 _ rfl
  have f := hR.lt
  go_wp2_with fail
  replace hR := hR.alloc (.cells #[.int .i8 k, .int .i64 a, .int .u64 p] 30)
  replace hB := ba hB (.cells #[.int .i8 k, .int .i64 a, .int .u64 p] 30)
  refine (decode_yes _ _ _ hx HD.out).mono ?_
  rintro e w3 ⟨rfl, hb⟩
  replace hR := hR.call hb
  replace hB := bthen hB hb
  clear hb
  clear q0 q1 q2 f
  have q0 := hR.cell 0 _ rfl
  have q1 := hR.cell 1 _ rfl
  have q2 := hR.cell 2 _ rfl
  have f := hR.lt
  go_wp2_with fail
  have hR2 := Arr.new w3 #[.int .i8 k, .int .i64 (x / 281474976710656), .int .u64 (x % 17592186044416)] 30
  replace hR := hR.alloc (.cells #[.int .i8 k, .int .i64 (x / 281474976710656), .int .u64 (x % 17592186044416)] 30)
  replace hB := ba hB (.cells #[.int .i8 k, .int .i64 (x / 281474976710656), .int .u64 (x % 17592186044416)] 30)
  refine (encode_yes _ _ _ _ (by omega) D1.out).mono ?_
  rintro e w4 ⟨rfl, hb⟩
  rw [D2.out]
  replace hR := hR.call hb
  replace hR2 := hR2.call hb
  replace hB := bthen hB hb
  clear hb
  clear q0 q1 q2 f
  have q0 := hR.cell 0 _ rfl
  have q1 := hR.cell 1 _ rfl
  have q2 := hR.cell 2 _ rfl
  have f := hR.lt
  have r0 := hR2.cell 0 _ rfl
  have r1 := hR2.cell 1 _ rfl
  have r2 := hR2.cell 2 _ rfl
  go_wp2_with fail
  refine (wakes5_any _).mono ?_
  rintro e w5 ⟨rfl, hb⟩
  replace hB := bthen hB hb
  clear hb
  go_wp2_with fail
  go_ret
  exact ⟨rfl, hB⟩
theorem invalBack_any (k a p x : Int) (w : World) (hp : 0 ≤ p) (hx : U64 x) :
    Calls Try.prog 4 #[.agg #[.int .i8 k, .int .i64 a, .int .u64 p], .int .u64 x] w fun e w' => e = .returned (.bool true) ∧ Below w.heap.size w w' := by
  rcases hm : mayB k a p with _ | _ <;> rcases hd : decOk k x with _ | _
  · exact invalBack_ff k a p x w hp hx hm hd
  · exact invalBack_ft k a p x w hp hx hm hd
  · exact invalBack_tf k a p x w hp hx hm hd
  · exact invalBack_tt k a p x w hp hx hm hd
end Go.Proofs.Ytlmfmpmcgokbeaa
