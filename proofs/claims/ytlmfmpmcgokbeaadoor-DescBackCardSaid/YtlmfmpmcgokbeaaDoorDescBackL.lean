/-
  The law DescBack of layer 3: the walk.
-/
import Derived.Test.YtlmfmpmcgokbeaaDoorDescBackW
namespace Go.Proofs.YtlmfmpmcgokbeaaDoor
open Go.RowKit
set_option linter.unusedVariables false
set_option linter.unusedSimpArgs false

theorem own_rem (l : Int) : 0 ≤ Int.tmod (Int.tmod l 3 + 3) 3 ∧ Int.tmod (Int.tmod l 3 + 3) 3 ≤ 2 := by
  have a1 := Int.tmod_lt_of_pos l (show (0:Int) < 3 by omega)
  have a2 : -3 < Int.tmod l 3 := by
    have h := Int.tmod_lt_of_pos (-l) (show (0:Int) < 3 by omega)
    rw [Int.neg_tmod] at h
    omega
  have b1 := Int.tmod_lt_of_pos (Int.tmod l 3 + 3) (show (0:Int) < 3 by omega)
  have b2 := Int.tmod_nonneg (a := Int.tmod l 3 + 3) 3 (by omega)
  omega
theorem own_wrap (l : Int) : wrap64 (Int.tmod l 3 + 3) = Int.tmod l 3 + 3 := by
  have a1 := Int.tmod_lt_of_pos l (show (0:Int) < 3 by omega)
  have a2 : -3 < Int.tmod l 3 := by
    have h := Int.tmod_lt_of_pos (-l) (show (0:Int) < 3 by omega)
    rw [Int.neg_tmod] at h
    omega
  generalize Int.tmod l 3 = m at *
  unfold wrap64
  omega
def sec (x l : Int) : Prop := (de x l == 0) = false ∨ ((de x l == 0) = true ∧ (bits .and .u64 x 1 == 1) = true ∧ (bits .and .u64 x 1 == 0) = false ∧ dOk (dk x l) (df x l) (dfl x l 10) (dfl x l 7) (dfl x l 6) (dfl x l 11) = true ∧ dV (dk x l) (df x l) (dfl x l 10) (dfl x l 7) (dfl x l 6) (dfl x l 11) = x) ∨ ((de x l == 0) = true ∧ (bits .and .u64 x 1 == 1) = false ∧ (bits .and .u64 x 1 == 0) = true ∧ (dk x l != 0) = false)
theorem sec_any (x l : Int) (hx : U64 x) : sec x l := by
  unfold sec
  rw [and1 x hx]
  by_cases h : de x l = 0
  · have hm : x % 2 = 0 ∨ x % 2 = 1 := by omega
    rcases hm with hm | hm
    · refine .inr (.inr ⟨by simp [h], by simp [hm], by simp [hm], by simp [dec_even hm]⟩)
    · obtain ⟨h1, h2⟩ := dec_enc hx h hm
      exact .inr (.inl ⟨by simp [h], by simp [hm], by simp [hm], h1, h2⟩)
  · exact .inl (by simpa using h)
set_option maxHeartbeats 8000000 in
theorem descBack_n0 (k f x l : Int) (af ro us ng : Bool) (w : World) (hG : G w) (hx : U64 x) (h : dOk k f af ro us ng = false) (hk : (k == 1) = false) :
    Calls Tryd.prog 4 #[.agg #[.int .i8 k, .int .i64 f, .bool af, .bool ro, .bool us, .bool ng], .int .u64 x, .int .i64 l] w fun e w' => e = .returned (.bool true) ∧ Below w.heap.size w w' := by
  have hG0 := hG
  have S := Lib.hid (sec_any x l hx)
  go_enter Tryd.func4, Tryd.ntmps4
  have hR := Arr.new w #[.int .i8 k, .int .i64 f, .bool af, .bool ro, .bool us, .bool ng] 27
  have hB := ba (Below.refl w.heap.size w) (.cells #[.int .i8 k, .int .i64 f, .bool af, .bool ro, .bool us, .bool ng] 27)
  go_wp2_with fail
  refine (dEncode_no k f af ro us ng _ (hG0.call hB) h).mono ?_
  rintro e w1 ⟨rfl, hb⟩
  replace hR := hR.call hb
  replace hB := bthen hB hb
  clear hb
  go_wp2_with fail
  refine (dDecode_any x l _ (hG0.call hB) hx).mono ?_
  rintro e v2 ⟨rfl, hb⟩
  have hRx := Arr.new v2 #[.int .i8 (dk x l), .int .i64 (df x l), .bool (dfl x l 10), .bool (dfl x l 7), .bool (dfl x l 6), .bool (dfl x l 11)] 27
  replace hB := ba (bthen hB hb) (.cells #[.int .i8 (dk x l), .int .i64 (df x l), .bool (dfl x l 10), .bool (dfl x l 7), .bool (dfl x l 6), .bool (dfl x l 11)] 27)
  clear hb
  rcases S.out with s1 | ⟨s1, s2, s3, s4, s5⟩ | ⟨s1, s2, s3, s4⟩
  · have u0 := hRx.cell 0 _ rfl
    go_wp2_with fail
    refine (wakes3_any _ (hG0.call hB)).mono ?_
    rintro e v3 ⟨rfl, hb⟩
    go_wp2_with fail
    go_ret
    exact ⟨rfl, bthen hB hb⟩
  · have S5 := Lib.hid s5
    clear s5
    have u0 := hRx.cell 0 _ rfl
    have u1 := hRx.cell 1 _ rfl
    have u2 := hRx.cell 2 _ rfl
    have u3 := hRx.cell 3 _ rfl
    have u4 := hRx.cell 4 _ rfl
    have u5 := hRx.cell 5 _ rfl
    go_wp2_with fail
    refine (dEncode_yes _ _ _ _ _ _ _ (hG0.call hB) s4).mono ?_
    rintro e v3 ⟨rfl, hb⟩
    rw [S5.out]
    have n0 : (x != x) = false := by simp
    replace hRx := hRx.call hb
    clear u0 u1 u2 u3 u4 u5
    have u0 := hRx.cell 0 _ rfl
    replace hB := bthen hB hb
    clear hb
    go_wp2_with fail
    refine (wakes3_any _ (hG0.call hB)).mono ?_
    rintro e v4 ⟨rfl, hb⟩
    go_wp2_with fail
    go_ret
    exact ⟨rfl, bthen hB hb⟩
  · have u0 := hRx.cell 0 _ rfl
    go_wp2_with fail
    refine (wakes3_any _ (hG0.call hB)).mono ?_
    rintro e v3 ⟨rfl, hb⟩
    go_wp2_with fail
    go_ret
    exact ⟨rfl, bthen hB hb⟩
set_option maxHeartbeats 8000000 in
theorem descBack_n1 (k f x l : Int) (af ro us ng : Bool) (w : World) (hG : G w) (hx : U64 x) (h : dOk k f af ro us ng = false) (hk : (k == 1) = true) :
    Calls Tryd.prog 4 #[.agg #[.int .i8 k, .int .i64 f, .bool af, .bool ro, .bool us, .bool ng], .int .u64 x, .int .i64 l] w fun e w' => e = .returned (.bool true) ∧ Below w.heap.size w w' := by
  have hG0 := hG
  have S := Lib.hid (sec_any x l hx)
  go_enter Tryd.func4, Tryd.ntmps4
  have hR := Arr.new w #[.int .i8 k, .int .i64 f, .bool af, .bool ro, .bool us, .bool ng] 27
  have hB := ba (Below.refl w.heap.size w) (.cells #[.int .i8 k, .int .i64 f, .bool af, .bool ro, .bool us, .bool ng] 27)
  go_wp2_with fail
  refine (dEncode_no k f af ro us ng _ (hG0.call hB) h).mono ?_
  rintro e w1 ⟨rfl, hb⟩
  replace hR := hR.call hb
  replace hB := bthen hB hb
  clear hb
  go_wp2_with fail
  refine (dDecode_any x l _ (hG0.call hB) hx).mono ?_
  rintro e v2 ⟨rfl, hb⟩
  have hRx := Arr.new v2 #[.int .i8 (dk x l), .int .i64 (df x l), .bool (dfl x l 10), .bool (dfl x l 7), .bool (dfl x l 6), .bool (dfl x l 11)] 27
  replace hB := ba (bthen hB hb) (.cells #[.int .i8 (dk x l), .int .i64 (df x l), .bool (dfl x l 10), .bool (dfl x l 7), .bool (dfl x l 6), .bool (dfl x l 11)] 27)
  clear hb
  rcases S.out with s1 | ⟨s1, s2, s3, s4, s5⟩ | ⟨s1, s2, s3, s4⟩
  · have u0 := hRx.cell 0 _ rfl
    go_wp2_with fail
    refine (wakes3_any _ (hG0.call hB)).mono ?_
    rintro e v3 ⟨rfl, hb⟩
    go_wp2_with fail
    go_ret
    exact ⟨rfl, bthen hB hb⟩
  · have S5 := Lib.hid s5
    clear s5
    have u0 := hRx.cell 0 _ rfl
    have u1 := hRx.cell 1 _ rfl
    have u2 := hRx.cell 2 _ rfl
    have u3 := hRx.cell 3 _ rfl
    have u4 := hRx.cell 4 _ rfl
    have u5 := hRx.cell 5 _ rfl
    go_wp2_with fail
    refine (dEncode_yes _ _ _ _ _ _ _ (hG0.call hB) s4).mono ?_
    rintro e v3 ⟨rfl, hb⟩
    rw [S5.out]
    have n0 : (x != x) = false := by simp
    replace hRx := hRx.call hb
    clear u0 u1 u2 u3 u4 u5
    have u0 := hRx.cell 0 _ rfl
    replace hB := bthen hB hb
    clear hb
    go_wp2_with fail
    refine (wakes3_any _ (hG0.call hB)).mono ?_
    rintro e v4 ⟨rfl, hb⟩
    go_wp2_with fail
    go_ret
    exact ⟨rfl, bthen hB hb⟩
  · have u0 := hRx.cell 0 _ rfl
    go_wp2_with fail
    refine (wakes3_any _ (hG0.call hB)).mono ?_
    rintro e v3 ⟨rfl, hb⟩
    go_wp2_with fail
    go_ret
    exact ⟨rfl, bthen hB hb⟩
set_option maxHeartbeats 8000000 in
theorem descBack_y0 (k f x l : Int) (af ro us ng : Bool) (w : World) (hG : G w) (hx : U64 x) (h : dOk k f af ro us ng = true) (hk : (k == 1) = false) :
    Calls Tryd.prog 4 #[.agg #[.int .i8 k, .int .i64 f, .bool af, .bool ro, .bool us, .bool ng], .int .u64 x, .int .i64 l] w fun e w' => e = .returned (.bool true) ∧ Below w.heap.size w w' := by
  have hG0 := hG
  have S := Lib.hid (sec_any x l hx)
  have hown : (k = 1 ∧ 0 ≤ (3 : Int) ∧ (3 : Int) ≤ 2) ∨ (k ≠ 1 ∧ (3 : Int) = 3) := by
    exact .inr ⟨by simpa using hk, rfl⟩
  have E0 := enc_dec h hown
  have hX := E0.1
  have E := Lib.hid E0.2
  clear E0
  have n0 : (af != af) = false := by simp
  go_enter Tryd.func4, Tryd.ntmps4
  have hR := Arr.new w #[.int .i8 k, .int .i64 f, .bool af, .bool ro, .bool us, .bool ng] 27
  have hB := ba (Below.refl w.heap.size w) (.cells #[.int .i8 k, .int .i64 f, .bool af, .bool ro, .bool us, .bool ng] 27)
  go_wp2_with fail
  refine (dEncode_yes k f af ro us ng _ (hG0.call hB) h).mono ?_
  rintro e w1 ⟨rfl, hb⟩
  replace hR := hR.call hb
  replace hB := bthen hB hb
  clear hb
  go_wp2_with fail
  refine (dDecode_any _ 3 _ (hG0.call hB) hX).mono ?_
  rintro e w2 ⟨rfl, hb⟩
  obtain ⟨a1, a2, a3, a4, a5, a6, a7⟩ := E.out
  rw [a1, a2, a3, a4, a5, a6, a7]
  clear a1 a2 a3 a4 a5 a6 a7
  replace hR := (hR.call hb).alloc (.cells #[.int .i8 k, .int .i64 f, .bool af, .bool ro, .bool us, .bool ng] 27)
  have hR2 := Arr.new w2 #[.int .i8 k, .int .i64 f, .bool af, .bool ro, .bool us, .bool ng] 27
  replace hB := ba (bthen hB hb) (.cells #[.int .i8 k, .int .i64 f, .bool af, .bool ro, .bool us, .bool ng] 27)
  clear hb
  have q0 := hR.cell 0 _ rfl
  have q1 := hR.cell 1 _ rfl
  have q2 := hR.cell 2 _ rfl
  have q3 := hR.cell 3 _ rfl
  have q4 := hR.cell 4 _ rfl
  have q5 := hR.cell 5 _ rfl
  have r0 := hR2.cell 0 _ rfl
  have r1 := hR2.cell 1 _ rfl
  have r2 := hR2.cell 2 _ rfl
  have r3 := hR2.cell 3 _ rfl
  have r4 := hR2.cell 4 _ rfl
  have r5 := hR2.cell 5 _ rfl
  go_wp2_with fail
  refine (dDecode_any x l _ (hG0.call hB) hx).mono ?_
  rintro e v2 ⟨rfl, hb⟩
  have hRx := Arr.new v2 #[.int .i8 (dk x l), .int .i64 (df x l), .bool (dfl x l 10), .bool (dfl x l 7), .bool (dfl x l 6), .bool (dfl x l 11)] 27
  replace hB := ba (bthen hB hb) (.cells #[.int .i8 (dk x l), .int .i64 (df x l), .bool (dfl x l 10), .bool (dfl x l 7), .bool (dfl x l 6), .bool (dfl x l 11)] 27)
  clear hb
  rcases S.out with s1 | ⟨s1, s2, s3, s4, s5⟩ | ⟨s1, s2, s3, s4⟩
  · have u0 := hRx.cell 0 _ rfl
    go_wp2_with fail
    refine (wakes3_any _ (hG0.call hB)).mono ?_
    rintro e v3 ⟨rfl, hb⟩
    go_wp2_with fail
    go_ret
    exact ⟨rfl, bthen hB hb⟩
  · have S5 := Lib.hid s5
    clear s5
    have u0 := hRx.cell 0 _ rfl
    have u1 := hRx.cell 1 _ rfl
    have u2 := hRx.cell 2 _ rfl
    have u3 := hRx.cell 3 _ rfl
    have u4 := hRx.cell 4 _ rfl
    have u5 := hRx.cell 5 _ rfl
    go_wp2_with fail
    refine (dEncode_yes _ _ _ _ _ _ _ (hG0.call hB) s4).mono ?_
    rintro e v3 ⟨rfl, hb⟩
    rw [S5.out]
    have n0 : (x != x) = false := by simp
    replace hRx := hRx.call hb
    clear u0 u1 u2 u3 u4 u5
    have u0 := hRx.cell 0 _ rfl
    replace hB := bthen hB hb
    clear hb
    go_wp2_with fail
    refine (wakes3_any _ (hG0.call hB)).mono ?_
    rintro e v4 ⟨rfl, hb⟩
    go_wp2_with fail
    go_ret
    exact ⟨rfl, bthen hB hb⟩
  · have u0 := hRx.cell 0 _ rfl
    go_wp2_with fail
    refine (wakes3_any _ (hG0.call hB)).mono ?_
    rintro e v3 ⟨rfl, hb⟩
    go_wp2_with fail
    go_ret
    exact ⟨rfl, bthen hB hb⟩
set_option maxHeartbeats 8000000 in
theorem descBack_y1 (k f x l : Int) (af ro us ng : Bool) (w : World) (hG : G w) (hx : U64 x) (h : dOk k f af ro us ng = true) (hk : (k == 1) = true) :
    Calls Tryd.prog 4 #[.agg #[.int .i8 k, .int .i64 f, .bool af, .bool ro, .bool us, .bool ng], .int .u64 x, .int .i64 l] w fun e w' => e = .returned (.bool true) ∧ Below w.heap.size w w' := by
  have hG0 := hG
  have S := Lib.hid (sec_any x l hx)
  have hown : (k = 1 ∧ 0 ≤ (Int.tmod (wrap64 (Int.tmod l 3 + 3)) 3) ∧ (Int.tmod (wrap64 (Int.tmod l 3 + 3)) 3) ≤ 2) ∨ (k ≠ 1 ∧ (Int.tmod (wrap64 (Int.tmod l 3 + 3)) 3) = 3) := by
    rw [own_wrap]; exact .inl ⟨by simpa using hk, own_rem l⟩
  have E0 := enc_dec h hown
  have hX := E0.1
  have E := Lib.hid E0.2
  clear E0
  have n0 : (af != af) = false := by simp
  go_enter Tryd.func4, Tryd.ntmps4
  have hR := Arr.new w #[.int .i8 k, .int .i64 f, .bool af, .bool ro, .bool us, .bool ng] 27
  have hB := ba (Below.refl w.heap.size w) (.cells #[.int .i8 k, .int .i64 f, .bool af, .bool ro, .bool us, .bool ng] 27)
  go_wp2_with fail
  refine (dEncode_yes k f af ro us ng _ (hG0.call hB) h).mono ?_
  rintro e w1 ⟨rfl, hb⟩
  replace hR := hR.call hb
  replace hB := bthen hB hb
  clear hb
  go_wp2_with fail
  refine (dDecode_any _ (Int.tmod (wrap64 (Int.tmod l 3 + 3)) 3) _ (hG0.call hB) hX).mono ?_
  rintro e w2 ⟨rfl, hb⟩
  obtain ⟨a1, a2, a3, a4, a5, a6, a7⟩ := E.out
  rw [a1, a2, a3, a4, a5, a6, a7]
  clear a1 a2 a3 a4 a5 a6 a7
  replace hR := (hR.call hb).alloc (.cells #[.int .i8 k, .int .i64 f, .bool af, .bool ro, .bool us, .bool ng] 27)
  have hR2 := Arr.new w2 #[.int .i8 k, .int .i64 f, .bool af, .bool ro, .bool us, .bool ng] 27
  replace hB := ba (bthen hB hb) (.cells #[.int .i8 k, .int .i64 f, .bool af, .bool ro, .bool us, .bool ng] 27)
  clear hb
  have q0 := hR.cell 0 _ rfl
  have q1 := hR.cell 1 _ rfl
  have q2 := hR.cell 2 _ rfl
  have q3 := hR.cell 3 _ rfl
  have q4 := hR.cell 4 _ rfl
  have q5 := hR.cell 5 _ rfl
  have r0 := hR2.cell 0 _ rfl
  have r1 := hR2.cell 1 _ rfl
  have r2 := hR2.cell 2 _ rfl
  have r3 := hR2.cell 3 _ rfl
  have r4 := hR2.cell 4 _ rfl
  have r5 := hR2.cell 5 _ rfl
  go_wp2_with fail
  refine (dDecode_any x l _ (hG0.call hB) hx).mono ?_
  rintro e v2 ⟨rfl, hb⟩
  have hRx := Arr.new v2 #[.int .i8 (dk x l), .int .i64 (df x l), .bool (dfl x l 10), .bool (dfl x l 7), .bool (dfl x l 6), .bool (dfl x l 11)] 27
  replace hB := ba (bthen hB hb) (.cells #[.int .i8 (dk x l), .int .i64 (df x l), .bool (dfl x l 10), .bool (dfl x l 7), .bool (dfl x l 6), .bool (dfl x l 11)] 27)
  clear hb
  rcases S.out with s1 | ⟨s1, s2, s3, s4, s5⟩ | ⟨s1, s2, s3, s4⟩
  · have u0 := hRx.cell 0 _ rfl
    go_wp2_with fail
    refine (wakes3_any _ (hG0.call hB)).mono ?_
    rintro e v3 ⟨rfl, hb⟩
    go_wp2_with fail
    go_ret
    exact ⟨rfl, bthen hB hb⟩
  · have S5 := Lib.hid s5
    clear s5
    have u0 := hRx.cell 0 _ rfl
    have u1 := hRx.cell 1 _ rfl
    have u2 := hRx.cell 2 _ rfl
    have u3 := hRx.cell 3 _ rfl
    have u4 := hRx.cell 4 _ rfl
    have u5 := hRx.cell 5 _ rfl
    go_wp2_with fail
    refine (dEncode_yes _ _ _ _ _ _ _ (hG0.call hB) s4).mono ?_
    rintro e v3 ⟨rfl, hb⟩
    rw [S5.out]
    have n0 : (x != x) = false := by simp
    replace hRx := hRx.call hb
    clear u0 u1 u2 u3 u4 u5
    have u0 := hRx.cell 0 _ rfl
    replace hB := bthen hB hb
    clear hb
    go_wp2_with fail
    refine (wakes3_any _ (hG0.call hB)).mono ?_
    rintro e v4 ⟨rfl, hb⟩
    go_wp2_with fail
    go_ret
    exact ⟨rfl, bthen hB hb⟩
  · have u0 := hRx.cell 0 _ rfl
    go_wp2_with fail
    refine (wakes3_any _ (hG0.call hB)).mono ?_
    rintro e v3 ⟨rfl, hb⟩
    go_wp2_with fail
    go_ret
    exact ⟨rfl, bthen hB hb⟩
theorem descBack_any (k f x l : Int) (af ro us ng : Bool) (w : World) (hG : G w) (hx : U64 x) :
    Calls Tryd.prog 4 #[.agg #[.int .i8 k, .int .i64 f, .bool af, .bool ro, .bool us, .bool ng], .int .u64 x, .int .i64 l] w fun e w' => e = .returned (.bool true) ∧ Below w.heap.size w w' := by
  rcases h : dOk k f af ro us ng with _ | _ <;> rcases hk : (k == 1) with _ | _
  · exact descBack_n0 k f x l af ro us ng w hG hx h hk
  · exact descBack_n1 k f x l af ro us ng w hG hx h hk
  · exact descBack_y0 k f x l af ro us ng w hG hx h hk
  · exact descBack_y1 k f x l af ro us ng w hG hx h hk
end Go.Proofs.YtlmfmpmcgokbeaaDoor
