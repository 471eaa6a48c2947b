/-
  The document's descriptors (tenementref03): Decode.
  The law DescTells of layer 3: Touch and Differ of the document; the walk.
-/
import Derived.Test.YtgdkkhdhomehdaaDoorMwF
import Derived.Test.YtgdkkhdhomehdaaDoorMwE
namespace Go.Proofs.YtgdkkhdhomehdaaDoor
section
open Go.RowKit
set_option linter.unusedVariables false
set_option linter.unusedSimpArgs false

theorem gd3 (x : Int) : good x 3 = wOk 2 x := by simp [good, lvl, kdOf]
theorem fGet00 (x : Int) (hx : U64 x) : fGet x 0 0 = x % 2 := by
  obtain ⟨n, rfl, hn⟩ := u64_nat hx
  have := get_nat_val n 0 0 (by omega) (by omega)
  simp at this
  exact this
theorem word1_iff (x : Int) (hx : U64 x) (h0 : 0 ≤ fGet x 47 12) (h : fGet x 47 12 ≤ 63) : wOk 1 x = true ↔ wordV (fGet x 47 12) false false false false = x := by
  constructor
  · intro hw; exact (wOk_word1 hx hw).1.symm
  · intro e
    obtain ⟨n, hn⟩ := fin_of h0 h
    rw [hn] at e
    rw [← e]
    exact (word_back1 n).1
theorem word2_iff (x : Int) (hx : U64 x) (h0 : 0 ≤ fGet x 47 12) (h : fGet x 47 12 ≤ 63) : wOk 2 x = true ↔ wordV (fGet x 47 12) (fGet x 10 10 == 1) (fGet x 7 7 == 1) (fGet x 6 6 == 1) (fGet x 11 11 == 1) = x := by
  constructor
  · intro hw; exact (wOk_word2 hx hw).1.symm
  · intro e
    obtain ⟨n, hn⟩ := fin_of h0 h
    rw [hn] at e
    rw [← e]
    have := (word_back3 n (fGet x 10 10 == 1) (fGet x 7 7 == 1) (fGet x 6 6 == 1) (fGet x 11 11 == 1)).1
    rwa [gd3] at this
theorem wOk_far (kd x : Int) (h : 63 < fGet x 47 12) : wOk kd x = false := by
  rcases e : wOk kd x with _ | _
  · rfl
  · simp only [wOk, Bool.and_eq_true, Bool.not_eq_true', decide_eq_false_iff_not] at e
    omega
theorem r3Decode_level (x l : Int) (w : World) (h : l < 0 ∨ (0 ≤ l ∧ 3 < l)) :
    Calls Tryd.prog 41 #[.int .u64 x, .int .i64 l] w fun e w' => e = .returned (.tuple #[.agg #[.int .i8 0, .int .i64 0, .bool false, .bool false, .bool false, .bool false], .int .i64 2]) ∧ Below w.heap.size w w' := by
  rcases h with h | ⟨h, h'⟩
  all_goals
    go_enter Tryd.func41, Tryd.ntmps41
    go_wp2
    exact bodyPost_ret (v := .tuple #[.agg #[.int .i8 0, .int .i64 0, .bool false, .bool false, .bool false, .bool false], .int .i64 2]) (by simp [results, Tryd.results41, go_sem]) rfl ⟨rfl, ba (Below.refl _ _) _⟩
theorem r3Decode_even (x l : Int) (w : World) (hx : U64 x) (h0 : 0 ≤ l) (h1 : l ≤ 3) (he : x % 2 = 0) :
    Calls Tryd.prog 41 #[.int .u64 x, .int .i64 l] w fun e w' => e = .returned (.tuple #[.agg #[.int .i8 0, .int .i64 0, .bool false, .bool false, .bool false, .bool false], .int .i64 0]) ∧ Below w.heap.size w w' := by
  have HE := Lib.hid ((fGet00 x hx).trans he)
  clear he
  go_enter Tryd.func41, Tryd.ntmps41
  go_wp2_with fail
  refine (rget_any x 0 0 _ hx).mono ?_
  rintro e w1 ⟨rfl, rfl⟩
  rw [HE.out]
  go_wp2_with fail
  exact bodyPost_ret (v := .tuple #[.agg #[.int .i8 0, .int .i64 0, .bool false, .bool false, .bool false, .bool false], .int .i64 0]) (by simp [results, Tryd.results41, go_sem]) rfl ⟨rfl, ba (Below.refl _ _) _⟩
theorem r3Decode_far (x l : Int) (w : World) (hx : U64 x) (h0 : 0 ≤ l) (h1 : l ≤ 3) (ho : x % 2 = 1) (hf : 63 < fGet x 47 12) :
    Calls Tryd.prog 41 #[.int .u64 x, .int .i64 l] w fun e w' => e = .returned (.tuple #[.agg #[.int .i8 0, .int .i64 0, .bool false, .bool false, .bool false, .bool false], .int .i64 30]) ∧ Below w.heap.size w w' := by
  have HE := Lib.hid ((fGet00 x hx).trans ho)
  have hf' : 64 ≤ fGet x 47 12 := by omega
  clear ho hf
  go_enter Tryd.func41, Tryd.ntmps41
  go_wp2_with fail
  refine (rget_any x 0 0 _ hx).mono ?_
  rintro e w1 ⟨rfl, rfl⟩
  rw [HE.out]
  go_wp2_with fail
  refine (rget_any x 47 12 _ hx).mono ?_
  rintro e w1 ⟨rfl, rfl⟩
  go_wp2_with fail
  exact bodyPost_ret (v := .tuple #[.agg #[.int .i8 0, .int .i64 0, .bool false, .bool false, .bool false, .bool false], .int .i64 30]) (by simp [results, Tryd.results41, go_sem]) rfl ⟨rfl, ba (Below.refl _ _) _⟩
set_option maxHeartbeats 4000000 in
theorem r3Decode_t_ok (x l : Int) (w : World) (hx : U64 x) (h0 : 0 ≤ l) (h1 : l ≤ 2) (ho : x % 2 = 1) (hf : fGet x 47 12 ≤ 63) (hv : (wordV (fGet x 47 12) false false false false != x) = false) :
    Calls Tryd.prog 41 #[.int .u64 x, .int .i64 l] w fun e w' => e = .returned (.tuple #[.agg #[.int .i8 1, .int .i64 (fGet x 47 12), .bool false, .bool false, .bool false, .bool false], .int .i64 0]) ∧ Below w.heap.size w w' := by
  have HE := Lib.hid ((fGet00 x hx).trans ho)
  have hg := (fGet_lt x 47 12 36 (by omega)).1
  have l3 : (l == 3) = false := beq_eq_false_iff_ne.2 (by omega)
  have l4 : l ≤ 3 := by omega
  have HV := Lib.hid hv
  clear ho hv
  have hR := (Arr.new w #[.int .i8 0, .int .i64 0, .bool false, .bool false, .bool false, .bool false] 94).alloc (.cells #[.int .i8 1, .int .i64 (fGet x 47 12), .bool false, .bool false, .bool false, .bool false] 94)
  have hD := Arr.new (w.alloc (.cells #[.int .i8 0, .int .i64 0, .bool false, .bool false, .bool false, .bool false] 94)) #[.int .i8 1, .int .i64 (fGet x 47 12), .bool false, .bool false, .bool false, .bool false] 94
  rw [World.size_alloc] at hD
  have hB := ba (ba (Below.refl w.heap.size w) (.cells #[.int .i8 0, .int .i64 0, .bool false, .bool false, .bool false, .bool false] 94)) (.cells #[.int .i8 1, .int .i64 (fGet x 47 12), .bool false, .bool false, .bool false, .bool false] 94)
  go_enter Tryd.func41, Tryd.ntmps41
  go_wp2_with fail
  refine (rget_any x 0 0 _ hx).mono ?_
  rintro e w1 ⟨rfl, rfl⟩
  rw [HE.out]
  go_wp2_with fail
  refine (rget_any x 47 12 _ hx).mono ?_
  rintro e w1 ⟨rfl, rfl⟩
  go_wp2_with fail
  refine (r3Encode_table _ _ hg hf).mono ?_
  rintro e w2 ⟨rfl, hb⟩
  replace hR := hR.call hb
  replace hD := hD.call hb
  replace hB := bthen hB hb
  clear hb
  have r0 := hR.cell 0 _ rfl
  have f0 := hR.frozen 0 (by decide)
  have r1 := hR.cell 1 _ rfl
  have f1 := hR.frozen 1 (by decide)
  have r2 := hR.cell 2 _ rfl
  have f2 := hR.frozen 2 (by decide)
  have r3 := hR.cell 3 _ rfl
  have f3 := hR.frozen 3 (by decide)
  have r4 := hR.cell 4 _ rfl
  have f4 := hR.frozen 4 (by decide)
  have r5 := hR.cell 5 _ rfl
  have f5 := hR.frozen 5 (by decide)
  have d0 := hD.cell 0 _ rfl
  have d1 := hD.cell 1 _ rfl
  have d2 := hD.cell 2 _ rfl
  have d3 := hD.cell 3 _ rfl
  have d4 := hD.cell 4 _ rfl
  have d5 := hD.cell 5 _ rfl
  have hv := HV.out
  have HR := Lib.hid hR
  have HB := Lib.hid hB
  clear hR hB
  go_wp2_with fail
  have z := ((((((HR.out.set 0 (by simp) (.int .i8 1)).set 1 (by simp) (.int .i64 (fGet x 47 12))).set 2 (by simp) (.bool false)).set 3 (by simp) (.bool false)).set 4 (by simp) (.bool false)).set 5 (by simp) (.bool false))
  have z0 := z.cell 0 _ rfl
  have z1 := z.cell 1 _ rfl
  have z2 := z.cell 2 _ rfl
  have z3 := z.cell 3 _ rfl
  have z4 := z.cell 4 _ rfl
  have z5 := z.cell 5 _ rfl
  clear r0 f0 r1 f1 r2 f2 r3 f3 r4 f4 r5 f5 d0 d1 d2 d3 d4 d5
  exact bodyPost_ret (v := .tuple #[.agg #[.int .i8 1, .int .i64 (fGet x 47 12), .bool false, .bool false, .bool false, .bool false], .int .i64 0]) (by simp [results, Tryd.results41, go_sem, z0, z1, z2, z3, z4, z5]) rfl ⟨rfl, (bs (bs (bs (bs (bs (bs HB.out (p := ⟨w.heap.size, 0, none⟩) (Nat.le_refl _) (.int .i8 1)) (p := ⟨w.heap.size, 1, none⟩) (Nat.le_refl _) (.int .i64 (fGet x 47 12))) (p := ⟨w.heap.size, 2, none⟩) (Nat.le_refl _) (.bool false)) (p := ⟨w.heap.size, 3, none⟩) (Nat.le_refl _) (.bool false)) (p := ⟨w.heap.size, 4, none⟩) (Nat.le_refl _) (.bool false)) (p := ⟨w.heap.size, 5, none⟩) (Nat.le_refl _) (.bool false))⟩
set_option maxHeartbeats 4000000 in
theorem r3Decode_t_no (x l : Int) (w : World) (hx : U64 x) (h0 : 0 ≤ l) (h1 : l ≤ 2) (ho : x % 2 = 1) (hf : fGet x 47 12 ≤ 63) (hv : (wordV (fGet x 47 12) false false false false != x) = true) :
    Calls Tryd.prog 41 #[.int .u64 x, .int .i64 l] w fun e w' => e = .returned (.tuple #[.agg #[.int .i8 0, .int .i64 0, .bool false, .bool false, .bool false, .bool false], .int .i64 30]) ∧ Below w.heap.size w w' := by
  have HE := Lib.hid ((fGet00 x hx).trans ho)
  have hg := (fGet_lt x 47 12 36 (by omega)).1
  have l3 : (l == 3) = false := beq_eq_false_iff_ne.2 (by omega)
  have l4 : l ≤ 3 := by omega
  have HV := Lib.hid hv
  clear ho hv
  have hR := (Arr.new w #[.int .i8 0, .int .i64 0, .bool false, .bool false, .bool false, .bool false] 94).alloc (.cells #[.int .i8 1, .int .i64 (fGet x 47 12), .bool false, .bool false, .bool false, .bool false] 94)
  have hD := Arr.new (w.alloc (.cells #[.int .i8 0, .int .i64 0, .bool false, .bool false, .bool false, .bool false] 94)) #[.int .i8 1, .int .i64 (fGet x 47 12), .bool false, .bool false, .bool false, .bool false] 94
  rw [World.size_alloc] at hD
  have hB := ba (ba (Below.refl w.heap.size w) (.cells #[.int .i8 0, .int .i64 0, .bool false, .bool false, .bool false, .bool false] 94)) (.cells #[.int .i8 1, .int .i64 (fGet x 47 12), .bool false, .bool false, .bool false, .bool false] 94)
  go_enter Tryd.func41, Tryd.ntmps41
  go_wp2_with fail
  refine (rget_any x 0 0 _ hx).mono ?_
  rintro e w1 ⟨rfl, rfl⟩
  rw [HE.out]
  go_wp2_with fail
  refine (rget_any x 47 12 _ hx).mono ?_
  rintro e w1 ⟨rfl, rfl⟩
  go_wp2_with fail
  refine (r3Encode_table _ _ hg hf).mono ?_
  rintro e w2 ⟨rfl, hb⟩
  replace hR := hR.call hb
  replace hD := hD.call hb
  replace hB := bthen hB hb
  clear hb
  have r0 := hR.cell 0 _ rfl
  have f0 := hR.frozen 0 (by decide)
  have r1 := hR.cell 1 _ rfl
  have f1 := hR.frozen 1 (by decide)
  have r2 := hR.cell 2 _ rfl
  have f2 := hR.frozen 2 (by decide)
  have r3 := hR.cell 3 _ rfl
  have f3 := hR.frozen 3 (by decide)
  have r4 := hR.cell 4 _ rfl
  have f4 := hR.frozen 4 (by decide)
  have r5 := hR.cell 5 _ rfl
  have f5 := hR.frozen 5 (by decide)
  have hv := HV.out
  have HR := Lib.hid hR
  have HB := Lib.hid hB
  clear hR hB
  go_wp2_with fail
  have z := ((((((HR.out.set 0 (by simp) (.int .i8 0)).set 1 (by simp) (.int .i64 0)).set 2 (by simp) (.bool false)).set 3 (by simp) (.bool false)).set 4 (by simp) (.bool false)).set 5 (by simp) (.bool false))
  have z0 := z.cell 0 _ rfl
  have z1 := z.cell 1 _ rfl
  have z2 := z.cell 2 _ rfl
  have z3 := z.cell 3 _ rfl
  have z4 := z.cell 4 _ rfl
  have z5 := z.cell 5 _ rfl
  clear r0 f0 r1 f1 r2 f2 r3 f3 r4 f4 r5 f5
  exact bodyPost_ret (v := .tuple #[.agg #[.int .i8 0, .int .i64 0, .bool false, .bool false, .bool false, .bool false], .int .i64 30]) (by simp [results, Tryd.results41, go_sem, z0, z1, z2, z3, z4, z5]) rfl ⟨rfl, (bs (bs (bs (bs (bs (bs HB.out (p := ⟨w.heap.size, 0, none⟩) (Nat.le_refl _) (.int .i8 0)) (p := ⟨w.heap.size, 1, none⟩) (Nat.le_refl _) (.int .i64 0)) (p := ⟨w.heap.size, 2, none⟩) (Nat.le_refl _) (.bool false)) (p := ⟨w.heap.size, 3, none⟩) (Nat.le_refl _) (.bool false)) (p := ⟨w.heap.size, 4, none⟩) (Nat.le_refl _) (.bool false)) (p := ⟨w.heap.size, 5, none⟩) (Nat.le_refl _) (.bool false))⟩
set_option maxHeartbeats 4000000 in
theorem r3Decode_p_ok (x : Int) (w : World) (hx : U64 x) (ho : x % 2 = 1) (hf : fGet x 47 12 ≤ 63) (hv : (wordV (fGet x 47 12) (fGet x 10 10 == 1) (fGet x 7 7 == 1) (fGet x 6 6 == 1) (fGet x 11 11 == 1) != x) = false) :
    Calls Tryd.prog 41 #[.int .u64 x, .int .i64 3] w fun e w' => e = .returned (.tuple #[.agg #[.int .i8 2, .int .i64 (fGet x 47 12), .bool (fGet x 10 10 == 1), .bool (fGet x 7 7 == 1), .bool (fGet x 6 6 == 1), .bool (fGet x 11 11 == 1)], .int .i64 0]) ∧ Below w.heap.size w w' := by
  have HE := Lib.hid ((fGet00 x hx).trans ho)
  have hg := (fGet_lt x 47 12 36 (by omega)).1
  have HV := Lib.hid hv
  clear ho hv
  have hR := (Arr.new w #[.int .i8 0, .int .i64 0, .bool false, .bool false, .bool false, .bool false] 94).alloc (.cells #[.int .i8 2, .int .i64 (fGet x 47 12), .bool (fGet x 10 10 == 1), .bool (fGet x 7 7 == 1), .bool (fGet x 6 6 == 1), .bool (fGet x 11 11 == 1)] 94)
  have hD := Arr.new (w.alloc (.cells #[.int .i8 0, .int .i64 0, .bool false, .bool false, .bool false, .bool false] 94)) #[.int .i8 2, .int .i64 (fGet x 47 12), .bool (fGet x 10 10 == 1), .bool (fGet x 7 7 == 1), .bool (fGet x 6 6 == 1), .bool (fGet x 11 11 == 1)] 94
  rw [World.size_alloc] at hD
  have hB := ba (ba (Below.refl w.heap.size w) (.cells #[.int .i8 0, .int .i64 0, .bool false, .bool false, .bool false, .bool false] 94)) (.cells #[.int .i8 2, .int .i64 (fGet x 47 12), .bool (fGet x 10 10 == 1), .bool (fGet x 7 7 == 1), .bool (fGet x 6 6 == 1), .bool (fGet x 11 11 == 1)] 94)
  go_enter Tryd.func41, Tryd.ntmps41
  go_wp2_with fail
  refine (rget_any x 0 0 _ hx).mono ?_
  rintro e w1 ⟨rfl, rfl⟩
  rw [HE.out]
  go_wp2_with fail
  refine (rget_any x 47 12 _ hx).mono ?_
  rintro e w1 ⟨rfl, rfl⟩
  go_wp2_with fail
  refine (rget_any x 10 10 _ hx).mono ?_
  rintro e w1 ⟨rfl, rfl⟩
  go_wp2_with fail
  refine (rget_any x 7 7 _ hx).mono ?_
  rintro e w1 ⟨rfl, rfl⟩
  go_wp2_with fail
  refine (rget_any x 6 6 _ hx).mono ?_
  rintro e w1 ⟨rfl, rfl⟩
  go_wp2_with fail
  refine (rget_any x 11 11 _ hx).mono ?_
  rintro e w1 ⟨rfl, rfl⟩
  go_wp2_with fail
  refine (r3Encode_page _ _ _ _ _ _ hg hf).mono ?_
  rintro e w2 ⟨rfl, hb⟩
  replace hR := hR.call hb
  replace hD := hD.call hb
  replace hB := bthen hB hb
  clear hb
  have r0 := hR.cell 0 _ rfl
  have f0 := hR.frozen 0 (by decide)
  have r1 := hR.cell 1 _ rfl
  have f1 := hR.frozen 1 (by decide)
  have r2 := hR.cell 2 _ rfl
  have f2 := hR.frozen 2 (by decide)
  have r3 := hR.cell 3 _ rfl
  have f3 := hR.frozen 3 (by decide)
  have r4 := hR.cell 4 _ rfl
  have f4 := hR.frozen 4 (by decide)
  have r5 := hR.cell 5 _ rfl
  have f5 := hR.frozen 5 (by decide)
  have d0 := hD.cell 0 _ rfl
  have d1 := hD.cell 1 _ rfl
  have d2 := hD.cell 2 _ rfl
  have d3 := hD.cell 3 _ rfl
  have d4 := hD.cell 4 _ rfl
  have d5 := hD.cell 5 _ rfl
  have hv := HV.out
  have HR := Lib.hid hR
  have HB := Lib.hid hB
  clear hR hB
  go_wp2_with fail
  have z := ((((((HR.out.set 0 (by simp) (.int .i8 2)).set 1 (by simp) (.int .i64 (fGet x 47 12))).set 2 (by simp) (.bool (fGet x 10 10 == 1))).set 3 (by simp) (.bool (fGet x 7 7 == 1))).set 4 (by simp) (.bool (fGet x 6 6 == 1))).set 5 (by simp) (.bool (fGet x 11 11 == 1)))
  have z0 := z.cell 0 _ rfl
  have z1 := z.cell 1 _ rfl
  have z2 := z.cell 2 _ rfl
  have z3 := z.cell 3 _ rfl
  have z4 := z.cell 4 _ rfl
  have z5 := z.cell 5 _ rfl
  clear r0 f0 r1 f1 r2 f2 r3 f3 r4 f4 r5 f5 d0 d1 d2 d3 d4 d5
  exact bodyPost_ret (v := .tuple #[.agg #[.int .i8 2, .int .i64 (fGet x 47 12), .bool (fGet x 10 10 == 1), .bool (fGet x 7 7 == 1), .bool (fGet x 6 6 == 1), .bool (fGet x 11 11 == 1)], .int .i64 0]) (by simp [results, Tryd.results41, go_sem, z0, z1, z2, z3, z4, z5]) rfl ⟨rfl, (bs (bs (bs (bs (bs (bs HB.out (p := ⟨w.heap.size, 0, none⟩) (Nat.le_refl _) (.int .i8 2)) (p := ⟨w.heap.size, 1, none⟩) (Nat.le_refl _) (.int .i64 (fGet x 47 12))) (p := ⟨w.heap.size, 2, none⟩) (Nat.le_refl _) (.bool (fGet x 10 10 == 1))) (p := ⟨w.heap.size, 3, none⟩) (Nat.le_refl _) (.bool (fGet x 7 7 == 1))) (p := ⟨w.heap.size, 4, none⟩) (Nat.le_refl _) (.bool (fGet x 6 6 == 1))) (p := ⟨w.heap.size, 5, none⟩) (Nat.le_refl _) (.bool (fGet x 11 11 == 1)))⟩
set_option maxHeartbeats 4000000 in
theorem r3Decode_p_no (x : Int) (w : World) (hx : U64 x) (ho : x % 2 = 1) (hf : fGet x 47 12 ≤ 63) (hv : (wordV (fGet x 47 12) (fGet x 10 10 == 1) (fGet x 7 7 == 1) (fGet x 6 6 == 1) (fGet x 11 11 == 1) != x) = true) :
    Calls Tryd.prog 41 #[.int .u64 x, .int .i64 3] w fun e w' => e = .returned (.tuple #[.agg #[.int .i8 0, .int .i64 0, .bool false, .bool false, .bool false, .bool false], .int .i64 30]) ∧ Below w.heap.size w w' := by
  have HE := Lib.hid ((fGet00 x hx).trans ho)
  have hg := (fGet_lt x 47 12 36 (by omega)).1
  have HV := Lib.hid hv
  clear ho hv
  have hR := (Arr.new w #[.int .i8 0, .int .i64 0, .bool false, .bool false, .bool false, .bool false] 94).alloc (.cells #[.int .i8 2, .int .i64 (fGet x 47 12), .bool (fGet x 10 10 == 1), .bool (fGet x 7 7 == 1), .bool (fGet x 6 6 == 1), .bool (fGet x 11 11 == 1)] 94)
  have hD := Arr.new (w.alloc (.cells #[.int .i8 0, .int .i64 0, .bool false, .bool false, .bool false, .bool false] 94)) #[.int .i8 2, .int .i64 (fGet x 47 12), .bool (fGet x 10 10 == 1), .bool (fGet x 7 7 == 1), .bool (fGet x 6 6 == 1), .bool (fGet x 11 11 == 1)] 94
  rw [World.size_alloc] at hD
  have hB := ba (ba (Below.refl w.heap.size w) (.cells #[.int .i8 0, .int .i64 0, .bool false, .bool false, .bool false, .bool false] 94)) (.cells #[.int .i8 2, .int .i64 (fGet x 47 12), .bool (fGet x 10 10 == 1), .bool (fGet x 7 7 == 1), .bool (fGet x 6 6 == 1), .bool (fGet x 11 11 == 1)] 94)
  go_enter Tryd.func41, Tryd.ntmps41
  go_wp2_with fail
  refine (rget_any x 0 0 _ hx).mono ?_
  rintro e w1 ⟨rfl, rfl⟩
  rw [HE.out]
  go_wp2_with fail
  refine (rget_any x 47 12 _ hx).mono ?_
  rintro e w1 ⟨rfl, rfl⟩
  go_wp2_with fail
  refine (rget_any x 10 10 _ hx).mono ?_
  rintro e w1 ⟨rfl, rfl⟩
  go_wp2_with fail
  refine (rget_any x 7 7 _ hx).mono ?_
  rintro e w1 ⟨rfl, rfl⟩
  go_wp2_with fail
  refine (rget_any x 6 6 _ hx).mono ?_
  rintro e w1 ⟨rfl, rfl⟩
  go_wp2_with fail
  refine (rget_any x 11 11 _ hx).mono ?_
  rintro e w1 ⟨rfl, rfl⟩
  go_wp2_with fail
  refine (r3Encode_page _ _ _ _ _ _ hg hf).mono ?_
  rintro e w2 ⟨rfl, hb⟩
  replace hR := hR.call hb
  replace hD := hD.call hb
  replace hB := bthen hB hb
  clear hb
  have r0 := hR.cell 0 _ rfl
  have f0 := hR.frozen 0 (by decide)
  have r1 := hR.cell 1 _ rfl
  have f1 := hR.frozen 1 (by decide)
  have r2 := hR.cell 2 _ rfl
  have f2 := hR.frozen 2 (by decide)
  have r3 := hR.cell 3 _ rfl
  have f3 := hR.frozen 3 (by decide)
  have r4 := hR.cell 4 _ rfl
  have f4 := hR.frozen 4 (by decide)
  have r5 := hR.cell 5 _ rfl
  have f5 := hR.frozen 5 (by decide)
  have hv := HV.out
  have HR := Lib.hid hR
  have HB := Lib.hid hB
  clear hR hB
  go_wp2_with fail
  have z := ((((((HR.out.set 0 (by simp) (.int .i8 0)).set 1 (by simp) (.int .i64 0)).set 2 (by simp) (.bool false)).set 3 (by simp) (.bool false)).set 4 (by simp) (.bool false)).set 5 (by simp) (.bool false))
  have z0 := z.cell 0 _ rfl
  have z1 := z.cell 1 _ rfl
  have z2 := z.cell 2 _ rfl
  have z3 := z.cell 3 _ rfl
  have z4 := z.cell 4 _ rfl
  have z5 := z.cell 5 _ rfl
  clear r0 f0 r1 f1 r2 f2 r3 f3 r4 f4 r5 f5
  exact bodyPost_ret (v := .tuple #[.agg #[.int .i8 0, .int .i64 0, .bool false, .bool false, .bool false, .bool false], .int .i64 30]) (by simp [results, Tryd.results41, go_sem, z0, z1, z2, z3, z4, z5]) rfl ⟨rfl, (bs (bs (bs (bs (bs (bs HB.out (p := ⟨w.heap.size, 0, none⟩) (Nat.le_refl _) (.int .i8 0)) (p := ⟨w.heap.size, 1, none⟩) (Nat.le_refl _) (.int .i64 0)) (p := ⟨w.heap.size, 2, none⟩) (Nat.le_refl _) (.bool false)) (p := ⟨w.heap.size, 3, none⟩) (Nat.le_refl _) (.bool false)) (p := ⟨w.heap.size, 4, none⟩) (Nat.le_refl _) (.bool false)) (p := ⟨w.heap.size, 5, none⟩) (Nat.le_refl _) (.bool false))⟩
theorem r3Decode_any (x l : Int) (w : World) (hx : U64 x) :
    Calls Tryd.prog 41 #[.int .u64 x, .int .i64 l] w fun e w' => e = .returned (.tuple #[.agg #[.int .i8 (dk x l), .int .i64 (df x l), .bool (dfl x l 10), .bool (dfl x l 7), .bool (dfl x l 6), .bool (dfl x l 11)], .int .i64 (de x l)]) ∧ Below w.heap.size w w' := by
  by_cases hl : 0 ≤ l ∧ l ≤ 3
  · have hlv : lvl l = true := by simp [lvl, hl]
    by_cases he : x % 2 = 0
    · have hg : good x l = false := by
        rcases hw : wOk (kdOf l) x with _ | _
        · simp [good, hw]
        · have := (wOk_odd hw).1; omega
      obtain ⟨z1, z2, z3⟩ := zero_of hg
      have z4 : de x l = 0 := by simp [de, hlv, he]
      rw [z1, z2, z3, z3, z3, z3, z4]
      exact r3Decode_even x l w hx hl.1 hl.2 he
    · have ho : x % 2 = 1 := by omega
      have hge := (fGet_lt x 47 12 36 (by omega)).1
      by_cases hf : fGet x 47 12 ≤ 63
      · by_cases h3 : l = 3
        · subst h3
          have hi := word2_iff x hx hge hf
          rcases hw : wOk 2 x with _ | _
          · have hg : good x 3 = false := by rw [gd3]; exact hw
            obtain ⟨z1, z2, z3⟩ := zero_of hg
            have z4 : de x 3 = 30 := by simp [de, hlv, he, kdOf, hw]
            rw [z1, z2, z3, z3, z3, z3, z4]
            exact r3Decode_p_no x w hx ho hf (by rw [bne_iff_ne]; intro e; have := hi.2 e; rw [hw] at this; cases this)
          · have hg : good x 3 = true := by rw [gd3]; exact hw
            have z4 : de x 3 = 0 := by simp [de, hlv, kdOf, hw]
            have z1 : dk x 3 = 2 := by simp [dk, hg, kdOf]
            have z2 : df x 3 = fGet x 47 12 := by simp [df, hg]
            have z3 : ∀ hi, dfl x 3 hi = (fGet x hi hi == 1) := by simp [dfl, hg]
            rw [z1, z2, z3, z3, z3, z3, z4]
            exact r3Decode_p_ok x w hx ho hf (by rw [bne_eq_false_iff_eq]; exact hi.1 hw)
        · have hk : kdOf l = 1 := by simp [kdOf, h3]
          have hi := word1_iff x hx hge hf
          rcases hw : wOk 1 x with _ | _
          · have hg : good x l = false := by simp [good, hk, hw]
            obtain ⟨z1, z2, z3⟩ := zero_of hg
            have z4 : de x l = 30 := by simp [de, hlv, he, hk, hw]
            rw [z1, z2, z3, z3, z3, z3, z4]
            exact r3Decode_t_no x l w hx hl.1 (by omega) ho hf (by rw [bne_iff_ne]; intro e; have := hi.2 e; rw [hw] at this; cases this)
          · have hg : good x l = true := by simp [good, hlv, hk, hw]
            obtain ⟨_, _, _, g1, g2, g3, g4⟩ := wOk_word1 hx hw
            have z4 : de x l = 0 := by simp [de, hlv, hk, hw]
            have z1 : dk x l = 1 := by simp [dk, hg, hk]
            have z2 : df x l = fGet x 47 12 := by simp [df, hg]
            have d1 : dfl x l 10 = false := by simp [dfl, g1]
            have d2 : dfl x l 7 = false := by simp [dfl, g2]
            have d3 : dfl x l 6 = false := by simp [dfl, g3]
            have d4 : dfl x l 11 = false := by simp [dfl, g4]
            rw [z1, z2, d1, d2, d3, d4, z4]
            exact r3Decode_t_ok x l w hx hl.1 (by omega) ho hf (by rw [bne_eq_false_iff_eq]; exact hi.1 hw)
      · have hw := wOk_far (kdOf l) x (by omega)
        have hg : good x l = false := by simp [good, hw]
        obtain ⟨z1, z2, z3⟩ := zero_of hg
        have z4 : de x l = 30 := by simp [de, hlv, he, hw]
        rw [z1, z2, z3, z3, z3, z3, z4]
        exact r3Decode_far x l w hx hl.1 hl.2 ho (by omega)
  · have hlv : lvl l = false := by simp only [lvl, decide_eq_false_iff_not]; exact hl
    have hg : good x l = false := by simp [good, hlv]
    obtain ⟨z1, z2, z3⟩ := zero_of hg
    have z4 : de x l = 2 := by simp [de, hlv]
    rw [z1, z2, z3, z3, z3, z3, z4]
    exact r3Decode_level x l w (by omega)
end
section
open Go.RowKit
set_option linter.unusedVariables false
set_option linter.unusedSimpArgs false

theorem ret_two' {k : IntKind} {a b : Int} {c : Bool} (h : a = b) : Ending.returned (.tuple #[.int k a, .bool c]) = .returned (.tuple #[.int k b, .bool c]) := by rw [h]
set_option maxHeartbeats 2000000 in
theorem r3Touch_yes (x : Int) (w : World) (hx : U64 x) (h : tch x = true) :
    Calls Tryd.prog 43 #[.int .u64 x] w fun e w' => e = .returned (.tuple #[.int .u64 (x + 1024), .bool true]) ∧ Below w.heap.size w w' := by
  have hu := (or_1024 x hx h).2
  simp only [tch, Bool.and_eq_true, Bool.not_eq_true'] at h
  obtain ⟨g1, h4⟩ := h
  have HW := Lib.hid (show IntKind.u64.wrap (x + 1024) = x + 1024 by rw [IntKind.wrap_u64]; have := hu.1; have := hu.2; omega)
  clear hu
  rcases page_bits x with ⟨_, h2, h3⟩ | ⟨g2, _, _⟩ | ⟨g2, _⟩
  · have n2 : (de x 3 != 0) = false := by rw [bne_eq_false_iff_eq]; simpa using h2
    have n3 : (dk x 3 != 2) = false := by rw [bne_eq_false_iff_eq]; simpa using h3
    clear h2 h3 g1
    go_enter Tryd.func43, Tryd.ntmps43
    go_wp2_with fail
    refine (r3Decode_any x 3 _ hx).mono ?_
    rintro e w1 ⟨rfl, hb⟩
    have HB := Lib.hid hb
    clear hb
    go_wp2_with fail
    go_ret2
    exact ⟨ret_two' HW.out, ba HB.out _⟩
  · rw [g1] at g2; cases g2
  · rw [g1] at g2; cases g2
set_option maxHeartbeats 2000000 in
theorem r3Touch_no (x : Int) (w : World) (hx : U64 x) (h : tch x = false) :
    Calls Tryd.prog 43 #[.int .u64 x] w fun e w' => e = .returned (.tuple #[.int .u64 x, .bool false]) ∧ Below w.heap.size w w' := by
  rcases page_bits x with ⟨h1, h2, h3⟩ | ⟨h1, h2, h3⟩ | ⟨h1, h2⟩
  · have h4 : dfl x 3 10 = true := by simpa [tch, h1] using h
    have n2 : (de x 3 != 0) = false := by rw [bne_eq_false_iff_eq]; simpa using h2
    have n3 : (dk x 3 != 2) = false := by rw [bne_eq_false_iff_eq]; simpa using h3
    clear h1 h2 h3 h
    go_enter Tryd.func43, Tryd.ntmps43
    go_wp2_with fail
    refine (r3Decode_any x 3 _ hx).mono ?_
    rintro e w1 ⟨rfl, hb⟩
    have HB := Lib.hid hb
    clear hb
    go_wp2_with fail
    go_ret2
    exact ⟨rfl, ba HB.out _⟩
  · have n2 : (de x 3 != 0) = false := by rw [bne_eq_false_iff_eq]; simpa using h2
    have n3 : (dk x 3 != 2) = true := by rw [bne_iff_ne]; simpa using h3
    clear h1 h2 h3 h
    go_enter Tryd.func43, Tryd.ntmps43
    go_wp2_with fail
    refine (r3Decode_any x 3 _ hx).mono ?_
    rintro e w1 ⟨rfl, hb⟩
    have HB := Lib.hid hb
    clear hb
    go_wp2_with fail
    go_ret2
    exact ⟨rfl, ba HB.out _⟩
  · have n2 : (de x 3 != 0) = true := by rw [bne_iff_ne]; simpa using h2
    clear h1 h2 h
    go_enter Tryd.func43, Tryd.ntmps43
    go_wp2_with fail
    refine (r3Decode_any x 3 _ hx).mono ?_
    rintro e w1 ⟨rfl, hb⟩
    have HB := Lib.hid hb
    clear hb
    go_wp2_with fail
    go_ret2
    exact ⟨rfl, ba HB.out _⟩
/-- Touch's answers, as one pair. -/
def tV (x : Int) : Int := if tch x then x + 1024 else x
theorem r3Touch_any (x : Int) (w : World) (hx : U64 x) :
    Calls Tryd.prog 43 #[.int .u64 x] w fun e w' => e = .returned (.tuple #[.int .u64 (tV x), .bool (tch x)]) ∧ Below w.heap.size w w' := by
  rcases h : tch x with _ | _
  · rw [show tV x = x by simp [tV, h]]; exact r3Touch_no x w hx h
  · rw [show tV x = x + 1024 by simp [tV, h]]; exact r3Touch_yes x w hx h
theorem dTouch_any (x : Int) (w : World) (hG : G w) (hx : U64 x) :
    Calls Tryd.prog 95 #[.int .u64 x] w fun e w' => e = .returned (.tuple #[.int .u64 (tV x), .bool (tch x)]) ∧ Below w.heap.size w w' := by
  rcases h : tch x with _ | _
  · rw [show tV x = x by simp [tV, h]]; exact dTouch_no x w hG hx h
  · rw [show tV x = x + 1024 by simp [tV, h]]; exact dTouch_yes x w hG hx h
theorem page_cases (x : Int) : (good x 3 = true ∧ (de x 3 == 0) = true ∧ (dk x 3 == 2) = true) ∨ (good x 3 = false ∧ (de x 3 == 0) = true ∧ (dk x 3 == 2) = false) ∨ (good x 3 = false ∧ (de x 3 == 0) = false) := page_bits x
end
end Go.Proofs.YtgdkkhdhomehdaaDoor
