/-
  The walk of the law AddrBack.
-/
import Derived.Test.YtiaebfccgolbgaaAddrLaws2
import Derived.Test.YtiaebfccgolbgaaArr
namespace Go.Proofs.Ytiaebfccgolbgaa
open Go.RowKit
set_option linter.unusedVariables false
set_option linter.unusedSimpArgs false

theorem idx_bd (a l : Int) : 0 ≤ aIdx a l ∧ aIdx a l ≤ 511 := fGet_9 _ _ _ (by omega)
theorem idx_back (a : Int) (h0 : 0 ≤ a) (h1 : a < 34359738368) : ((aIdx a 0 * 512 + aIdx a 1) * 512 + aIdx a 2) * 512 + aIdx a 3 = a ∧ aIdx a 0 ≤ 255 := by
  have hA := u64_of a h0 h1
  unfold aIdx
  rw [fGet_int a _ _ hA (by decide), fGet_int a _ _ hA (by decide), fGet_int a _ _ hA (by decide), fGet_int a _ _ hA (by decide)]
  simp
  omega
theorem place_va (p i : Int) (h0 : 0 ≤ p) (h1 : p < 34359738368) (h2 : 0 ≤ i) (h3 : i ≤ 511) : fGet (p * 4096 + i * 8) 11 3 = i := by
  rw [fGet_int _ _ _ ⟨by omega, by omega⟩ (by decide)]
  simp
  omega
set_option maxHeartbeats 4000000 in
theorem addrBack_any (page place frame : Int) (w : World) (hp : U64 page) :
    Calls Try.prog 11 #[.int .u64 page, .int .i64 place, .int .i64 frame] w fun e w' => e = .returned (.bool true) ∧ Below w.heap.size w w' := by
  have hp0 := hp.1
  go_enter Try.func11, Try.ntmps11
  go_wp2_with fail
  obtain ⟨a0, a1⟩ := mod35 page
  obtain ⟨x0, x1⟩ := norm_mod place 512 (by omega) (by omega)
  obtain ⟨f0, f1⟩ := norm_mod frame 4096 (by omega) (by omega)
  generalize page % 34359738368 = A at a0 a1 ⊢
  generalize (wrap64 (place.tmod 512 + 512)).tmod 512 = X at x0 x1 ⊢
  generalize (wrap64 (frame.tmod 4096 + 4096)).tmod 4096 = F at f0 f1 ⊢
  clear hp hp0
  have hA := u64_of A a0 a1
  have hV : U64 (A * 4096 + X * 8) := ⟨by omega, by omega⟩
  have hWd : U64 (512 * F + X) := ⟨by omega, by omega⟩
  refine (va_yes A X _ a0 ((vaOk_iff _ _).2 ⟨a1, x0, by omega⟩)).mono ?_
  rintro e w1 ⟨rfl, rfl⟩
  go_wp2_with fail
  refine (word_yes F X _ ((wordOk_iff _ _).2 ⟨f0, by omega, x0, by omega⟩)).mono ?_
  rintro e w2 ⟨rfl, rfl⟩
  go_wp2_with fail
  refine (user_any _ _ hV).mono ?_
  rintro e w3 ⟨rfl, hb3⟩
  have e1 : ((A * 4096 + X * 8) / 140737488355328 == 0) = true := by simp; omega
  rw [e1]
  clear e1
  go_wp2_with fail
  refine (aligned_any _ _ hV).mono ?_
  rintro e w4 ⟨rfl, hb4⟩
  have e2 : ((A * 4096 + X * 8) % 8 == 0) = true := by simp; omega
  rw [e2]
  clear e2
  go_wp2_with fail
  refine (page_any _ _ hV).mono ?_
  rintro e w5 ⟨rfl, hb5⟩
  have e3 : (A * 4096 + X * 8) / 4096 = A := by omega
  rw [e3]
  clear e3
  go_wp2_with fail
  refine (place_any _ _ hV).mono ?_
  rintro e w6 ⟨rfl, hb6⟩
  rw [place_va A X a0 a1 x0 (by omega)]
  have hB6 := bthen (bthen (bthen hb3 hb4) hb5) hb6
  clear hb3 hb4 hb5 hb6
  go_wp2_with fail
  refine wp_loop_rounds 5 ?_
  have hR0 := Arr.new w6 #[.int .i64 0, .int .i64 0, .int .i64 0, .int .i64 0] 34
  have hB7 := ba hB6 (.cells #[.int .i64 0, .int .i64 0, .int .i64 0, .int .i64 0] 34)
  rw [rounds_succ]
  go_wp2_with fail
  refine (index_yes A 0 _ hA ((aOk_iff _ _).2 ⟨a1, by omega, by omega⟩)).mono ?_
  rintro e w7 ⟨rfl, hb⟩
  have hR1 := hR0.call hb
  have hB8 := bthen hB7 hb
  clear hb
  have q0 := hR1.cell 0 _ rfl
  have z0 := hR1.frozen 0 (by simp)
  go_wp2_with fail
  clear q0 z0
  rw [rounds_succ]
  go_wp2_with fail
  refine (index_yes A 1 _ hA ((aOk_iff _ _).2 ⟨a1, by omega, by omega⟩)).mono ?_
  rintro e w8 ⟨rfl, hb⟩
  have hR2 := (hR1.set 0 (by simp) (.int .i64 (aIdx A 0))).call hb
  have hB9 := bthen (bs hB8 (p := ⟨w6.heap.size, 0, none⟩) hB6.size (.int .i64 (aIdx A 0))) hb
  clear hb
  have q1 := hR2.cell 1 _ rfl
  have z1 := hR2.frozen 1 (by simp)
  simp only [List.set_cons_zero, List.set_cons_succ] at hR2
  go_wp2_with fail
  clear q1 z1
  rw [rounds_succ]
  go_wp2_with fail
  refine (index_yes A 2 _ hA ((aOk_iff _ _).2 ⟨a1, by omega, by omega⟩)).mono ?_
  rintro e w9 ⟨rfl, hb⟩
  have hR3 := (hR2.set 1 (by simp) (.int .i64 (aIdx A 1))).call hb
  have hB10 := bthen (bs hB9 (p := ⟨w6.heap.size, 1, none⟩) hB6.size (.int .i64 (aIdx A 1))) hb
  clear hb
  have q2 := hR3.cell 2 _ rfl
  have z2 := hR3.frozen 2 (by simp)
  simp only [List.set_cons_zero, List.set_cons_succ] at hR3
  go_wp2_with fail
  clear q2 z2
  rw [rounds_succ]
  go_wp2_with fail
  refine (index_yes A 3 _ hA ((aOk_iff _ _).2 ⟨a1, by omega, by omega⟩)).mono ?_
  rintro e w10 ⟨rfl, hb⟩
  have hR4 := (hR3.set 2 (by simp) (.int .i64 (aIdx A 2))).call hb
  have hB11 := bthen (bs hB10 (p := ⟨w6.heap.size, 2, none⟩) hB6.size (.int .i64 (aIdx A 2))) hb
  clear hb
  have q3 := hR4.cell 3 _ rfl
  have z3 := hR4.frozen 3 (by simp)
  simp only [List.set_cons_zero, List.set_cons_succ] at hR4
  go_wp2_with fail
  clear q3 z3
  have hR5 := hR4.set 3 (by simp) (.int .i64 (aIdx A 3))
  simp only [List.set_cons_zero, List.set_cons_succ] at hR5
  have q0 := hR5.cell 0 _ rfl
  have q1 := hR5.cell 1 _ rfl
  have q2 := hR5.cell 2 _ rfl
  have q3 := hR5.cell 3 _ rfl
  rw [rounds_succ]
  go_wp2_with fail
  obtain ⟨hback, h255⟩ := idx_back A a0 a1
  have HK := Lib.hid hback
  have b0 := idx_bd A 0
  have b1 := idx_bd A 1
  have b2 := idx_bd A 2
  have b3 := idx_bd A 3
  have hfo : fromOk (aIdx A 0) (aIdx A 1) (aIdx A 2) (aIdx A 3) = true := (fromOk_iff _ _ _ _).2 ⟨b0.1, h255, b1.1, b1.2, b2.1, b2.2, b3.1, b3.2⟩
  clear hback b0 b1 b2 b3 q0 q1 q2 q3
  refine (from_yes _ _ _ _ _ hfo).mono ?_
  rintro e w11 ⟨rfl, hb11⟩
  rw [HK.out]
  clear hfo h255
  go_wp2_with fail
  refine (split_yes _ _ hWd (by omega)).mono ?_
  rintro e w12 ⟨rfl, hb12⟩
  have e1 : (512 * F + X) / 512 = F := by omega
  have e2 : (512 * F + X) % 512 = X := by omega
  rw [e1, e2]
  clear e1 e2
  go_wp2_with fail
  refine (wakes2_any _).mono ?_
  rintro e w13 ⟨rfl, hb13⟩
  go_wp2_with fail
  go_ret
  exact ⟨rfl, bthen (bthen (bthen (bs hB11 (p := ⟨w6.heap.size, 3, none⟩) hB6.size (.int .i64 (aIdx A 3))) hb11) hb12) hb13⟩
end Go.Proofs.Ytiaebfccgolbgaa
