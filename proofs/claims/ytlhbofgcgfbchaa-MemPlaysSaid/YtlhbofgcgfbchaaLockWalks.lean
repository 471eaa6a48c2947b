/-
  The walks of package lock: turnAt, Take, Served, Pass, Waiting; what the document says of two tickets; the law LockNil.
-/
import Derived.Test.YtlhbofgcgfbchaaMemLaws
import Derived.Laws.StructEq
namespace Go.Proofs.Ytlhbofgcgfbchaa
open Go.RowKit Go.Maps
set_option linter.unusedVariables false
set_option linter.unusedSimpArgs false

set_option maxHeartbeats 400000 in
theorem turnAt_any (p n k i : Nat) (x : Int) (c : Nat → Nat → Int) (F : Nat → Prop) (w : World) (hM : MemS w p n c F k) (hn1 : 1 ≤ n) (hn : n ≤ 64) (hx : x = i) (hi : i < 512) :
    Calls Try.prog 44 #[.func (.func 12) #[.pointer (some ⟨p, 0, none⟩)] #[], .int .u64 x] w fun e w' => e = .returned (.tuple #[.agg #[.int .u64 (c 0 i)], .int .i64 0]) ∧ Below w.heap.size w w' := by
  have hu : U64 x := ⟨by omega, by omega⟩
  have h1 : x / 512 = ((0 : Nat) : Int) := by omega
  have h2 : x % 512 = (i : Int) := by omega
  have H1 := Lib.hid h1
  have H2 := Lib.hid h2
  have HM := Lib.hid (hM.alloc (.cells #[.int .u64 0] 86))
  clear h1 h2 hx hM
  go_enter Try.func44, Try.ntmps44
  go_wp2_with fail
  refine (read_yes p n k 0 i x c F _ HM.out hn hu H1.out H2.out (by omega)).mono ?_
  rintro e w1 ⟨rfl, rfl⟩
  go_wp2_with fail
  exact bodyPost_ret (v := .tuple #[.agg #[.int .u64 (c 0 i)], .int .i64 0]) (by simp [results, Try.results44, go_sem]) rfl ⟨rfl, ba (Below.refl _ _) _⟩
set_option maxHeartbeats 400000 in
theorem lTake_any (p n k : Nat) (c : Nat → Nat → Int) (F : Nat → Prop) (w : World) (hM : MemS w p n c F k) (hk : k < 1000000) (hn1 : 1 ≤ n) (hn : n ≤ 64) :
    Calls Try.prog 25 #[.pointer (some ⟨p, 0, none⟩)] w (Went w p n (upd2 c 0 0 (IntKind.u64.wrap (c 0 0 + 1))) F k (.tuple #[.int .u64 (c 0 0), .int .i64 0])) := by
  go_enter Try.func25, Try.ntmps25
  go_wp2_with fail
  refine (add_yes p n k 0 0 0 1 c F _ hM hk hn ⟨by omega, by omega⟩ (by decide) (by decide) (by omega)).mono ?_
  intro e w1 hW
  have R := Lib.hid hW
  obtain ⟨rfl, _⟩ := hW
  go_wp2_with fail
  go_ret2
  exact R.out
theorem lTake_nil (w : World) : Calls Try.prog 25 #[.pointer none] w fun e w' => e = .returned (.tuple #[.int .u64 0, .int .i64 1]) ∧ w = w' := by
  go_enter Try.func25, Try.ntmps25
  go_wp2_with fail
  go_ret2
  exact ⟨rfl, rfl⟩
theorem eqTurn (a b : Int) (W : World) : (binOp .eql 86 (.agg #[.int .u64 a]) (.agg #[.int .u64 b])).run Try.prog W = .ok (.bool (a == b)) W := by
  rcases h : (a == b) with _ | _
  · go_simp
  · go_simp
set_option maxHeartbeats 400000 in
theorem lServed_any (p n k : Nat) (t : Int) (c : Nat → Nat → Int) (F : Nat → Prop) (w : World) (hM : MemS w p n c F k) (hn1 : 1 ≤ n) (hn : n ≤ 64) :
    Calls Try.prog 30 #[.pointer (some ⟨p, 0, none⟩), .int .u64 t] w fun e w' => e = .returned (.bool (c 0 1 == t)) ∧ Below w.heap.size w w' := by
  have HQ := Lib.hid (eqTurn (c 0 1) t)
  go_enter Try.func30, Try.ntmps30
  go_wp2_with fail
  refine (turnAt_any p n k 1 1 c F _ hM hn1 hn (by decide) (by omega)).mono ?_
  rintro e w1 ⟨rfl, hb⟩
  have HB := Lib.hid hb
  clear hb
  have hq := HQ.out
  go_wp2_with fail
  go_ret
  exact ⟨rfl, ba HB.out _⟩
theorem lServed_nil (t : Int) (w : World) : Calls Try.prog 30 #[.pointer none, .int .u64 t] w fun e w' => e = .returned (.bool false) ∧ w = w' := by
  go_enter Try.func30, Try.ntmps30
  go_wp2_with fail
  go_ret
  exact ⟨rfl, rfl⟩
set_option maxHeartbeats 400000 in
theorem lPass_any (p n k : Nat) (c : Nat → Nat → Int) (F : Nat → Prop) (w : World) (hM : MemS w p n c F k) (hn1 : 1 ≤ n) (hn : n ≤ 64) :
    Calls Try.prog 27 #[.pointer (some ⟨p, 0, none⟩)] w fun e w' => e = .returned (.tuple #[.agg #[.int .i8 0, .int .u64 1, .int .u64 (IntKind.u64.wrap (c 0 1 + 1)), .int .i64 0, .int .i64 0], .int .i64 0]) ∧ Below w.heap.size w w' := by
  have hB := ba (Below.refl w.heap.size w) (.cells #[.int .i8 0, .int .u64 0, .int .u64 0, .int .i64 0, .int .i64 0] 29)
  have HM := Lib.hid (hM.call hB)
  have hR := Bk.new w 29 #[.int .i8 0, .int .u64 0, .int .u64 0, .int .i64 0, .int .i64 0]
  have HR := Lib.hid hR
  have HB0 := Lib.hid hB
  clear hM hB hR
  go_enter Try.func27, Try.ntmps27
  go_wp2_with fail
  refine (turnAt_any p n k 1 1 c F _ HM.out hn1 hn (by decide) (by omega)).mono ?_
  rintro e w1 ⟨rfl, hb⟩
  have HB := Lib.hid (bthen HB0.out hb)
  have hR1 := HR.out.call hb
  have r0 : w1.cell? ⟨w.heap.size, 0, none⟩ = some (.int .i8 0) := hR1.cell 0
  have r1 : w1.cell? ⟨w.heap.size, 1, none⟩ = some (.int .u64 0) := hR1.cell 1
  have r2 : w1.cell? ⟨w.heap.size, 2, none⟩ = some (.int .u64 0) := hR1.cell 2
  have r3 : w1.cell? ⟨w.heap.size, 3, none⟩ = some (.int .i64 0) := hR1.cell 3
  have r4 : w1.cell? ⟨w.heap.size, 4, none⟩ = some (.int .i64 0) := hR1.cell 4
  have f0 := hR1.frozen 0
  have f1 := hR1.frozen 1
  have f2 := hR1.frozen 2
  have f3 := hR1.frozen 3
  have f4 := hR1.frozen 4
  have l0 := hR1.lt
  have HZ := Lib.hid hR1
  clear hb hR1
  go_wp2_with fail
  have z := (((((HZ.out.set 0 (.int .i8 0)).set 1 (.int .u64 1)).set 2 (.int .u64 (IntKind.u64.wrap (c 0 1 + 1)))).set 3 (.int .i64 0)).set 4 (.int .i64 0)).call (ba (Below.refl _ _) (.cells #[.int .u64 (c 0 1)] 86))
  have z0 := z.cell 0
  have z1 := z.cell 1
  have z2 := z.cell 2
  have z3 := z.cell 3
  have z4 := z.cell 4
  simp only [List.setIfInBounds_toArray, List.set_cons_zero, List.set_cons_succ, List.getElem?_toArray, List.getElem?_cons_zero, List.getElem?_cons_succ] at z0 z1 z2 z3 z4
  have hB := ba (bs (bs (bs (bs (bs HB.out (p := ⟨w.heap.size, 0, none⟩) (Nat.le_refl _) (.int .i8 0)) (p := ⟨w.heap.size, 1, none⟩) (Nat.le_refl _) (.int .u64 1)) (p := ⟨w.heap.size, 2, none⟩) (Nat.le_refl _) (.int .u64 (IntKind.u64.wrap (c 0 1 + 1)))) (p := ⟨w.heap.size, 3, none⟩) (Nat.le_refl _) (.int .i64 0)) (p := ⟨w.heap.size, 4, none⟩) (Nat.le_refl _) (.int .i64 0)) (.cells #[.int .u64 (c 0 1)] 86)
  clear r0 r1 r2 r3 r4 f0 f1 f2 f3 f4
  exact bodyPost_ret (v := .tuple #[.agg #[.int .i8 0, .int .u64 1, .int .u64 (IntKind.u64.wrap (c 0 1 + 1)), .int .i64 0, .int .i64 0], .int .i64 0]) (by simp [results, Try.results27, go_sem, z0, z1, z2, z3, z4]) rfl ⟨rfl, hB⟩
theorem lPass_nil (w : World) : Calls Try.prog 27 #[.pointer none] w fun e w' => e = .returned (.tuple #[.agg #[.int .i8 0, .int .u64 0, .int .u64 0, .int .i64 0, .int .i64 0], .int .i64 1]) ∧ Below w.heap.size w w' := by
  go_enter Try.func27, Try.ntmps27
  go_wp2_with fail
  exact bodyPost_ret (v := .tuple #[.agg #[.int .i8 0, .int .u64 0, .int .u64 0, .int .i64 0, .int .i64 0], .int .i64 1]) (by simp [results, Try.results27, go_sem]) rfl ⟨rfl, ba (Below.refl _ _) _⟩
/-- How many wait. -/
def wt (a b : Int) : Int := if b == a then 0 else IntKind.u64.wrap (a - b)
set_option maxHeartbeats 400000 in
theorem lWaiting_any (p n k : Nat) (c : Nat → Nat → Int) (F : Nat → Prop) (w : World) (hM : MemS w p n c F k) (hn1 : 1 ≤ n) (hn : n ≤ 64) :
    Calls Try.prog 32 #[.pointer (some ⟨p, 0, none⟩)] w fun e w' => e = .returned (.int .u64 (wt (c 0 0) (c 0 1))) ∧ Below w.heap.size w w' := by
  have HQ := Lib.hid (eqTurn (c 0 1) (c 0 0))
  have HW := Lib.hid (show wt (c 0 0) (c 0 1) = if c 0 1 == c 0 0 then 0 else IntKind.u64.wrap (c 0 0 - c 0 1) from rfl)
  go_enter Try.func32, Try.ntmps32
  go_wp2_with fail
  refine (turnAt_any p n k 0 0 c F _ hM hn1 hn (by decide) (by omega)).mono ?_
  rintro e w1 ⟨rfl, hb⟩
  have HB := Lib.hid (ba hb (.cells #[.int .u64 (c 0 0)] 86))
  have HM := Lib.hid (hM.call HB.out)
  have HR := Lib.hid (Bk.new w1 86 #[.int .u64 (c 0 0)])
  clear hb hM
  go_wp2_with fail
  refine (turnAt_any p n k 1 1 c F _ HM.out hn1 hn (by decide) (by omega)).mono ?_
  rintro e w2 ⟨rfl, hb⟩
  have HB2 := Lib.hid (bthen HB.out hb)
  have r0 : w2.cell? ⟨w1.heap.size, 0, none⟩ = some (.int .u64 (c 0 0)) := (HR.out.call hb).cell 0
  have l0 : w1.heap.size < w2.heap.size := (HR.out.call hb).lt
  clear hb
  have hq := HQ.out
  rcases hc : (c 0 1 == c 0 0) with _ | _
  · rw [hc] at hq
    go_wp2_with fail
    go_ret
    exact ⟨ret_int (by rw [HW.out, hc]; rfl), ba HB2.out _⟩
  · rw [hc] at hq
    go_wp2_with fail
    go_ret
    exact ⟨ret_int (by rw [HW.out, hc]; rfl), ba HB2.out _⟩
theorem lWaiting_nil (w : World) : Calls Try.prog 32 #[.pointer none] w fun e w' => e = .returned (.int .u64 0) ∧ w = w' := by
  go_enter Try.func32, Try.ntmps32
  go_wp2_with fail
  go_ret
  exact ⟨rfl, rfl⟩
set_option maxHeartbeats 2000000 in
theorem wakes18_any (w : World) : Calls Try.prog 23 #[] w fun e w' => e = .returned (.bool true) ∧ Below w.heap.size w w' := by
  go_enter Try.func23, Try.ntmps23
  go_wp2_with fail
  refine (new_yes 1 _ (by omega) (by omega)).mono ?_
  rintro e w1 ⟨p, F, rfl, hM, hB, hF⟩
  have HF := Lib.hid hF
  have HB := Lib.hid hB
  clear hF hB
  go_wp2_with fail
  refine (lTake_any p 1 0 _ F _ hM (by omega) (by omega) (by omega)).mono ?_
  rw [show IntKind.u64.wrap (0 + 1) = 1 by decide]
  rintro e w2 ⟨rfl, F2, k2, m1, m2, m3, m4, m5⟩
  have HF2 := Lib.hid (grow HF.out HB.out m4)
  have HB2 := Lib.hid (m3.below HB.out HF.out)
  clear m3 m4 m5 hM HB
  go_wp2_with fail
  refine (lTake_any p 1 k2 _ F2 _ m1 (by omega) (by omega) (by omega)).mono ?_
  rw [show upd2 (fun _ _ => 0) 0 0 1 0 0 = 1 by decide, show IntKind.u64.wrap (1 + 1) = 2 by decide]
  rintro e w3 ⟨rfl, F3, k3, n1, n2, n3, n4, n5⟩
  have HF3 := Lib.hid (grow HF2.out HB2.out n4)
  have HB3 := Lib.hid (n3.below HB2.out HF2.out)
  clear n3 n4 n5 m1 HB2
  go_wp2_with fail
  refine (lServed_any p 1 k3 0 _ F3 _ n1 (by omega) (by omega)).mono ?_
  rw [show upd2 (upd2 (fun _ _ => 0) 0 0 1) 0 0 2 0 1 = 0 by decide]
  rintro e w4 ⟨rfl, hb⟩
  have HB4 := Lib.hid (bthen HB3.out hb)
  replace n1 := n1.call hb
  clear hb HB3
  go_wp2_with fail
  refine (lServed_any p 1 k3 1 _ F3 _ n1 (by omega) (by omega)).mono ?_
  rw [show upd2 (upd2 (fun _ _ => 0) 0 0 1) 0 0 2 0 1 = 0 by decide]
  rintro e w5 ⟨rfl, hb⟩
  have HB5 := Lib.hid (bthen HB4.out hb)
  replace n1 := n1.call hb
  clear hb HB4
  go_wp2_with fail
  refine (lPass_any p 1 k3 _ F3 _ n1 (by omega) (by omega)).mono ?_
  rw [show upd2 (upd2 (fun _ _ => 0) 0 0 1) 0 0 2 0 1 = 0 by decide, show IntKind.u64.wrap (0 + 1) = 1 by decide]
  rintro e w6 ⟨rfl, hb⟩
  have HB6 := Lib.hid (ba (bthen HB5.out hb) (.cells #[.int .i8 0, .int .u64 1, .int .u64 1, .int .i64 0, .int .i64 0] 29))
  replace n1 := (n1.call hb).alloc (.cells #[.int .i8 0, .int .u64 1, .int .u64 1, .int .i64 0, .int .i64 0] 29)
  clear hb HB5
  go_wp2_with fail
  refine (reach_word p 1 k3 0 1 1 1 0 0 _ F3 _ n1 (by omega) (by omega) ⟨by omega, by omega⟩ (by decide) (by decide) (by omega)).mono ?_
  rintro e w7 ⟨rfl, F4, k4, q1, q2, q3, q4, q5⟩
  have HB7 := Lib.hid (q3.below HB6.out HF3.out)
  clear q3 q4 q5 n1 HB6
  go_wp2_with fail
  refine (lServed_any p 1 k4 1 _ F4 _ q1 (by omega) (by omega)).mono ?_
  rw [show upd2 (upd2 (upd2 (fun _ _ => 0) 0 0 1) 0 0 2) 0 1 1 0 1 = 1 by decide]
  rintro e w8 ⟨rfl, hb⟩
  have HB8 := Lib.hid (bthen HB7.out hb)
  replace q1 := q1.call hb
  clear hb HB7
  go_wp2_with fail
  refine (lWaiting_any p 1 k4 _ F4 _ q1 (by omega) (by omega)).mono ?_
  rw [show wt (upd2 (upd2 (upd2 (fun _ _ => 0) 0 0 1) 0 0 2) 0 1 1 0 0) (upd2 (upd2 (upd2 (fun _ _ => 0) 0 0 1) 0 0 2) 0 1 1 0 1) = 1 by decide]
  rintro e w9 ⟨rfl, hb⟩
  have HB9 := Lib.hid (bthen HB8.out hb)
  clear hb HB8 q1
  go_wp2_with fail
  go_ret
  exact ⟨rfl, HB9.out⟩
set_option maxHeartbeats 1000000 in
theorem lockNil_any (t : Int) (w : World) : Calls Try.prog 8 #[.int .u64 t] w fun e w' => e = .returned (.bool true) ∧ Below w.heap.size w w' := by
  go_enter Try.func8, Try.ntmps8
  go_wp2_with fail
  refine (lTake_nil _).mono ?_
  rintro e w1 ⟨rfl, rfl⟩
  go_wp2_with fail
  refine (lPass_nil _).mono ?_
  rintro e w1 ⟨rfl, hb⟩
  have HB := Lib.hid (ba hb (.cells #[.int .i8 0, .int .u64 0, .int .u64 0, .int .i64 0, .int .i64 0] 29))
  clear hb
  go_wp2_with fail
  refine (lServed_nil t _).mono ?_
  rintro e w2 ⟨rfl, rfl⟩
  go_wp2_with fail
  refine (lWaiting_nil _).mono ?_
  rintro e w2 ⟨rfl, rfl⟩
  go_wp2_with fail
  refine (wakes18_any _).mono ?_
  rintro e w2 ⟨rfl, hb⟩
  have HB2 := Lib.hid (bthen HB.out hb)
  clear hb
  go_wp2_with fail
  go_ret
  exact ⟨rfl, HB2.out⟩
end Go.Proofs.Ytlhbofgcgfbchaa
