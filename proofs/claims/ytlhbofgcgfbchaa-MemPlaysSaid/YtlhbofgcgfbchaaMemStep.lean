/-
  law08.step: both memories are asked for one act: the answers are the same, and both stay side by side.
-/
import Derived.Test.YtlhbofgcgfbchaaMemDo
import Derived.RegionTactic
import Derived.Deep.RegionHeld
namespace Go.Proofs.Ytlhbofgcgfbchaa
open Go.RowKit Go.Maps
set_option linter.unusedVariables false
set_option linter.unusedSimpArgs false
def doC (n : Nat) (c : Nat → Nat → Int) (a : Ac) : Nat → Nat → Int := if a.d = 0 then wrC n c a.x a.v else if a.d = 1 then adC n c a.x a.v else if a.d = 2 then rcC n c a.ek a.ex a.ev a.ef a.et else c
theorem Zout.do {n : Nat} {c : Nat → Nat → Int} (h : Zout n c) (h1 : 1 ≤ n) (a : Ac) : Zout n (doC n c a) := by
  unfold doC
  split
  · exact h.wr h1
  split
  · exact h.ad h1
  split
  · exact h.rc h1
  · exact h
/-- What step leaves. -/
def Stepped (w0 : World) (p q n k : Nat) (c : Nat → Nat → Int) (e : Ending) (w' : World) : Prop :=
  e = .returned (.bool true) ∧ ∃ F' G' k', Pair w0 w' p q n c c F' G' k' ∧ k' ≤ k + 1
set_option maxRecDepth 100000 in
set_option maxHeartbeats 4000000 in
theorem step_any (a : Ac) (ha : a.wf) (w0 w : World) (p q n k : Nat) (c : Nat → Nat → Int) (F G : Nat → Prop) (hP : Pair w0 w p q n c c F G k) (hz : Zout n c) (hk : k < 1000000) (hn : n ≤ 64) :
    Calls Try.prog 18 #[.pointer (some ⟨p, 0, none⟩), .pointer (some ⟨q, 0, none⟩), .agg (encA a).toArray] w (Stepped w0 p q n k (doC n c a)) := by
  obtain ⟨d, x, v, ek, ex, ev, ef, et, f⟩ := a
  obtain ⟨-, hx, hex, -, -, hf⟩ := ha
  dsimp only at hx hex hf
  show Calls Try.prog 18 #[.pointer (some ⟨p, 0, none⟩), .pointer (some ⟨q, 0, none⟩), .agg #[.int .i64 d, .int .u64 x, .int .u64 v, .int .i8 ek, .int .u64 ex, .int .u64 ev, .int .i64 ef, .int .i64 et, .int .i64 f]] w _
  have HK := Lib.hid (Bk.new w 47 #[.int .i64 d, .int .u64 x, .int .u64 v, .int .i8 ek, .int .u64 ex, .int .u64 ev, .int .i64 ef, .int .i64 et, .int .i64 f])
  have HP := Lib.hid (hP.call (ba (Below.refl w.heap.size w) (.cells #[.int .i64 d, .int .u64 x, .int .u64 v, .int .i8 ek, .int .u64 ex, .int .u64 ev, .int .i64 ef, .int .i64 et, .int .i64 f] 47)))
  have nF : ¬ F w.heap.size := fun h => by have := hP.mem.all _ h; omega
  have nG : ¬ G w.heap.size := fun h => by have := hP.ref.all _ h; omega
  have HX := Lib.hid hx
  have HEX := Lib.hid hex
  have HFR := Lib.hid hf
  have HZ := Lib.hid hz
  have c0 := HK.out.cell 0
  have c1 := HK.out.cell 1
  have c2 := HK.out.cell 2
  clear hP hx hex hf hz
  unfold doC
  dsimp only
  by_cases d0 : d = 0
  · subst d0
    rw [if_pos rfl]
    go_enter Try.func18, Try.ntmps18
    go_upto_region 3 with fail
    generalize w.alloc (.cells #[.int .i64 0, .int .u64 x, .int .u64 v, .int .i8 ek, .int .u64 ex, .int .u64 ev, .int .i64 ef, .int .i64 et, .int .i64 f] 47) = W at *
    refine wp_region_held_drew (S := fun w' => Bk w' w.heap.size 47 #[.int .i64 0, .int .u64 x, .int .u64 v, .int .i8 ek, .int .u64 ex, .int .u64 ev, .int .i64 ef, .int .i64 et, .int .i64 f]) (by kernel_rfl) HK.out (fun hHeld => ?_)
    refine wpAnyH_take (i := 0) (oi := ⟨_, _, _, _, _, _⟩) (v := ?va0) rfl (by kernel_rfl) (by kernel_rfl) (by kernel_rfl) (fun _ _ _ h => h) (Or.inl ⟨by rfl, ?hya0⟩) hHeld ?resta0
    case hya0 => (intro w' hSw; go_simp; try with_reducible rfl)
    try simp only [Act.put, List.setIfInBounds_toArray, List.set_cons_zero, List.set_cons_succ]
    refine wpAnyH_take (i := 1) (oi := ⟨_, _, _, _, _, _⟩) (v := ?va1) rfl (by kernel_rfl) (by kernel_rfl) (by kernel_rfl) (fun _ _ _ h => h) (Or.inl ⟨by rfl, ?hya1⟩) hHeld ?resta1
    case hya1 => (intro w' hSw; go_simp; try with_reducible rfl)
    try simp only [Act.put, List.setIfInBounds_toArray, List.set_cons_zero, List.set_cons_succ]
    refine wpAnyH_take (i := 2) (oi := ⟨_, _, _, _, _, _⟩) (v := ?va2) rfl (by kernel_rfl) (by kernel_rfl) (by kernel_rfl) (fun _ _ _ h => h) (Or.inl ⟨by rfl, ?hya2⟩) hHeld ?resta2
    case hya2 => (intro w' hSw; have q1 : w'.cell? ⟨w.heap.size, 1, none⟩ = some (.int .u64 x) := hSw.cell 1; have q2 : w'.cell? ⟨w.heap.size, 2, none⟩ = some (.int .u64 v) := hSw.cell 2; go_simp; try with_reducible rfl)
    try simp only [Act.put, List.setIfInBounds_toArray, List.set_cons_zero, List.set_cons_succ]
    refine wpAnyH_take (i := 3) (oi := ⟨_, _, _, _, _, _⟩) (v := ?va3) rfl (by kernel_rfl) (by kernel_rfl) (by kernel_rfl) (fun _ _ _ h => h) (Or.inl ⟨by rfl, ?hya3⟩) hHeld ?resta3
    case hya3 => (intro w' hSw; go_simp; try with_reducible rfl)
    try simp only [Act.put, List.setIfInBounds_toArray, List.set_cons_zero, List.set_cons_succ]
    refine wpAnyH_take (i := 4) (oi := ⟨_, _, _, _, _, _⟩) (v := ?va4) rfl (by kernel_rfl) (by kernel_rfl) (by kernel_rfl) (fun _ _ _ h => h) (Or.inl ⟨by rfl, ?hya4⟩) hHeld ?resta4
    case hya4 => (intro w' hSw; have q1 : w'.cell? ⟨w.heap.size, 1, none⟩ = some (.int .u64 x) := hSw.cell 1; have q2 : w'.cell? ⟨w.heap.size, 2, none⟩ = some (.int .u64 v) := hSw.cell 2; go_simp; try with_reducible rfl)
    try simp only [Act.put, List.setIfInBounds_toArray, List.set_cons_zero, List.set_cons_succ]
    refine wpAnyH_take (i := 6) (oi := ⟨_, _, _, _, _, _⟩) (v := ?va6) rfl (by kernel_rfl) (by kernel_rfl) (by kernel_rfl) (fun _ _ _ h => h) (Or.inl ⟨by rfl, ?hya6⟩) hHeld ?resta6
    case hya6 => (intro w' hSw; go_simp; try with_reducible rfl)
    try simp only [Act.put, List.setIfInBounds_toArray, List.set_cons_zero, List.set_cons_succ]
    refine wpAnyH_take (i := 7) (oi := ⟨_, _, _, _, _, _⟩) (v := ?va7) rfl (by kernel_rfl) (by kernel_rfl) (by kernel_rfl) (fun _ _ _ h => h) (Or.inl ⟨by rfl, ?hya7⟩) hHeld ?resta7
    case hya7 => (intro w' hSw; go_simp; try with_reducible rfl)
    try simp only [Act.put, List.setIfInBounds_toArray, List.set_cons_zero, List.set_cons_succ]
    refine wpAnyH_take (i := 8) (oi := ⟨_, _, _, _, _, _⟩) (v := ?va8) rfl (by kernel_rfl) (by kernel_rfl) (by kernel_rfl) (fun _ _ _ h => h) (Or.inl ⟨by rfl, ?hya8⟩) hHeld ?resta8
    case hya8 => (intro w' hSw; have q1 : w'.cell? ⟨w.heap.size, 1, none⟩ = some (.int .u64 x) := hSw.cell 1; have q2 : w'.cell? ⟨w.heap.size, 2, none⟩ = some (.int .u64 v) := hSw.cell 2; go_simp; try with_reducible rfl)
    try simp only [Act.put, List.setIfInBounds_toArray, List.set_cons_zero, List.set_cons_succ]
    refine wpAnyH_take (i := 9) (oi := ⟨_, _, _, _, _, _⟩) (v := ?va9) rfl (by kernel_rfl) (by kernel_rfl) (by kernel_rfl) (fun _ _ _ h => h) (Or.inl ⟨by rfl, ?hya9⟩) hHeld ?resta9
    case hya9 => (intro w' hSw; go_simp; try with_reducible rfl)
    try simp only [Act.put, List.setIfInBounds_toArray, List.set_cons_zero, List.set_cons_succ]
    refine wpAnyH_take (i := 10) (oi := ⟨_, _, _, _, _, _⟩) (v := ?va10) rfl (by kernel_rfl) (by kernel_rfl) (by kernel_rfl) (fun _ _ _ h => h) (Or.inl ⟨by rfl, ?hya10⟩) hHeld ?resta10
    case hya10 => (intro w' hSw; have q1 : w'.cell? ⟨w.heap.size, 1, none⟩ = some (.int .u64 x) := hSw.cell 1; have q2 : w'.cell? ⟨w.heap.size, 2, none⟩ = some (.int .u64 v) := hSw.cell 2; go_simp; try with_reducible rfl)
    try simp only [Act.put, List.setIfInBounds_toArray, List.set_cons_zero, List.set_cons_succ]
    refine wpAnyH_ready (rs := [5]) (by kernel_rfl) (by simp) ?_
    refine AllReadyH.cons (o := ⟨_, _, _, _, _, _⟩) rfl (fun K hK => ?_) AllReadyH.nil
    go_simp
    refine (mWrite_any (HP.out.call (bd (Below.refl _ _))).mem hk hn HX.out).mono ?_
    rintro e wra1 ⟨rfl, F1, k1, m1, m2, m3, m4, m5⟩
    have HP1 := Lib.hid ((HP.out.call (bd (Below.refl _ _))).one m1 m3 m4)
    have hb := m3
    have hnX := nF
    clear m1 m3 m4 m5
    go_wp2_with fail
    have hB2 := (Bk.keep hHeld hb hnX)
    clear hHeld hb
    refine hK.out _ _ hB2 (fun hHeld => ?_)
    clear hB2 hK K
    try simp only [Act.put, List.setIfInBounds_toArray, List.set_cons_zero, List.set_cons_succ]
    refine wpAnyH_ready (rs := [11]) (by kernel_rfl) (by simp) ?_
    refine AllReadyH.cons (o := ⟨_, _, _, _, _, _⟩) rfl (fun K hK => ?_) AllReadyH.nil
    go_simp
    refine (rWrite_any HP1.out.ref hn HX.out).mono ?_
    rintro e wra2 ⟨rfl, G1, r1, r3, r4, r5⟩
    have HP2 := Lib.hid (HP1.out.two r1 r3 r4)
    have hb := r3
    have hnX := nG
    clear r1 r3 r4 r5 HP1
    go_wp2_with fail
    have hB2 := (Bk.keep hHeld hb hnX)
    clear hHeld hb
    refine hK.out _ _ hB2 (fun hHeld => ?_)
    clear hB2 hK K
    try simp only [Act.put, List.setIfInBounds_toArray, List.set_cons_zero, List.set_cons_succ]
    refine wpAnyH_take (i := 12) (oi := ⟨_, _, _, _, _, _⟩) (v := ?va12) rfl (by kernel_rfl) (by kernel_rfl) (by kernel_rfl) (fun _ _ _ h => h) (Or.inl ⟨by rfl, ?hya12⟩) hHeld ?resta12
    case hya12 => (intro w' hSw; go_simp; try with_reducible rfl)
    try simp only [Act.put, List.setIfInBounds_toArray, List.set_cons_zero, List.set_cons_succ]
    refine wpAnyH_take (i := 13) (oi := ⟨_, _, _, _, _, _⟩) (v := ?va13) rfl (by kernel_rfl) (by kernel_rfl) (by kernel_rfl) (fun _ _ _ h => h) (Or.inl ⟨by rfl, ?hya13⟩) hHeld ?resta13
    case hya13 => (intro w' hSw; go_simp; try with_reducible rfl)
    try simp only [Act.put, List.setIfInBounds_toArray, List.set_cons_zero, List.set_cons_succ]
    refine wpAnyH_done (by kernel_rfl) ?_ _
    clear hHeld
    go_wp2_with fail
    go_ret
    exact ⟨rfl, F1, G1, k1, HP2.out, m2⟩
  rw [if_neg d0]
  by_cases d1 : d = 1
  · subst d1
    rw [if_pos rfl]
    go_enter Try.func18, Try.ntmps18
    go_upto_region 5 with fail
    generalize w.alloc (.cells #[.int .i64 1, .int .u64 x, .int .u64 v, .int .i8 ek, .int .u64 ex, .int .u64 ev, .int .i64 ef, .int .i64 et, .int .i64 f] 47) = W at *
    go_wp2_with fail
    refine (mAdd_any HP.out.mem hk hn HX.out).mono ?_
    rintro e w1 ⟨rfl, F1, k1, m1, m2, m3, m4, m5⟩
    have HP1 := Lib.hid (HP.out.one m1 m3 m4)
    have HK1 := Lib.hid (HK.out.keep m3 nF)
    clear m1 m3 m4 m5 HP HK c0 c1 c2
    have c1 := HK1.out.cell 1
    have c2 := HK1.out.cell 2
    go_wp2_with fail
    refine (rAdd_any HP1.out.ref hn HX.out).mono ?_
    rintro e w2 ⟨rfl, G1, r1, r3, r4, r5⟩
    have HP2 := Lib.hid (HP1.out.two r1 r3 r4)
    clear r1 r3 r4 r5 HP1 HK1 c1 c2
    go_wp2_with fail
    go_ret
    exact ⟨rfl, F1, G1, k1, HP2.out, m2⟩
  rw [if_neg d1]
  by_cases d2 : d = 2
  · subst d2
    rw [if_pos rfl]
    go_enter Try.func18, Try.ntmps18
    go_upto_region 9 with fail
    generalize w.alloc (.cells #[.int .i64 2, .int .u64 x, .int .u64 v, .int .i8 ek, .int .u64 ex, .int .u64 ev, .int .i64 ef, .int .i64 et, .int .i64 f] 47) = W at *
    refine wp_region_held_drew (S := fun w' => Bk w' w.heap.size 47 #[.int .i64 2, .int .u64 x, .int .u64 v, .int .i8 ek, .int .u64 ex, .int .u64 ev, .int .i64 ef, .int .i64 et, .int .i64 f]) (by kernel_rfl) HK.out (fun hHeld => ?_)
    refine wpAnyH_take (i := 0) (oi := ⟨_, _, _, _, _, _⟩) (v := ?vb0) rfl (by kernel_rfl) (by kernel_rfl) (by kernel_rfl) (fun _ _ _ h => h) (Or.inl ⟨by rfl, ?hyb0⟩) hHeld ?restb0
    case hyb0 => (intro w' hSw; go_simp; try with_reducible rfl)
    try simp only [Act.put, List.setIfInBounds_toArray, List.set_cons_zero, List.set_cons_succ]
    refine wpAnyH_take (i := 1) (oi := ⟨_, _, _, _, _, _⟩) (v := ?vb1) rfl (by kernel_rfl) (by kernel_rfl) (by kernel_rfl) (fun _ _ _ h => h) (Or.inl ⟨by rfl, ?hyb1⟩) hHeld ?restb1
    case hyb1 => (intro w' hSw; go_simp; try with_reducible rfl)
    try simp only [Act.put, List.setIfInBounds_toArray, List.set_cons_zero, List.set_cons_succ]
    refine wpAnyH_take (i := 2) (oi := ⟨_, _, _, _, _, _⟩) (v := ?vb2) rfl (by kernel_rfl) (by kernel_rfl) (by kernel_rfl) (fun _ _ _ h => h) (Or.inl ⟨by rfl, ?hyb2⟩) hHeld ?restb2
    case hyb2 => (intro w' hSw; have q3 : w'.cell? ⟨w.heap.size, 3, none⟩ = some (.int .i8 ek) := hSw.cell 3; have q4 : w'.cell? ⟨w.heap.size, 4, none⟩ = some (.int .u64 ex) := hSw.cell 4; have q5 : w'.cell? ⟨w.heap.size, 5, none⟩ = some (.int .u64 ev) := hSw.cell 5; have q6 : w'.cell? ⟨w.heap.size, 6, none⟩ = some (.int .i64 ef) := hSw.cell 6; have q7 : w'.cell? ⟨w.heap.size, 7, none⟩ = some (.int .i64 et) := hSw.cell 7; go_simp; try with_reducible rfl)
    try simp only [Act.put, List.setIfInBounds_toArray, List.set_cons_zero, List.set_cons_succ]
    refine wpAnyH_take (i := 4) (oi := ⟨_, _, _, _, _, _⟩) (v := ?vb4) rfl (by kernel_rfl) (by kernel_rfl) (by kernel_rfl) (fun _ _ _ h => h) (Or.inl ⟨by rfl, ?hyb4⟩) hHeld ?restb4
    case hyb4 => (intro w' hSw; go_simp; try with_reducible rfl)
    try simp only [Act.put, List.setIfInBounds_toArray, List.set_cons_zero, List.set_cons_succ]
    refine wpAnyH_take (i := 5) (oi := ⟨_, _, _, _, _, _⟩) (v := ?vb5) rfl (by kernel_rfl) (by kernel_rfl) (by kernel_rfl) (fun _ _ _ h => h) (Or.inl ⟨by rfl, ?hyb5⟩) hHeld ?restb5
    case hyb5 => (intro w' hSw; go_simp; try with_reducible rfl)
    try simp only [Act.put, List.setIfInBounds_toArray, List.set_cons_zero, List.set_cons_succ]
    refine wpAnyH_take (i := 6) (oi := ⟨_, _, _, _, _, _⟩) (v := ?vb6) rfl (by kernel_rfl) (by kernel_rfl) (by kernel_rfl) (fun _ _ _ h => h) (Or.inl ⟨by rfl, ?hyb6⟩) hHeld ?restb6
    case hyb6 => (intro w' hSw; have q3 : w'.cell? ⟨w.heap.size, 3, none⟩ = some (.int .i8 ek) := hSw.cell 3; have q4 : w'.cell? ⟨w.heap.size, 4, none⟩ = some (.int .u64 ex) := hSw.cell 4; have q5 : w'.cell? ⟨w.heap.size, 5, none⟩ = some (.int .u64 ev) := hSw.cell 5; have q6 : w'.cell? ⟨w.heap.size, 6, none⟩ = some (.int .i64 ef) := hSw.cell 6; have q7 : w'.cell? ⟨w.heap.size, 7, none⟩ = some (.int .i64 et) := hSw.cell 7; go_simp; try with_reducible rfl)
    try simp only [Act.put, List.setIfInBounds_toArray, List.set_cons_zero, List.set_cons_succ]
    refine wpAnyH_ready (rs := [3]) (by kernel_rfl) (by simp) ?_
    refine AllReadyH.cons (o := ⟨_, _, _, _, _, _⟩) rfl (fun K hK => ?_) AllReadyH.nil
    go_simp
    refine (mReach_any (HP.out.call (bd (Below.refl _ _))).mem hk hn HEX.out).mono ?_
    rintro e wrb1 ⟨rfl, F1, k1, m1, m2, m3, m4, m5⟩
    have HP1 := Lib.hid ((HP.out.call (bd (Below.refl _ _))).one m1 m3 m4)
    have hb := m3
    have hnX := nF
    clear m1 m3 m4 m5
    go_wp2_with fail
    have hB2 := (Bk.keep hHeld hb hnX)
    clear hHeld hb
    refine hK.out _ _ hB2 (fun hHeld => ?_)
    clear hB2 hK K
    try simp only [Act.put, List.setIfInBounds_toArray, List.set_cons_zero, List.set_cons_succ]
    refine wpAnyH_ready (rs := [7]) (by kernel_rfl) (by simp) ?_
    refine AllReadyH.cons (o := ⟨_, _, _, _, _, _⟩) rfl (fun K hK => ?_) AllReadyH.nil
    go_simp
    refine (rReach_any HP1.out.ref hn HEX.out).mono ?_
    rintro e wrb2 ⟨rfl, G1, r1, r3, r4, r5⟩
    have HP2 := Lib.hid (HP1.out.two r1 r3 r4)
    have hb := r3
    have hnX := nG
    clear r1 r3 r4 r5 HP1
    go_wp2_with fail
    have hB2 := (Bk.keep hHeld hb hnX)
    clear hHeld hb
    refine hK.out _ _ hB2 (fun hHeld => ?_)
    clear hB2 hK K
    try simp only [Act.put, List.setIfInBounds_toArray, List.set_cons_zero, List.set_cons_succ]
    refine wpAnyH_take (i := 8) (oi := ⟨_, _, _, _, _, _⟩) (v := ?vb8) rfl (by kernel_rfl) (by kernel_rfl) (by kernel_rfl) (fun _ _ _ h => h) (Or.inl ⟨by rfl, ?hyb8⟩) hHeld ?restb8
    case hyb8 => (intro w' hSw; go_simp; try with_reducible rfl)
    try simp only [Act.put, List.setIfInBounds_toArray, List.set_cons_zero, List.set_cons_succ]
    refine wpAnyH_take (i := 9) (oi := ⟨_, _, _, _, _, _⟩) (v := ?vb9) rfl (by kernel_rfl) (by kernel_rfl) (by kernel_rfl) (fun _ _ _ h => h) (Or.inl ⟨by rfl, ?hyb9⟩) hHeld ?restb9
    case hyb9 => (intro w' hSw; go_simp; try with_reducible rfl)
    try simp only [Act.put, List.setIfInBounds_toArray, List.set_cons_zero, List.set_cons_succ]
    refine wpAnyH_done (by kernel_rfl) ?_ _
    clear hHeld
    go_wp2_with fail
    go_ret
    exact ⟨rfl, F1, G1, k1, HP2.out, m2⟩
  rw [if_neg d2]
  have e0 : (d == 0) = false := beq_eq_false_iff_ne.2 d0
  have e1 : (d == 1) = false := beq_eq_false_iff_ne.2 d1
  have e2 : (d == 2) = false := beq_eq_false_iff_ne.2 d2
  by_cases d3 : d = 3
  · subst d3
    clear d0 d1 d2 e0 e1 e2
    go_enter Try.func18, Try.ntmps18
    go_upto_region 11 with fail
    generalize w.alloc (.cells #[.int .i64 3, .int .u64 x, .int .u64 v, .int .i8 ek, .int .u64 ex, .int .u64 ev, .int .i64 ef, .int .i64 et, .int .i64 f] 47) = W at *
    go_wp2_with fail
    refine (mRead_any HP.out.mem hn HX.out).mono ?_
    rintro e w1 ⟨rfl, rfl⟩
    go_wp2_with fail
    refine (rRead_any HP.out.ref hn HX.out).mono ?_
    rintro e w1 ⟨rfl, rfl⟩
    go_wp2_with fail
    go_ret
    exact ⟨rfl, F, G, k, HP.out, by omega⟩
  · have e3 : (d == 3) = false := beq_eq_false_iff_ne.2 d3
    clear d0 d1 d2 d3
    go_enter Try.func18, Try.ntmps18
    go_upto_region 14 with fail
    generalize w.alloc (.cells #[.int .i64 d, .int .u64 x, .int .u64 v, .int .i8 ek, .int .u64 ex, .int .u64 ev, .int .i64 ef, .int .i64 et, .int .i64 f] 47) = W at *
    refine wp_region_held_drew (S := fun w' => Bk w' w.heap.size 47 #[.int .i64 d, .int .u64 x, .int .u64 v, .int .i8 ek, .int .u64 ex, .int .u64 ev, .int .i64 ef, .int .i64 et, .int .i64 f]) (by kernel_rfl) HK.out (fun hHeld => ?_)
    refine wpAnyH_take (i := 0) (oi := ⟨_, _, _, _, _, _⟩) (v := ?vc0) rfl (by kernel_rfl) (by kernel_rfl) (by kernel_rfl) (fun _ _ _ h => h) (Or.inl ⟨by rfl, ?hyc0⟩) hHeld ?restc0
    case hyc0 => (intro w' hSw; go_simp; try with_reducible rfl)
    try simp only [Act.put, List.setIfInBounds_toArray, List.set_cons_zero, List.set_cons_succ]
    refine wpAnyH_take (i := 1) (oi := ⟨_, _, _, _, _, _⟩) (v := ?vc1) rfl (by kernel_rfl) (by kernel_rfl) (by kernel_rfl) (fun _ _ _ h => h) (Or.inl ⟨by rfl, ?hyc1⟩) hHeld ?restc1
    case hyc1 => (intro w' hSw; go_simp; try with_reducible rfl)
    try simp only [Act.put, List.setIfInBounds_toArray, List.set_cons_zero, List.set_cons_succ]
    refine wpAnyH_take (i := 2) (oi := ⟨_, _, _, _, _, _⟩) (v := ?vc2) rfl (by kernel_rfl) (by kernel_rfl) (by kernel_rfl) (fun _ _ _ h => h) (Or.inl ⟨by rfl, ?hyc2⟩) hHeld ?restc2
    case hyc2 => (intro w' hSw; have q8 : w'.cell? ⟨w.heap.size, 8, none⟩ = some (.int .i64 f) := hSw.cell 8; go_simp; try with_reducible rfl)
    try simp only [Act.put, List.setIfInBounds_toArray, List.set_cons_zero, List.set_cons_succ]
    refine wpAnyH_take (i := 4) (oi := ⟨_, _, _, _, _, _⟩) (v := ?vc4) rfl (by kernel_rfl) (by kernel_rfl) (by kernel_rfl) (fun _ _ _ h => h) (Or.inl ⟨by rfl, ?hyc4⟩) hHeld ?restc4
    case hyc4 => (intro w' hSw; go_simp; try with_reducible rfl)
    try simp only [Act.put, List.setIfInBounds_toArray, List.set_cons_zero, List.set_cons_succ]
    refine wpAnyH_take (i := 5) (oi := ⟨_, _, _, _, _, _⟩) (v := ?vc5) rfl (by kernel_rfl) (by kernel_rfl) (by kernel_rfl) (fun _ _ _ h => h) (Or.inl ⟨by rfl, ?hyc5⟩) hHeld ?restc5
    case hyc5 => (intro w' hSw; go_simp; try with_reducible rfl)
    try simp only [Act.put, List.setIfInBounds_toArray, List.set_cons_zero, List.set_cons_succ]
    refine wpAnyH_take (i := 6) (oi := ⟨_, _, _, _, _, _⟩) (v := ?vc6) rfl (by kernel_rfl) (by kernel_rfl) (by kernel_rfl) (fun _ _ _ h => h) (Or.inl ⟨by rfl, ?hyc6⟩) hHeld ?restc6
    case hyc6 => (intro w' hSw; have q8 : w'.cell? ⟨w.heap.size, 8, none⟩ = some (.int .i64 f) := hSw.cell 8; go_simp; try with_reducible rfl)
    try simp only [Act.put, List.setIfInBounds_toArray, List.set_cons_zero, List.set_cons_succ]
    refine wpAnyH_ready (rs := [3]) (by kernel_rfl) (by simp) ?_
    refine AllReadyH.cons (o := ⟨_, _, _, _, _, _⟩) rfl (fun K hK => ?_) AllReadyH.nil
    go_simp
    refine (mWords_any p n k f c F _ (HP.out.call (bd (Below.refl _ _))).mem HZ.out hn HFR.out.1 HFR.out.2).mono ?_
    rintro e wrc1 ⟨v1, rfl, hc1, hb⟩
    have HP1 := Lib.hid ((HP.out.call (bd (Below.refl _ _))).call hb)
    have HC1 := Lib.hid hc1
    clear hc1
    go_wp2_with fail
    have hB2 := (Bk.call hHeld hb)
    clear hHeld hb
    refine hK.out _ _ hB2 (fun hHeld => ?_)
    clear hB2 hK K
    try simp only [Act.put, List.setIfInBounds_toArray, List.set_cons_zero, List.set_cons_succ]
    refine wpAnyH_ready (rs := [7]) (by kernel_rfl) (by simp) ?_
    refine AllReadyH.cons (o := ⟨_, _, _, _, _, _⟩) rfl (fun K hK => ?_) AllReadyH.nil
    go_simp
    refine (rWords_any q n f c G _ HP1.out.ref hn).mono ?_
    rintro e wrc2 ⟨v2, rfl, hc2, hb⟩
    have HP2 := Lib.hid (HP1.out.call hb)
    have HC2 := Lib.hid hc2
    have HC1b := Lib.hid (HC1.out.call hb)
    clear hc2
    go_wp2_with fail
    have hB2 := (Bk.call hHeld hb)
    clear hHeld hb
    refine hK.out _ _ hB2 (fun hHeld => ?_)
    clear hB2 hK K
    try simp only [Act.put, List.setIfInBounds_toArray, List.set_cons_zero, List.set_cons_succ]
    refine wpAnyH_ready (rs := [8]) (by kernel_rfl) (by simp) ?_
    refine AllReadyH.cons (o := ⟨_, _, _, _, _, _⟩) rfl (fun K hK => ?_) AllReadyH.nil
    go_simp
    refine (same_yes _ v1 v2 _ _ _ HC1b.out HC2.out).mono ?_
    rintro e wrc3 ⟨rfl, hb⟩
    have HP3 := Lib.hid (HP2.out.call hb)
    go_wp2_with fail
    have hB2 := (Bk.call hHeld hb)
    clear hHeld hb
    refine hK.out _ _ hB2 (fun hHeld => ?_)
    clear hB2 hK K
    try simp only [Act.put, List.setIfInBounds_toArray, List.set_cons_zero, List.set_cons_succ]
    refine wpAnyH_take (i := 9) (oi := ⟨_, _, _, _, _, _⟩) (v := ?vc9) rfl (by kernel_rfl) (by kernel_rfl) (by kernel_rfl) (fun _ _ _ h => h) (Or.inl ⟨by rfl, ?hyc9⟩) hHeld ?restc9
    case hyc9 => (intro w' hSw; go_simp; try with_reducible rfl)
    try simp only [Act.put, List.setIfInBounds_toArray, List.set_cons_zero, List.set_cons_succ]
    refine wpAnyH_done (by kernel_rfl) ?_ _
    clear hHeld
    go_wp2_with fail
    go_ret
    exact ⟨rfl, F, G, k, HP3.out, by omega⟩
end Go.Proofs.Ytlhbofgcgfbchaa
