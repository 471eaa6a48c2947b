/-
  desc.Decode: its walk at level 2.
-/
import Derived.Test.YtappjiljmpgjcaaDoorDescDecW
namespace Go.Proofs.YtappjiljmpgjcaaDoor
open Go.RowKit
set_option linter.unusedVariables false
set_option linter.unusedSimpArgs false

set_option maxHeartbeats 4000000 in
theorem dDecode_2_b3 (x : Int) (w : World) (hG : G w) (hx : U64 x) (h1 : (bits .and .u64 x 1 == 0) = false) (h3 : (bits .and .u64 x 3 != 3) = true) :
    Calls Tryd.prog 28 #[.int .u64 x, .int .i64 2] w fun e w' => e = .returned (.tuple #[.agg #[.int .i8 0, .int .i64 0, .bool false, .bool false, .bool false, .bool false], .int .i64 30]) ∧ Below w.heap.size w w' := by
  have fr0 := (fGet_lt x 47 12 36 (by omega)).1
  have fr1 : fGet x 47 12 ≤ 9223372036854775807 := by have := (fGet_lt x 47 12 36 (by omega)).2; omega
  have g0 := hG.alloc (.cells #[.int .i8 0, .int .i64 0, .bool false, .bool false, .bool false, .bool false] 96)
  have hR := Arr.new w #[.int .i8 0, .int .i64 0, .bool false, .bool false, .bool false, .bool false] 96
  have hB := ba (Below.refl w.heap.size w) (.cells #[.int .i8 0, .int .i64 0, .bool false, .bool false, .bool false, .bool false] 96)
  have c8 := g0.1.2 8 _ rfl
  have c9 := g0.1.2 9 _ rfl
  have k0 := g0.2.1.2 2 _ rfl
  clear hG
  go_enter Tryd.func28, Tryd.ntmps28
  go_wp2
  generalize w.alloc (.cells #[.int .i8 0, .int .i64 0, .bool false, .bool false, .bool false, .bool false] 96) = W0 at g0 hR hB c8 c9 k0 ⊢
  go_region_held3 (fun w' => w'.cell? ⟨3, 8, none⟩ = some (.int .i64 47) ∧ w'.cell? ⟨3, 9, none⟩ = some (.int .i64 12) ∧ w'.cell? ⟨0, 2, none⟩ = some (.int .i8 1)) (go_keep)
    (first | (go_at_call 35; refine (dget4 _ _ hx (by simp [*]) (by simp [*])).mono ?_; rintro e w1 ⟨rfl, hb⟩; have hk := keepc hb))
  have g1 : G w1 := G.call (show G W0.drew from g0) hb
  have hR1 := hR.drew.call hb
  have hB1 := bthen (bd hB) hb
  clear hk g0 hR hB hb c8 c9 k0
  have l0 := g1.2.2.1.2 1 _ rfl
  have n0 := g1.2.2.2.2 1 _ rfl
  have q0 := hR1.nat 0 (by simp)
  have q1 := hR1.nat 1 (by simp)
  have q2 := hR1.nat 2 (by simp)
  have q3 := hR1.nat 3 (by simp)
  have q4 := hR1.nat 4 (by simp)
  have q5 := hR1.nat 5 (by simp)
  have z0 := hR1.frozen 0 (by simp)
  have z1 := hR1.frozen 1 (by simp)
  have z2 := hR1.frozen 2 (by simp)
  have z3 := hR1.frozen 3 (by simp)
  have z4 := hR1.frozen 4 (by simp)
  have z5 := hR1.frozen 5 (by simp)
  simp only [List.getElem_cons_zero, List.getElem_cons_succ] at q0 q1 q2 q3 q4 q5
  go_wp2
  refine bodyPost_ret (v := .tuple #[.agg #[.int .i8 0, .int .i64 0, .bool false, .bool false, .bool false, .bool false], .int .i64 30]) (by simp [results, Tryd.results28, go_sem, q0, q1, q2, q3, q4, q5]) rfl ⟨rfl, ?_⟩
  exact bs (bs (bs (bs (bs (bs hB1 (by simp) _) (by simp) _) (by simp) _) (by simp) _) (by simp) _) (by simp) _
set_option maxHeartbeats 4000000 in
theorem dDecode_2_bn (x : Int) (w : World) (hG : G w) (hx : U64 x) (h1 : (bits .and .u64 x 1 == 0) = false) (h3 : (bits .and .u64 x 3 != 3) = false) (hn : (bits .andNot .u64 x 281474976706563 != 0) = true) :
    Calls Tryd.prog 28 #[.int .u64 x, .int .i64 2] w fun e w' => e = .returned (.tuple #[.agg #[.int .i8 0, .int .i64 0, .bool false, .bool false, .bool false, .bool false], .int .i64 30]) ∧ Below w.heap.size w w' := by
  have fr0 := (fGet_lt x 47 12 36 (by omega)).1
  have fr1 : fGet x 47 12 ≤ 9223372036854775807 := by have := (fGet_lt x 47 12 36 (by omega)).2; omega
  have g0 := hG.alloc (.cells #[.int .i8 0, .int .i64 0, .bool false, .bool false, .bool false, .bool false] 96)
  have hR := Arr.new w #[.int .i8 0, .int .i64 0, .bool false, .bool false, .bool false, .bool false] 96
  have hB := ba (Below.refl w.heap.size w) (.cells #[.int .i8 0, .int .i64 0, .bool false, .bool false, .bool false, .bool false] 96)
  have c8 := g0.1.2 8 _ rfl
  have c9 := g0.1.2 9 _ rfl
  have k0 := g0.2.1.2 2 _ rfl
  clear hG
  go_enter Tryd.func28, Tryd.ntmps28
  go_wp2
  generalize w.alloc (.cells #[.int .i8 0, .int .i64 0, .bool false, .bool false, .bool false, .bool false] 96) = W0 at g0 hR hB c8 c9 k0 ⊢
  go_region_held3 (fun w' => w'.cell? ⟨3, 8, none⟩ = some (.int .i64 47) ∧ w'.cell? ⟨3, 9, none⟩ = some (.int .i64 12) ∧ w'.cell? ⟨0, 2, none⟩ = some (.int .i8 1)) (go_keep)
    (first | (go_at_call 35; refine (dget4 _ _ hx (by simp [*]) (by simp [*])).mono ?_; rintro e w1 ⟨rfl, hb⟩; have hk := keepc hb))
  have g1 : G w1 := G.call (show G W0.drew from g0) hb
  have hR1 := hR.drew.call hb
  have hB1 := bthen (bd hB) hb
  clear hk g0 hR hB hb c8 c9 k0
  have l0 := g1.2.2.1.2 1 _ rfl
  have n0 := g1.2.2.2.2 1 _ rfl
  have q0 := hR1.nat 0 (by simp)
  have q1 := hR1.nat 1 (by simp)
  have q2 := hR1.nat 2 (by simp)
  have q3 := hR1.nat 3 (by simp)
  have q4 := hR1.nat 4 (by simp)
  have q5 := hR1.nat 5 (by simp)
  have z0 := hR1.frozen 0 (by simp)
  have z1 := hR1.frozen 1 (by simp)
  have z2 := hR1.frozen 2 (by simp)
  have z3 := hR1.frozen 3 (by simp)
  have z4 := hR1.frozen 4 (by simp)
  have z5 := hR1.frozen 5 (by simp)
  simp only [List.getElem_cons_zero, List.getElem_cons_succ] at q0 q1 q2 q3 q4 q5
  go_wp2
  refine bodyPost_ret (v := .tuple #[.agg #[.int .i8 0, .int .i64 0, .bool false, .bool false, .bool false, .bool false], .int .i64 30]) (by simp [results, Tryd.results28, go_sem, q0, q1, q2, q3, q4, q5]) rfl ⟨rfl, ?_⟩
  exact bs (bs (bs (bs (bs (bs hB1 (by simp) _) (by simp) _) (by simp) _) (by simp) _) (by simp) _) (by simp) _
set_option maxHeartbeats 4000000 in
theorem dDecode_2_bf (x : Int) (w : World) (hG : G w) (hx : U64 x) (h1 : (bits .and .u64 x 1 == 0) = false) (h3 : (bits .and .u64 x 3 != 3) = false) (hn : (bits .andNot .u64 x 281474976706563 != 0) = false) (hf : 64 ≤ fGet x 47 12) :
    Calls Tryd.prog 28 #[.int .u64 x, .int .i64 2] w fun e w' => e = .returned (.tuple #[.agg #[.int .i8 0, .int .i64 0, .bool false, .bool false, .bool false, .bool false], .int .i64 30]) ∧ Below w.heap.size w w' := by
  have fr0 := (fGet_lt x 47 12 36 (by omega)).1
  have fr1 : fGet x 47 12 ≤ 9223372036854775807 := by have := (fGet_lt x 47 12 36 (by omega)).2; omega
  have g0 := hG.alloc (.cells #[.int .i8 0, .int .i64 0, .bool false, .bool false, .bool false, .bool false] 96)
  have hR := Arr.new w #[.int .i8 0, .int .i64 0, .bool false, .bool false, .bool false, .bool false] 96
  have hB := ba (Below.refl w.heap.size w) (.cells #[.int .i8 0, .int .i64 0, .bool false, .bool false, .bool false, .bool false] 96)
  have c8 := g0.1.2 8 _ rfl
  have c9 := g0.1.2 9 _ rfl
  have k0 := g0.2.1.2 2 _ rfl
  clear hG
  go_enter Tryd.func28, Tryd.ntmps28
  go_wp2
  generalize w.alloc (.cells #[.int .i8 0, .int .i64 0, .bool false, .bool false, .bool false, .bool false] 96) = W0 at g0 hR hB c8 c9 k0 ⊢
  go_region_held3 (fun w' => w'.cell? ⟨3, 8, none⟩ = some (.int .i64 47) ∧ w'.cell? ⟨3, 9, none⟩ = some (.int .i64 12) ∧ w'.cell? ⟨0, 2, none⟩ = some (.int .i8 1)) (go_keep)
    (first | (go_at_call 35; refine (dget4 _ _ hx (by simp [*]) (by simp [*])).mono ?_; rintro e w1 ⟨rfl, hb⟩; have hk := keepc hb))
  have g1 : G w1 := G.call (show G W0.drew from g0) hb
  have hR1 := hR.drew.call hb
  have hB1 := bthen (bd hB) hb
  clear hk g0 hR hB hb c8 c9 k0
  have l0 := g1.2.2.1.2 1 _ rfl
  have n0 := g1.2.2.2.2 1 _ rfl
  have q0 := hR1.nat 0 (by simp)
  have q1 := hR1.nat 1 (by simp)
  have q2 := hR1.nat 2 (by simp)
  have q3 := hR1.nat 3 (by simp)
  have q4 := hR1.nat 4 (by simp)
  have q5 := hR1.nat 5 (by simp)
  have z0 := hR1.frozen 0 (by simp)
  have z1 := hR1.frozen 1 (by simp)
  have z2 := hR1.frozen 2 (by simp)
  have z3 := hR1.frozen 3 (by simp)
  have z4 := hR1.frozen 4 (by simp)
  have z5 := hR1.frozen 5 (by simp)
  simp only [List.getElem_cons_zero, List.getElem_cons_succ] at q0 q1 q2 q3 q4 q5
  go_wp2
  refine bodyPost_ret (v := .tuple #[.agg #[.int .i8 0, .int .i64 0, .bool false, .bool false, .bool false, .bool false], .int .i64 30]) (by simp [results, Tryd.results28, go_sem, q0, q1, q2, q3, q4, q5]) rfl ⟨rfl, ?_⟩
  exact bs (bs (bs (bs (bs (bs hB1 (by simp) _) (by simp) _) (by simp) _) (by simp) _) (by simp) _) (by simp) _
set_option maxHeartbeats 4000000 in
theorem dDecode_2_ok (x : Int) (w : World) (hG : G w) (hx : U64 x) (h1 : (bits .and .u64 x 1 == 0) = false) (h3 : (bits .and .u64 x 3 != 3) = false) (hn : (bits .andNot .u64 x 281474976706563 != 0) = false) (hf : fGet x 47 12 < 64) :
    Calls Tryd.prog 28 #[.int .u64 x, .int .i64 2] w fun e w' => e = .returned (.tuple #[.agg #[.int .i8 1, .int .i64 (fGet x 47 12), .bool (fGet x 10 10 == 1), .bool (fGet x 7 7 == 1), .bool (fGet x 6 6 == 1), .bool (fGet x 11 11 == 1)], .int .i64 0]) ∧ Below w.heap.size w w' := by
  have fr0 := (fGet_lt x 47 12 36 (by omega)).1
  have fr1 : fGet x 47 12 ≤ 9223372036854775807 := by have := (fGet_lt x 47 12 36 (by omega)).2; omega
  have g0 := hG.alloc (.cells #[.int .i8 0, .int .i64 0, .bool false, .bool false, .bool false, .bool false] 96)
  have hR := Arr.new w #[.int .i8 0, .int .i64 0, .bool false, .bool false, .bool false, .bool false] 96
  have hB := ba (Below.refl w.heap.size w) (.cells #[.int .i8 0, .int .i64 0, .bool false, .bool false, .bool false, .bool false] 96)
  have c8 := g0.1.2 8 _ rfl
  have c9 := g0.1.2 9 _ rfl
  have k0 := g0.2.1.2 2 _ rfl
  clear hG
  go_enter Tryd.func28, Tryd.ntmps28
  go_wp2
  generalize w.alloc (.cells #[.int .i8 0, .int .i64 0, .bool false, .bool false, .bool false, .bool false] 96) = W0 at g0 hR hB c8 c9 k0 ⊢
  go_region_held3 (fun w' => w'.cell? ⟨3, 8, none⟩ = some (.int .i64 47) ∧ w'.cell? ⟨3, 9, none⟩ = some (.int .i64 12) ∧ w'.cell? ⟨0, 2, none⟩ = some (.int .i8 1)) (go_keep)
    (first | (go_at_call 35; refine (dget4 _ _ hx (by simp [*]) (by simp [*])).mono ?_; rintro e w1 ⟨rfl, hb⟩; have hk := keepc hb))
  have g1 : G w1 := G.call (show G W0.drew from g0) hb
  have hR1 := hR.drew.call hb
  have hB1 := bthen (bd hB) hb
  clear hk g0 hR hB hb c8 c9 k0
  have l0 := g1.2.2.1.2 1 _ rfl
  have n0 := g1.2.2.2.2 1 _ rfl
  have q0 := hR1.nat 0 (by simp)
  have q1 := hR1.nat 1 (by simp)
  have q2 := hR1.nat 2 (by simp)
  have q3 := hR1.nat 3 (by simp)
  have q4 := hR1.nat 4 (by simp)
  have q5 := hR1.nat 5 (by simp)
  have z0 := hR1.frozen 0 (by simp)
  have z1 := hR1.frozen 1 (by simp)
  have z2 := hR1.frozen 2 (by simp)
  have z3 := hR1.frozen 3 (by simp)
  have z4 := hR1.frozen 4 (by simp)
  have z5 := hR1.frozen 5 (by simp)
  simp only [List.getElem_cons_zero, List.getElem_cons_succ] at q0 q1 q2 q3 q4 q5
  clear q0 q1 q2 q3 q4 q5 z0 z1 z2 z3 z4 z5
  go_wp2_with fail
  refine (dget_any x 2 10 10 _ hx g1 (by simp)).mono ?_
  rintro e w2 ⟨rfl, hb⟩
  replace g1 := g1.call hb
  replace hR1 := hR1.call hb
  replace hB1 := bthen hB1 hb
  clear hb
  clear l0 n0
  go_wp2_with fail
  refine (dget_any x 1 7 7 _ hx g1 (by simp)).mono ?_
  rintro e w3 ⟨rfl, hb⟩
  replace g1 := g1.call hb
  replace hR1 := hR1.call hb
  replace hB1 := bthen hB1 hb
  clear hb
  go_wp2_with fail
  refine (dget_any x 0 6 6 _ hx g1 (by simp)).mono ?_
  rintro e w4 ⟨rfl, hb⟩
  replace g1 := g1.call hb
  replace hR1 := hR1.call hb
  replace hB1 := bthen hB1 hb
  clear hb
  go_wp2_with fail
  refine (dget_any x 3 11 11 _ hx g1 (by simp)).mono ?_
  rintro e w5 ⟨rfl, hb⟩
  replace g1 := g1.call hb
  replace hR1 := hR1.call hb
  replace hB1 := bthen hB1 hb
  clear hb
  have q0 := hR1.nat 0 (by simp)
  have q1 := hR1.nat 1 (by simp)
  have q2 := hR1.nat 2 (by simp)
  have q3 := hR1.nat 3 (by simp)
  have q4 := hR1.nat 4 (by simp)
  have q5 := hR1.nat 5 (by simp)
  have z0 := hR1.frozen 0 (by simp)
  have z1 := hR1.frozen 1 (by simp)
  have z2 := hR1.frozen 2 (by simp)
  have z3 := hR1.frozen 3 (by simp)
  have z4 := hR1.frozen 4 (by simp)
  have z5 := hR1.frozen 5 (by simp)
  simp only [List.getElem_cons_zero, List.getElem_cons_succ] at q0 q1 q2 q3 q4 q5
  clear g1 hR1
  go_wp2_with fail
  refine bodyPost_ret (v := .tuple #[.agg #[.int .i8 1, .int .i64 (fGet x 47 12), .bool (fGet x 10 10 == 1), .bool (fGet x 7 7 == 1), .bool (fGet x 6 6 == 1), .bool (fGet x 11 11 == 1)], .int .i64 0]) (by simp [results, Tryd.results28, go_sem, q0, q1, q2, q3, q4, q5]) rfl ⟨rfl, ?_⟩
  exact bs (bs (bs (bs (bs (bs hB1 (by simp) _) (by simp) _) (by simp) _) (by simp) _) (by simp) _) (by simp) _
end Go.Proofs.YtappjiljmpgjcaaDoor
