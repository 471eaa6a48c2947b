/-
  Layer 20's rows: the writes that close and clear.
-/
import Derived.Test.YtaikkdlphfmgiaaDoorShRowsA
namespace Go.Proofs.YtaikkdlphfmgiaaDoor
open Go.RowKit
set_option linter.unusedVariables false
set_option linter.unusedSimpArgs false
set_option maxHeartbeats 2000000 in
theorem shClear1_any (x : Mp) (w : World) : Calls Tryd.prog 41 #[.agg #[.int .u64 x.p, .int .i64 x.f, .bool x.ro, .int .u64 x.w]] w fun e w' => e = .returned (.agg #[.int .u64 x.w, .int .u64 0]) ∧ Below w.heap.size w w' := by
  obtain ⟨xp, xf, xr, xw⟩ := x
  simp only
  go_enter Tryd.func41, Tryd.ntmps41
  go_upto_region 1 with fail
  have hA := (Arr.new w #[.int .u64 xp, .int .i64 xf, .bool xr, .int .u64 xw] 61).alloc (.cells #[.int .u64 0, .int .u64 0] 65)
  have hR := Arr.new (w.alloc (.cells #[.int .u64 xp, .int .i64 xf, .bool xr, .int .u64 xw] 61)) #[.int .u64 0, .int .u64 0] 65
  have hB := ba (ba (Below.refl w.heap.size w) (.cells #[.int .u64 xp, .int .i64 xf, .bool xr, .int .u64 xw] 61)) (.cells #[.int .u64 0, .int .u64 0] 65)
  have hS : (w.alloc (.cells #[.int .u64 xp, .int .i64 xf, .bool xr, .int .u64 xw] 61)).heap.size = w.heap.size + 1 := by simp
  rw [hS] at hR
  generalize (w.alloc (.cells #[.int .u64 xp, .int .i64 xf, .bool xr, .int .u64 xw] 61)).alloc (.cells #[.int .u64 0, .int .u64 0] 65) = W at *
  have lX : w.heap.size ≤ w.heap.size + 1 := by omega
  have HB := Lib.hid hB
  have a3 : W.cell? ⟨w.heap.size, 3, none⟩ = some (.int .u64 xw) := hA.cell 3 _ rfl
  have la := hA.lt
  have c0 : W.cell? ⟨w.heap.size + 1, 0, none⟩ = some (.int .u64 0) := hR.cell 0 _ rfl
  have c1 : W.cell? ⟨w.heap.size + 1, 1, none⟩ = some (.int .u64 0) := hR.cell 1 _ rfl
  have f0 : W.frozen? ⟨w.heap.size + 1, 0, none⟩ = false := hR.frozen 0 (by simp)
  have f1 : W.frozen? ⟨w.heap.size + 1, 1, none⟩ = false := hR.frozen 1 (by simp)
  have lR := hR.lt
  clear hA hR hB hS
  go_wp2_with fail
  refine bodyPost_ret (v := .agg #[.int .u64 xw, .int .u64 0]) (by simp [results, Tryd.results41, go_sem, c0, c1]) rfl ⟨rfl, ?_⟩
  exact bs (bs HB.out lX _) lX _
set_option maxHeartbeats 4000000 in
theorem shClose1_any (x : Mp) (w : World) (hG : G w) : Calls Tryd.prog 39 #[.agg #[.int .u64 x.p, .int .i64 x.f, .bool x.ro, .int .u64 x.w]] w fun e w' => e = .returned (.agg #[.int .u64 x.w, .int .u64 (lfV x.f)]) ∧ Below w.heap.size w w' := by
  have HG := Lib.hid hG
  clear hG
  obtain ⟨xp, xf, xr, xw⟩ := x
  simp only
  go_enter Tryd.func39, Tryd.ntmps39
  go_upto_region 1 with fail
  have hA := (Arr.new w #[.int .u64 xp, .int .i64 xf, .bool xr, .int .u64 xw] 61).alloc (.cells #[.int .u64 0, .int .u64 0] 65)
  have hR := Arr.new (w.alloc (.cells #[.int .u64 xp, .int .i64 xf, .bool xr, .int .u64 xw] 61)) #[.int .u64 0, .int .u64 0] 65
  have hB := ba (ba (Below.refl w.heap.size w) (.cells #[.int .u64 xp, .int .i64 xf, .bool xr, .int .u64 xw] 61)) (.cells #[.int .u64 0, .int .u64 0] 65)
  have hS : (w.alloc (.cells #[.int .u64 xp, .int .i64 xf, .bool xr, .int .u64 xw] 61)).heap.size = w.heap.size + 1 := by simp
  rw [hS] at hR
  generalize (w.alloc (.cells #[.int .u64 xp, .int .i64 xf, .bool xr, .int .u64 xw] 61)).alloc (.cells #[.int .u64 0, .int .u64 0] 65) = W at *
  have lX : w.heap.size ≤ w.heap.size + 1 := by omega
  have HB := Lib.hid hB
  have HR := Lib.hid hR
  have a1 : W.cell? ⟨w.heap.size, 1, none⟩ = some (.int .i64 xf) := hA.cell 1 _ rfl
  have a3 : W.cell? ⟨w.heap.size, 3, none⟩ = some (.int .u64 xw) := hA.cell 3 _ rfl
  have la := hA.lt
  have c0 : W.cell? ⟨w.heap.size + 1, 0, none⟩ = some (.int .u64 0) := hR.cell 0 _ rfl
  have c1 : W.cell? ⟨w.heap.size + 1, 1, none⟩ = some (.int .u64 0) := hR.cell 1 _ rfl
  have f0 : W.frozen? ⟨w.heap.size + 1, 0, none⟩ = false := hR.frozen 0 (by simp)
  have f1 : W.frozen? ⟨w.heap.size + 1, 1, none⟩ = false := hR.frozen 1 (by simp)
  have lR := hR.lt
  clear hA hR hB hS
  go_region_held3 (fun w' => Below w.heap.size w w' ∧ w'.cell? ⟨w.heap.size, 1, none⟩ = some (.int .i64 xf) ∧ w'.cell? ⟨w.heap.size, 3, none⟩ = some (.int .u64 xw))
    (first | (exact ⟨HB.out.drew, a1, a3⟩) | (exact ⟨HBr.out, k1, k3⟩) | (exact ⟨bs (bs HBr.out lX _) lX _, by rw [World.cell?_setCell_other _ _ _ _ (by simp), World.cell?_setCell_other _ _ _ _ (by simp)]; exact k1, by rw [World.cell?_setCell_other _ _ _ _ (by simp), World.cell?_setCell_other _ _ _ _ (by simp)]; exact k3⟩))
    (first | (go_at_call 40; refine (tabLeaf_any xf _ (HG.out.call HB.out.drew)).mono ?_; rintro e wz ⟨rfl, hbz⟩; have HBr := Lib.hid (show Below w.heap.size w wz from (bthen HB.out.drew hbz)); have k1 := (hbz.cell (p := ⟨w.heap.size, 1, none⟩) la).trans a1; have k3 := (hbz.cell (p := ⟨w.heap.size, 3, none⟩) la).trans a3; have d0 := (hbz.cell (p := ⟨w.heap.size + 1, 0, none⟩) lR).trans c0; have d1 := (hbz.cell (p := ⟨w.heap.size + 1, 1, none⟩) lR).trans c1; have g0 := (hbz.frozen (p := ⟨w.heap.size + 1, 0, none⟩) lR).trans f0; have g1 := (hbz.frozen (p := ⟨w.heap.size + 1, 1, none⟩) lR).trans f1; have lR2 := Nat.lt_of_lt_of_le lR hbz.size))
  all_goals
    go_wp2_with fail
    refine bodyPost_ret (v := .agg #[.int .u64 xw, .int .u64 (lfV xf)]) (by simp [results, Tryd.results39, go_sem, d0, d1]) rfl ⟨rfl, ?_⟩
    exact bs (bs HBr.out lX _) lX _
end Go.Proofs.YtaikkdlphfmgiaaDoor
