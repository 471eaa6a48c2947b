/-
  addr.Index, Prefix and Word, and the document's Index and Prefix: what each computes (printed by gen/adidx.py out of the texts of seat a).
-/
import Derived.Test.YtappjiljmpgjcaaDoorDescDecW
import Derived.LoopTactic
import Derived.LoopN
namespace Go.Proofs.YtappjiljmpgjcaaDoor
open Go.RowKit
set_option linter.unusedVariables false
set_option linter.unusedSimpArgs false

theorem low_any (level : Int) (w : World) (h0 : 0 ≤ level) (h1 : level ≤ 3) :
    Calls Tryd.prog 39 #[.int .i64 level] w fun e w' => e = .returned (.int .i64 (9 * (3 - level))) ∧ w = w' := by
  go_enter Tryd.func39, Tryd.ntmps39
  go_wp2
  go_ret
  exact ⟨rfl, rfl⟩
def aOk (page level : Int) : Bool := decide (page < 34359738368 ∧ 0 ≤ level ∧ level ≤ 3)
theorem aOk_iff (page level : Int) : aOk page level = true ↔ page < 34359738368 ∧ 0 ≤ level ∧ level ≤ 3 := by simp [aOk]
theorem athere_any (page level : Int) (w : World) :
    Calls Tryd.prog 33 #[.int .u64 page, .int .i64 level] w fun e w' => e = .returned (.bool (aOk page level)) ∧ w = w' := by
  by_cases h0 : page < 34359738368
  · by_cases h1 : 0 ≤ level
    · by_cases h2 : level < 4
      · have e : aOk page level = true := (aOk_iff _ _).2 ⟨h0, h1, by omega⟩
        rw [e]; clear e
        go_enter Tryd.func33, Tryd.ntmps33
        go_wp2
        go_ret
        exact ⟨rfl, rfl⟩
      · have e : aOk page level = false := by rw [← Bool.not_eq_true, aOk_iff]; omega
        rw [e]; clear e
        go_enter Tryd.func33, Tryd.ntmps33
        go_wp2
        go_ret
        exact ⟨rfl, rfl⟩
    · have e : aOk page level = false := by rw [← Bool.not_eq_true, aOk_iff]; omega
      rw [e]; clear e
      go_enter Tryd.func33, Tryd.ntmps33
      go_wp2
      go_ret
      exact ⟨rfl, rfl⟩
  · have e : aOk page level = false := by rw [← Bool.not_eq_true, aOk_iff]; omega
    rw [e]; clear e
    go_enter Tryd.func33, Tryd.ntmps33
    go_wp2
    go_ret
    exact ⟨rfl, rfl⟩
theorem fGet_9 (x hi lo : Int) (hn : hi - lo = 8) : 0 ≤ fGet x hi lo ∧ fGet x hi lo ≤ 511 := by
  have := fGet_lt x hi lo 9 (by omega)
  omega
set_option maxHeartbeats 2000000 in
theorem indices_any (page : Int) (w : World) (hp : U64 page) :
    Calls Tryd.prog 34 #[.int .u64 page] w fun e w' => e = .returned (.agg #[.int .i64 (fGet page 35 27), .int .i64 (fGet page 26 18), .int .i64 (fGet page 17 9), .int .i64 (fGet page 8 0)]) ∧ Below w.heap.size w w' := by
  obtain ⟨a0, a1⟩ := fGet_9 page 35 27 (by omega)
  obtain ⟨b0, b1⟩ := fGet_9 page 26 18 (by omega)
  obtain ⟨c0, c1⟩ := fGet_9 page 17 9 (by omega)
  obtain ⟨d0, d1⟩ := fGet_9 page 8 0 (by omega)
  go_enter Tryd.func34, Tryd.ntmps34
  go_wp2
  refine wp_loop_rounds 5 ?_
  rw [rounds_succ]
  go_wp2_with (first
    | (go_at_call 39; refine (low_any _ _ (by omega) (by omega)).mono ?_; rintro e w' ⟨rfl, rfl⟩)
    | (go_at_call 38; refine (get_any _ _ _ _ hp).mono ?_; rintro e w1 ⟨rfl, hb1⟩; obtain ⟨hc1, hf1⟩ := bcell hb1; have hz1 : w.heap.size + 1 < w1.heap.size := by have := hb1.size; simp at this; omega
       have hy1 : w.heap.size < w1.heap.size := by omega))
  rw [rounds_succ]
  go_wp2_with (first
    | (go_at_call 39; refine (low_any _ _ (by omega) (by omega)).mono ?_; rintro e w' ⟨rfl, rfl⟩)
    | (go_at_call 38; refine (get_any _ _ _ _ hp).mono ?_; rintro e w2 ⟨rfl, hb2⟩; obtain ⟨hc2, hf2⟩ := bcell hb2; have hz2 : w.heap.size + 1 < w2.heap.size := by have := hb2.size; simp at this; omega
       have hy2 : w.heap.size < w2.heap.size := by omega))
  rw [rounds_succ]
  go_wp2_with (first
    | (go_at_call 39; refine (low_any _ _ (by omega) (by omega)).mono ?_; rintro e w' ⟨rfl, rfl⟩)
    | (go_at_call 38; refine (get_any _ _ _ _ hp).mono ?_; rintro e w3 ⟨rfl, hb3⟩; obtain ⟨hc3, hf3⟩ := bcell hb3; have hz3 : w.heap.size + 1 < w3.heap.size := by have := hb3.size; simp at this; omega
       have hy3 : w.heap.size < w3.heap.size := by omega))
  rw [rounds_succ]
  go_wp2_with (first
    | (go_at_call 39; refine (low_any _ _ (by omega) (by omega)).mono ?_; rintro e w' ⟨rfl, rfl⟩)
    | (go_at_call 38; refine (get_any _ _ _ _ hp).mono ?_; rintro e w4 ⟨rfl, hb4⟩; obtain ⟨hc4, hf4⟩ := bcell hb4; have hz4 : w.heap.size + 1 < w4.heap.size := by have := hb4.size; simp at this; omega
       have hy4 : w.heap.size < w4.heap.size := by omega))
  rw [rounds_succ]
  go_wp2
  refine bodyPost_ret (v := .agg #[.int .i64 (fGet page 35 27), .int .i64 (fGet page 26 18), .int .i64 (fGet page 17 9), .int .i64 (fGet page 8 0)]) ?_ rfl ⟨rfl, ?_⟩
  · have q0 : w4.cell? ⟨w.heap.size, 0, none⟩ = some (.int .i64 0) := by rw [hc4 _ _ (by simpa using hy3)]; simp [go_sem, hc3, hy2, hc2, hy1, hc1]
    have q1 : w4.cell? ⟨w.heap.size, 1, none⟩ = some (.int .i64 0) := by rw [hc4 _ _ (by simpa using hy3)]; simp [go_sem, hc3, hy2, hc2, hy1, hc1]
    have q2 : w4.cell? ⟨w.heap.size, 2, none⟩ = some (.int .i64 0) := by rw [hc4 _ _ (by simpa using hy3)]; simp [go_sem, hc3, hy2, hc2, hy1, hc1]
    have q3 : w4.cell? ⟨w.heap.size, 3, none⟩ = some (.int .i64 0) := by rw [hc4 _ _ (by simpa using hy3)]; simp [go_sem, hc3, hy2, hc2, hy1, hc1]
    clear hc1 hc2 hc3 hc4 hf1 hf2 hf3 hf4
    simp [results, Tryd.results34, go_sem, q0, q1, q2, q3]
  · exact bs (bs (bs (bs (bs (bthen (bs (bthen (bs (bthen (bs (bthen (ba (ba (Below.refl _ _) _) _) hb1) (by simp) _) hb2) (by simp) _) hb3) (by simp) _) hb4) (by simp) _) (by simp) _) (by simp) _) (by simp) _) (by simp) _
def aIdx (page level : Int) : Int := fGet page (9 * (3 - level) + 8) (9 * (3 - level))
set_option maxHeartbeats 1000000 in
theorem index_yes (page level : Int) (w : World) (hp : U64 page) (hk : aOk page level = true) :
    Calls Tryd.prog 27 #[.int .u64 page, .int .i64 level] w fun e w' => e = .returned (.tuple #[.int .i64 (aIdx page level), .int .i64 0]) ∧ Below w.heap.size w w' := by
  have HK := Lib.hid hk
  obtain ⟨h0, h1, h2⟩ := (aOk_iff _ _).1 hk
  clear hk
  have hl : level = 0 ∨ level = 1 ∨ level = 2 ∨ level = 3 := by omega
  have i0 : ∀ (W : World) (x0 x1 x2 x3 : Int), (Instr.index 112 (.agg #[.int .i64 x0, .int .i64 x1, .int .i64 x2, .int .i64 x3]) (.int .i64 0)).run Tryd.prog W = .ok (.int .i64 x0) W := fun _ _ _ _ _ => by kernel_rfl
  have i1 : ∀ (W : World) (x0 x1 x2 x3 : Int), (Instr.index 112 (.agg #[.int .i64 x0, .int .i64 x1, .int .i64 x2, .int .i64 x3]) (.int .i64 1)).run Tryd.prog W = .ok (.int .i64 x1) W := fun _ _ _ _ _ => by kernel_rfl
  have i2 : ∀ (W : World) (x0 x1 x2 x3 : Int), (Instr.index 112 (.agg #[.int .i64 x0, .int .i64 x1, .int .i64 x2, .int .i64 x3]) (.int .i64 2)).run Tryd.prog W = .ok (.int .i64 x2) W := fun _ _ _ _ _ => by kernel_rfl
  have i3 : ∀ (W : World) (x0 x1 x2 x3 : Int), (Instr.index 112 (.agg #[.int .i64 x0, .int .i64 x1, .int .i64 x2, .int .i64 x3]) (.int .i64 3)).run Tryd.prog W = .ok (.int .i64 x3) W := fun _ _ _ _ _ => by kernel_rfl
  rcases hl with rfl | rfl | rfl | rfl
  all_goals
    clear h1 h2
    go_enter Tryd.func27, Tryd.ntmps27
    go_wp2_with (first
      | (go_at_call 33; refine (athere_any _ _ _).mono ?_; rintro e w1 ⟨rfl, rfl⟩; rw [HK.out])
      | (go_at_call 34; refine (indices_any _ _ hp).mono ?_; rintro e w2 ⟨rfl, hb2⟩))
    go_ret2
    exact ⟨rfl, hb2⟩
set_option maxHeartbeats 1000000 in
theorem index_no (page level : Int) (w : World) (hk : aOk page level = false) :
    Calls Tryd.prog 27 #[.int .u64 page, .int .i64 level] w fun e w' => e = .returned (.tuple #[.int .i64 0, .int .i64 2]) ∧ Below w.heap.size w w' := by
  have HK := Lib.hid hk
  clear hk
  go_enter Tryd.func27, Tryd.ntmps27
  go_wp2_with (go_at_call 33; refine (athere_any _ _ _).mono ?_; rintro e w1 ⟨rfl, rfl⟩; rw [HK.out])
  go_ret2
  exact ⟨rfl, Below.refl _ _⟩
def aPre (page level : Int) : Int := page / 2 ^ (9 * (3 - level)).toNat
def wordOk (frame place : Int) : Bool := decide (0 ≤ frame ∧ frame ≤ 1048576 ∧ 0 ≤ place ∧ place ≤ 511)
theorem wordOk_iff (frame place : Int) : wordOk frame place = true ↔ 0 ≤ frame ∧ frame ≤ 1048576 ∧ 0 ≤ place ∧ place ≤ 511 := by simp [wordOk]
end Go.Proofs.YtappjiljmpgjcaaDoor
