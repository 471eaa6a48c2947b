/-
  desc.page, desc.Touch, desc.Differ: their walks.
-/
import Derived.Test.YtlmfmpmcgokbeaaDoorDescPlain
import Derived.RegionTactic
namespace Go.Proofs.YtlmfmpmcgokbeaaDoor
open Go.RowKit
set_option linter.unusedVariables false
set_option linter.unusedSimpArgs false

theorem page_bits (x : Int) : (good x 3 = true ∧ (de x 3 == 0) = true ∧ (dk x 3 == 2) = true) ∨ (good x 3 = false ∧ (de x 3 == 0) = true ∧ (dk x 3 == 2) = false) ∨ (good x 3 = false ∧ (de x 3 == 0) = false) := by
  have hl : lvl 3 = true := by decide
  rcases hg : good x 3 with _ | _
  · have hw : wOk (kdOf 3) x = false := by simpa [good, hl] using hg
    have hdk : dk x 3 = 0 := by simp [dk, hg]
    by_cases he : x % 2 = 0
    · refine .inr (.inl ⟨rfl, ?_, ?_⟩)
      · simp [de, hl, he]
      · rw [hdk]; rfl
    · refine .inr (.inr ⟨rfl, ?_⟩)
      simp [de, hl, he, hw]
  · have hw : wOk (kdOf 3) x = true := by simpa [good, hl] using hg
    have := (wOk_odd hw).1
    refine .inl ⟨rfl, ?_, ?_⟩
    · have he : ¬ x % 2 = 0 := by omega
      simp [de, hl, he, hw]
    · have : dk x 3 = 2 := by simp [dk, hg, kdOf]
      rw [this]; rfl
set_option maxHeartbeats 4000000 in
theorem dpage_any (x : Int) (w : World) (hG : G w) (hx : U64 x) :
    Calls Tryd.prog 16 #[.int .u64 x] w fun e w' => e = .returned (.tuple #[.agg #[.int .i8 (dk x 3), .int .i64 (df x 3), .bool (dfl x 3 10), .bool (dfl x 3 7), .bool (dfl x 3 6), .bool (dfl x 3 11)], .bool (good x 3)]) ∧ Below w.heap.size w w' := by
  have g0 := hG.alloc (.cells #[.int .i8 0, .int .i64 0, .bool false, .bool false, .bool false, .bool false] 27)
  have hR := Arr.new w #[.int .i8 0, .int .i64 0, .bool false, .bool false, .bool false, .bool false] 27
  have hB := ba (Below.refl w.heap.size w) (.cells #[.int .i8 0, .int .i64 0, .bool false, .bool false, .bool false, .bool false] 27)
  have hcs := page_bits x
  go_enter Tryd.func16, Tryd.ntmps16
  go_wp2_with fail
  refine (dDecode_any x 3 _ g0 hx).mono ?_
  rintro e w1 ⟨rfl, hb⟩
  replace hR := hR.call hb
  replace hB := bthen hB hb
  clear hb g0 hG
  have f0 := hR.lt
  have f1 : w.heap.size ≠ w1.heap.size := by omega
  have q0 := hR.nat 0 (by simp)
  have q1 := hR.nat 1 (by simp)
  have q2 := hR.nat 2 (by simp)
  have q3 := hR.nat 3 (by simp)
  have q4 := hR.nat 4 (by simp)
  have q5 := hR.nat 5 (by simp)
  have z0 := hR.frozen 0 (by simp)
  have z1 := hR.frozen 1 (by simp)
  have z2 := hR.frozen 2 (by simp)
  have z3 := hR.frozen 3 (by simp)
  have z4 := hR.frozen 4 (by simp)
  have z5 := hR.frozen 5 (by simp)
  simp only [List.getElem_cons_zero, List.getElem_cons_succ] at q0 q1 q2 q3 q4 q5
  rcases hcs with ⟨hg, h1, h2⟩ | ⟨hg, h1, h2⟩ | ⟨hg, h1⟩
  · have HG := Lib.hid hg
    clear hg
    go_wp2
    go_region
    go_wp2
    have hF := (((((((hR.set 0 (by simp) (.int .i8 (dk x 3))).set 1 (by simp) (.int .i64 (df x 3))).set 2 (by simp) (.bool (dfl x 3 10))).set 3 (by simp) (.bool (dfl x 3 7))).set 4 (by simp) (.bool (dfl x 3 6))).set 5 (by simp) (.bool (dfl x 3 11))).alloc (.cells #[.int .i8 (dk x 3), .int .i64 (df x 3), .bool (dfl x 3 10), .bool (dfl x 3 7), .bool (dfl x 3 6), .bool (dfl x 3 11)] 27)).drew
    have hBF := bd (ba (bs (bs (bs (bs (bs (bs hB (p := ⟨w.heap.size, 0, none⟩) (Nat.le_refl _) (.int .i8 (dk x 3))) (p := ⟨w.heap.size, 1, none⟩) (Nat.le_refl _) (.int .i64 (df x 3))) (p := ⟨w.heap.size, 2, none⟩) (Nat.le_refl _) (.bool (dfl x 3 10))) (p := ⟨w.heap.size, 3, none⟩) (Nat.le_refl _) (.bool (dfl x 3 7))) (p := ⟨w.heap.size, 4, none⟩) (Nat.le_refl _) (.bool (dfl x 3 6))) (p := ⟨w.heap.size, 5, none⟩) (Nat.le_refl _) (.bool (dfl x 3 11))) (.cells #[.int .i8 (dk x 3), .int .i64 (df x 3), .bool (dfl x 3 10), .bool (dfl x 3 7), .bool (dfl x 3 6), .bool (dfl x 3 11)] 27))
    generalize (((((((w1.setCell ⟨w.heap.size, 0, none⟩ (.int .i8 (dk x 3))).setCell ⟨w.heap.size, 1, none⟩ (.int .i64 (df x 3))).setCell ⟨w.heap.size, 2, none⟩ (.bool (dfl x 3 10))).setCell ⟨w.heap.size, 3, none⟩ (.bool (dfl x 3 7))).setCell ⟨w.heap.size, 4, none⟩ (.bool (dfl x 3 6))).setCell ⟨w.heap.size, 5, none⟩ (.bool (dfl x 3 11))).alloc (.cells #[.int .i8 (dk x 3), .int .i64 (df x 3), .bool (dfl x 3 10), .bool (dfl x 3 7), .bool (dfl x 3 6), .bool (dfl x 3 11)] 27)).drew = W' at hF hBF ⊢
    simp only [List.set_cons_zero, List.set_cons_succ] at hF
    have r0 := hF.cell 0 _ rfl
    have r1 := hF.cell 1 _ rfl
    have r2 := hF.cell 2 _ rfl
    have r3 := hF.cell 3 _ rfl
    have r4 := hF.cell 4 _ rfl
    have r5 := hF.cell 5 _ rfl
    refine bodyPost_ret (v := .tuple #[.agg #[.int .i8 (dk x 3), .int .i64 (df x 3), .bool (dfl x 3 10), .bool (dfl x 3 7), .bool (dfl x 3 6), .bool (dfl x 3 11)], .bool true]) (by simp [results, Tryd.results16, go_sem, r0, r1, r2, r3, r4, r5]) rfl ⟨by rw [HG.out], ?_⟩
    exact hBF
  · have HG := Lib.hid hg
    clear hg
    go_wp2
    go_region
    go_wp2
    have hF := (((((((hR.set 0 (by simp) (.int .i8 (dk x 3))).set 1 (by simp) (.int .i64 (df x 3))).set 2 (by simp) (.bool (dfl x 3 10))).set 3 (by simp) (.bool (dfl x 3 7))).set 4 (by simp) (.bool (dfl x 3 6))).set 5 (by simp) (.bool (dfl x 3 11))).alloc (.cells #[.int .i8 (dk x 3), .int .i64 (df x 3), .bool (dfl x 3 10), .bool (dfl x 3 7), .bool (dfl x 3 6), .bool (dfl x 3 11)] 27)).drew
    have hBF := bd (ba (bs (bs (bs (bs (bs (bs hB (p := ⟨w.heap.size, 0, none⟩) (Nat.le_refl _) (.int .i8 (dk x 3))) (p := ⟨w.heap.size, 1, none⟩) (Nat.le_refl _) (.int .i64 (df x 3))) (p := ⟨w.heap.size, 2, none⟩) (Nat.le_refl _) (.bool (dfl x 3 10))) (p := ⟨w.heap.size, 3, none⟩) (Nat.le_refl _) (.bool (dfl x 3 7))) (p := ⟨w.heap.size, 4, none⟩) (Nat.le_refl _) (.bool (dfl x 3 6))) (p := ⟨w.heap.size, 5, none⟩) (Nat.le_refl _) (.bool (dfl x 3 11))) (.cells #[.int .i8 (dk x 3), .int .i64 (df x 3), .bool (dfl x 3 10), .bool (dfl x 3 7), .bool (dfl x 3 6), .bool (dfl x 3 11)] 27))
    generalize (((((((w1.setCell ⟨w.heap.size, 0, none⟩ (.int .i8 (dk x 3))).setCell ⟨w.heap.size, 1, none⟩ (.int .i64 (df x 3))).setCell ⟨w.heap.size, 2, none⟩ (.bool (dfl x 3 10))).setCell ⟨w.heap.size, 3, none⟩ (.bool (dfl x 3 7))).setCell ⟨w.heap.size, 4, none⟩ (.bool (dfl x 3 6))).setCell ⟨w.heap.size, 5, none⟩ (.bool (dfl x 3 11))).alloc (.cells #[.int .i8 (dk x 3), .int .i64 (df x 3), .bool (dfl x 3 10), .bool (dfl x 3 7), .bool (dfl x 3 6), .bool (dfl x 3 11)] 27)).drew = W' at hF hBF ⊢
    simp only [List.set_cons_zero, List.set_cons_succ] at hF
    have r0 := hF.cell 0 _ rfl
    have r1 := hF.cell 1 _ rfl
    have r2 := hF.cell 2 _ rfl
    have r3 := hF.cell 3 _ rfl
    have r4 := hF.cell 4 _ rfl
    have r5 := hF.cell 5 _ rfl
    refine bodyPost_ret (v := .tuple #[.agg #[.int .i8 (dk x 3), .int .i64 (df x 3), .bool (dfl x 3 10), .bool (dfl x 3 7), .bool (dfl x 3 6), .bool (dfl x 3 11)], .bool false]) (by simp [results, Tryd.results16, go_sem, r0, r1, r2, r3, r4, r5]) rfl ⟨by rw [HG.out], ?_⟩
    exact hBF
  · have HG := Lib.hid hg
    clear hg
    go_wp2
    go_region
    go_wp2
    have hF := (((((((hR.set 0 (by simp) (.int .i8 (dk x 3))).set 1 (by simp) (.int .i64 (df x 3))).set 2 (by simp) (.bool (dfl x 3 10))).set 3 (by simp) (.bool (dfl x 3 7))).set 4 (by simp) (.bool (dfl x 3 6))).set 5 (by simp) (.bool (dfl x 3 11))).alloc (.cells #[.int .i8 (dk x 3), .int .i64 (df x 3), .bool (dfl x 3 10), .bool (dfl x 3 7), .bool (dfl x 3 6), .bool (dfl x 3 11)] 27)).drew
    have hBF := bd (ba (bs (bs (bs (bs (bs (bs hB (p := ⟨w.heap.size, 0, none⟩) (Nat.le_refl _) (.int .i8 (dk x 3))) (p := ⟨w.heap.size, 1, none⟩) (Nat.le_refl _) (.int .i64 (df x 3))) (p := ⟨w.heap.size, 2, none⟩) (Nat.le_refl _) (.bool (dfl x 3 10))) (p := ⟨w.heap.size, 3, none⟩) (Nat.le_refl _) (.bool (dfl x 3 7))) (p := ⟨w.heap.size, 4, none⟩) (Nat.le_refl _) (.bool (dfl x 3 6))) (p := ⟨w.heap.size, 5, none⟩) (Nat.le_refl _) (.bool (dfl x 3 11))) (.cells #[.int .i8 (dk x 3), .int .i64 (df x 3), .bool (dfl x 3 10), .bool (dfl x 3 7), .bool (dfl x 3 6), .bool (dfl x 3 11)] 27))
    generalize (((((((w1.setCell ⟨w.heap.size, 0, none⟩ (.int .i8 (dk x 3))).setCell ⟨w.heap.size, 1, none⟩ (.int .i64 (df x 3))).setCell ⟨w.heap.size, 2, none⟩ (.bool (dfl x 3 10))).setCell ⟨w.heap.size, 3, none⟩ (.bool (dfl x 3 7))).setCell ⟨w.heap.size, 4, none⟩ (.bool (dfl x 3 6))).setCell ⟨w.heap.size, 5, none⟩ (.bool (dfl x 3 11))).alloc (.cells #[.int .i8 (dk x 3), .int .i64 (df x 3), .bool (dfl x 3 10), .bool (dfl x 3 7), .bool (dfl x 3 6), .bool (dfl x 3 11)] 27)).drew = W' at hF hBF ⊢
    simp only [List.set_cons_zero, List.set_cons_succ] at hF
    have r0 := hF.cell 0 _ rfl
    have r1 := hF.cell 1 _ rfl
    have r2 := hF.cell 2 _ rfl
    have r3 := hF.cell 3 _ rfl
    have r4 := hF.cell 4 _ rfl
    have r5 := hF.cell 5 _ rfl
    refine bodyPost_ret (v := .tuple #[.agg #[.int .i8 (dk x 3), .int .i64 (df x 3), .bool (dfl x 3 10), .bool (dfl x 3 7), .bool (dfl x 3 6), .bool (dfl x 3 11)], .bool false]) (by simp [results, Tryd.results16, go_sem, r0, r1, r2, r3, r4, r5]) rfl ⟨by rw [HG.out], ?_⟩
    exact hBF
def tch (x : Int) : Bool := good x 3 && !dfl x 3 10
theorem or_1024 (x : Int) (hx : U64 x) (h : tch x = true) : bits .or .u64 x 1024 = x + 1024 ∧ U64 (x + 1024) := by
  simp only [tch, Bool.and_eq_true, Bool.not_eq_true'] at h
  obtain ⟨hg, h10⟩ := h
  have hw : wOk 2 x = true := by
    have : good x 3 = wOk 2 x := by simp [good, lvl, kdOf]
    rw [← this]; exact hg
  obtain ⟨e, f0, f1⟩ := wOk_word2 hx hw
  have e10 : (fGet x 10 10 == 1) = false := by simpa [dfl, hg] using h10
  rw [e10] at e
  obtain ⟨n, hn⟩ := fin_of f0 f1
  rw [hn] at e
  have key : ∀ (f : Fin 64) (ro us ng : Bool), bits .or .u64 (wordV f.val false ro us ng) 1024 = wordV f.val false ro us ng + 1024 := by decide +kernel
  have kk := key n (fGet x 7 7 == 1) (fGet x 6 6 == 1) (fGet x 11 11 == 1)
  rw [← e] at kk
  refine ⟨kk, ?_⟩
  have : x < 1000000 := by
    rw [e]
    unfold wordV bI
    have := n.isLt
    split <;> split <;> split <;> split <;> omega
  exact ⟨by have := hx.1; omega, by omega⟩
set_option maxHeartbeats 4000000 in
theorem dTouch_yes (x : Int) (w : World) (hG : G w) (hx : U64 x) (h : tch x = true) :
    Calls Tryd.prog 7 #[.int .u64 x] w fun e w' => e = .returned (.tuple #[.int .u64 (x + 1024), .bool true]) ∧ Below w.heap.size w w' := by
  have HV := Lib.hid (or_1024 x hx h).1
  simp only [tch, Bool.and_eq_true, Bool.not_eq_true'] at h
  have H1 := Lib.hid h.1
  have H2 := Lib.hid h.2
  clear h
  go_enter Tryd.func7, Tryd.ntmps7
  go_wp2_with fail
  refine (dpage_any x _ hG hx).mono ?_
  rintro e w1 ⟨rfl, hb⟩
  rw [H1.out, H2.out]
  have p5 := (hG.call hb).1.2 5 _ rfl
  have q5 : ∀ o : Obj, (w1.alloc o).cell? ⟨0, 5, none⟩ = some (.int .i64 10) := fun o => ((hG.call hb).alloc o).1.2 5 _ rfl
  clear hG
  go_wp2_with fail
  go_ret2
  exact ⟨by rw [← HV.out]; rfl, by repeat (first | exact hb | apply bd | apply ba)⟩
set_option maxHeartbeats 4000000 in
theorem dTouch_no (x : Int) (w : World) (hG : G w) (hx : U64 x) (h : tch x = false) :
    Calls Tryd.prog 7 #[.int .u64 x] w fun e w' => e = .returned (.tuple #[.int .u64 x, .bool false]) ∧ Below w.heap.size w w' := by
  rcases h1 : good x 3 with _ | _
  · have H1 := Lib.hid h1
    clear h h1
    go_enter Tryd.func7, Tryd.ntmps7
    go_wp2_with fail
    refine (dpage_any x _ hG hx).mono ?_
    rintro e w1 ⟨rfl, hb⟩
    rw [H1.out]
    clear hG
    go_wp2_with fail
    go_ret2
    exact ⟨rfl, by repeat (first | exact hb | apply bd | apply ba)⟩
  · have h2 : dfl x 3 10 = true := by simpa [tch, h1] using h
    have H1 := Lib.hid h1
    have H2 := Lib.hid h2
    clear h h1 h2
    go_enter Tryd.func7, Tryd.ntmps7
    go_wp2_with fail
    refine (dpage_any x _ hG hx).mono ?_
    rintro e w1 ⟨rfl, hb⟩
    rw [H1.out, H2.out]
    clear hG
    go_wp2_with fail
    go_ret2
    exact ⟨rfl, by repeat (first | exact hb | apply bd | apply ba)⟩
def dif (x y : Int) : Bool := good x 3 && (good y 3 && (df x 3 != df y 3))
set_option maxHeartbeats 4000000 in
theorem dDiffer_any (x y : Int) (w : World) (hG : G w) (hx : U64 x) (hy : U64 y) :
    Calls Tryd.prog 9 #[.int .u64 x, .int .u64 y] w fun e w' => e = .returned (.bool (dif x y)) ∧ Below w.heap.size w w' := by
  rcases h1 : good x 3 with _ | _ <;> rcases h2 : good y 3 with _ | _
  all_goals
    have H1 := Lib.hid h1
    have H2 := Lib.hid h2
    have HR := Lib.hid (show dif x y = (good x 3 && (good y 3 && (df x 3 != df y 3))) from rfl)
    rw [h1, h2] at HR
    clear h1 h2
    go_enter Tryd.func9, Tryd.ntmps9
    go_wp2_with fail
    refine (dpage_any x _ hG hx).mono ?_
    rintro e w1 ⟨rfl, hb1⟩
    rw [H1.out]
    have g1 := (hG.call hb1).alloc (.cells #[.int .i8 (dk x 3), .int .i64 (df x 3), .bool (dfl x 3 10), .bool (dfl x 3 7), .bool (dfl x 3 6), .bool (dfl x 3 11)] 27)
    have hR := Arr.new w1 #[.int .i8 (dk x 3), .int .i64 (df x 3), .bool (dfl x 3 10), .bool (dfl x 3 7), .bool (dfl x 3 6), .bool (dfl x 3 11)] 27
    go_wp2_with fail
    refine (dpage_any y _ g1 hy).mono ?_
    rintro e w2 ⟨rfl, hb2⟩
    rw [H2.out]
    replace hR := hR.call hb2
    have q1 := hR.cell 1 _ rfl
    have f0 := hR.lt
    have f1 : w1.heap.size ≠ w2.heap.size := by omega
    clear g1 hG hR
    go_wp2_with fail
    go_ret
    exact ⟨ret_bool (by rw [HR.out]; simp), by repeat (first | exact hb1 | (refine bthen ?_ hb2) | apply bd | apply ba)⟩
end Go.Proofs.YtlmfmpmcgokbeaaDoor
