/-
  What a word is as a descriptor, and back: plain arithmetic; and desc.Decode by it.
  desc.page, desc.Touch, desc.Differ: their walks.
  The walks of the laws' own 'wakes' of layer 3 and of the law DescTouch.
  The law DescBack of layer 3.
  The law DescOne of layer 3: the walk.
-/
import Derived.Test.YtgdkkhdhomehdaaDoorMwC
import Derived.Test.YtgdkkhdhomehdaaDoorMwD
import Derived.RegionTactic
import Derived.Laws.StructEq
import Derived.Deep.RegionHeld
namespace Go.Proofs.YtgdkkhdhomehdaaDoor
section
open Go.RowKit
set_option linter.unusedVariables false
set_option linter.unusedSimpArgs false

def lvl (l : Int) : Bool := decide (0 ≤ l ∧ l ≤ 3)
def kdOf (l : Int) : Int := if l = 3 then 2 else 1
def good (x l : Int) : Bool := lvl l && wOk (kdOf l) x
def dk (x l : Int) : Int := if good x l then kdOf l else 0
def df (x l : Int) : Int := if good x l then fGet x 47 12 else 0
def dfl (x l hi : Int) : Bool := good x l && (fGet x hi hi == 1)
def de (x l : Int) : Int := if lvl l then (if x % 2 = 0 then 0 else if wOk (kdOf l) x then 0 else 30) else 2
theorem wOk_odd {kd x : Int} (h : wOk kd x = true) : x % 2 = 1 ∧ x % 4 = 3 := by
  have : x % 4 = 3 := by
    simp only [wOk, Bool.and_eq_true] at h
    simpa using h.1
  omega
theorem zero_of {x l : Int} (h : good x l = false) : dk x l = 0 ∧ df x l = 0 ∧ ∀ hi, dfl x l hi = false := by
  simp [dk, df, dfl, h]
theorem dDecode_any (x l : Int) (w : World) (hG : G w) (hx : U64 x) :
    Calls Tryd.prog 38 #[.int .u64 x, .int .i64 l] w fun e w' => e = .returned (.tuple #[.agg #[.int .i8 (dk x l), .int .i64 (df x l), .bool (dfl x l 10), .bool (dfl x l 7), .bool (dfl x l 6), .bool (dfl x l 11)], .int .i64 (de x l)]) ∧ Below w.heap.size w w' := by
  by_cases hl : 0 ≤ l ∧ l ≤ 3
  · have hlv : lvl l = true := by simp [lvl, hl]
    by_cases he : x % 2 = 0
    · have hg : good x l = false := by
        rcases hw : wOk (kdOf l) x with _ | _
        · simp [good, hw]
        · have := (wOk_odd hw).1; omega
      obtain ⟨z1, z2, z3⟩ := zero_of hg
      have z4 : de x l = 0 := by simp [de, hlv, he]
      rw [z1, z2, z3, z3, z3, z3, z4]
      exact dDecode_even x l w hx hl.1 hl.2 he
    · have h1 : (bits .and .u64 x 1 == 0) = false := by rw [and1 x hx]; simp; omega
      have hl' : l = 0 ∨ l = 1 ∨ l = 2 ∨ l = 3 := by omega
      have a3 := and3' x hx
      rcases hw : wOk (kdOf l) x with _ | _
      · have hg : good x l = false := by simp [good, hw]
        obtain ⟨z1, z2, z3⟩ := zero_of hg
        have z4 : de x l = 30 := by simp [de, hlv, he, hw]
        rw [z1, z2, z3, z3, z3, z3, z4]
        clear hg z1 z2 z3 z4
        simp only [wOk, ← a3] at hw
        rcases h3 : (bits .and .u64 x 3 != 3) with _ | _
        · rcases hl' with rfl | rfl | rfl | rfl
          · rcases hn : (bits .andNot .u64 x 281474976706563 != 0) with _ | _
            · exact dDecode_0_bf x w hG hx h1 h3 hn (by simpa [h3, nmd, kdOf, hn] using hw)
            · exact dDecode_0_bn x w hG hx h1 h3 hn
          · rcases hn : (bits .andNot .u64 x 281474976706563 != 0) with _ | _
            · exact dDecode_1_bf x w hG hx h1 h3 hn (by simpa [h3, nmd, kdOf, hn] using hw)
            · exact dDecode_1_bn x w hG hx h1 h3 hn
          · rcases hn : (bits .andNot .u64 x 281474976706563 != 0) with _ | _
            · exact dDecode_2_bf x w hG hx h1 h3 hn (by simpa [h3, nmd, kdOf, hn] using hw)
            · exact dDecode_2_bn x w hG hx h1 h3 hn
          · rcases hn : (bits .andNot .u64 x 281474976709827 != 0) with _ | _
            · exact dDecode_3_bf x w hG hx h1 h3 hn (by simpa [h3, nmd, kdOf, hn] using hw)
            · exact dDecode_3_bn x w hG hx h1 h3 hn
        · rcases hl' with rfl | rfl | rfl | rfl
          · exact dDecode_0_b3 x w hG hx h1 h3
          · exact dDecode_1_b3 x w hG hx h1 h3
          · exact dDecode_2_b3 x w hG hx h1 h3
          · exact dDecode_3_b3 x w hG hx h1 h3
      · have hg : good x l = true := by simp [good, hw, hlv]
        have z4 : de x l = 0 := by simp [de, hlv, he, hw]
        have z1 : dk x l = kdOf l := by simp [dk, hg]
        have z2 : df x l = fGet x 47 12 := by simp [df, hg]
        have z3 : ∀ hi, dfl x l hi = (fGet x hi hi == 1) := by simp [dfl, hg]
        rw [z1, z2, z3, z3, z3, z3, z4]
        clear hg z1 z2 z3 z4
        simp only [wOk, ← a3, Bool.and_eq_true, Bool.not_eq_true', decide_eq_false_iff_not, Int.not_le] at hw
        obtain ⟨h3, hn, hf⟩ := hw
        rcases hl' with rfl | rfl | rfl | rfl
        · exact dDecode_0_ok x w hG hx h1 h3 hn hf
        · exact dDecode_1_ok x w hG hx h1 h3 hn hf
        · exact dDecode_2_ok x w hG hx h1 h3 hn hf
        · exact dDecode_3_ok x w hG hx h1 h3 hn hf
  · have hlv : lvl l = false := by simp only [lvl, decide_eq_false_iff_not]; exact hl
    have hg : good x l = false := by simp [good, hlv]
    obtain ⟨z1, z2, z3⟩ := zero_of hg
    have z4 : de x l = 2 := by simp [de, hlv]
    rw [z1, z2, z3, z3, z3, z3, z4]
    exact dDecode_level x l w (by omega)

/-! ### words and back -/
theorem word_back3 : ∀ (f : Fin 64) (af ro us ng : Bool), good (wordV f.val af ro us ng) 3 = true ∧ df (wordV f.val af ro us ng) 3 = f.val ∧ dfl (wordV f.val af ro us ng) 3 10 = af ∧ dfl (wordV f.val af ro us ng) 3 7 = ro ∧ dfl (wordV f.val af ro us ng) 3 6 = us ∧ dfl (wordV f.val af ro us ng) 3 11 = ng := by decide +kernel
theorem word_back1 : ∀ (f : Fin 64), wOk 1 (wordV f.val false false false false) = true ∧ fGet (wordV f.val false false false false) 47 12 = f.val ∧ fGet (wordV f.val false false false false) 10 10 = 0 ∧ fGet (wordV f.val false false false false) 7 7 = 0 ∧ fGet (wordV f.val false false false false) 6 6 = 0 ∧ fGet (wordV f.val false false false false) 11 11 = 0 := by decide +kernel
theorem bI_eq (n : Int) (h : n = 0 ∨ n = 1) : bI (n == 1) = n := by rcases h with rfl | rfl <;> rfl
theorem get_nat_val (x h l : Nat) (h1 : l ≤ h) (h2 : h ≤ 63) : fGet x h l = ((x / 2 ^ l % 2 ^ (h - l + 1) : Nat) : Int) := fGet_nat x h l h1 h2
theorem fields (x : Nat) : fGet x 47 12 = ((x / 4096 % 68719476736 : Nat) : Int) ∧ fGet x 6 6 = ((x / 64 % 2 : Nat) : Int) ∧ fGet x 7 7 = ((x / 128 % 2 : Nat) : Int) ∧ fGet x 10 10 = ((x / 1024 % 2 : Nat) : Int) ∧ fGet x 11 11 = ((x / 2048 % 2 : Nat) : Int) :=
  ⟨get_nat_val x 47 12 (by omega) (by omega), get_nat_val x 6 6 (by omega) (by omega), get_nat_val x 7 7 (by omega) (by omega), get_nat_val x 10 10 (by omega) (by omega), get_nat_val x 11 11 (by omega) (by omega)⟩
theorem wOk_word2 {x : Int} (hx : U64 x) (h : wOk 2 x = true) : x = wordV (fGet x 47 12) (fGet x 10 10 == 1) (fGet x 7 7 == 1) (fGet x 6 6 == 1) (fGet x 11 11 == 1) ∧ 0 ≤ fGet x 47 12 ∧ fGet x 47 12 ≤ 63 := by
  obtain ⟨x, rfl, hx'⟩ := u64_nat hx
  obtain ⟨e1, e2, e3, e4, e5⟩ := fields x
  have h3 := (wOk_odd h).2
  simp only [wOk, nmd, Bool.and_eq_true, Bool.not_eq_true', decide_eq_false_iff_not, Int.not_le, bne_eq_false_iff_eq] at h
  obtain ⟨_, hn, hf⟩ := h
  have hn' := (named2_iff x hx').1 (by simpa using hn)
  unfold wordV
  rw [e1] at hf ⊢
  rw [e2, e3, e4, e5, bI_eq _ (by omega), bI_eq _ (by omega), bI_eq _ (by omega), bI_eq _ (by omega)]
  omega
theorem wOk_word1 {x : Int} (hx : U64 x) (h : wOk 1 x = true) : x = wordV (fGet x 47 12) false false false false ∧ 0 ≤ fGet x 47 12 ∧ fGet x 47 12 ≤ 63 ∧ fGet x 10 10 = 0 ∧ fGet x 7 7 = 0 ∧ fGet x 6 6 = 0 ∧ fGet x 11 11 = 0 := by
  obtain ⟨x, rfl, hx'⟩ := u64_nat hx
  obtain ⟨e1, e2, e3, e4, e5⟩ := fields x
  have h3 := (wOk_odd h).2
  simp only [wOk, nmd, Bool.and_eq_true, Bool.not_eq_true', decide_eq_false_iff_not, Int.not_le, bne_eq_false_iff_eq] at h
  obtain ⟨_, hn, hf⟩ := h
  have hn' := (named1_iff x hx').1 (by simpa using hn)
  unfold wordV
  simp only [bI, if_false, Bool.false_eq_true]
  rw [e1] at hf ⊢
  rw [e2, e3, e4, e5]
  omega
end
section
open Go.RowKit
set_option linter.unusedVariables false
set_option linter.unusedSimpArgs false

theorem page_bits (x : Int) : (good x 3 = true ∧ (de x 3 == 0) = true ∧ (dk x 3 == 2) = true) ∨ (good x 3 = false ∧ (de x 3 == 0) = true ∧ (dk x 3 == 2) = false) ∨ (good x 3 = false ∧ (de x 3 == 0) = false) := by
  have hl : lvl 3 = true := by decide
  rcases hg : good x 3 with _ | _
  · have hw : wOk (kdOf 3) x = false := by simpa [good, hl] using hg
    have hdk : dk x 3 = 0 := by simp [dk, hg]
    by_cases he : x % 2 = 0
    · refine .inr (.inl ⟨rfl, ?_, ?_⟩)
      · simp [de, hl, he]
      · rw [hdk]; rfl
    · refine .inr (.inr ⟨rfl, ?_⟩)
      simp [de, hl, he, hw]
  · have hw : wOk (kdOf 3) x = true := by simpa [good, hl] using hg
    have := (wOk_odd hw).1
    refine .inl ⟨rfl, ?_, ?_⟩
    · have he : ¬ x % 2 = 0 := by omega
      simp [de, hl, he, hw]
    · have : dk x 3 = 2 := by simp [dk, hg, kdOf]
      rw [this]; rfl
set_option maxHeartbeats 4000000 in
theorem dpage_any (x : Int) (w : World) (hG : G w) (hx : U64 x) :
    Calls Tryd.prog 102 #[.int .u64 x] w fun e w' => e = .returned (.tuple #[.agg #[.int .i8 (dk x 3), .int .i64 (df x 3), .bool (dfl x 3 10), .bool (dfl x 3 7), .bool (dfl x 3 6), .bool (dfl x 3 11)], .bool (good x 3)]) ∧ Below w.heap.size w w' := by
  have g0 := hG.alloc (.cells #[.int .i8 0, .int .i64 0, .bool false, .bool false, .bool false, .bool false] 94)
  have hR := Arr.new w #[.int .i8 0, .int .i64 0, .bool false, .bool false, .bool false, .bool false] 94
  have hB := ba (Below.refl w.heap.size w) (.cells #[.int .i8 0, .int .i64 0, .bool false, .bool false, .bool false, .bool false] 94)
  have hcs := page_bits x
  go_enter Tryd.func102, Tryd.ntmps102
  go_wp2_with fail
  refine (dDecode_any x 3 _ g0 hx).mono ?_
  rintro e w1 ⟨rfl, hb⟩
  replace hR := hR.call hb
  replace hB := bthen hB hb
  clear hb g0 hG
  have f0 := hR.lt
  have f1 : w.heap.size ≠ w1.heap.size := by omega
  have q0 := hR.nat 0 (by simp)
  have q1 := hR.nat 1 (by simp)
  have q2 := hR.nat 2 (by simp)
  have q3 := hR.nat 3 (by simp)
  have q4 := hR.nat 4 (by simp)
  have q5 := hR.nat 5 (by simp)
  have z0 := hR.frozen 0 (by simp)
  have z1 := hR.frozen 1 (by simp)
  have z2 := hR.frozen 2 (by simp)
  have z3 := hR.frozen 3 (by simp)
  have z4 := hR.frozen 4 (by simp)
  have z5 := hR.frozen 5 (by simp)
  simp only [List.getElem_cons_zero, List.getElem_cons_succ] at q0 q1 q2 q3 q4 q5
  rcases hcs with ⟨hg, h1, h2⟩ | ⟨hg, h1, h2⟩ | ⟨hg, h1⟩
  · have HG := Lib.hid hg
    clear hg
    go_wp2
    go_region
    go_wp2
    have hF := (((((((hR.set 0 (by simp) (.int .i8 (dk x 3))).set 1 (by simp) (.int .i64 (df x 3))).set 2 (by simp) (.bool (dfl x 3 10))).set 3 (by simp) (.bool (dfl x 3 7))).set 4 (by simp) (.bool (dfl x 3 6))).set 5 (by simp) (.bool (dfl x 3 11))).alloc (.cells #[.int .i8 (dk x 3), .int .i64 (df x 3), .bool (dfl x 3 10), .bool (dfl x 3 7), .bool (dfl x 3 6), .bool (dfl x 3 11)] 94)).drew
    have hBF := bd (ba (bs (bs (bs (bs (bs (bs hB (p := ⟨w.heap.size, 0, none⟩) (Nat.le_refl _) (.int .i8 (dk x 3))) (p := ⟨w.heap.size, 1, none⟩) (Nat.le_refl _) (.int .i64 (df x 3))) (p := ⟨w.heap.size, 2, none⟩) (Nat.le_refl _) (.bool (dfl x 3 10))) (p := ⟨w.heap.size, 3, none⟩) (Nat.le_refl _) (.bool (dfl x 3 7))) (p := ⟨w.heap.size, 4, none⟩) (Nat.le_refl _) (.bool (dfl x 3 6))) (p := ⟨w.heap.size, 5, none⟩) (Nat.le_refl _) (.bool (dfl x 3 11))) (.cells #[.int .i8 (dk x 3), .int .i64 (df x 3), .bool (dfl x 3 10), .bool (dfl x 3 7), .bool (dfl x 3 6), .bool (dfl x 3 11)] 94))
    generalize (((((((w1.setCell ⟨w.heap.size, 0, none⟩ (.int .i8 (dk x 3))).setCell ⟨w.heap.size, 1, none⟩ (.int .i64 (df x 3))).setCell ⟨w.heap.size, 2, none⟩ (.bool (dfl x 3 10))).setCell ⟨w.heap.size, 3, none⟩ (.bool (dfl x 3 7))).setCell ⟨w.heap.size, 4, none⟩ (.bool (dfl x 3 6))).setCell ⟨w.heap.size, 5, none⟩ (.bool (dfl x 3 11))).alloc (.cells #[.int .i8 (dk x 3), .int .i64 (df x 3), .bool (dfl x 3 10), .bool (dfl x 3 7), .bool (dfl x 3 6), .bool (dfl x 3 11)] 94)).drew = W' at hF hBF ⊢
    simp only [List.set_cons_zero, List.set_cons_succ] at hF
    have r0 := hF.cell 0 _ rfl
    have r1 := hF.cell 1 _ rfl
    have r2 := hF.cell 2 _ rfl
    have r3 := hF.cell 3 _ rfl
    have r4 := hF.cell 4 _ rfl
    have r5 := hF.cell 5 _ rfl
    refine bodyPost_ret (v := .tuple #[.agg #[.int .i8 (dk x 3), .int .i64 (df x 3), .bool (dfl x 3 10), .bool (dfl x 3 7), .bool (dfl x 3 6), .bool (dfl x 3 11)], .bool true]) (by simp [results, Tryd.results102, go_sem, r0, r1, r2, r3, r4, r5]) rfl ⟨by rw [HG.out], ?_⟩
    exact hBF
  · have HG := Lib.hid hg
    clear hg
    go_wp2
    go_region
    go_wp2
    have hF := (((((((hR.set 0 (by simp) (.int .i8 (dk x 3))).set 1 (by simp) (.int .i64 (df x 3))).set 2 (by simp) (.bool (dfl x 3 10))).set 3 (by simp) (.bool (dfl x 3 7))).set 4 (by simp) (.bool (dfl x 3 6))).set 5 (by simp) (.bool (dfl x 3 11))).alloc (.cells #[.int .i8 (dk x 3), .int .i64 (df x 3), .bool (dfl x 3 10), .bool (dfl x 3 7), .bool (dfl x 3 6), .bool (dfl x 3 11)] 94)).drew
    have hBF := bd (ba (bs (bs (bs (bs (bs (bs hB (p := ⟨w.heap.size, 0, none⟩) (Nat.le_refl _) (.int .i8 (dk x 3))) (p := ⟨w.heap.size, 1, none⟩) (Nat.le_refl _) (.int .i64 (df x 3))) (p := ⟨w.heap.size, 2, none⟩) (Nat.le_refl _) (.bool (dfl x 3 10))) (p := ⟨w.heap.size, 3, none⟩) (Nat.le_refl _) (.bool (dfl x 3 7))) (p := ⟨w.heap.size, 4, none⟩) (Nat.le_refl _) (.bool (dfl x 3 6))) (p := ⟨w.heap.size, 5, none⟩) (Nat.le_refl _) (.bool (dfl x 3 11))) (.cells #[.int .i8 (dk x 3), .int .i64 (df x 3), .bool (dfl x 3 10), .bool (dfl x 3 7), .bool (dfl x 3 6), .bool (dfl x 3 11)] 94))
    generalize (((((((w1.setCell ⟨w.heap.size, 0, none⟩ (.int .i8 (dk x 3))).setCell ⟨w.heap.size, 1, none⟩ (.int .i64 (df x 3))).setCell ⟨w.heap.size, 2, none⟩ (.bool (dfl x 3 10))).setCell ⟨w.heap.size, 3, none⟩ (.bool (dfl x 3 7))).setCell ⟨w.heap.size, 4, none⟩ (.bool (dfl x 3 6))).setCell ⟨w.heap.size, 5, none⟩ (.bool (dfl x 3 11))).alloc (.cells #[.int .i8 (dk x 3), .int .i64 (df x 3), .bool (dfl x 3 10), .bool (dfl x 3 7), .bool (dfl x 3 6), .bool (dfl x 3 11)] 94)).drew = W' at hF hBF ⊢
    simp only [List.set_cons_zero, List.set_cons_succ] at hF
    have r0 := hF.cell 0 _ rfl
    have r1 := hF.cell 1 _ rfl
    have r2 := hF.cell 2 _ rfl
    have r3 := hF.cell 3 _ rfl
    have r4 := hF.cell 4 _ rfl
    have r5 := hF.cell 5 _ rfl
    refine bodyPost_ret (v := .tuple #[.agg #[.int .i8 (dk x 3), .int .i64 (df x 3), .bool (dfl x 3 10), .bool (dfl x 3 7), .bool (dfl x 3 6), .bool (dfl x 3 11)], .bool false]) (by simp [results, Tryd.results102, go_sem, r0, r1, r2, r3, r4, r5]) rfl ⟨by rw [HG.out], ?_⟩
    exact hBF
  · have HG := Lib.hid hg
    clear hg
    go_wp2
    go_region
    go_wp2
    have hF := (((((((hR.set 0 (by simp) (.int .i8 (dk x 3))).set 1 (by simp) (.int .i64 (df x 3))).set 2 (by simp) (.bool (dfl x 3 10))).set 3 (by simp) (.bool (dfl x 3 7))).set 4 (by simp) (.bool (dfl x 3 6))).set 5 (by simp) (.bool (dfl x 3 11))).alloc (.cells #[.int .i8 (dk x 3), .int .i64 (df x 3), .bool (dfl x 3 10), .bool (dfl x 3 7), .bool (dfl x 3 6), .bool (dfl x 3 11)] 94)).drew
    have hBF := bd (ba (bs (bs (bs (bs (bs (bs hB (p := ⟨w.heap.size, 0, none⟩) (Nat.le_refl _) (.int .i8 (dk x 3))) (p := ⟨w.heap.size, 1, none⟩) (Nat.le_refl _) (.int .i64 (df x 3))) (p := ⟨w.heap.size, 2, none⟩) (Nat.le_refl _) (.bool (dfl x 3 10))) (p := ⟨w.heap.size, 3, none⟩) (Nat.le_refl _) (.bool (dfl x 3 7))) (p := ⟨w.heap.size, 4, none⟩) (Nat.le_refl _) (.bool (dfl x 3 6))) (p := ⟨w.heap.size, 5, none⟩) (Nat.le_refl _) (.bool (dfl x 3 11))) (.cells #[.int .i8 (dk x 3), .int .i64 (df x 3), .bool (dfl x 3 10), .bool (dfl x 3 7), .bool (dfl x 3 6), .bool (dfl x 3 11)] 94))
    generalize (((((((w1.setCell ⟨w.heap.size, 0, none⟩ (.int .i8 (dk x 3))).setCell ⟨w.heap.size, 1, none⟩ (.int .i64 (df x 3))).setCell ⟨w.heap.size, 2, none⟩ (.bool (dfl x 3 10))).setCell ⟨w.heap.size, 3, none⟩ (.bool (dfl x 3 7))).setCell ⟨w.heap.size, 4, none⟩ (.bool (dfl x 3 6))).setCell ⟨w.heap.size, 5, none⟩ (.bool (dfl x 3 11))).alloc (.cells #[.int .i8 (dk x 3), .int .i64 (df x 3), .bool (dfl x 3 10), .bool (dfl x 3 7), .bool (dfl x 3 6), .bool (dfl x 3 11)] 94)).drew = W' at hF hBF ⊢
    simp only [List.set_cons_zero, List.set_cons_succ] at hF
    have r0 := hF.cell 0 _ rfl
    have r1 := hF.cell 1 _ rfl
    have r2 := hF.cell 2 _ rfl
    have r3 := hF.cell 3 _ rfl
    have r4 := hF.cell 4 _ rfl
    have r5 := hF.cell 5 _ rfl
    refine bodyPost_ret (v := .tuple #[.agg #[.int .i8 (dk x 3), .int .i64 (df x 3), .bool (dfl x 3 10), .bool (dfl x 3 7), .bool (dfl x 3 6), .bool (dfl x 3 11)], .bool false]) (by simp [results, Tryd.results102, go_sem, r0, r1, r2, r3, r4, r5]) rfl ⟨by rw [HG.out], ?_⟩
    exact hBF
def tch (x : Int) : Bool := good x 3 && !dfl x 3 10
theorem or_1024 (x : Int) (hx : U64 x) (h : tch x = true) : bits .or .u64 x 1024 = x + 1024 ∧ U64 (x + 1024) := by
  simp only [tch, Bool.and_eq_true, Bool.not_eq_true'] at h
  obtain ⟨hg, h10⟩ := h
  have hw : wOk 2 x = true := by
    have : good x 3 = wOk 2 x := by simp [good, lvl, kdOf]
    rw [← this]; exact hg
  obtain ⟨e, f0, f1⟩ := wOk_word2 hx hw
  have e10 : (fGet x 10 10 == 1) = false := by simpa [dfl, hg] using h10
  rw [e10] at e
  obtain ⟨n, hn⟩ := fin_of f0 f1
  rw [hn] at e
  have key : ∀ (f : Fin 64) (ro us ng : Bool), bits .or .u64 (wordV f.val false ro us ng) 1024 = wordV f.val false ro us ng + 1024 := by decide +kernel
  have kk := key n (fGet x 7 7 == 1) (fGet x 6 6 == 1) (fGet x 11 11 == 1)
  rw [← e] at kk
  refine ⟨kk, ?_⟩
  have : x < 1000000 := by
    rw [e]
    unfold wordV bI
    have := n.isLt
    split <;> split <;> split <;> split <;> omega
  exact ⟨by have := hx.1; omega, by omega⟩
set_option maxHeartbeats 4000000 in
theorem dTouch_yes (x : Int) (w : World) (hG : G w) (hx : U64 x) (h : tch x = true) :
    Calls Tryd.prog 95 #[.int .u64 x] w fun e w' => e = .returned (.tuple #[.int .u64 (x + 1024), .bool true]) ∧ Below w.heap.size w w' := by
  have HV := Lib.hid (or_1024 x hx h).1
  simp only [tch, Bool.and_eq_true, Bool.not_eq_true'] at h
  have H1 := Lib.hid h.1
  have H2 := Lib.hid h.2
  clear h
  go_enter Tryd.func95, Tryd.ntmps95
  go_wp2_with fail
  refine (dpage_any x _ hG hx).mono ?_
  rintro e w1 ⟨rfl, hb⟩
  rw [H1.out, H2.out]
  have p5 := (hG.call hb).1.2 5 _ rfl
  have q5 : ∀ o : Obj, (w1.alloc o).cell? ⟨3, 5, none⟩ = some (.int .i64 10) := fun o => ((hG.call hb).alloc o).1.2 5 _ rfl
  clear hG
  go_wp2_with fail
  go_ret2
  exact ⟨by rw [← HV.out]; rfl, by repeat (first | exact hb | apply bd | apply ba)⟩
set_option maxHeartbeats 4000000 in
theorem dTouch_no (x : Int) (w : World) (hG : G w) (hx : U64 x) (h : tch x = false) :
    Calls Tryd.prog 95 #[.int .u64 x] w fun e w' => e = .returned (.tuple #[.int .u64 x, .bool false]) ∧ Below w.heap.size w w' := by
  rcases h1 : good x 3 with _ | _
  · have H1 := Lib.hid h1
    clear h h1
    go_enter Tryd.func95, Tryd.ntmps95
    go_wp2_with fail
    refine (dpage_any x _ hG hx).mono ?_
    rintro e w1 ⟨rfl, hb⟩
    rw [H1.out]
    clear hG
    go_wp2_with fail
    go_ret2
    exact ⟨rfl, by repeat (first | exact hb | apply bd | apply ba)⟩
  · have h2 : dfl x 3 10 = true := by simpa [tch, h1] using h
    have H1 := Lib.hid h1
    have H2 := Lib.hid h2
    clear h h1 h2
    go_enter Tryd.func95, Tryd.ntmps95
    go_wp2_with fail
    refine (dpage_any x _ hG hx).mono ?_
    rintro e w1 ⟨rfl, hb⟩
    rw [H1.out, H2.out]
    clear hG
    go_wp2_with fail
    go_ret2
    exact ⟨rfl, by repeat (first | exact hb | apply bd | apply ba)⟩
def dif (x y : Int) : Bool := good x 3 && (good y 3 && (df x 3 != df y 3))
end
section
open Go.RowKit
set_option linter.unusedVariables false
set_option linter.unusedSimpArgs false

theorem good3 (x : Int) : good x 3 = wOk 2 x := by simp [good, lvl, kdOf]
theorem touched {x : Int} (hx : U64 x) (h : tch x = true) : good (x + 1024) 3 = true ∧ df (x + 1024) 3 = df x 3 ∧ dfl (x + 1024) 3 10 = true ∧ dfl (x + 1024) 3 7 = dfl x 3 7 ∧ dfl (x + 1024) 3 6 = dfl x 3 6 ∧ dfl (x + 1024) 3 11 = dfl x 3 11 ∧ dk (x + 1024) 3 = dk x 3 ∧ de (x + 1024) 3 = 0 ∧ de x 3 = 0 ∧ tch (x + 1024) = false ∧ bits .xor .u64 (x + 1024) x = 1024 := by
  have h' := h
  simp only [tch, Bool.and_eq_true, Bool.not_eq_true'] at h
  obtain ⟨hg, h10⟩ := h
  have hw : wOk 2 x = true := by rw [← good3]; exact hg
  obtain ⟨e, f0, f1⟩ := wOk_word2 hx hw
  have e10 : (fGet x 10 10 == 1) = false := by simpa [dfl, hg] using h10
  rw [e10] at e
  obtain ⟨n, hn⟩ := fin_of f0 f1
  rw [hn] at e
  generalize (fGet x 7 7 == 1) = ro at e
  generalize (fGet x 6 6 == 1) = us at e
  generalize (fGet x 11 11 == 1) = ng at e
  subst e
  have key : ∀ (f : Fin 64) (ro us ng : Bool), wordV f.val false ro us ng + 1024 = wordV f.val true ro us ng ∧ de (wordV f.val true ro us ng) 3 = 0 ∧ de (wordV f.val false ro us ng) 3 = 0 ∧ dk (wordV f.val true ro us ng) 3 = 2 ∧ dk (wordV f.val false ro us ng) 3 = 2 ∧ bits .xor .u64 (wordV f.val true ro us ng) (wordV f.val false ro us ng) = 1024 := by decide +kernel
  obtain ⟨k1, k2, k3, k4, k5, k6⟩ := key n ro us ng
  obtain ⟨b1, b2, b3, b4, b5, b6⟩ := word_back3 n true ro us ng
  obtain ⟨c1, c2, c3, c4, c5, c6⟩ := word_back3 n false ro us ng
  rw [k1]
  refine ⟨b1, by rw [b2, c2], b3, by rw [b4, c4], by rw [b5, c5], by rw [b6, c6], by rw [k4, k5], k2, k3, ?_, k6⟩
  simp [tch, b3]
theorem dif_comm (x y : Int) : dif x y = dif y x := by
  unfold dif
  have : (df x 3 != df y 3) = (df y 3 != df x 3) := by
    rw [Bool.eq_iff_iff]; simp; exact ⟨fun h e => h e.symm, fun h e => h e.symm⟩
  rw [this]
  cases good x 3 <;> cases good y 3 <;> rfl
theorem dif_self (x y : Int) (h : df x 3 = df y 3) : dif x y = false := by
  unfold dif
  rw [h]
  cases good x 3 <;> cases good y 3 <;> simp
end
section
open Go.RowKit
set_option linter.unusedVariables false
set_option linter.unusedSimpArgs false

theorem enc_dec {k f l : Int} {af ro us ng : Bool} (h : dOk k f af ro us ng = true) (hl : (k = 1 ∧ 0 ≤ l ∧ l ≤ 2) ∨ (k ≠ 1 ∧ l = 3)) :
    U64 (dV k f af ro us ng) ∧ dk (dV k f af ro us ng) l = k ∧ df (dV k f af ro us ng) l = f ∧ dfl (dV k f af ro us ng) l 10 = af ∧ dfl (dV k f af ro us ng) l 7 = ro ∧ dfl (dV k f af ro us ng) l 6 = us ∧ dfl (dV k f af ro us ng) l 11 = ng ∧ de (dV k f af ro us ng) l = 0 := by
  rw [dOk_iff] at h
  obtain ⟨⟨h0, h1⟩, hk⟩ := h
  have hu : U64 (dV k f af ro us ng) := by
    unfold dV wordV U64
    have b : ∀ b : Bool, 0 ≤ bI b ∧ bI b ≤ 1 := fun b => by cases b <;> decide
    have := b af; have := b ro; have := b us; have := b ng
    split <;> omega
  refine ⟨hu, ?_⟩
  clear hu
  obtain ⟨n, rfl⟩ := fin_of h0 h1
  rcases hk with ⟨rfl, hf, hn⟩ | ⟨rfl, hn⟩ | rfl
  · obtain rfl : l = 3 := by omega
    have : af = false ∧ ro = false ∧ us = false ∧ ng = false := by simpa [noFlag] using hn
    obtain ⟨rfl, rfl, rfl, rfl⟩ := this
    rw [hf]
    decide +kernel
  · have : af = false ∧ ro = false ∧ us = false ∧ ng = false := by simpa [noFlag] using hn
    obtain ⟨rfl, rfl, rfl, rfl⟩ := this
    have key : ∀ (n : Fin 64) (l : Fin 3), dk (wordV n.val false false false false) l.val = 1 ∧ df (wordV n.val false false false false) l.val = n.val ∧ dfl (wordV n.val false false false false) l.val 10 = false ∧ dfl (wordV n.val false false false false) l.val 7 = false ∧ dfl (wordV n.val false false false false) l.val 6 = false ∧ dfl (wordV n.val false false false false) l.val 11 = false ∧ de (wordV n.val false false false false) l.val = 0 := by decide +kernel
    obtain ⟨m, rfl⟩ : ∃ m : Fin 3, l = m.val := ⟨⟨l.toNat, by omega⟩, by simp; omega⟩
    exact key n m
  · obtain rfl : l = 3 := by omega
    obtain ⟨b1, b2, b3, b4, b5, b6⟩ := word_back3 n af ro us ng
    have e : dV 2 n.val af ro us ng = wordV n.val af ro us ng := rfl
    rw [e]
    refine ⟨?_, b2, b3, b4, b5, b6, ?_⟩
    · simp [dk, b1, kdOf]
    · have := wOk_odd ((good3 _).symm.trans b1)
      simp [de, lvl, kdOf, (good3 _).symm.trans b1]
theorem dec_enc {x l : Int} (hx : U64 x) (h : de x l = 0) (ho : x % 2 = 1) :
    dOk (dk x l) (df x l) (dfl x l 10) (dfl x l 7) (dfl x l 6) (dfl x l 11) = true ∧ dV (dk x l) (df x l) (dfl x l 10) (dfl x l 7) (dfl x l 6) (dfl x l 11) = x := by
  have hl : lvl l = true := by
    rcases e : lvl l with _ | _
    · simp [de, e] at h
    · rfl
  have hw : wOk (kdOf l) x = true := by
    rcases e : wOk (kdOf l) x with _ | _
    · simp [de, hl, e, ho] at h
    · rfl
  have hg : good x l = true := by simp [good, hl, hw]
  rw [dOk_iff]
  by_cases h3 : l = 3
  · subst h3
    obtain ⟨e, f0, f1⟩ := wOk_word2 hx hw
    refine ⟨⟨?_, .inr (.inr ?_)⟩, ?_⟩
    · simp [df, hg]; omega
    · simp [dk, hg, kdOf]
    · simp only [dV, dk, df, dfl, hg, kdOf, Bool.true_and, if_true]
      exact e.symm
  · have e3 : kdOf l = 1 := by simp [kdOf, h3]
    rw [e3] at hw
    obtain ⟨e, f0, f1, g1, g2, g3, g4⟩ := wOk_word1 hx hw
    have d1 : dfl x l 10 = false := by simp [dfl, g1]
    have d2 : dfl x l 7 = false := by simp [dfl, g2]
    have d3 : dfl x l 6 = false := by simp [dfl, g3]
    have d4 : dfl x l 11 = false := by simp [dfl, g4]
    rw [d1, d2, d3, d4]
    refine ⟨⟨?_, .inr (.inl ⟨?_, rfl⟩)⟩, ?_⟩
    · simp [df, hg]; omega
    · simp [dk, hg, e3]
    · simp only [dV, dk, df, hg, e3, if_true]
      exact e.symm
theorem dec_even {x l : Int} (ho : x % 2 = 0) : dk x l = 0 := by
  refine (zero_of (l := l) ?_).1
  rcases e : good x l with _ | _
  · rfl
  · simp only [good, Bool.and_eq_true] at e
    have := (wOk_odd e.2).1
    omega
end
section
open Go.RowKit
set_option linter.unusedVariables false
set_option linter.unusedSimpArgs false

def eqD (k f : Int) (af ro us ng : Bool) (k2 f2 : Int) (af2 ro2 us2 ng2 : Bool) : Bool := (k == k2) && ((f == f2) && ((af == af2) && ((ro == ro2) && ((us == us2) && (ng == ng2)))))
set_option maxHeartbeats 2000000 in
theorem eqDesc (k f k2 f2 : Int) (af ro us ng af2 ro2 us2 ng2 : Bool) (W : World) : (binOp .eql 94 (.agg #[.int .i8 k, .int .i64 f, .bool af, .bool ro, .bool us, .bool ng]) (.agg #[.int .i8 k2, .int .i64 f2, .bool af2, .bool ro2, .bool us2, .bool ng2])).run Tryd.prog W = .ok (.bool (eqD k f af ro us ng k2 f2 af2 ro2 us2 ng2)) W := by
  unfold eqD
  rcases h1 : (k == k2) with _ | _
  · go_simp
  rcases h2 : (f == f2) with _ | _
  · go_simp
  rcases h3 : (af == af2) with _ | _
  · go_simp
  rcases h4 : (ro == ro2) with _ | _
  · go_simp
  rcases h5 : (us == us2) with _ | _
  · go_simp
  rcases h6 : (ng == ng2) with _ | _
  · go_simp
  go_simp
theorem dV_inj {k f f2 : Int} {af ro us ng af2 ro2 us2 ng2 : Bool} (h : dOk k f af ro us ng = true) (h2 : dOk k f2 af2 ro2 us2 ng2 = true) (e : dV k f af ro us ng = dV k f2 af2 ro2 us2 ng2) : f = f2 ∧ af = af2 ∧ ro = ro2 ∧ us = us2 ∧ ng = ng2 := by
  by_cases hk : k = 1
  · obtain ⟨_, _, a1, a2, a3, a4, a5, _⟩ := enc_dec (l := 0) h (.inl ⟨hk, by omega, by omega⟩)
    obtain ⟨_, _, b1, b2, b3, b4, b5, _⟩ := enc_dec (l := 0) h2 (.inl ⟨hk, by omega, by omega⟩)
    rw [e] at a1 a2 a3 a4 a5
    exact ⟨a1.symm.trans b1, a2.symm.trans b2, a3.symm.trans b3, a4.symm.trans b4, a5.symm.trans b5⟩
  · obtain ⟨_, _, a1, a2, a3, a4, a5, _⟩ := enc_dec (l := 3) h (.inr ⟨hk, rfl⟩)
    obtain ⟨_, _, b1, b2, b3, b4, b5, _⟩ := enc_dec (l := 3) h2 (.inr ⟨hk, rfl⟩)
    rw [e] at a1 a2 a3 a4 a5
    exact ⟨a1.symm.trans b1, a2.symm.trans b2, a3.symm.trans b3, a4.symm.trans b4, a5.symm.trans b5⟩
theorem dV_eq {k f f2 : Int} {af ro us ng af2 ro2 us2 ng2 : Bool} (h : dOk k f af ro us ng = true) (h2 : dOk k f2 af2 ro2 us2 ng2 = true) : (dV k f af ro us ng == dV k f2 af2 ro2 us2 ng2) = eqD k f af ro us ng k f2 af2 ro2 us2 ng2 := by
  rcases e : eqD k f af ro us ng k f2 af2 ro2 us2 ng2 with _ | _
  · rw [beq_eq_false_iff_ne]
    intro e'
    obtain ⟨rfl, rfl, rfl, rfl, rfl⟩ := dV_inj h h2 e'
    simp [eqD] at e
  · simp only [eqD, Bool.and_eq_true, beq_iff_eq] at e
    obtain ⟨_, rfl, rfl, rfl, rfl, rfl⟩ := e
    simp
theorem dV_fr {k f fr : Int} {af ro us ng : Bool} (h : dOk k f af ro us ng = true) (h2 : dOk k fr af ro us ng = true) : (dV k fr af ro us ng == dV k f af ro us ng) = (fr == f) := by
  rw [dV_eq h2 h]; simp [eqD]
theorem dV_dif {f fr : Int} {af ro us ng : Bool} (h : dOk 2 f af ro us ng = true) (h2 : dOk 2 fr af ro us ng = true) : dif (dV 2 f af ro us ng) (dV 2 fr af ro us ng) = (fr != f) ∧ U64 (dV 2 f af ro us ng) ∧ U64 (dV 2 fr af ro us ng) := by
  obtain ⟨u1, p1, a1, _, _, _, _, _⟩ := enc_dec (l := 3) h (.inr ⟨by omega, rfl⟩)
  obtain ⟨u2, p2, b1, _, _, _, _, _⟩ := enc_dec (l := 3) h2 (.inr ⟨by omega, rfl⟩)
  have g1 : good (dV 2 f af ro us ng) 3 = true := by
    rcases e : good (dV 2 f af ro us ng) 3 with _ | _
    · simp [dk, e] at p1
    · rfl
  have g2 : good (dV 2 fr af ro us ng) 3 = true := by
    rcases e : good (dV 2 fr af ro us ng) 3 with _ | _
    · simp [dk, e] at p2
    · rfl
  refine ⟨?_, u1, u2⟩
  simp only [dif, g1, g2, a1, b1, Bool.true_and]
  by_cases e : f = fr
  · subst e; simp
  · have e' : fr ≠ f := fun h => e h.symm
    have a : (f == fr) = false := by simpa using e
    have b : (fr == f) = false := by simpa using e'
    simp [bne, a, b]
end
end Go.Proofs.YtgdkkhdhomehdaaDoor
