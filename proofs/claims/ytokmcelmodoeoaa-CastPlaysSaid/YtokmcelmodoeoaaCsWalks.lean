/-
  The walks of package cast: New, has, waiting, Waits, First.
-/
import Derived.Test.YtokmcelmodoeoaaCsBase
import Derived.RegionTactic
import Derived.ChangeAlike
namespace Go.Proofs.Ytokmcelmodoeoaa
open Go.RowKit
set_option linter.unusedVariables false
set_option linter.unusedSimpArgs false
/-- Is there such a core? -/
def hasB (n : Nat) (c : Int) : Bool := decide (1 ≤ c ∧ c ≤ n)
theorem hasB_iff (n : Nat) (c : Int) : hasB n c = true ↔ 1 ≤ c ∧ c ≤ n := by simp [hasB]
theorem hasB_core {n : Nat} {c : Int} (h : hasB n c = true) : ∃ k : Nat, c = (k : Int) + 1 ∧ k < n := by
  rw [hasB_iff] at h
  exact ⟨(c - 1).toNat, by omega, by omega⟩
theorem cnew_yes (n : Nat) (w : World) (h1 : 1 ≤ n) (h8 : n ≤ 8) : Calls Try.prog 6 #[.int .i64 n] w fun e w' => e = .returned (.tuple #[.pointer (some ⟨w.heap.size, 0, none⟩), .int .i64 0]) ∧ Cs w' w.heap.size n noRows nilVs (fun g => g = w.heap.size) ∧ Below w.heap.size w w' := by
  go_enter Try.func6, Try.ntmps6
  go_wp2_with fail
  go_ret2
  exact ⟨rfl, cs_new w n h1 h8, ba (Below.refl _ _) _⟩
theorem cnew_no (n : Int) (w : World) (h : n < 1 ∨ 8 < n) : Calls Try.prog 6 #[.int .i64 n] w fun e w' => e = .returned (.tuple #[.pointer none, .int .i64 2]) ∧ w = w' := by
  rcases h with h | h
  · go_enter Try.func6, Try.ntmps6
    go_wp2_with fail
    go_ret2
    exact ⟨rfl, rfl⟩
  · have h' : ¬ n < 1 := by omega
    go_enter Try.func6, Try.ntmps6
    go_wp2_with fail
    go_ret2
    exact ⟨rfl, rfl⟩
theorem chas_any (b n : Nat) (c : Int) (w : World) (h0 : w.cell? ⟨b, 0, none⟩ = some (.int .i64 n)) : Calls Try.prog 21 #[.pointer (some ⟨b, 0, none⟩), .int .i64 c] w fun e w' => e = .returned (.bool (hasB n c)) ∧ w = w' := by
  by_cases h1 : 1 ≤ c
  · by_cases h2 : c ≤ n
    · have HH := Lib.hid (show hasB n c = true by simp [hasB, h1, h2])
      go_enter Try.func21, Try.ntmps21
      go_wp2_with fail
      go_ret
      exact ⟨ret_bool HH.out.symm, rfl⟩
    · have HH := Lib.hid (show hasB n c = false by simp [hasB, h2])
      go_enter Try.func21, Try.ntmps21
      go_wp2_with fail
      go_ret
      exact ⟨ret_bool HH.out.symm, rfl⟩
  · have HH := Lib.hid (show hasB n c = false by simp [hasB, h1])
    go_enter Try.func21, Try.ntmps21
    go_wp2_with fail
    go_ret
    exact ⟨ret_bool HH.out.symm, rfl⟩
theorem cwaiting_any (O : Option Addr) (len cap : Nat) (w : World) : Calls Try.prog 23 #[.slice O len cap] w fun e w' => e = .returned (.int .i64 len) ∧ w = w' := by
  go_enter Try.func23, Try.ntmps23
  go_wp2_with fail
  go_ret
  exact ⟨rfl, rfl⟩
/-- How many pairs wait. -/
def waitsN (n : Nat) (rows : Nat → List Pr) (c : Int) : Nat := if hasB n c then (rows (c - 1).toNat).length else 0
theorem cwaits_any (b n : Nat) (rows : Nat → List Pr) (vs : Nat → Value) (F : Nat → Prop) (c : Int) (w : World) (h : Cs w b n rows vs F) : Calls Try.prog 9 #[.pointer (some ⟨b, 0, none⟩), .int .i64 c] w fun e w' => e = .returned (.int .i64 (waitsN n rows c : Nat)) ∧ w = w' := by
  have h0 := h.cell0
  have h8 := h.n8
  rcases hh : hasB n c with _ | _
  · have HH := Lib.hid hh
    have HW := Lib.hid (show waitsN n rows c = 0 by simp [waitsN, hh])
    clear hh
    go_enter Try.func9, Try.ntmps9
    go_wp2_with (go_at_call 21; refine (chas_any b n c _ h0).mono ?_; rintro e w1 ⟨rfl, rfl⟩; rw [HH.out])
    go_ret
    exact ⟨by rw [HW.out]; rfl, rfl⟩
  · obtain ⟨k, rfl, hk⟩ := hasB_core hh
    have HH := Lib.hid hh
    have HW := Lib.hid (show waitsN n rows ((k : Int) + 1) = (rows k).length by simp [waitsN, hh])
    clear hh
    obtain ⟨O, cap, hv, hl, hm, hR⟩ := h.form (show k < 8 by omega)
    have hc := h.cellk (show k < 8 by omega)
    rw [hv] at hc
    have hk8 : k < 8 := by omega
    clear hv hR
    go_enter Try.func9, Try.ntmps9
    go_wp2_with (first
      | (go_at_call 21; refine (chas_any b n _ _ h0).mono ?_; rintro e w1 ⟨rfl, rfl⟩; rw [HH.out])
      | (go_at_call 23; refine (cwaiting_any _ _ _ _).mono ?_; rintro e w1 ⟨rfl, rfl⟩)
      | go_in)
    go_ret
    exact ⟨by rw [HW.out]; rfl, rfl⟩
/-- What First answers. -/
def firE (n : Nat) (rows : Nat → List Pr) (c : Int) : Int := if hasB n c then (if (rows (c - 1).toNat).length = 0 then 4 else 0) else 2
def zP : Pr := ⟨0, 0, 0, 0⟩
def firP (n : Nat) (rows : Nat → List Pr) (c : Int) : Pr := if hasB n c then (rows (c - 1).toNat).headD zP else zP
def tlV (x : Pr) : Value := .agg #[.int .i8 x.k, .int .i64 x.a, .int .u64 x.p]
theorem cfirst_out (b n : Nat) (rows : Nat → List Pr) (vs : Nat → Value) (F : Nat → Prop) (c : Int) (w : World) (h : Cs w b n rows vs F) (hh : hasB n c = false) : Calls Try.prog 10 #[.pointer (some ⟨b, 0, none⟩), .int .i64 c] w fun e w' => e = .returned (.tuple #[.int .i64 0, .agg #[.int .i8 0, .int .i64 0, .int .u64 0], .int .i64 2]) ∧ Below w.heap.size w w' := by
  have h0 := h.cell0
  have HH := Lib.hid hh
  clear hh
  have h0' : (w.alloc (.cells #[.int .i8 0, .int .i64 0, .int .u64 0] 35)).cell? ⟨b, 0, none⟩ = some (.int .i64 n) := (h.alloc _).cell0
  go_enter Try.func10, Try.ntmps10
  go_wp2_with (go_at_call 21; refine (chas_any b n _ _ h0').mono ?_; rintro e w1 ⟨rfl, rfl⟩; rw [HH.out])
  refine bodyPost_ret (v := .tuple #[.int .i64 0, .agg #[.int .i8 0, .int .i64 0, .int .u64 0], .int .i64 2]) (by simp [results, Try.results10, go_sem]) rfl ⟨rfl, ?_⟩
  exact ba (Below.refl _ _) _
theorem cfirst_none (b n k : Nat) (rows : Nat → List Pr) (vs : Nat → Value) (F : Nat → Prop) (w : World) (h : Cs w b n rows vs F) (hk : k < n) (hr : (rows k).length = 0) : Calls Try.prog 10 #[.pointer (some ⟨b, 0, none⟩), .int .i64 (k + 1)] w fun e w' => e = .returned (.tuple #[.int .i64 0, .agg #[.int .i8 0, .int .i64 0, .int .u64 0], .int .i64 4]) ∧ Below w.heap.size w w' := by
  have h' := h.alloc (.cells #[.int .i8 0, .int .i64 0, .int .u64 0] 35)
  have h0' := h'.cell0
  have hh : hasB n ((k : Int) + 1) = true := by rw [hasB_iff]; omega
  have HH := Lib.hid hh
  have HW := Lib.hid (show waitsN n rows ((k : Int) + 1) = 0 by simp [waitsN, hh, hr])
  clear hh
  go_enter Try.func10, Try.ntmps10
  go_wp2_with (first
    | (go_at_call 21; refine (chas_any b n _ _ h0').mono ?_; rintro e w1 ⟨rfl, rfl⟩; rw [HH.out])
    | (go_at_call 9; refine (cwaits_any b n _ _ _ _ _ h').mono ?_; rintro e w1 ⟨rfl, rfl⟩; rw [HW.out])
    | go_in)
  refine bodyPost_ret (v := .tuple #[.int .i64 0, .agg #[.int .i8 0, .int .i64 0, .int .u64 0], .int .i64 4]) (by simp [results, Try.results10, go_sem]) rfl ⟨rfl, ?_⟩
  exact ba (Below.refl _ _) _
theorem cfirst_some (b n k : Nat) (rows : Nat → List Pr) (vs : Nat → Value) (F : Nat → Prop) (w : World) (h : Cs w b n rows vs F) (hk : k < n) (x : Pr) (xs : List Pr) (hr : rows k = x :: xs) : Calls Try.prog 10 #[.pointer (some ⟨b, 0, none⟩), .int .i64 (k + 1)] w fun e w' => e = .returned (.tuple #[.int .i64 x.s, .agg #[.int .i8 x.k, .int .i64 x.a, .int .u64 x.p], .int .i64 0]) ∧ Below w.heap.size w w' := by
  have h' := h.alloc (.cells #[.int .i8 0, .int .i64 0, .int .u64 0] 35)
  have h0' := h'.cell0
  have hh : hasB n ((k : Int) + 1) = true := by rw [hasB_iff]; omega
  have HH := Lib.hid hh
  have hl : (rows k).length = xs.length + 1 := by rw [hr]; rfl
  have HW := Lib.hid (show (waitsN n rows ((k : Int) + 1) : Int) = xs.length + 1 by simp [waitsN, hh, hl])
  clear hh
  have hn8 := h.n8
  have hk8 : k < 8 := by omega
  have hc := h'.cellk hk8
  obtain ⟨g, cap, hv, -, hg, hcap, -⟩ := (h'.row k hk8).head (by omega)
  have hg' : g < w.heap.size := h.lt g (h.rF k g hk8 (by rw [hv]; rfl))
  obtain ⟨c0, c1, c2, c3⟩ := (show Ow encP 4 66 _ 0 (.slice (some ⟨g, 0, none⟩) (rows k).length cap) (rows k) from hv ▸ h'.row k hk8).cells4 encP_len (n := 0) (x := x) (by rw [hr]; rfl) rfl
  rw [hv, hl] at hc
  simp only [Nat.zero_mul, Nat.zero_add] at c0 c1 c2 c3
  have hb := h.blt
  go_enter Try.func10, Try.ntmps10
  go_wp2_with (first
    | (go_at_call 21; refine (chas_any b n _ _ h0').mono ?_; rintro e w1 ⟨rfl, rfl⟩; rw [HH.out])
    | (go_at_call 9; refine (cwaits_any b n _ _ _ _ _ h').mono ?_; rintro e w1 ⟨rfl, rfl⟩; rw [HW.out])
    | go_in)
  go_region
  go_wp2_with fail
  refine bodyPost_ret (v := .tuple #[.int .i64 x.s, .agg #[.int .i8 x.k, .int .i64 x.a, .int .u64 x.p], .int .i64 0]) (by simp [results, Try.results10, go_sem]) rfl ⟨rfl, ?_⟩
  exact bd (ba (ba (Below.refl _ _) _) _)
theorem cfirst_any (b n : Nat) (rows : Nat → List Pr) (vs : Nat → Value) (F : Nat → Prop) (c : Int) (w : World) (h : Cs w b n rows vs F) : Calls Try.prog 10 #[.pointer (some ⟨b, 0, none⟩), .int .i64 c] w fun e w' => e = .returned (.tuple #[.int .i64 (firP n rows c).s, .agg #[.int .i8 (firP n rows c).k, .int .i64 (firP n rows c).a, .int .u64 (firP n rows c).p], .int .i64 (firE n rows c)]) ∧ Below w.heap.size w w' := by
  rcases hh : hasB n c with _ | _
  · have := cfirst_out b n rows vs F c w h hh
    simpa [firP, firE, hh, zP] using this
  · obtain ⟨k, rfl, hk⟩ := hasB_core hh
    rcases hr : rows k with _ | ⟨x, xs⟩
    · have := cfirst_none b n k rows vs F w h hk (by rw [hr]; rfl)
      simpa [firP, firE, hh, zP, hr] using this
    · have := cfirst_some b n k rows vs F w h hk x xs hr
      simpa [firP, firE, hh, zP, hr] using this
end Go.Proofs.Ytokmcelmodoeoaa
