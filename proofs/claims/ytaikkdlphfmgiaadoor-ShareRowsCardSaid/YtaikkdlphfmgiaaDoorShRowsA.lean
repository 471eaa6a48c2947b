/-
  Layer 20's rows: items that are let be, what is told of each.
-/
import Derived.Test.YtaikkdlphfmgiaaDoorRw
import Derived.Test.YtaikkdlphfmgiaaDoorShBase
import Derived.Test.YtaikkdlphfmgiaaDoorDescRef2
namespace Go.Proofs.YtaikkdlphfmgiaaDoor
open Go.RowKit
set_option linter.unusedVariables false
set_option linter.unusedSimpArgs false
/-- A mapping. -/
structure Mp where
  p : Int
  f : Int
  ro : Bool
  w : Int
def encM (x : Mp) : List Value := [.int .u64 x.p, .int .i64 x.f, .bool x.ro, .int .u64 x.w]
theorem encM_len (x : Mp) : (encM x).length = 4 := rfl
def encW (x : Int × Int) : List Value := [.int .u64 x.1, .int .u64 x.2]
theorem encW_len (x : Int × Int) : (encW x).length = 2 := rfl
def encI (x : Int) : List Value := [.int .i64 x]
theorem encI_len (x : Int) : (encI x).length = 1 := rfl
def mpV (x : Mp) : Value := .agg #[.int .u64 x.p, .int .i64 x.f, .bool x.ro, .int .u64 x.w]
theorem mpInfo : ∃ i, Tryd.prog.info? 61 = some i ∧ i.zero = some (.agg #[.int .u64 0, .int .i64 0, .bool false, .int .u64 0]) ∧ i.size = 4 ∧ i.bytes = 32 := by
  have h : (Tryd.prog.info? 61).map (fun i => (i.zero, i.size, i.bytes)) = some (some (.agg #[.int .u64 0, .int .i64 0, .bool false, .int .u64 0]), 4, 32) := by kernel_rfl
  cases hq : Tryd.prog.info? 61 with
  | none => simp [hq] at h
  | some i => simp [hq] at h; exact ⟨i, rfl, h.1, h.2.1, h.2.2⟩
theorem wrInfo : ∃ i, Tryd.prog.info? 65 = some i ∧ i.zero = some (.agg #[.int .u64 0, .int .u64 0]) ∧ i.size = 2 ∧ i.bytes = 16 := by
  have h : (Tryd.prog.info? 65).map (fun i => (i.zero, i.size, i.bytes)) = some (some (.agg #[.int .u64 0, .int .u64 0]), 2, 16) := by kernel_rfl
  cases hq : Tryd.prog.info? 65 with
  | none => simp [hq] at h
  | some i => simp [hq] at h; exact ⟨i, rfl, h.1, h.2.1, h.2.2⟩
theorem inInfo : ∃ i, Tryd.prog.info? 3 = some i ∧ i.zero = some (.int .i64 0) ∧ i.size = 1 ∧ i.bytes = 8 := by
  have h : (Tryd.prog.info? 3).map (fun i => (i.zero, i.size, i.bytes)) = some (some (.int .i64 0), 1, 8) := by kernel_rfl
  cases hq : Tryd.prog.info? 3 with
  | none => simp [hq] at h
  | some i => simp [hq] at h; exact ⟨i, rfl, h.1, h.2.1, h.2.2⟩
theorem mp_cells {w : World} {b off i : Nat} {xs : List Mp} {x : Mp} (hx : xs[i]? = some x) (h : ∀ (i : Nat) (x : Mp), xs[i]? = some x → ∀ (j : Nat) (u : Value), (encM x)[j]? = some u → w.cell? ⟨b, off + i * 4 + j, none⟩ = some u) :
    w.cell? ⟨b, off + i * 4, none⟩ = some (.int .u64 x.p) ∧ w.cell? ⟨b, off + i * 4 + 1, none⟩ = some (.int .i64 x.f) ∧ w.cell? ⟨b, off + i * 4 + 2, none⟩ = some (.bool x.ro) ∧ w.cell? ⟨b, off + i * 4 + 3, none⟩ = some (.int .u64 x.w) :=
  ⟨h i x hx 0 _ rfl, h i x hx 1 _ rfl, h i x hx 2 _ rfl, h i x hx 3 _ rfl⟩
theorem take_filter_succ {α : Type} (q : α → Bool) (xs : List α) (i : Nat) (x : α) (h : xs[i]? = some x) : (xs.take (i + 1)).filter q = if q x then (xs.take i).filter q ++ [x] else (xs.take i).filter q := by
  rw [List.take_add_one, h, Option.toList_some, List.filter_append]
  by_cases hq : q x = true
  · simp [hq]
  · simp [hq]
theorem take_map_succ {α β : Type} (q : α → β) (xs : List α) (i : Nat) (x : α) (h : xs[i]? = some x) : (xs.map q).take (i + 1) = (xs.map q).take i ++ [q x] := by
  rw [List.take_add_one, List.getElem?_map, h]
  rfl
theorem take_filter_len {α : Type} (q : α → Bool) (xs : List α) (i : Nat) : ((xs.take i).filter q).length ≤ xs.length := by
  have h1 := List.length_filter_le q (xs.take i)
  have h2 : (xs.take i).length ≤ xs.length := by rw [List.length_take]; omega
  omega
/-- Whether a page may be written. -/
theorem shIsOpen_any (x : Mp) (w : World) : Calls Tryd.prog 37 #[.agg #[.int .u64 x.p, .int .i64 x.f, .bool x.ro, .int .u64 x.w]] w fun e w' => e = .returned (.bool (!x.ro)) ∧ Below w.heap.size w w' := by
  obtain ⟨xp, xf, xr, xw⟩ := x
  simp only
  rcases xr with _ | _
  all_goals
    go_enter Tryd.func37, Tryd.ntmps37
    go_wp2_with fail
    go_ret
    exact ⟨rfl, ba (Below.refl _ _) _⟩
/-- Whether a page is of a stretch. -/
def inP (first count p : Int) : Bool := decide (0 < count ∧ first ≤ p ∧ p - first < count)
/-- What Part's closure has caught. -/
def PCaught (w : World) (C F : Nat) (first count : Int) : Prop := w.cell? ⟨C, 0, none⟩ = some (.int .i64 count) ∧ w.cell? ⟨F, 0, none⟩ = some (.int .u64 first)
theorem PCaught.call {w w' : World} {C F : Nat} {first count : Int} (h : PCaught w C F first count) (hb : Below w.heap.size w w') : PCaught w' C F first count :=
  ⟨(hb.cell (p := ⟨C, 0, none⟩) (World.block_lt_of_cell? w ⟨C, 0, none⟩ h.1)).trans h.1, (hb.cell (p := ⟨F, 0, none⟩) (World.block_lt_of_cell? w ⟨F, 0, none⟩ h.2)).trans h.2⟩
theorem shPart1_any (x : Mp) (first count : Int) (C F : Nat) (w : World) (hC : PCaught w C F first count) (wx : U64 x.p) (wf : U64 first) (wc : count < 9223372036854775808) :
    Calls Tryd.prog 36 #[.agg #[.int .u64 x.p, .int .i64 x.f, .bool x.ro, .int .u64 x.w], .pointer (some ⟨C, 0, none⟩), .pointer (some ⟨F, 0, none⟩)] w fun e w' => e = .returned (.bool (inP first count x.p)) ∧ Below w.heap.size w w' := by
  obtain ⟨xp, xf, xr, xw⟩ := x
  simp only at wx ⊢
  obtain ⟨h1, h2⟩ := hC
  obtain ⟨f0, f1⟩ := wf
  obtain ⟨p0, p1⟩ := wx
  have l1 : C < w.heap.size := World.block_lt_of_cell? w ⟨C, 0, none⟩ h1
  have l2 : F < w.heap.size := World.block_lt_of_cell? w ⟨F, 0, none⟩ h2
  by_cases a1 : 0 < count
  · by_cases a2 : first ≤ xp
    · by_cases a3 : xp - first < count
      · have HE := Lib.hid (show inP first count xp = true from decide_eq_true ⟨a1, a2, a3⟩)
        go_enter Tryd.func36, Tryd.ntmps36
        go_wp2_with fail
        go_ret
        exact ⟨by rw [HE.out]; first | rfl | (show Ending.returned (.bool (decide (xp - first < count))) = _; rw [decide_eq_false (by omega)]), ba (Below.refl _ _) _⟩
      · have HE := Lib.hid (show inP first count xp = false from decide_eq_false (fun h => a3 h.2.2))
        have a3' : count ≤ xp - first := by omega
        clear a3
        go_enter Tryd.func36, Tryd.ntmps36
        go_wp2_with fail
        go_ret
        exact ⟨by rw [HE.out]; first | rfl | (show Ending.returned (.bool (decide (xp - first < count))) = _; rw [decide_eq_false (by omega)]), ba (Below.refl _ _) _⟩
    · have HE := Lib.hid (show inP first count xp = false from decide_eq_false (fun h => a2 h.2.1))
      have a2' : xp < first := by omega
      clear a2
      go_enter Tryd.func36, Tryd.ntmps36
      go_wp2_with fail
      go_ret
      exact ⟨by rw [HE.out]; first | rfl | (show Ending.returned (.bool (decide (xp - first < count))) = _; rw [decide_eq_false (by omega)]), ba (Below.refl _ _) _⟩
  · have HE := Lib.hid (show inP first count xp = false from decide_eq_false (fun h => a1 h.1))
    have a1' : count ≤ 0 := by omega
    clear a1
    go_enter Tryd.func36, Tryd.ntmps36
    go_wp2_with fail
    go_ret
    exact ⟨by rw [HE.out]; first | rfl | (show Ending.returned (.bool (decide (xp - first < count))) = _; rw [decide_eq_false (by omega)]), ba (Below.refl _ _) _⟩
/-- A read-only leaf's word; 0 where there is none. -/
def lfV (f : Int) : Int := eW 2 f false true true true
theorem eE_zero {k f : Int} {af ro us ng : Bool} (h : dOk k f af ro us ng = true) : eE k f af ro us ng = 0 := by unfold eE; rw [if_pos h]
theorem eE_no {k f : Int} {af ro us ng : Bool} (h : dOk k f af ro us ng = false) : eE k f af ro us ng = 30 := by unfold eE; rw [h]; rfl
theorem eW_no {k f : Int} {af ro us ng : Bool} (h : dOk k f af ro us ng = false) : eW k f af ro us ng = 0 := by unfold eW; rw [h]; rfl
theorem tabLeaf_any (f : Int) (w : World) (hG : G w) : Calls Tryd.prog 40 #[.int .i64 f, .bool true] w fun e w' => e = .returned (.int .u64 (lfV f)) ∧ Below w.heap.size w w' := by
  have HG := Lib.hid hG
  clear hG
  unfold lfV
  go_enter Tryd.func40, Tryd.ntmps40
  go_wp2_with fail
  have HB0 := Lib.hid (ba (Below.refl _ w) (.cells #[.int .i8 2, .int .i64 f, .bool false, .bool true, .bool true, .bool true] 54))
  generalize w.alloc (.cells #[.int .i8 2, .int .i64 f, .bool false, .bool true, .bool true, .bool true] 54) = W1 at *
  refine (dEncode_any 2 f false true true true _ (HG.out.call HB0.out)).mono ?_
  rintro e w1 ⟨rfl, hb⟩
  have HB := Lib.hid (bthen HB0.out hb)
  clear hb
  rcases h : dOk 2 f false true true true with _ | _
  · rw [eE_no h]
    have HE := Lib.hid (eW_no h)
    clear h
    obtain ⟨q, hq⟩ : ∃ q, q = eW 2 f false true true true := ⟨_, rfl⟩
    rw [← hq]
    have HQ := Lib.hid hq
    clear hq
    go_wp2_with fail
    go_ret
    exact ⟨by rw [HE.out]; rfl, HB.out⟩
  · rw [eE_zero h]
    clear h
    obtain ⟨q, hq⟩ : ∃ q, q = eW 2 f false true true true := ⟨_, rfl⟩
    rw [← hq]
    have HQ := Lib.hid hq
    clear hq
    go_wp2_with fail
    go_ret
    exact ⟨by rw [← HQ.out]; rfl, HB.out⟩
theorem r16Leaf_any (f : Int) (w : World) : Calls Tryd.prog 11 #[.int .i64 f, .bool true] w fun e w' => e = .returned (.int .u64 (lfV f)) ∧ Below w.heap.size w w' := by
  unfold lfV
  go_enter Tryd.func11, Tryd.ntmps11
  go_wp2_with fail
  refine (r3Encode_any 2 f false true true true _).mono ?_
  rintro e w1 ⟨rfl, hb⟩
  have HB := Lib.hid hb
  clear hb
  rcases h : dOk 2 f false true true true with _ | _
  · rw [eE_no h]
    have HE := Lib.hid (eW_no h)
    clear h
    obtain ⟨q, hq⟩ : ∃ q, q = eW 2 f false true true true := ⟨_, rfl⟩
    rw [← hq]
    have HQ := Lib.hid hq
    clear hq
    go_wp2_with fail
    go_ret
    exact ⟨by rw [HE.out]; rfl, HB.out⟩
  · rw [eE_zero h]
    clear h
    obtain ⟨q, hq⟩ : ∃ q, q = eW 2 f false true true true := ⟨_, rfl⟩
    rw [← hq]
    have HQ := Lib.hid hq
    clear hq
    go_wp2_with fail
    go_ret
    exact ⟨by rw [← HQ.out]; rfl, HB.out⟩
theorem shFrames1_any (x : Mp) (w : World) : Calls Tryd.prog 43 #[.agg #[.int .u64 x.p, .int .i64 x.f, .bool x.ro, .int .u64 x.w]] w fun e w' => e = .returned (.int .i64 x.f) ∧ Below w.heap.size w w' := by
  obtain ⟨xp, xf, xr, xw⟩ := x
  simp only
  go_enter Tryd.func43, Tryd.ntmps43
  go_wp2_with fail
  go_ret
  exact ⟨rfl, ba (Below.refl _ _) _⟩
end Go.Proofs.YtaikkdlphfmgiaaDoor
