/-
  Package tlb's greatest, and the best step.
-/
import Derived.Test.YtencifnopfianaaTlCheckS
import Derived.Test.YtencifnopfianaaTlRows
import Derived.Deep.QuietTactic
import Derived.BigQuiet
import Derived.Deep.RegionHeld
namespace Go.Proofs.Ytencifnopfianaa
open Go.RowKit
set_option linter.unusedVariables false
set_option linter.unusedSimpArgs false
/-- Is a step one of an ASID and a page? -/
def ofB (asid page : Int) (x : Sb) : Bool := (x.a == asid) && (page / 2 ^ (9 * (3 - x.l)).toNat == x.p)
def bstep (of : Sb → Bool) (o : Option Sb) (x : Sb) : Option Sb := if of x = true then (match o with | none => some x | some b => if b.l < x.l then some x else some b) else o
def bst (of : Sb → Bool) (xs : List Sb) : Option Sb := xs.foldl (bstep of) none
open Classical in
noncomputable def bestO (xs : List Sb) (asid page : Int) : Option Sb := if Ck mayS plS 4 xs then bst (ofB asid page) xs else none
def zS : Sb := ⟨0, 0, 0, 0⟩
theorem bst_succ (of : Sb → Bool) (xs : List Sb) (j : Nat) (x : Sb) (h : xs[j]? = some x) : bst of (xs.take (j + 1)) = bstep of (bst of (xs.take j)) x := by
  unfold bst
  rw [List.take_add_one, h, Option.toList_some, List.foldl_append]
  rfl
theorem bstep_no {of : Sb → Bool} {o : Option Sb} {x : Sb} (h : of x = false) : bstep of o x = o := by unfold bstep; rw [h]; rfl
theorem bstep_first {of : Sb → Bool} {x : Sb} (h : of x = true) : bstep of none x = some x := by unfold bstep; rw [if_pos h]
theorem bstep_more {of : Sb → Bool} {b x : Sb} (h : of x = true) (hl : b.l < x.l) : bstep of (some b) x = some x := by unfold bstep; rw [if_pos h]; simp only; rw [if_pos hl]
theorem bstep_less {of : Sb → Bool} {b x : Sb} (h : of x = true) (hl : ¬ b.l < x.l) : bstep of (some b) x = some b := by unfold bstep; rw [if_pos h]; simp only; rw [if_neg hl]
/-- What the closure has caught. -/
def BCaught (w : World) (C D : Nat) (asid page : Int) : Prop := w.cell? ⟨C, 0, none⟩ = some (.int .i64 asid) ∧ w.cell? ⟨D, 0, none⟩ = some (.int .u64 page)
theorem BCaught.call {w w' : World} {C D : Nat} {asid page : Int} (h : BCaught w C D asid page) (hb : Below w.heap.size w w') : BCaught w' C D asid page :=
  ⟨(hb.cell (p := ⟨C, 0, none⟩) (World.block_lt_of_cell? w ⟨C, 0, none⟩ h.1)).trans h.1, (hb.cell (p := ⟨D, 0, none⟩) (World.block_lt_of_cell? w ⟨D, 0, none⟩ h.2)).trans h.2⟩
set_option maxHeartbeats 1000000 in
theorem best1_any (x : Sb) (asid page : Int) (C D : Nat) (w : World) (hC : BCaught w C D asid page) (h1 : 1 ≤ x.l) (h3 : x.l ≤ 3) :
    Calls Try.prog 42 #[.agg #[.int .i64 x.a, .int .i8 x.l, .int .u64 x.p, .int .i64 x.f], .pointer (some ⟨C, 0, none⟩), .pointer (some ⟨D, 0, none⟩)] w fun e w' => e = .returned (.bool (ofB asid page x)) ∧ Below w.heap.size w w' := by
  obtain ⟨g1, g2⟩ := hC
  have l1 := World.block_lt_of_cell? w ⟨C, 0, none⟩ g1
  have l2 := World.block_lt_of_cell? w ⟨D, 0, none⟩ g2
  obtain ⟨xa, xl, xp, xf⟩ := x
  simp only at h1 h3 ⊢
  rcases ha : (xa == asid) with _ | _
  · have HE := Lib.hid (show ofB asid page ⟨xa, xl, xp, xf⟩ = false by unfold ofB; rw [ha]; rfl)
    go_enter Try.func42, Try.ntmps42
    go_wp2_with fail
    go_quiet (fail)
    go_wp2_with fail
    go_ret
    exact ⟨by rw [HE.out]; rfl, bdn (ba (Below.refl _ _) _) _⟩
  · have HE := Lib.hid (show ofB asid page ⟨xa, xl, xp, xf⟩ = (page / 2 ^ (9 * (3 - xl)).toNat == xp) by unfold ofB; rw [ha]; rfl)
    go_enter Try.func42, Try.ntmps42
    go_wp2_with fail
    go_quiet ((go_at_call 43; exact Calls.quiet_of_same (behind_q _ _ (by omega) (by omega))))
    go_wp2_with fail
    go_ret
    exact ⟨by rw [HE.out]; rfl, bdn (ba (Below.refl _ _) _) _⟩
theorem best2_any (x y : Sb) (w : World) :
    Calls Try.prog 44 #[.agg #[.int .i64 x.a, .int .i8 x.l, .int .u64 x.p, .int .i64 x.f], .agg #[.int .i64 y.a, .int .i8 y.l, .int .u64 y.p, .int .i64 y.f]] w fun e w' => e = .returned (.bool (decide (x.l < y.l))) ∧ Below w.heap.size w w' := by
  obtain ⟨xa, xl, xp, xf⟩ := x
  obtain ⟨ya, yl, yp, yf⟩ := y
  simp only
  by_cases h : xl < yl
  · go_enter Try.func44, Try.ntmps44
    go_wp2_with fail
    go_ret
    exact ⟨ret_bool (by simp [h]), ba (ba (Below.refl _ _) _) _⟩
  · go_enter Try.func44, Try.ntmps44
    go_wp2_with fail
    go_ret
    exact ⟨ret_bool (by simp [h]), ba (ba (Below.refl _ _) _) _⟩
end Go.Proofs.Ytencifnopfianaa
