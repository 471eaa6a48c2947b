/-
  Rows of entries held against each other.
-/
import Derived.Test.YtencifnopfianaaTlWakes
import Derived.Test.YtencifnopfianaaTlLaws
import Derived.Deep.QuietTactic
import Derived.BigQuiet
namespace Go.Proofs.Ytencifnopfianaa
open Go.RowKit
set_option linter.unusedVariables false
set_option linter.unusedSimpArgs false
set_option maxRecDepth 100000 in
set_option maxHeartbeats 4000000 in
theorem sameT_at (len : Nat) {xs : List Tb} (hq : xs.length = len) (O1 O2 : Option Addr) (p1 p2 : Nat) (w : World) (h1 : RK encT 4 w O1 xs) (h2 : RK encT 4 w O2 xs) (l1 : len ≤ p1) (l2 : len ≤ p2) (h8 : len ≤ 1000) :
    Calls Try.prog 14 #[.slice O1 len p1, .slice O2 len p2] w fun e w' => e = .returned (.bool true) ∧ Below w.heap.size w w' := by
  have F1 := Lib.hid h1
  have F2 := Lib.hid h2
  have HL := Lib.hid hq.symm
  clear h1 h2 hq
  go_enter Try.func14, Try.ntmps14
  go_wp2_with fail
  go_loopw [5] (fun i wr => ∃ k : Nat, i = .int .i64 k ∧ k ≤ len ∧ Below w.heap.size w wr) (fun i _ => len - (intOf i).toNat)
  case atStart => exact ⟨0, rfl, by omega, Below.refl _ _⟩
  case round =>
    obtain ⟨k, rfl, hk, hB⟩ := hrel
    have kc : ∀ (b o : Nat) (u : Value), w.cell? ⟨b, o, none⟩ = some u → wr.cell? ⟨b, o, none⟩ = some u := fun b o u h => (hB.cell (p := ⟨b, o, none⟩) (World.block_lt_of_cell? w ⟨b, o, none⟩ h)).trans h
    by_cases hlt : k < len
    · obtain ⟨g1, o1, rfl, d1⟩ := F1.out (by have := HL.out; omega)
      obtain ⟨g2, o2, rfl, d2⟩ := F2.out (by have := HL.out; omega)
      obtain ⟨x, hx⟩ : ∃ x, xs[k]? = some x := ⟨xs[k]'(by have := HL.out; omega), List.getElem?_eq_getElem _⟩
      have e10 := kc _ _ _ (d1 k x hx 0 _ rfl)
      have e11 := kc _ _ _ (d1 k x hx 1 _ rfl)
      have e12 := kc _ _ _ (d1 k x hx 2 _ rfl)
      have e13 := kc _ _ _ (d1 k x hx 3 _ rfl)
      have e20 := kc _ _ _ (d2 k x hx 0 _ rfl)
      have e21 := kc _ _ _ (d2 k x hx 1 _ rfl)
      have e22 := kc _ _ _ (d2 k x hx 2 _ rfl)
      have e23 := kc _ _ _ (d2 k x hx 3 _ rfl)
      have HB := Lib.hid hB
      clear d1 d2 kc hB hx
      (try simp only [Nat.add_zero, Nat.mul_one] at *)
      go_wp2_with fail
      go_quiet (fail)
      go_wp2_with fail
      go_roundw
      case rel => exact ⟨k + 1, by go_num, by omega, ⟨HB.out.os, HB.out.tape, HB.out.output, HB.out.size, HB.out.block⟩⟩
      case measure => simp [intOf]; omega
    · have HB := Lib.hid hB
      clear hB kc
      go_wp2_with fail
      go_ret
      exact ⟨rfl, HB.out⟩
set_option maxRecDepth 100000 in
set_option maxHeartbeats 4000000 in
theorem sameS_at (len : Nat) {xs : List Sb} (hq : xs.length = len) (O1 O2 : Option Addr) (p1 p2 : Nat) (w : World) (h1 : RK encS 4 w O1 xs) (h2 : RK encS 4 w O2 xs) (l1 : len ≤ p1) (l2 : len ≤ p2) (h8 : len ≤ 1000) :
    Calls Try.prog 30 #[.slice O1 len p1, .slice O2 len p2] w fun e w' => e = .returned (.bool true) ∧ Below w.heap.size w w' := by
  have F1 := Lib.hid h1
  have F2 := Lib.hid h2
  have HL := Lib.hid hq.symm
  clear h1 h2 hq
  go_enter Try.func30, Try.ntmps30
  go_wp2_with fail
  go_loopw [5] (fun i wr => ∃ k : Nat, i = .int .i64 k ∧ k ≤ len ∧ Below w.heap.size w wr) (fun i _ => len - (intOf i).toNat)
  case atStart => exact ⟨0, rfl, by omega, Below.refl _ _⟩
  case round =>
    obtain ⟨k, rfl, hk, hB⟩ := hrel
    have kc : ∀ (b o : Nat) (u : Value), w.cell? ⟨b, o, none⟩ = some u → wr.cell? ⟨b, o, none⟩ = some u := fun b o u h => (hB.cell (p := ⟨b, o, none⟩) (World.block_lt_of_cell? w ⟨b, o, none⟩ h)).trans h
    by_cases hlt : k < len
    · obtain ⟨g1, o1, rfl, d1⟩ := F1.out (by have := HL.out; omega)
      obtain ⟨g2, o2, rfl, d2⟩ := F2.out (by have := HL.out; omega)
      obtain ⟨x, hx⟩ : ∃ x, xs[k]? = some x := ⟨xs[k]'(by have := HL.out; omega), List.getElem?_eq_getElem _⟩
      have e10 := kc _ _ _ (d1 k x hx 0 _ rfl)
      have e11 := kc _ _ _ (d1 k x hx 1 _ rfl)
      have e12 := kc _ _ _ (d1 k x hx 2 _ rfl)
      have e13 := kc _ _ _ (d1 k x hx 3 _ rfl)
      have e20 := kc _ _ _ (d2 k x hx 0 _ rfl)
      have e21 := kc _ _ _ (d2 k x hx 1 _ rfl)
      have e22 := kc _ _ _ (d2 k x hx 2 _ rfl)
      have e23 := kc _ _ _ (d2 k x hx 3 _ rfl)
      have HB := Lib.hid hB
      clear d1 d2 kc hB hx
      (try simp only [Nat.add_zero, Nat.mul_one] at *)
      go_wp2_with fail
      go_quiet (fail)
      go_wp2_with fail
      go_roundw
      case rel => exact ⟨k + 1, by go_num, by omega, ⟨HB.out.os, HB.out.tape, HB.out.output, HB.out.size, HB.out.block⟩⟩
      case measure => simp [intOf]; omega
    · have HB := Lib.hid hB
      clear hB kc
      go_wp2_with fail
      go_ret
      exact ⟨rfl, HB.out⟩
end Go.Proofs.Ytencifnopfianaa
