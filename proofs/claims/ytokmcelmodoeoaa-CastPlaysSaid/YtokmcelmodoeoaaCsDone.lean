/-
  The walk of Done.
-/
import Derived.Test.YtokmcelmodoeoaaCsWalks
import Derived.Deep.DeepCutAuto
import Derived.LoopTactic
namespace Go.Proofs.Ytokmcelmodoeoaa
open Go.RowKit
set_option linter.unusedVariables false
set_option linter.unusedSimpArgs false
/-- Has nobody a pair of that sender? -/
def doneB (rows : Nat → List Pr) (c : Int) : Bool := (List.range 8).all fun k => (rows k).all fun x => x.s != c
theorem doneB_iff (rows : Nat → List Pr) (c : Int) : doneB rows c = true ↔ ∀ k, k < 8 → ∀ x ∈ rows k, x.s ≠ c := by
  simp [doneB]
def dnB (n : Nat) (rows : Nat → List Pr) (c : Int) : Bool := if hasB n c then doneB rows c else true
set_option maxHeartbeats 1000000 in
theorem cdone_in (b n : Nat) (rows : Nat → List Pr) (vs : Nat → Value) (F : Nat → Prop) (c : Int) (w : World) (h : Cs w b n rows vs F) (hh : hasB n c = true) (hlen : ∀ k, k < 8 → (rows k).length ≤ 100) : Calls Try.prog 12 #[.pointer (some ⟨b, 0, none⟩), .int .i64 c] w fun e w' => e = .returned (.bool (doneB rows c)) ∧ Below w.heap.size w w' := by
  have h0 := h.cell0
  have HH := Lib.hid hh
  have HC := Lib.hid h
  have HL := Lib.hid hlen
  have k0 := h.cellk (show 0 < 8 by omega)
  have k1 := h.cellk (show 1 < 8 by omega)
  have k2 := h.cellk (show 2 < 8 by omega)
  have k3 := h.cellk (show 3 < 8 by omega)
  have k4 := h.cellk (show 4 < 8 by omega)
  have k5 := h.cellk (show 5 < 8 by omega)
  have k6 := h.cellk (show 6 < 8 by omega)
  have k7 := h.cellk (show 7 < 8 by omega)
  simp only [Nat.reduceAdd, Nat.add_zero] at k0 k1 k2 k3 k4 k5 k6 k7
  clear h hh hlen
  go_enter Try.func12, Try.ntmps12
  go_wp2_with fail
  go_step3
  go_wp2_with (go_at_call 21; refine (chas_any b n _ _ h0).mono ?_; rintro e w1 ⟨rfl, rfl⟩; rw [HH.out])
  go_step3
  go_wp2_with fail
  go_loopw [5, 18] (fun dn i wr => ∃ k : Nat, dn = .bool true ∧ i = .int .i64 k ∧ k ≤ 8 ∧ (∀ j, j < k → ∀ x ∈ rows j, x.s ≠ c) ∧ Below w.heap.size w wr) (fun _ i _ => 8 - (intOf i).toNat)
  case atStart => exact ⟨0, rfl, rfl, by omega, fun j hj => by omega, Below.refl _ _⟩
  case round =>
    obtain ⟨k, rfl, rfl, hk, hq, hB⟩ := hrel
    have HQ := Lib.hid hq
    have HB := Lib.hid hB
    clear hq hB
    by_cases hlt : k < 8
    · obtain ⟨O, cap, hv, hl, hmx, hR⟩ := HC.out.form hlt
      have hix : ∀ w' : World, (Instr.index 59 (.agg #[vs 0, vs 1, vs 2, vs 3, vs 4, vs 5, vs 6, vs 7]) (.int .i64 k)).run Try.prog w' = .ok (.slice O (rows k).length cap) w' := by
        intro w'
        rw [← hv]
        rcases lt8 hlt with rfl | rfl | rfl | rfl | rfl | rfl | rfl | rfl <;> simp [go_sem, Try.underlying59, Instr.index]
      have HR := Lib.hid hR
      clear hv hR
      go_wp2_with fail
      obtain ⟨wo, hwo⟩ : ∃ wo : World, wo = wr := ⟨_, rfl⟩
      clear hix k0 k1 k2 k3 k4 k5 k6 k7 h0 hwo
      go_loopw [5, 23] (fun dn i wr => ∃ m : Nat, dn = .bool true ∧ i = .int .i64 m ∧ m ≤ (rows k).length ∧ (∀ j x, j < m → (rows k)[j]? = some x → x.s ≠ c) ∧ Below w.heap.size w wr) (fun _ i _ => (rows k).length - (intOf i).toNat)
      case atStart => exact ⟨0, rfl, rfl, by omega, fun j x hj => by omega, HB.out⟩
      case round =>
        obtain ⟨m, rfl, rfl, hm, hq2, hB2⟩ := hrel
        have HQ2 := Lib.hid hq2
        have HB2 := Lib.hid hB2
        clear hq2 hB2
        have hl100 := HL.out k hlt
        by_cases hmt : m < (rows k).length
        · obtain ⟨x, hx⟩ : ∃ x, (rows k)[m]? = some x := ⟨_, List.getElem?_eq_getElem hmt⟩
          obtain ⟨bq, off, rfl, hcell⟩ := ((HR.out.call HB2.out)) (by omega)
          have hc2 := hcell m x hx
          have q0 := hc2 0 _ rfl
          have q1 := hc2 1 _ rfl
          have q2 := hc2 2 _ rfl
          have q3 := hc2 3 _ rfl
          rw [Nat.add_zero] at q0
          have hbq : bq < wr.heap.size := World.block_lt_of_cell? wr ⟨bq, off + m * 4, none⟩ q0
          clear hc2 hcell
          have HX := Lib.hid hx
          clear hx
          by_cases hs : x.s = c
          · have HD := Lib.hid (show doneB rows c = false by
              rw [Bool.eq_false_iff]
              intro hd
              exact (doneB_iff _ _).1 hd k hlt x (List.mem_of_getElem? HX.out) hs)
            go_wp2_with fail
            rw [Exit.noGoto_ret]
            go_ret
            exact ⟨ret_bool HD.out.symm, ba HB2.out _⟩
          · go_wp2_with fail
            go_roundw
            case rel => exact ⟨m + 1, rfl, by go_num, by omega, fun j y hj hy => by
                by_cases e : j < m
                · exact HQ2.out j y e hy
                · obtain rfl : j = m := by omega
                  rw [HX.out] at hy
                  injection hy with hy
                  rw [← hy]; exact hs, ba HB2.out _⟩
            case measure => simp [intOf]; omega
        · obtain rfl : m = (rows k).length := by omega
          go_wp2_with fail
          go_roundw
          case rel => exact ⟨k + 1, rfl, by go_num, by omega, fun j hj y hy => by
              by_cases e : j < k
              · exact HQ.out j e y hy
              · obtain rfl : j = k := by omega
                obtain ⟨i, hi⟩ := List.getElem?_of_mem hy
                exact HQ2.out i y (List.getElem?_eq_some_iff.1 hi).1 hi, HB2.out⟩
          case measure => simp [intOf]; omega
    · obtain rfl : k = 8 := by omega
      have HD := Lib.hid (show doneB rows c = true from (doneB_iff _ _).2 fun j hj x hx => HQ.out j hj x hx)
      go_wp2_with fail
      rw [Exit.noGoto_ret]
      go_ret
      exact ⟨ret_bool HD.out.symm, HB.out⟩
theorem cdone_any (b n : Nat) (rows : Nat → List Pr) (vs : Nat → Value) (F : Nat → Prop) (c : Int) (w : World) (h : Cs w b n rows vs F) (hlen : ∀ k, k < 8 → (rows k).length ≤ 100) : Calls Try.prog 12 #[.pointer (some ⟨b, 0, none⟩), .int .i64 c] w fun e w' => e = .returned (.bool (dnB n rows c)) ∧ Below w.heap.size w w' := by
  rcases hh : hasB n c with _ | _
  · have h0 := h.cell0
    have HH := Lib.hid hh
    have HD := Lib.hid (show dnB n rows c = true by simp [dnB, hh])
    clear hh
    go_enter Try.func12, Try.ntmps12
    go_wp2_with fail
    go_step3
    go_wp2_with (go_at_call 21; refine (chas_any b n _ _ h0).mono ?_; rintro e w1 ⟨rfl, rfl⟩; rw [HH.out])
    rw [Exit.noGoto_ret]
    go_ret
    exact ⟨ret_bool HD.out.symm, Below.refl _ _⟩
  · have := cdone_in b n rows vs F c w h hh hlen
    simpa [dnB, hh] using this
end Go.Proofs.Ytokmcelmodoeoaa
