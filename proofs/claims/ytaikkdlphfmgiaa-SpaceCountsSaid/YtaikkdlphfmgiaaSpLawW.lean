/-
  The helpers of the laws of regions: how many pages there are, and is a page in a stretch?
-/
import Derived.Test.YtaikkdlphfmgiaaSpLaws
namespace Go.Proofs.Ytaikkdlphfmgiaa
open Go.RowKit
set_option linter.unusedVariables false
set_option linter.unusedSimpArgs false
theorem l19in_any (f c p : Int) (b : Bool) (w : World) (hf : U64 f) (hc : -9223372036854775808 ≤ c ∧ c < 9223372036854775808) (hp : U64 p) : Calls Try.prog 17 #[.agg #[.int .u64 f, .int .i64 c, .bool b], .int .u64 p] w fun e w' => e = .returned (.bool (inR p ⟨f, c, b⟩)) ∧ Below w.heap.size w w' := by
  obtain ⟨p0, p1⟩ := hp
  obtain ⟨f0, f1⟩ := hf
  obtain ⟨c0, c1⟩ := hc
  unfold inR
  by_cases a1 : f ≤ p
  · by_cases a0 : 0 < c
    · by_cases a2 : p - f < c
      · have a3 : p < f + c := by omega
        go_enter Try.func17, Try.ntmps17
        go_wp2_with fail
        go_ret
        exact ⟨by simp [a1, a3], ba (Below.refl _ _) _⟩
      · have a3 : ¬ p < f + c := by omega
        have a2' : c ≤ p - f := by omega
        go_enter Try.func17, Try.ntmps17
        go_wp2_with fail
        go_ret
        exact ⟨by simp [a3], ba (Below.refl _ _) _⟩
    · by_cases a5 : c < 0
      · go_enter Try.func17, Try.ntmps17
        go_wp2_with fail
        go_ret
        exact ⟨ret_bool (by rw [Bool.eq_iff_iff]; simp; omega), ba (Below.refl _ _) _⟩
      · obtain rfl : c = 0 := by omega
        go_enter Try.func17, Try.ntmps17
        go_wp2_with fail
        go_ret
        exact ⟨ret_bool (by rw [Bool.eq_iff_iff]; simp; omega), ba (Below.refl _ _) _⟩
  · have a1' : p < f := by omega
    go_enter Try.func17, Try.ntmps17
    go_wp2_with fail
    go_ret
    exact ⟨ret_bool (by simp; omega), ba (Below.refl _ _) _⟩
theorem pgs_take' {l : List Reg} {k : Nat} (h : k < l.length) : pgs (l.take (k + 1)) = pgs (l.take k) + (rg l k).c := by
  rw [List.take_add_one, rg_some h, Option.toList_some, pgs_app]
  simp [pgs]
theorem pgs_take_bd {l : List Reg} (hb : ∀ k, k < l.length → 0 ≤ (rg l k).c ∧ (rg l k).c ≤ 34359738368) : ∀ k, k ≤ l.length → 0 ≤ pgs (l.take k) ∧ pgs (l.take k) ≤ 34359738368 * k
  | 0, _ => by simp [pgs]
  | k + 1, h => by
    have h1 := pgs_take_bd hb k (by omega)
    have h2 := hb k (by omega)
    rw [pgs_take' (by omega)]
    omega
set_option maxHeartbeats 400000 in
theorem l19pages_any (O : Option Addr) (len cap : Nat) (l : List Reg) (w : World) (hI : RegsK w O l) (hl : l.length = len) (hcap : len ≤ cap) (h8 : len ≤ 1000) (hb : ∀ k, k < len → 0 ≤ (rg l k).c ∧ (rg l k).c ≤ 34359738368) :
    Calls Try.prog 18 #[.slice O len cap] w fun e w' => e = .returned (.int .i64 (pgs l)) ∧ w = w' := by
  have HI := Lib.hid hI
  have HL := Lib.hid hl
  have HB := Lib.hid hb
  have HT := Lib.hid (pgs_take_bd (l := l) (by rw [hl]; exact hb))
  clear hI hl hb
  go_enter Try.func18, Try.ntmps18
  go_wp2_with fail
  go_loop [3, 7] (fun s i => ∃ k : Nat, s = .int .i64 (pgs (l.take k)) ∧ i = .int .i64 k ∧ k ≤ len) (fun _ i => len - (intOf i).toNat)
  case atStart => exact ⟨0, by simp [pgs], rfl, by omega⟩
  case round =>
    obtain ⟨k, rfl, rfl, hk⟩ := hrel
    by_cases hlt : k < len
    · have hT := pgs_take' (l := l) (k := k) (by have := HL.out; omega)
      have h1 := HT.out k (by have := HL.out; omega)
      have h2 := HB.out k hlt
      obtain ⟨b, off, rfl, hcell⟩ := HI.out (by have := HL.out; omega)
      obtain ⟨c0, c1, c2⟩ := hcell k (by have := HL.out; omega)
      have HX := Lib.hid hT
      clear hcell hT c0 c2
      generalize (rg l k).c = rc at *
      generalize hS : pgs (l.take k) = S at *
      have HS := Lib.hid hS
      clear hS
      go_wp2_with fail
      go_round
      case rel => exact ⟨k + 1, by rw [HX.out], by go_num, by omega⟩
      case measure => simp [intOf]; omega
    · obtain rfl : k = len := by omega
      have HE := Lib.hid (show pgs (l.take k) = pgs l by rw [← HL.out, List.take_length])
      go_wp2_with fail
      go_ret
      exact ⟨ret_int HE.out, rfl⟩
end Go.Proofs.Ytaikkdlphfmgiaa
