/-
  Are acts more than the statements go through?
-/
import Derived.Test.YtgfogbifbpadoaaPcAsk
namespace Go.Proofs.Ytgfogbifbpadoaa
open Go.RowKit Go.Maps
set_option linter.unusedVariables false
set_option linter.unusedSimpArgs false
variable {w : World}
def GrP (n : Nat) (e : Ending) : Prop := ∃ b : Bool, e = .returned (.bool b) ∧ (b = false → n ≤ 150)
set_option maxRecDepth 100000 in
set_option maxHeartbeats 4000000 in
theorem pcGreat_any (O : Option Addr) (cap : Nat) (xs : List Ac) (hX : ActsK w O xs) (hcap : xs.length ≤ cap) (hm : cap ≤ maxLen) :
    Calls Try.prog 7 #[.slice O xs.length cap] w fun e w' => GrP xs.length e ∧ w = w' := by
  obtain ⟨len, hlen⟩ : ∃ n, n = xs.length := ⟨_, rfl⟩
  have HX := Lib.hid hX.1
  have HL := Lib.hid hlen
  have hmx : len ≤ 9223372036854775807 := by unfold maxLen at hm; omega
  rw [← hlen] at hcap ⊢
  clear hX hlen
  go_enter Try.func7, Try.ntmps7
  go_wp2_with fail
  go_loop [6] (fun i => ∃ k : Nat, i = .int .i64 k ∧ k ≤ len ∧ k ≤ 150) (fun i => len - (intOf i).toNat)
  case atStart => exact ⟨0, rfl, by omega, by omega⟩
  case round =>
    obtain ⟨k, rfl, hk, hk5⟩ := hrel
    by_cases hlt : k < len
    · by_cases h150 : 150 ≤ k
      · go_wp2_with fail
        go_ret
        exact ⟨⟨true, rfl, fun h => by cases h⟩, rfl⟩
      · have h150' : k < 150 := by omega
        clear h150
        obtain ⟨b, off, rfl, hc⟩ := HX.out (by have := HL.out; omega)
        obtain ⟨x, hx⟩ : ∃ x, xs[k]? = some x := ⟨_, List.getElem?_eq_getElem (by have := HL.out; omega)⟩
        have c3 := hc k x hx 3 _ rfl
        have c16 := hc k x hx 16 _ rfl
        clear hc hx
        generalize x.l.length = p at c3
        generalize x.S.l.length = q at c16
        by_cases hp : 40 < p
        · go_wp2_with fail
          go_ret
          exact ⟨⟨true, rfl, fun h => by cases h⟩, rfl⟩
        · have hp' : p ≤ 40 := by omega
          clear hp
          by_cases hq : 40 < q
          · go_wp2_with fail
            go_ret
            exact ⟨⟨true, rfl, fun h => by cases h⟩, rfl⟩
          · have hq' : q ≤ 40 := by omega
            clear hq
            go_wp2_with fail
            go_round
            case rel => exact ⟨k + 1, by go_num, by omega, by omega⟩
            case measure => simp [intOf]; omega
    · obtain rfl : k = len := by omega
      go_wp2_with fail
      go_ret
      exact ⟨⟨false, rfl, fun _ => hk5⟩, rfl⟩
end Go.Proofs.Ytgfogbifbpadoaa
