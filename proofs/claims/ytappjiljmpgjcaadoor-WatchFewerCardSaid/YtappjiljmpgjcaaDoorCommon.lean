/-
  Small lemmas that every walk of this seat uses: worlds that only grow, words, results.
-/
import Derived.Test.YtappjiljmpgjcaaDoorRows
import Derived.WalkKit
import Derived.WalkSpells
import Derived.WalkLawsBesides
import Derived.Lib.Hide
import Derived.Below
import Derived.Outline
import Derived.OwnWalk
import Derived.OpenShut
import Derived.LoopN
import Derived.LoopTactic
import Derived.Laws.BitsAllLaws
import Derived.Laws.Bits64
import Derived.Deep.Draws
namespace Go.Proofs.YtappjiljmpgjcaaDoor
open Go.RowKit

theorem bcell {W w1 : World} (hb : Below W.heap.size W w1) : (∀ b o, b < W.heap.size → w1.cell? ⟨b, o, none⟩ = W.cell? ⟨b, o, none⟩) ∧ (∀ b o, b < W.heap.size → w1.frozen? ⟨b, o, none⟩ = W.frozen? ⟨b, o, none⟩) :=
  ⟨fun b o h => hb.cell (p := ⟨b, o, none⟩) h, fun b o h => hb.frozen (p := ⟨b, o, none⟩) h⟩
theorem bthen {a W c : World} (h : Below a.heap.size a W) (hb : Below W.heap.size W c) : Below a.heap.size a c := h.trans (hb.mono h.size)
theorem ba {a W : World} (h : Below a.heap.size a W) (o : Obj) : Below a.heap.size a (W.alloc o) := h.alloc h.size o
theorem bd {a W : World} (h : Below a.heap.size a W) : Below a.heap.size a W.drew := h.drew
theorem bs {a W : World} (h : Below a.heap.size a W) {p : Addr} (hp : a.heap.size ≤ p.block) (u : Value) : Below a.heap.size a (W.setCell p u) := h.setCell hp u
theorem bdn {B : Nat} {a w : World} (h : Below B a w) (n : Nat) : Below B a (w.drewN n) := ⟨h.os, h.tape, h.output, h.size, h.block⟩
theorem ret_int {k : IntKind} {a b : Int} (h : a = b) : Ending.returned (.int k a) = .returned (.int k b) := by rw [h]
theorem ret_bool {a b : Bool} (h : a = b) : Ending.returned (.bool a) = .returned (.bool b) := by rw [h]
theorem ret_two {k l : IntKind} {a b c : Int} (h : a = b) : Ending.returned (.tuple #[.int k a, .int l c]) = .returned (.tuple #[.int k b, .int l c]) := by rw [h]
/-- A word. -/
def U64 (x : Int) : Prop := 0 ≤ x ∧ x < 18446744073709551616
theorem u64_nat {x : Int} (h : U64 x) : ∃ n : Nat, x = n ∧ n < 18446744073709551616 := ⟨x.toNat, by have := h.1; omega, by have := h.2; omega⟩
theorem u64_lit {n : Nat} (h : n < 18446744073709551616) : U64 n := ⟨by omega, by omega⟩
theorem u64_wf {n : Int} (h : (Lit.int .u64 n).wf = true) : U64 n := ⟨(bounds_u64 h).1, by have := (bounds_u64 h).2; omega⟩
theorem bne_self_i (a : Int) : (a != a) = false := by simp
theorem norm_mod (k m : Int) (hm : 1 ≤ m) (hm2 : m ≤ 4294967296) : 0 ≤ (wrap64 (k.tmod m + m)).tmod m ∧ (wrap64 (k.tmod m + m)).tmod m < m := by
  have h1 := Int.tmod_lt_of_pos k (show 0 < m by omega)
  have h2 : -m < k.tmod m := by
    have := Int.tmod_lt_of_pos (-k) (show 0 < m by omega)
    rw [Int.neg_tmod] at this
    omega
  rw [IntWalk.wrap64_in _ (by omega)]
  rw [Int.tmod_eq_emod_of_nonneg (by omega)]
  exact ⟨Int.emod_nonneg _ (by omega), Int.emod_lt_of_pos _ (by omega)⟩
end Go.Proofs.YtappjiljmpgjcaaDoor
