/-
  The document's house: a new one.
-/
import Derived.Test.YtgfogbifbpadoaaRcSetS
import Derived.Test.YtgfogbifbpadoaaPcWakes
namespace Go.Proofs.Ytgfogbifbpadoaa
open Go.RowKit Go.Maps
set_option linter.unusedVariables false
set_option linter.unusedSimpArgs false
variable {w : World} {W : Nat → Prop} {Q : Nat} {R : Rh}
abbrev rhC (c : Int) : Array Value := #[.int .i64 c, .int .i64 0, .int .u64 0, .int .u64 0, .int .u64 0, .int .u64 0, .int .u64 0, .int .u64 0, .int .u64 0, .int .u64 0, .int .i64 0, .int .i64 0, .bool false, .int .i64 0, .int .u64 0, .int .u64 0, .int .u64 0, .int .u64 0, .int .u64 0, .int .u64 0, .int .u64 0, .int .u64 0, .int .i64 0, .int .i64 0, .bool false, .int .i64 0, .int .u64 0, .int .u64 0, .int .u64 0, .int .u64 0, .int .u64 0, .int .u64 0, .int .u64 0, .int .u64 0, .int .i64 0, .int .i64 0, .bool false, .int .i64 0, .int .u64 0, .int .u64 0, .int .u64 0, .int .u64 0, .int .u64 0, .int .u64 0, .int .u64 0, .int .u64 0, .int .i64 0, .int .i64 0, .bool false, .int .i64 0, .int .u64 0, .int .u64 0, .int .u64 0, .int .u64 0, .int .u64 0, .int .u64 0, .int .u64 0, .int .u64 0, .int .i64 0, .int .i64 0, .bool false, .int .i64 0, .int .u64 0, .int .u64 0, .int .u64 0, .int .u64 0, .int .u64 0, .int .u64 0, .int .u64 0, .int .u64 0, .int .i64 0, .int .i64 0, .bool false, .int .i64 0, .int .u64 0, .int .u64 0, .int .u64 0, .int .u64 0, .int .u64 0, .int .u64 0, .int .u64 0, .int .u64 0, .int .i64 0, .int .i64 0, .bool false, .int .i64 0, .int .u64 0, .int .u64 0, .int .u64 0, .int .u64 0, .int .u64 0, .int .u64 0, .int .u64 0, .int .u64 0, .int .i64 0, .int .i64 0, .bool false, .int .i64 0, .int .u64 0, .int .u64 0, .int .u64 0, .int .u64 0, .int .u64 0, .int .u64 0, .int .u64 0, .int .u64 0, .int .i64 0, .int .i64 0, .bool false, .slice none 0 0, .int .i64 0, .int .i64 0, .int .i64 0, .int .i64 0, .slice none 0 0, .int .i64 0, .int .i64 0, .int .i64 0, .int .i64 0, .slice none 0 0, .int .i64 0, .int .i64 0, .int .i64 0, .int .i64 0, .slice none 0 0, .int .i64 0, .int .i64 0, .int .i64 0, .int .i64 0, .slice none 0 0, .int .i64 0, .int .i64 0, .int .i64 0, .int .i64 0, .slice none 0 0, .int .i64 0, .int .i64 0, .int .i64 0, .int .i64 0, .slice none 0 0, .int .i64 0, .int .i64 0, .int .i64 0, .int .i64 0, .bool false, .bool false, .bool false, .bool false, .bool false, .bool false, .bool false]
def Rh.z : Rh := ⟨fun _ => Th.z, fun _ => Spc.z⟩
set_option maxRecDepth 100000 in
theorem rh_made (c : Int) (w : World) (hW : ∀ x, W x → x < w.heap.size + 1) (hQ : W w.heap.size) : Rm (w.alloc (.cells (rhC c) 75)) W w.heap.size Rh.z := by
  have hb := Bk.new w 75 (rhC c)
  have hlt : (w.alloc (.cells (rhC c) 75)).heap.size = w.heap.size + 1 := by simp
  generalize w.alloc (.cells (rhC c) 75) = w' at hb hlt
  refine ⟨fun j hj => ⟨?_, hb.frozen _⟩, ⟨c, hb.cell 0⟩, ?_, ?_, ?_, fun n _ => spz_ok _ _, hQ, fun x hx => by have := hW x hx; omega, fun n _ => (show (0 : Int) ≤ 0 ∧ (0 : Int) ≤ 6 by omega)⟩
  · rw [Nat.zero_add, hb.cell j, Array.getElem?_eq_getElem (show j < (rhC c).size from hj)]
    rfl
  · exact nine _ (rangeC hb 1 12 _ rfl) (rangeC hb 13 12 _ rfl) (rangeC hb 25 12 _ rfl) (rangeC hb 37 12 _ rfl) (rangeC hb 49 12 _ rfl) (rangeC hb 61 12 _ rfl) (rangeC hb 73 12 _ rfl) (rangeC hb 85 12 _ rfl) (rangeC hb 97 12 _ rfl)
  · exact seven _ (rangeC hb 109 5 _ rfl) (rangeC hb 114 5 _ rfl) (rangeC hb 119 5 _ rfl) (rangeC hb 124 5 _ rfl) (rangeC hb 129 5 _ rfl) (rangeC hb 134 5 _ rfl) (rangeC hb 139 5 _ rfl)
  · exact seven _ ⟨false, hb.cell 144⟩ ⟨false, hb.cell 145⟩ ⟨false, hb.cell 146⟩ ⟨false, hb.cell 147⟩ ⟨false, hb.cell 148⟩ ⟨false, hb.cell 149⟩ ⟨false, hb.cell 150⟩
theorem rh_built (c : Int) : Try.prog.built 75 [(0, .int .i64 c)] = some (rhC c) := by kernel_rfl
theorem rh_build {ops : Array Oper} {rest : List Oper} {o : Oper} {a : Go.Act} {w : World} {QQ : Exit → Go.Act → World → Prop} (hg : o.guard = none) (c : Int) (parts : Array (Nat × Operand)) (ho : o.op = .build 75 parts)
    (hp : (parts.map fun (i, x) => (i, a.eval x)).toList = [(0, .int .i64 c)]) (h : wpList Try.prog ops QQ rest (a.put o.dst (.agg (rhC c))) w) : wpList Try.prog ops QQ (o :: rest) a w := by
  refine wpList_build hg 75 parts ho ?_ ?_
  · rw [hp, rh_built]; rfl
  · rw [hp, rh_built]; exact h
set_option maxRecDepth 100000 in
set_option maxHeartbeats 4000000 in
theorem rNew_yes (c : Int) (w : World) (h1 : 1 ≤ c) (h8 : c ≤ 8) : Calls Try.prog 9 #[.int .i64 c] w fun e w' => e = .returned (.tuple #[.pointer (some ⟨w.heap.size, 0, none⟩), .int .i64 0]) ∧ w' = w.alloc (.cells (rhC c) 75) := by
  go_enter Try.func9, Try.ntmps9
  go_wp2_with (refine rh_build rfl c _ rfl (by simp [Act.eval]) ?_)
  refine bodyPost_ret (results_tmp2 rfl _ _ _) rfl ?_
  exact ⟨rfl, rfl⟩
end Go.Proofs.Ytgfogbifbpadoaa
