/-
  A new house; no house's answers.
-/
import Derived.Test.YtgfogbifbpadoaaPcEnd
namespace Go.Proofs.Ytgfogbifbpadoaa
open Go.RowKit Go.Maps
set_option linter.unusedVariables false
set_option linter.unusedSimpArgs false
variable {w : World} {W : Nat → Prop} {P M K : Nat} {H : Hs}
def Hs.z (cores : Int) : Hs := ⟨cores, fun _ => Th.z, fun _ => Spc.z, fun _ => none⟩
theorem pcSetThread_nil (n : Int) (t : Th) (w : World) : Calls Try.prog 23 #[.pointer none, .int .i64 n, .agg (thC t).toArray] w fun e w' => e = .returned (.int .i64 1) ∧ Below w.heap.size w w' := by
  go_enter Try.func23, Try.ntmps23
  go_wp2_with fail
  go_ret
  exact ⟨rfl, ba (Below.refl _ _) _⟩
theorem pcSetSpace_nil (n : Int) (s : Spc) (w : World) : Calls Try.prog 24 #[.pointer none, .int .i64 n, .agg (spC s).toArray] w fun e w' => e = .returned (.int .i64 1) ∧ Below w.heap.size w w' := by
  go_enter Try.func24, Try.ntmps24
  go_wp2_with fail
  go_ret
  exact ⟨rfl, ba (Below.refl _ _) _⟩
theorem pcCopy_nil (w : World) : Calls Try.prog 25 #[.pointer none] w fun e w' => e = .returned (.pointer none) ∧ w = w' := by
  go_enter Try.func25, Try.ntmps25
  go_wp2_with fail
  go_ret
  exact ⟨rfl, rfl⟩
theorem pcNew_no (c : Int) (hc : I64 c) (w : World) (h : c < 1 ∨ 8 < c) : Calls Try.prog 6 #[.int .i64 c] w fun e w' => e = .returned (.tuple #[.pointer none, .int .i64 2]) ∧ w = w' := by
  obtain ⟨c0, c1⟩ := hc
  by_cases a1 : c < 1
  · clear h
    go_enter Try.func6, Try.ntmps6
    go_wp2_with fail
    refine bodyPost_ret (results_tmp2 rfl _ _ _) rfl ?_
    exact ⟨rfl, rfl⟩
  · have a1' : 1 ≤ c := by omega
    have a2 : 8 < c := by omega
    clear h a1
    go_enter Try.func6, Try.ntmps6
    go_wp2_with fail
    refine bodyPost_ret (results_tmp2 rfl _ _ _) rfl ?_
    exact ⟨rfl, rfl⟩
/-- A new house's cells. -/
abbrev hsC (c : Int) (m : Nat) : Array Value := #[.int .i64 c, .int .i64 0, .int .u64 0, .int .u64 0, .int .u64 0, .int .u64 0, .int .u64 0, .int .u64 0, .int .u64 0, .int .u64 0, .int .i64 0, .int .i64 0, .bool false, .int .i64 0, .int .u64 0, .int .u64 0, .int .u64 0, .int .u64 0, .int .u64 0, .int .u64 0, .int .u64 0, .int .u64 0, .int .i64 0, .int .i64 0, .bool false, .int .i64 0, .int .u64 0, .int .u64 0, .int .u64 0, .int .u64 0, .int .u64 0, .int .u64 0, .int .u64 0, .int .u64 0, .int .i64 0, .int .i64 0, .bool false, .int .i64 0, .int .u64 0, .int .u64 0, .int .u64 0, .int .u64 0, .int .u64 0, .int .u64 0, .int .u64 0, .int .u64 0, .int .i64 0, .int .i64 0, .bool false, .int .i64 0, .int .u64 0, .int .u64 0, .int .u64 0, .int .u64 0, .int .u64 0, .int .u64 0, .int .u64 0, .int .u64 0, .int .i64 0, .int .i64 0, .bool false, .int .i64 0, .int .u64 0, .int .u64 0, .int .u64 0, .int .u64 0, .int .u64 0, .int .u64 0, .int .u64 0, .int .u64 0, .int .i64 0, .int .i64 0, .bool false, .int .i64 0, .int .u64 0, .int .u64 0, .int .u64 0, .int .u64 0, .int .u64 0, .int .u64 0, .int .u64 0, .int .u64 0, .int .i64 0, .int .i64 0, .bool false, .int .i64 0, .int .u64 0, .int .u64 0, .int .u64 0, .int .u64 0, .int .u64 0, .int .u64 0, .int .u64 0, .int .u64 0, .int .i64 0, .int .i64 0, .bool false, .int .i64 0, .int .u64 0, .int .u64 0, .int .u64 0, .int .u64 0, .int .u64 0, .int .u64 0, .int .u64 0, .int .u64 0, .int .i64 0, .int .i64 0, .bool false, .slice none 0 0, .int .i64 0, .int .i64 0, .int .i64 0, .int .i64 0, .slice none 0 0, .int .i64 0, .int .i64 0, .int .i64 0, .int .i64 0, .slice none 0 0, .int .i64 0, .int .i64 0, .int .i64 0, .int .i64 0, .slice none 0 0, .int .i64 0, .int .i64 0, .int .i64 0, .int .i64 0, .slice none 0 0, .int .i64 0, .int .i64 0, .int .i64 0, .int .i64 0, .slice none 0 0, .int .i64 0, .int .i64 0, .int .i64 0, .int .i64 0, .slice none 0 0, .int .i64 0, .int .i64 0, .int .i64 0, .int .i64 0, .map (some m)]
theorem nine (p : Nat → Prop) (h0 : p 0) (h1 : p 1) (h2 : p 2) (h3 : p 3) (h4 : p 4) (h5 : p 5) (h6 : p 6) (h7 : p 7) (h8 : p 8) : ∀ n, n < 9 → p n := fun n hn => by
  rcases (show n = 0 ∨ n = 1 ∨ n = 2 ∨ n = 3 ∨ n = 4 ∨ n = 5 ∨ n = 6 ∨ n = 7 ∨ n = 8 by omega) with rfl | rfl | rfl | rfl | rfl | rfl | rfl | rfl | rfl <;> assumption
theorem rangeC {w : World} {b : Nat} {t : TypeId} {C : Array Value} (hb : Bk w b t C) (o n : Nat) (cs : List Value) (h : (C.extract o (o + n)).toList = cs) : w.rangeAt b o cs := by
  rw [← h]
  exact World.rangeAt_of_block hb o n
set_option maxRecDepth 100000 in
theorem hs_made (c : Int) (w : World) : Hm ((w.alloc (.map #[] 0)).alloc (.cells (hsC c w.heap.size) 72)) (PM (w.heap.size + 1) w.heap.size) (w.heap.size + 1) w.heap.size 0 (Hs.z c) := by
  have hb : Bk ((w.alloc (.map #[] 0)).alloc (.cells (hsC c w.heap.size) 72)) (w.heap.size + 1) 72 (hsC c w.heap.size) := by
    have := Bk.new (w.alloc (.map #[] 0)) 72 (hsC c w.heap.size)
    rwa [World.size_alloc] at this
  have hm : OnM ((w.alloc (.map #[] 0)).alloc (.cells (hsC c w.heap.size) 72)) w.heap.size 0 (fun _ => none) := (OnM.made w).block (RowKit.Below.heap_alloc _ _ _ (by simp))
  generalize (w.alloc (.map #[] 0)).alloc (.cells (hsC c w.heap.size) 72) = w' at hb hm
  have hlt := hb.lt
  have hml := hm.lt
  refine ⟨fun j hj => ⟨?_, hb.frozen _⟩, hb.cell 0, ?_, ?_, hb.cell 144, hm, fun n _ => spz_ok _ _, .inl rfl, .inr rfl, by omega, fun x hx => by rcases hx with rfl | rfl <;> assumption⟩
  · rw [Nat.zero_add, hb.cell j, Array.getElem?_eq_getElem (show j < (hsC c w.heap.size).size from hj)]
    rfl
  · exact nine _ (rangeC hb 1 12 _ rfl) (rangeC hb 13 12 _ rfl) (rangeC hb 25 12 _ rfl) (rangeC hb 37 12 _ rfl) (rangeC hb 49 12 _ rfl) (rangeC hb 61 12 _ rfl) (rangeC hb 73 12 _ rfl) (rangeC hb 85 12 _ rfl) (rangeC hb 97 12 _ rfl)
  · intro n hn
    rcases (show n = 0 ∨ n = 1 ∨ n = 2 ∨ n = 3 ∨ n = 4 ∨ n = 5 ∨ n = 6 by omega) with rfl | rfl | rfl | rfl | rfl | rfl | rfl
    · exact rangeC hb 109 5 _ rfl
    · exact rangeC hb 114 5 _ rfl
    · exact rangeC hb 119 5 _ rfl
    · exact rangeC hb 124 5 _ rfl
    · exact rangeC hb 129 5 _ rfl
    · exact rangeC hb 134 5 _ rfl
    · exact rangeC hb 139 5 _ rfl
theorem new_built (c : Int) (m : Nat) : Try.prog.built 72 [(0, .int .i64 c), (3, .map (some m))] = some (hsC c m) := by kernel_rfl
theorem new_build {ops : Array Oper} {rest : List Oper} {o : Oper} {a : Go.Act} {w : World} {Q : Exit → Go.Act → World → Prop} (hg : o.guard = none) (c : Int) (m : Nat) (parts : Array (Nat × Operand)) (ho : o.op = .build 72 parts)
    (hp : (parts.map fun (i, x) => (i, a.eval x)).toList = [(0, .int .i64 c), (3, .map (some m))]) (h : wpList Try.prog ops Q rest (a.put o.dst (.agg (hsC c m))) w) : wpList Try.prog ops Q (o :: rest) a w := by
  refine wpList_build hg 72 parts ho ?_ ?_
  · rw [hp, new_built]; rfl
  · rw [hp, new_built]; exact h
set_option maxRecDepth 100000 in
set_option maxHeartbeats 4000000 in
theorem pcNew_yes (c : Int) (w : World) (h1 : 1 ≤ c) (h8 : c ≤ 8) : Calls Try.prog 6 #[.int .i64 c] w fun e w' => ∃ P M, e = .returned (.tuple #[.pointer (some ⟨P, 0, none⟩), .int .i64 0]) ∧ Hm w' (PM P M) P M 0 (Hs.z c) ∧ w.heap.size ≤ P ∧ w.heap.size ≤ M ∧ Below w.heap.size w w' := by
  have hmm := @run_makeMap Try.prog
  have HM := Lib.hid (hs_made c w)
  have HB := Lib.hid (ba (ba (Below.refl w.heap.size w) (.map #[] 0)) (.cells (hsC c w.heap.size) 72))
  go_enter Try.func6, Try.ntmps6
  go_wp2_with (refine new_build rfl c w.heap.size _ rfl (by simp [Act.eval]) ?_)
  refine bodyPost_ret (results_tmp2 rfl _ _ _) rfl ?_
  exact ⟨w.heap.size + 1, w.heap.size, rfl, HM.out, by omega, Nat.le_refl _, HB.out⟩
end Go.Proofs.Ytgfogbifbpadoaa
