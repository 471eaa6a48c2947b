/-
  The document's descriptors (tenementref03): flag, Encode, Decode, Touch, Differ.
  The document's descriptors (tenementref03): Encode where there is no word; Decode.
-/
import Derived.Test.YtgdkkhdhomehdaaDoorMwE
import Derived.Laws.StructEq
import Derived.Deep.RegionHeld
namespace Go.Proofs.YtgdkkhdhomehdaaDoor
section
open Go.RowKit
set_option linter.unusedVariables false
set_option linter.unusedSimpArgs false

/-- A truth as a bit. -/
def fl (b : Bool) (m : Int) : Int := if b then m else 0
def pw (k : Int) : Int := if k = 6 then 64 else if k = 7 then 128 else if k = 10 then 1024 else 2048
theorem r3flag_any (x : Bool) (k : Int) (w : World) (hk : k = 6 ∨ k = 7 ∨ k = 10 ∨ k = 11) :
    Calls Tryd.prog 85 #[.bool x, .int .i64 k] w fun e w' => e = .returned (.int .u64 (fl x (pw k))) ∧ w = w' := by
  rcases hk with rfl | rfl | rfl | rfl <;> cases x
  all_goals
    go_enter Tryd.func85, Tryd.ntmps85
    go_wp2
    go_ret
    exact ⟨rfl, rfl⟩
theorem r3flag_q (x : Bool) (k : Int) (w : World) (hk : k = 6 ∨ k = 7 ∨ k = 10 ∨ k = 11) :
    Calls Tryd.prog 85 #[.bool x, .int .i64 k] w fun e w' => e = .returned (.int .u64 (fl x (pw k))) ∧ w' = w := (r3flag_any x k w hk).mono fun _ _ ⟨h1, h2⟩ => ⟨h1, h2.symm⟩
theorem orF_word : ∀ (f : Fin 64) (af ro us ng : Bool), bits .or .u64 (bits .or .u64 (bits .or .u64 (bits .or .u64 (bits .or .u64 3 ((f.val : Int) * 4096)) (fl us (pw 6))) (fl ro (pw 7))) (fl af (pw 10))) (fl ng (pw 11)) = wordV f.val af ro us ng := by decide +kernel
theorem bare_iff (af ro us ng : Bool) : noFlag af ro us ng = true ↔ af = false ∧ ro = false ∧ us = false ∧ ng = false := by
  cases af <;> cases ro <;> cases us <;> cases ng <;> decide
/-- desc.Encode's answers, as one pair. -/
def eW (k f : Int) (af ro us ng : Bool) : Int := if dOk k f af ro us ng then dV k f af ro us ng else 0
def eE (k f : Int) (af ro us ng : Bool) : Int := if dOk k f af ro us ng then 0 else 30
set_option maxHeartbeats 8000000 in
theorem r3Encode_table (f : Int) (w : World) (h0 : 0 ≤ f) (h1 : f ≤ 63) : Calls Tryd.prog 57 #[.agg #[.int .i8 1, .int .i64 f, .bool false, .bool false, .bool false, .bool false]] w fun e w' => e = .returned (.tuple #[.int .u64 (wordV f false false false false), .int .i64 0]) ∧ Below w.heap.size w w' := by
  obtain ⟨n, hn⟩ := fin_of h0 h1
  have HV := Lib.hid (show _ = wordV f false false false false from hn ▸ orF_word n false false false false)
  clear hn
  go_enter Tryd.func57, Tryd.ntmps57
  go_wp2
  go_quiet ((go_at_call 85; exact Calls.quiet_of_same (r3flag_q _ _ _ (by omega))))
  go_wp2
  go_ret2
  exact ⟨ret_two HV.out, bdn (ba (Below.refl _ _) _) nq⟩
set_option maxHeartbeats 16000000 in
theorem r3Encode_page (f : Int) (af ro us ng : Bool) (w : World) (h0 : 0 ≤ f) (h1 : f ≤ 63) : Calls Tryd.prog 57 #[.agg #[.int .i8 2, .int .i64 f, .bool af, .bool ro, .bool us, .bool ng]] w fun e w' => e = .returned (.tuple #[.int .u64 (wordV f af ro us ng), .int .i64 0]) ∧ Below w.heap.size w w' := by
  obtain ⟨n, hn⟩ := fin_of h0 h1
  have HV := Lib.hid (show _ = wordV f af ro us ng from hn ▸ orF_word n af ro us ng)
  clear hn
  cases af <;> cases ro <;> cases us <;> cases ng
  all_goals
    go_enter Tryd.func57, Tryd.ntmps57
    go_wp2
    go_quiet ((go_at_call 85; exact Calls.quiet_of_same (r3flag_q _ _ _ (by omega))))
    go_wp2
    go_ret2
    exact ⟨ret_two HV.out, bdn (ba (Below.refl _ _) _) nq⟩
end
section
open Go.RowKit
set_option linter.unusedVariables false
set_option linter.unusedSimpArgs false

end
end Go.Proofs.YtgdkkhdhomehdaaDoor
