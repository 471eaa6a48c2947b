/-
  Threads that are the same.
-/
import Derived.Test.YtgfogbifbpadoaaPcLoop
import Derived.Laws.StructEq
namespace Go.Proofs.Ytgfogbifbpadoaa
open Go.RowKit Go.Maps
set_option maxRecDepth 100000 in
theorem eq8 (a0 a1 a2 a3 a4 a5 a6 a7 : Int) (w : World) : (Op.equalIn 9999 34 (.agg #[.int .u64 a0, .int .u64 a1, .int .u64 a2, .int .u64 a3, .int .u64 a4, .int .u64 a5, .int .u64 a6, .int .u64 a7]) (.agg #[.int .u64 a0, .int .u64 a1, .int .u64 a2, .int .u64 a3, .int .u64 a4, .int .u64 a5, .int .u64 a6, .int .u64 a7])).run Try.prog w = .ok true w := by
  have u3 := Try.underlying33
  have a3' := Try.isAgg33
  have z3 := Try.sizeOf33
  rw [show (9999 : Nat) = 9998 + 1 from rfl, Op.equalIn]
  simp only [Sem.run_bind, run_underlying Try.underlying34, Result.andThen_ok]
  simp only [Std.Legacy.Range.forIn_eq_forIn_range', Std.Legacy.Range.size, Nat.sub_zero, Nat.add_sub_cancel, Nat.div_one, List.range'_succ, List.range'_zero, List.forIn_cons, List.forIn_nil]
  go_simp
set_option maxRecDepth 100000 in
theorem eql_thL (t : Th) (w : World) : (binOp .eql 36 (.agg #[.int .i64 t.sp, .int .u64 t.r0, .int .u64 t.r1, .int .u64 t.r2, .int .u64 t.r3, .int .u64 t.r4, .int .u64 t.r5, .int .u64 t.r6, .int .u64 t.r7, .int .i64 t.pc, .int .i64 t.core, .bool t.dead]) (.agg #[.int .i64 t.sp, .int .u64 t.r0, .int .u64 t.r1, .int .u64 t.r2, .int .u64 t.r3, .int .u64 t.r4, .int .u64 t.r5, .int .u64 t.r6, .int .u64 t.r7, .int .i64 t.pc, .int .i64 t.core, .bool t.dead])).run Try.prog w = .ok (.bool true) w := by
  have h := eq8 t.r0 t.r1 t.r2 t.r3 t.r4 t.r5 t.r6 t.r7
  go_simp
end Go.Proofs.Ytgfogbifbpadoaa
