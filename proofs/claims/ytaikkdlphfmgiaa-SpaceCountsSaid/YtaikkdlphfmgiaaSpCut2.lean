/-
  What Unmap and Protect do with the parts of a region; the cut of one region.
-/
import Derived.Test.YtaikkdlphfmgiaaSpCut
namespace Go.Proofs.Ytaikkdlphfmgiaa
open Go.RowKit
set_option linter.unusedVariables false
set_option linter.unusedSimpArgs false
/-- A row of regions as an answer. -/
def Row (w w' : World) (e : Ending) (ys : List Reg) : Prop := ∃ O m c, e = .returned (.slice O m c) ∧ ys.length = m ∧ m ≤ c ∧ RK encG 3 w' O ys ∧ Below w.heap.size w w'
theorem keepL_le (ys : List Reg) : (keepL ys).length ≤ ys.length := List.length_filter_le _ _
set_option maxHeartbeats 2000000 in
theorem unmap1_any (a i r : Reg) (w : World) :
    Calls Try.prog 31 #[gV a, gV i, gV r] w fun e w' => Row w w' e (keepL [a, r]) := by
  unfold gV
  go_enter Try.func31, Try.ntmps31
  go_wp2_with fail
  have hbl : Below w.heap.size w ((((w.alloc (.cells #[.int .u64 a.f, .int .i64 a.c, .bool a.w] 25)).alloc (.cells #[.int .u64 i.f, .int .i64 i.c, .bool i.w] 25)).alloc (.cells #[.int .u64 r.f, .int .i64 r.c, .bool r.w] 25)).alloc (.cells #[.int .u64 a.f, .int .i64 a.c, .bool a.w, .int .u64 r.f, .int .i64 r.c, .bool r.w] 25)) := ba (ba (ba (ba (Below.refl _ _) _) _) _) _
  have hrg := Bk.new (((w.alloc (.cells #[.int .u64 a.f, .int .i64 a.c, .bool a.w] 25)).alloc (.cells #[.int .u64 i.f, .int .i64 i.c, .bool i.w] 25)).alloc (.cells #[.int .u64 r.f, .int .i64 r.c, .bool r.w] 25)) 25 #[.int .u64 a.f, .int .i64 a.c, .bool a.w, .int .u64 r.f, .int .i64 r.c, .bool r.w]
  simp only [World.size_alloc] at hrg
  refine (there_any _ [a, r] _ hrg (by simp)).mono ?_
  rintro e w1 ⟨rfl, hrk, hk⟩
  have HRK := Lib.hid hrk
  have HB := Lib.hid (hk.below hbl (fun x hx => by omega))
  clear hrk hk hbl hrg
  go_wp2_with fail
  go_ret
  exact ⟨_, _, _, rfl, rfl, keepL_le [a, r], HRK.out, HB.out⟩
set_option maxHeartbeats 2000000 in
theorem protect1_any (a i r : Reg) (b : Nat) (wr : Bool) (w : World) (hb : Arr w b [.bool wr]) :
    Calls Try.prog 34 #[gV a, gV i, gV r, .pointer (some ⟨b, 0, none⟩)] w fun e w' => Row w w' e (keepL [a, ⟨i.f, i.c, wr⟩, r]) := by
  have HBX := Lib.hid hb
  clear hb
  unfold gV
  go_enter Try.func34, Try.ntmps34
  go_upto_region 1 with fail
  refine (show ∀ W : World, Arr W w.heap.size [.int .u64 a.f, .int .i64 a.c, .bool a.w] → Arr W (w.heap.size + 1) [.int .u64 i.f, .int .i64 i.c, .bool i.w] → Arr W (w.heap.size + 1 + 1) [.int .u64 r.f, .int .i64 r.c, .bool r.w] → Arr W b [.bool wr] → Below w.heap.size w W → Code.wp _ _ _ _ W from fun W h0 h1 h2 h3 hB => ?_) _ ?b0 ?b1 ?b2 (((HBX.out.alloc _).alloc _).alloc _) (ba (ba (ba (Below.refl _ _) _) _) _)
  case b0 => exact ((Arr.new w #[.int .u64 a.f, .int .i64 a.c, .bool a.w] 25).alloc _).alloc _
  case b1 => have := (Arr.new (w.alloc (.cells #[.int .u64 a.f, .int .i64 a.c, .bool a.w] 25)) #[.int .u64 i.f, .int .i64 i.c, .bool i.w] 25).alloc (.cells #[.int .u64 r.f, .int .i64 r.c, .bool r.w] 25); simpa using this
  case b2 => have := (Arr.new ((w.alloc (.cells #[.int .u64 a.f, .int .i64 a.c, .bool a.w] 25)).alloc (.cells #[.int .u64 i.f, .int .i64 i.c, .bool i.w] 25)) #[.int .u64 r.f, .int .i64 r.c, .bool r.w] 25); simpa using this
  clear HBX
  have z0 := h3.cell 0 _ rfl
  have c2 := h1.cell 2 _ rfl
  have f2 := h1.frozen 2 (by simp)
  go_upto_region 2 with fail
  have h1' := by simpa using h1.set 2 (by simp) (.bool wr)
  have h0' := h0.far (p := ⟨w.heap.size + 1, 2, none⟩) (by dsimp only; omega) (.bool wr)
  have h2' := h2.far (p := ⟨w.heap.size + 1, 2, none⟩) (by dsimp only; omega) (.bool wr)
  refine (show ∀ W : World, Arr W w.heap.size [.int .u64 a.f, .int .i64 a.c, .bool a.w] → Arr W (w.heap.size + 1) [.int .u64 i.f, .int .i64 i.c, .bool wr] → Arr W (w.heap.size + 1 + 1) [.int .u64 r.f, .int .i64 r.c, .bool r.w] → Below w.heap.size w W → Code.wp _ _ _ _ W from fun W h0 h1 h2 hB => ?_) _ h0' h1' h2' (bs hB (by dsimp only; omega) _)
  clear h0' h1' h2' z0 c2 f2
  have d0 := h0.cell 0 _ rfl
  have d1 := h0.cell 1 _ rfl
  have d2 := h0.cell 2 _ rfl
  have e0 := h1.cell 0 _ rfl
  have e1 := h1.cell 1 _ rfl
  have e2 := h1.cell 2 _ rfl
  have g0 := h2.cell 0 _ rfl
  have g1 := h2.cell 1 _ rfl
  have g2 := h2.cell 2 _ rfl
  have hB := Lib.hid hB
  clear h0 h1 h2
  go_wp2_with fail
  refine (there_any _ [a, ⟨i.f, i.c, wr⟩, r] _ (Bk.new _ _ _) (by simp)).mono ?_
  rintro e w1 ⟨rfl, hrk, hk⟩
  have HRK := Lib.hid hrk
  have HB := Lib.hid (hk.below (ba hB.out _) (fun x hx => by have := hB.out.size; omega))
  clear hrk hk hB d0 d1 d2 e0 e1 e2 g0 g1 g2
  go_wp2_with fail
  go_ret
  exact ⟨_, _, _, rfl, rfl, keepL_le [a, ⟨i.f, i.c, wr⟩, r], HRK.out, HB.out⟩
end Go.Proofs.Ytaikkdlphfmgiaa
