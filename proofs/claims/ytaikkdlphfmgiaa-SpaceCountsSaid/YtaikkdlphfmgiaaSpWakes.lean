/-
  What the document says of regions 10 to 13.
-/
import Derived.Test.YtaikkdlphfmgiaaSpRefMap
namespace Go.Proofs.Ytaikkdlphfmgiaa
open Go.RowKit
set_option linter.unusedVariables false
set_option linter.unusedSimpArgs false
def lW : List Reg := [⟨10, 4, true⟩]
theorem lW_wf : ∀ i, i < 1 → (rg lW i).wf := by
  intro i hi
  obtain rfl : i = 0 := by omega
  exact ⟨⟨by decide, by decide⟩, ⟨by decide, by decide⟩⟩
theorem wk_u : chgE lW 11 1 (lW.flatMap (pcs kpU 11 (11 + 1))) = 0 := by decide
theorem wk_p : chgE lW 12 2 (lW.flatMap (pcs (kpP false) 12 (12 + 2))) = 0 := by decide
theorem wk_m : mapE lW ⟨13, 1, false⟩ = 190 := by decide
theorem wk_ul : lW.flatMap (pcs kpU 11 (11 + 1)) = [⟨10, 1, true⟩, ⟨12, 2, true⟩] := by rfl
theorem wk_pl : lW.flatMap (pcs (kpP false) 12 (12 + 2)) = [⟨10, 2, true⟩, ⟨12, 2, false⟩] := by rfl
set_option maxHeartbeats 4000000 in
theorem wakes19_any (w : World) : Calls Try.prog 7 #[] w fun e w' => e = .returned (.bool true) ∧ Below w.heap.size w w' := by
  have HB0 := Lib.hid (ba (Below.refl w.heap.size w) (.cells #[.int .u64 10, .int .i64 4, .bool true] 25))
  have HI := Lib.hid (RK.regs (Rg.rk (ys := lW) (Bk.new w 25 #[.int .u64 10, .int .i64 4, .bool true])))
  go_enter Try.func7, Try.ntmps7
  go_wp2_with fail
  generalize w.alloc (.cells #[.int .u64 10, .int .i64 4, .bool true] 25) = W0 at *
  refine (unmap_any _ 1 1 lW 11 1 _ HI.out rfl (by omega) lW_wf ⟨by omega, by omega⟩ ⟨by omega, by omega⟩).mono ?_
  rintro e w1 ⟨v1, rfl, ho1, hb1⟩
  rw [wk_u] at ho1 ⊢
  rw [show okL 0 (lW.flatMap (pcs kpU 11 (11 + 1))) = [⟨10, 1, true⟩, ⟨12, 2, true⟩] from wk_ul] at ho1
  have HO1 := Lib.hid ho1
  have HB1 := Lib.hid (bthen HB0.out hb1)
  have HX1 := Lib.hid hb1
  clear ho1 hb1
  go_wp2_with fail
  refine (protect_any _ 1 1 lW 12 2 false _ (HI.out.call HX1.out) rfl (by omega) lW_wf ⟨by omega, by omega⟩ ⟨by omega, by omega⟩).mono ?_
  rintro e w2 ⟨v2, rfl, ho2, hb2⟩
  rw [wk_p] at ho2 ⊢
  rw [show okL 0 (lW.flatMap (pcs (kpP false) 12 (12 + 2))) = [⟨10, 2, true⟩, ⟨12, 2, false⟩] from wk_pl] at ho2
  have HO12 := Lib.hid (HO1.out.call hb2)
  have HO2 := Lib.hid ho2
  have HB2 := Lib.hid (bthen HB1.out hb2)
  have HX2 := Lib.hid (bthen HX1.out hb2)
  clear ho2 hb2 HO1 HB1 HX1
  go_wp2_with fail
  refine (map_any _ 1 1 lW ⟨13, 1, false⟩ _ (HI.out.call HX2.out) rfl (by omega) lW_wf ⟨⟨by decide, by decide⟩, ⟨by decide, by decide⟩⟩).mono ?_
  rintro e w3 ⟨v3, rfl, ho3, hb3⟩
  rw [wk_m]
  have ho13 := HO12.out.call hb3
  have ho23 := HO2.out.call hb3
  have HB3 := Lib.hid (bthen HB2.out hb3)
  clear ho3 hb3 HO12 HO2 HB2 HX2
  obtain ⟨O1, cap1, rfl, hc1, -, hr1⟩ := ho13.form encG_len
  obtain ⟨O2, cap2, rfl, hc2, -, hr2⟩ := ho23.form encG_len
  obtain ⟨b1, o1, rfl, hk1⟩ := hr1.regs (by decide)
  obtain ⟨b2, o2, rfl, hk2⟩ := hr2.regs (by decide)
  obtain ⟨-, p1, -⟩ := hk1 0 (by decide)
  obtain ⟨p2, -, -⟩ := hk1 1 (by decide)
  obtain ⟨-, -, p3⟩ := hk2 0 (by decide)
  obtain ⟨-, -, p4⟩ := hk2 1 (by decide)
  simp only [rg, List.getD_cons_zero, List.getD_cons_succ] at p1 p2 p3 p4
  clear hk1 hk2 hr1 hr2 ho13 ho23
  simp only [List.length_cons, List.length_nil] at hc1 hc2 ⊢
  go_wp2_with fail
  go_ret
  exact ⟨rfl, HB3.out⟩
end Go.Proofs.Ytaikkdlphfmgiaa
