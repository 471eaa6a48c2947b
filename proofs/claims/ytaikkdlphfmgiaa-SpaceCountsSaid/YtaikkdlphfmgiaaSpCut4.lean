/-
  space.cut: the pieces that the regions come to.
-/
import Derived.Test.YtaikkdlphfmgiaaSpCut3
import Derived.LoopTactic
namespace Go.Proofs.Ytaikkdlphfmgiaa
open Go.RowKit
set_option linter.unusedVariables false
set_option linter.unusedSimpArgs false
theorem infoReg4 : (Try.prog.info? 25).map (fun i => (i.zero, i.size, i.bytes)) = some (some (.agg #[.int .u64 0, .int .i64 0, .bool false]), 3, 24) := by kernel_rfl
theorem flatMap_take {l : List Reg} {k : Nat} (pc : Reg → List Reg) (h : k < l.length) : (l.take (k + 1)).flatMap pc = (l.take k).flatMap pc ++ pc (rg l k) := by
  rw [List.take_add_one, rg_some h, Option.toList_some, List.flatMap_append]
  simp
theorem flatMap_le (pc : Reg → List Reg) (n : Nat) (hpc : ∀ r, (pc r).length ≤ n) : ∀ l : List Reg, (l.flatMap pc).length ≤ l.length * n
  | [] => by simp
  | r :: l => by
    have := flatMap_le pc n hpc l
    have := hpc r
    simp only [List.flatMap_cons, List.length_append, List.length_cons, Nat.succ_mul]
    omega
/-- What a function makes of each region of a row. -/
def PcOk (W0 : World) (fid : Nat) (caps : Array Value) (l : List Reg) (pc : Reg → List Reg) : Prop :=
  (∀ (args : Array Value) (w : World), (callFunc fid args).run Try.prog w = .ok (.enter fid args) w) ∧ ∀ (k : Nat) (w : World), k < l.length → Below W0.heap.size W0 w → Calls Try.prog fid (#[gV (rg l k)] ++ caps) w fun e w' => Row w w' e (pc (rg l k))
set_option maxHeartbeats 4000000 in
theorem cut_any (O : Option Addr) (len cap : Nat) (l : List Reg) (fid : Nat) (caps : Array Value) (pc : Reg → List Reg) (w : World) (hI : RegsK w O l) (hl : l.length = len) (hcap : len ≤ cap) (h8 : len ≤ 8)
    (hp : PcOk w fid caps l pc) (hpc : ∀ r, (pc r).length ≤ 3) :
    Calls Try.prog 42 #[.slice O len cap, .func (.func fid) #[] caps] w fun e w' => ∃ v, e = .returned v ∧ Ow encG 3 25 w' w.heap.size v (l.flatMap pc) ∧ Below w.heap.size w w' := by
  obtain ⟨i0, hi, hz0, hz1, hz2⟩ := info_parts infoReg4
  have HI := Lib.hid hI
  have HL := Lib.hid hl
  clear hI hl
  go_enter Try.func42, Try.ntmps42
  go_wp2_with fail
  go_loopw [5, 10] (fun v i wr => ∃ k : Nat, i = .int .i64 k ∧ k ≤ len ∧ Ow encG 3 25 wr w.heap.size v ((l.take k).flatMap pc) ∧ Below w.heap.size w wr) (fun _ i _ => len - (intOf i).toNat)
  case atStart => exact ⟨0, by simp, by omega, Ow.nil _ _ _, Below.refl _ _⟩
  case round =>
    obtain ⟨k, rfl, hk, hO, hB⟩ := hrel
    have HO := Lib.hid hO
    have HB := Lib.hid hB
    clear hO hB
    by_cases hlt : k < len
    · have hlt' : k < l.length := by rw [HL.out]; exact hlt
      have HLE := Lib.hid (Nat.le_trans (flatMap_le pc 3 hpc (l.take k)) (show (l.take k).length * 3 ≤ 24 by rw [List.length_take]; omega))
      have HPC := Lib.hid (hpc (rg l k))
      have HTK := Lib.hid (flatMap_take pc hlt')
      obtain ⟨b, off, rfl, hc⟩ := (HI.out.call HB.out) (by rw [HL.out]; omega)
      obtain ⟨c0, c1, c2⟩ := hc k hlt'
      clear hc
      go_upto_region 5 with fail
      have HO1 := HO.out.call (ba (Below.refl _ _) (.cells #[.int .u64 (rg l k).f, .int .i64 (rg l k).c, .bool (rg l k).w] 25))
      refine (show ∀ W : World, Arr W wr.heap.size [.int .u64 (rg l k).f, .int .i64 (rg l k).c, .bool (rg l k).w] → Ow encG 3 25 W w.heap.size u5 ((l.take k).flatMap pc) → Below w.heap.size w W → Code.wp _ _ _ _ W from fun W h0 h1 h2 => ?_) _ (Arr.new _ #[.int .u64 (rg l k).f, .int .i64 (rg l k).c, .bool (rg l k).w] _) HO1 (ba HB.out _)
      clear HO1
      have HO := Lib.hid h1
      have HB := Lib.hid h2
      clear h1 h2 c0 c1 c2
      have c0 := h0.cell 0 _ rfl
      have c1 := h0.cell 1 _ rfl
      have c2 := h0.cell 2 _ rfl
      clear h0
      go_wp2_with fail
      rw [hp.1, Oper.upon_enter]
      refine (hp.2 k _ hlt' HB.out).mono ?_
      rintro e w1 ⟨O1, m1, cap1, rfl, hm1, hmc1, hrk1, hb1⟩
      have HR := Lib.hid hrk1
      have HO1 := Lib.hid (HO.out.call hb1)
      have HB1 := Lib.hid (bthen HB.out hb1)
      have HM := Lib.hid hm1
      have HLM := Lib.hid (show ((l.take k).flatMap pc).length + m1 ≤ 100000 by have := HLE.out; have := HPC.out; omega)
      clear hrk1 hb1 HO HB c0 c1 c2 hm1
      go_wp2_with (at_builtin; refine wp_app (enc := encG) (k := 3) rfl _ _ 22 rfl w.heap.size 25 i0 _ 24 Try.underlying22 hi hz0 hz1 hz2 rfl (by decide) encG_len encG_one _ ((l.take k).flatMap pc) rfl HO1.out (pc (rg l k)) O1 m1 cap1 rfl HM.out HR.out HLM.out (by decide) w HB1.out (Nat.le_refl _) ?_; intro v' w' o1 o2; have HO2 := Lib.hid o1; have HB2 := Lib.hid o2; clear o1 o2)
      go_roundw
      case rel => exact ⟨k + 1, by go_num, by omega, by rw [HTK.out]; exact HO2.out, HB2.out⟩
      case measure => simp [intOf]; omega
    · obtain rfl : k = len := by omega
      have HT := Lib.hid (show l.take k = l by rw [← HL.out, List.take_length])
      go_wp2_with fail
      go_ret
      rw [HT.out] at HO
      exact ⟨_, rfl, HO.out, HB.out⟩
end Go.Proofs.Ytaikkdlphfmgiaa
