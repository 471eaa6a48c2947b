/-
  The walks of the two Each: the document's list; the iterator, for every loop body.
-/
import Derived.Test.YtiaebfccgolbgaaDoorEachL
import Derived.Test.YtiaebfccgolbgaaDoorFieldPut
import Derived.Test.YtiaebfccgolbgaaDoorRw
import Derived.LoopTactic
import Derived.LoopN
import Derived.OwnWalk
import Derived.RangeFuncNested
import Derived.RangeFuncBound
import Derived.RangeFuncCalls
import Derived.RangeFuncLeaves
import Derived.Shelf.Abstract
import Derived.Shelf.RegionOpen
import Derived.OwnWalkIn
import Derived.TacticsInMore
import Derived.LoopNIn
import Derived.LoopIn
namespace Go.Proofs.YtiaebfccgolbgaaDoor
open Go.RowKit Go.Shelf
set_option linter.unusedVariables false
set_option linter.unusedSimpArgs false
def encI (k : Nat) : List Value := [.int .i64 k]
theorem encI_len (k : Nat) : (encI k).length = 1 := rfl
theorem encI_one (k : Nat) : ∀ u ∈ encI k, u.oneCell' = true := by simp [encI, Value.oneCell']
theorem bit_test (x k : Nat) : bitI x k = if x.testBit k then 1 else 0 := by
  unfold bitI
  rw [Nat.testBit_eq_decide_div_mod_eq]
  by_cases h : x / 2 ^ k % 2 = 1
  · simp [h]
  · have : x / 2 ^ k % 2 = 0 := by omega
    simp [this]
theorem infoInt : (Tryd.prog.info? 3).map (fun i => (i.zero, i.size, i.bytes)) = some (some (.int .i64 0), 1, 8) := by kernel_rfl
set_option maxHeartbeats 2000000 in
/-- The document's list. -/
theorem reach_any (x : Nat) (w : World) (hx : x < 18446744073709551616) : Calls Tryd.prog 4 #[.int .u64 x] w fun e w' => ∃ v, e = .returned v ∧ Ow encI 1 3 w' w.heap.size v (onesL x.testBit 0 64) ∧ Below w.heap.size w w' := by
  obtain ⟨i0, hi, hz0, hz1, hz2⟩ := info_parts infoInt
  go_enter Tryd.func4, Tryd.ntmps4
  go_wp2_with fail
  go_loopw [3, 4] (fun v i wr => ∃ k : Nat, i = .int .i64 k ∧ k ≤ 64 ∧ Ow encI 1 3 wr w.heap.size v (onesL x.testBit 0 k) ∧ Below w.heap.size w wr) (fun _ i _ => 64 - (intOf i).toNat)
  case atStart => exact ⟨0, rfl, by omega, Ow.nil _ _ _, Below.refl _ _⟩
  case round =>
    obtain ⟨k, rfl, hk, hO, hB⟩ := hrel
    have HO := Lib.hid hO
    have HB := Lib.hid hB
    clear hO hB
    have hs := onesL_snoc x.testBit k
    have hln := onesL_len x.testBit 0 k
    by_cases hlt : k < 64
    · go_wp2_with fail
      refine (rbit_any x k _ hx (by omega) (by omega)).mono ?_
      rintro e w1 ⟨rfl, rfl⟩
      rw [Int.toNat_natCast, bit_test]
      rcases hb : x.testBit k with _ | _
      · rw [hb] at hs
        simp only [Bool.false_eq_true, if_false, List.append_nil] at hs ⊢
        have HS := Lib.hid hs
        clear hs hb
        go_wp2_with fail
        go_roundw
        case rel => exact ⟨k + 1, by go_num, by omega, by rw [HS.out]; exact HO.out, HB.out⟩
        case measure => simp [intOf]; omega
      · rw [hb] at hs
        simp only [if_true] at hs ⊢
        have HS := Lib.hid hs
        clear hs hb
        have HOA := Lib.hid (HO.out.call (ba (Below.refl _ _) (.cells #[.int .i64 k] 3)))
        have HBA := Lib.hid (ba HB.out (.cells #[.int .i64 k] 3))
        have HN := Lib.hid (show ∀ (j : Nat) (u : Value), (encI k)[j]? = some u → (wr.alloc (.cells #[.int .i64 k] 3)).cell? ⟨wr.heap.size, j, none⟩ = some u from fun j u hu => (Arr.new wr #[.int .i64 k] 3).cell j u hu)
        have HLN := Lib.hid (show (onesL x.testBit 0 k).length ≤ 100000 by omega)
        clear hln
        go_wp2_with (at_builtin; refine wp_snoc (enc := encI) rfl _ _ 23 rfl w.heap.size 3 i0 _ 8 Tryd.underlying23 hi hz0 hz1 hz2 rfl (by decide) encI_len _ _ rfl HOA.out k wr.heap.size rfl HN.out (encI_one _) HLN.out (by decide) w HBA.out (Nat.le_refl _) ?_; intro v' w' o1 o2; have HO1 := Lib.hid o1; have HB1 := Lib.hid o2; clear o1 o2)
        go_roundw
        case rel => exact ⟨k + 1, by go_num, by omega, by rw [HS.out]; exact HO1.out, HB1.out⟩
        case measure => simp [intOf]; omega
    · obtain rfl : k = 64 := by omega
      clear hs hln
      go_wp2_with fail
      go_ret
      exact ⟨_, rfl, HO.out, HB.out⟩
/-- field.Each makes its iterator. -/
theorem each_any (x : Nat) (w : World) : Calls Tryd.prog 5 #[.int .u64 x] w fun e w' => e = .returned (.func (.func 8) #[] #[.pointer (some ⟨w.heap.size, 0, none⟩)]) ∧ Arr w' w.heap.size [.int .u64 x] ∧ Below w.heap.size w w' := by
  go_enter Tryd.func5, Tryd.ntmps5
  go_wp2_with fail
  go_ret
  exact ⟨rfl, Arr.new _ _ _, ba (Below.refl _ _) _⟩
def encZ (k : Nat) : Array Value := #[.int .i64 k]
set_option maxRecDepth 100000 in
set_option maxHeartbeats 4000000 in
theorem each1_in (n : Nat) (hn : 1 ≤ n) (l R x : Nat) (hx : x < 18446744073709551616) (w0 : World) (hG : G w0) (hR : Arr w0 R [.int .u64 x]) (J Jx : List Nat → World → Prop)
    (W : World) (hW : Below w0.heap.size w0 W) (hJ : AbidesFrom W.heap.size J)
    (hY : ∀ pre k W1, J pre W1 → pre.length < (onesL x.testBit 0 64).length → YieldAt Fence.wide (n - 1) Tryd.prog l (encZ k) W1 fun e W' =>
      (e = .returned (.bool true) ∧ J (pre ++ [k]) W' ∧ Below w0.heap.size W1 W') ∨ (e = .returned (.bool false) ∧ Jx (pre ++ [k]) W')) (h0 : J [] W) :
    CallsIn Fence.wide n Tryd.prog 8 #[.func (.yield l) #[] #[], .pointer (some ⟨R, 0, none⟩)] W fun e W' => (∃ v, e = .returned v) ∧
      ((∃ ys, ys = onesL x.testBit 0 64 ∧ J ys W') ∨ (∃ pre, pre <+: onesL x.testBit 0 64 ∧ Jx pre W')) := by
  have hU := hR.call hW
  have u0 := hU.cell 0 _ rfl
  have HX := Lib.hid (mk_of x hx)
  clear hU hR
  refine callsIn_of_wp Tryd.func8 rfl trivial ?_ rfl
  simp only [Tryd.ntmps8, List.size_toArray, List.length_cons, List.length_nil, Nat.reduceAdd, Nat.reduceSub, Array.replicate_succ, Array.replicate_zero, List.push_toArray, List.append_toArray, List.nil_append, List.cons_append]
  gi_wp2
  clear u0
  gi_loopw [3] (fun i wr => ∃ (p : Nat → Bool) (ys : List Nat), i = .int .u64 (mk p 64 : Nat) ∧ ys ++ onesL p 0 64 = onesL x.testBit 0 64 ∧ J ys wr ∧ Below w0.heap.size w0 wr ∧ W.heap.size ≤ wr.heap.size) (fun i _ => (intOf i).toNat)
  case atStart => exact ⟨x.testBit, [], by rw [← HX.out], rfl, h0, hW, Nat.le_refl _⟩
  case round =>
    obtain ⟨p, ys, rfl, hys, hJs, hB, hsz⟩ := hrel
    cases hc : onesL p 0 64 with
    | nil =>
      have h0 := mk_zero 64 (fun i hi => onesL_none hc i (by omega) (by omega))
      rw [hc, List.append_nil] at hys
      rw [h0]
      gi_wp2
      go_end0
      exact ⟨⟨_, rfl⟩, .inl ⟨_, hys, hJs⟩⟩
    | cons k zs =>
      obtain ⟨-, hk64, hpk, hlow, hz⟩ := onesL_cons hc
      have hlow' : ∀ i, i < k → p i = false := fun i hi => hlow i (Nat.zero_le _) hi
      have htz := Lib.hid (tz_mk p (by omega) hpk hlow')
      have hst := Lib.hid (strike_mk p (by omega) hpk hlow')
      have hlt := Lib.hid (strike_lt p (by omega) hpk hlow')
      have hu64 := Lib.hid (mk_u64 p)
      have hne := mk_ne_zero 64 (by omega) hpk
      have hneI : (((mk p 64 : Nat) : Int) != 0) = true := by simpa using hne
      have hneI2 : ((mk p 64 : Nat) : Int) ≠ 0 := by omega
      have hpl : ys.length < (onesL x.testBit 0 64).length := by rw [← hys, hc]; simp
      rw [hc] at hys
      have hGr := (hG.call hB)
      have HYS := Lib.hid hys
      have HZ := Lib.hid hz
      have HNE := Lib.hid hneI2
      have HPL := Lib.hid hpl
      have HB := Lib.hid hB
      have HSZ := Lib.hid hsz
      have HG := Lib.hid hGr
      clear hys hz hc hlow hlow' hpk hne hneI2 hpl hB hsz hGr
      generalize hm : (fun i => p i && !decide (i = k)) = p2 at *
      have HM := Lib.hid hm
      clear hm
      gi_wp2
      refine ⟨trivial, callsIn_wide.2 ((tz_any _ _ HG.out ⟨by omega, by have := hu64.out; omega⟩ HNE.out).mono ?_)⟩
      rintro e w1 ⟨rfl, rfl⟩
      rw [htz.out]
      obtain ⟨fn, tmps, assign, body, hy, hRd⟩ := hY _ k _ hJs HPL.out
      dsimp only [encZ] at hy
      gi_wp2
      refine hRd.mono ?_
      rintro e W3 (⟨rfl, hJ3, hk3⟩ | ⟨rfl, hJx3⟩)
      · gi_wp2
        rw [hst.out]
        go_roundw
        case rel => exact ⟨p2, ys ++ [k], rfl, by rw [HZ.out, List.append_assoc]; exact HYS.out, hJ3, HB.out.trans hk3, by have := hk3.size; have := HSZ.out; omega⟩
        case measure => have := hlt.out; simp [intOf]; omega
      · gi_wp2
        refine bodyPost_ret (results_none rfl _ _ _) rfl ?_
        exact ⟨⟨_, rfl⟩, .inr ⟨_, ⟨zs, by rw [List.append_assoc]; exact HYS.out⟩, hJx3⟩⟩
theorem each1_stops (n : Nat) (hn : 1 ≤ n) (R x : Nat) (hx : x < 18446744073709551616) (w0 : World) (hG : G w0) (hR : Arr w0 R [.int .u64 x]) :
    SeqStopsK Fence.wide n Tryd.prog 8 #[.pointer (some ⟨R, 0, none⟩)] encZ (Below w0.heap.size) (fun ys => ys = onesL x.testBit 0 64) (fun pre => pre <+: onesL x.testBit 0 64) (onesL x.testBit 0 64).length w0 := by
  intro l J Jx W hW hJ hJx hY h0
  refine (each1_in n hn l R x hx w0 hG hR J Jx W hW hJ hY h0).mono ?_
  rintro e W' ⟨h1, h2⟩
  exact ⟨h1, h2⟩
end Go.Proofs.YtiaebfccgolbgaaDoor
