/-
  The iterator of a cast's pairs: what it gives, for every loop body.
-/
import Derived.Test.YtokmcelmodoeoaaCsClone
import Derived.Test.YtokmcelmodoeoaaCsRel
import Derived.RangeFuncNested
import Derived.RangeFuncBound
import Derived.RangeFuncCalls
import Derived.RangeFuncLeaves
import Derived.Shelf.Abstract
import Derived.Shelf.RegionOpen
import Derived.OwnWalkIn
import Derived.TacticsInMore
import Derived.LoopNIn
import Derived.LoopIn
namespace Go.Proofs.Ytokmcelmodoeoaa
open Go.RowKit Go.Shelf
set_option linter.unusedVariables false
set_option linter.unusedSimpArgs false
def encY (x : Int × Tq) : Array Value := #[.int .i64 x.1, .agg #[.int .i8 x.2.k, .int .i64 x.2.a, .int .u64 x.2.p]]
theorem allV_prefix (rows : Nat → List Pr) : ∀ m d, allV rows m <+: allV rows (m + d)
  | m, 0 => List.prefix_refl _
  | m, d + 1 => by
    refine (allV_prefix rows m d).trans ?_
    exact List.prefix_append (allV rows (m + d)) ((rows (m + d)).map fun x => (((m + d : Nat) : Int) + 1, x.t))
theorem allV_part (rows : Nat → List Pr) {k m : Nat} (hk : k < 8) : (allV rows k ++ ((rows k).take m).map fun x => ((k : Int) + 1, x.t)) <+: allV rows 8 := by
  have h1 : (allV rows k ++ ((rows k).take m).map fun x => ((k : Int) + 1, x.t)) <+: allV rows (k + 1) := by
    rw [show allV rows (k + 1) = allV rows k ++ (rows k).map (fun x => ((k : Int) + 1, x.t)) from rfl]
    exact (List.prefix_append_right_inj _).2 (List.IsPrefix.map _ (List.take_prefix _ _))
  have h2 := allV_prefix rows (k + 1) (8 - (k + 1))
  rw [show k + 1 + (8 - (k + 1)) = 8 by omega] at h2
  exact h1.trans h2
theorem grow_alloc (w : World) (o : Obj) : w.grownBy (w.alloc o) none := ⟨rfl, rfl, rfl, by simp, fun k hk _ => Below.heap_alloc w o k hk⟩
set_option maxRecDepth 100000 in
set_option maxHeartbeats 4000000 in
theorem call1_in (F : Fence) (n : Nat) (hF : F.fn 28) (hro : F.round = none) (hn : 1 ≤ n) (l R : Nat) (rows : Nat → List Pr) (w0 : World) (hR : Rd w0 R rows 8) (hlen : ∀ k, k < 8 → (rows k).length ≤ 100) (J Jx : List (Int × Tq) → World → Prop)
    (W : World) (hW : Below w0.heap.size w0 W) (hJ : AbidesFrom W.heap.size J)
    (hY : ∀ pre x W1, J pre W1 → pre.length < (allV rows 8).length → YieldAt F (n - 1) Try.prog l (encY x) W1 fun e W' =>
      (e = .returned (.bool true) ∧ J (pre ++ [x]) W' ∧ Below w0.heap.size W1 W') ∨ (e = .returned (.bool false) ∧ Jx (pre ++ [x]) W')) (h0 : J [] W) :
    CallsIn F n Try.prog 28 #[.func (.yield l) #[] #[], .pointer (some ⟨R, 0, none⟩)] W fun e W' => (∃ v, e = .returned v) ∧
      ((∃ ys, ys = allV rows 8 ∧ J ys W') ∨ (∃ pre, pre <+: allV rows 8 ∧ Jx pre W')) := by
  obtain ⟨us, hU, hu⟩ := hR
  have hUW : Bk W R 59 (r8 us) := (hW.block R hU.lt).trans hU
  have k0 := (hUW.cell 0).trans (r8_at us (show 0 < 8 by omega))
  have k1 := (hUW.cell 1).trans (r8_at us (show 1 < 8 by omega))
  have k2 := (hUW.cell 2).trans (r8_at us (show 2 < 8 by omega))
  have k3 := (hUW.cell 3).trans (r8_at us (show 3 < 8 by omega))
  have k4 := (hUW.cell 4).trans (r8_at us (show 4 < 8 by omega))
  have k5 := (hUW.cell 5).trans (r8_at us (show 5 < 8 by omega))
  have k6 := (hUW.cell 6).trans (r8_at us (show 6 < 8 by omega))
  have k7 := (hUW.cell 7).trans (r8_at us (show 7 < 8 by omega))
  have HU := Lib.hid hu
  have HL := Lib.hid hlen
  clear hU hu hUW hlen
  refine callsIn_of_wp Try.func28 rfl hF ?_ hro
  simp only [Try.ntmps28, List.size_toArray, List.length_cons, List.length_nil, Nat.reduceAdd, Nat.reduceSub, Array.replicate_succ, Array.replicate_zero, List.push_toArray, List.append_toArray, List.nil_append, List.cons_append]
  gi_wp2
  gi_loopw [8] (fun i wr => ∃ k : Nat, k ≤ 8 ∧ i = .int .i64 k ∧ J (allV rows k) wr ∧ Below w0.heap.size w0 wr ∧ W.heap.size ≤ wr.heap.size) (fun i _ => 8 - (intOf i).toNat)
  case atStart => exact ⟨0, Nat.zero_le _, rfl, h0, hW, Nat.le_refl _⟩
  case round =>
    clear k0 k1 k2 k3 k4 k5 k6 k7
    obtain ⟨k, hk, rfl, hJs, hB, hsz⟩ := hrel
    by_cases hlt : k < 8
    · obtain ⟨O, cap, hv, hR⟩ := HU.out k hlt
      have hix : ∀ w' : World, (Instr.index 59 (.agg #[us 0, us 1, us 2, us 3, us 4, us 5, us 6, us 7]) (.int .i64 k)).run Try.prog w' = .ok (.slice O (rows k).length cap) w' := by
        intro w'
        rw [← hv]
        rcases lt8 hlt with rfl | rfl | rfl | rfl | rfl | rfl | rfl | rfl <;> simp [go_sem, Try.underlying59, Instr.index]
      have hkI : (k : Int) < 8 := by omega
      have HR := Lib.hid hR
      clear hv hR
      gi_wp2
      clear hix
      obtain ⟨wo, hwo⟩ : ∃ wo : World, wo = wr := ⟨_, rfl⟩
      clear hwo
      gi_loopw [14] (fun i wr => ∃ m : Nat, m ≤ (rows k).length ∧ i = .int .i64 m ∧ J (allV rows k ++ ((rows k).take m).map fun x => ((k : Int) + 1, x.t)) wr ∧ Below w0.heap.size w0 wr ∧ W.heap.size ≤ wr.heap.size) (fun i _ => (rows k).length - (intOf i).toNat)
      case atStart => exact ⟨0, Nat.zero_le _, rfl, by simpa using hJs, hB, hsz⟩
      case round =>
        clear hJs hB hsz
        obtain ⟨m, hm, rfl, hJs, hB, hsz⟩ := hrel
        have hl100 := HL.out k hlt
        by_cases hmt : m < (rows k).length
        · obtain ⟨x, hx⟩ : ∃ x, (rows k)[m]? = some x := ⟨_, List.getElem?_eq_getElem hmt⟩
          obtain ⟨bq, off, rfl, hcell⟩ := (HR.out.call hB) (by omega)
          have hc2 := hcell m x hx
          have q0 := hc2 0 _ rfl
          have q1 := hc2 1 _ rfl
          have q2 := hc2 2 _ rfl
          have q3 := hc2 3 _ rfl
          rw [Nat.add_zero] at q0
          have hbq : bq < wr.heap.size := World.block_lt_of_cell? wr ⟨bq, off + m * 4, none⟩ q0
          have hJ' := hJ _ _ _ none hJs (grow_alloc wr (.cells #[.int .i64 x.s, .int .i8 x.k, .int .i64 x.a, .int .u64 x.p] 66)) (fun r e => by cases e)
          have hsn : (allV rows k ++ ((rows k).take m).map fun x => ((k : Int) + 1, x.t)) ++ [((k : Int) + 1, x.t)] = allV rows k ++ ((rows k).take (m + 1)).map fun x => ((k : Int) + 1, x.t) := by
            rw [List.take_add_one, hx, Option.toList_some, List.map_append, List.append_assoc]
            rfl
          have HSN := Lib.hid hsn
          have hpl : (allV rows k ++ ((rows k).take m).map fun x => ((k : Int) + 1, x.t)).length < (allV rows 8).length := by
            have h1 := (allV_part rows (k := k) (m := m + 1) hlt).length_le
            rw [← hsn, List.length_append] at h1
            simp only [List.length_cons, List.length_nil] at h1
            omega
          obtain ⟨fn, tmps, assign, body, hy, hRd⟩ := hY _ ((k : Int) + 1, x.t) _ hJ' hpl
          dsimp only [encY, Pr.t] at hy
          have HB := Lib.hid hB
          have HSZ := Lib.hid hsz
          clear hc2 hcell hx hsn hpl hJ' hB hsz
          gi_wp2
          refine hRd.mono ?_
          rintro e W3 (⟨rfl, hJ3, hk3⟩ | ⟨rfl, hJx3⟩)
          · gi_wp2
            go_roundw
            case rel => exact ⟨m + 1, by omega, by go_num, by rw [← HSN.out]; exact hJ3, ((HB.out.alloc HB.out.size _).trans hk3), by have := hk3.size; have := HSZ.out; simp only [World.size_alloc] at *; omega⟩
            case measure => simp [intOf]; omega
          · gi_wp2
            refine bodyPost_ret (results_none rfl _ _ _) rfl ?_
            exact ⟨⟨_, rfl⟩, .inr ⟨_, by rw [HSN.out]; exact allV_part rows hlt, hJx3⟩⟩
        · obtain rfl : m = (rows k).length := by omega
          rw [List.take_length] at hJs
          gi_wp2
          go_roundw
          case rel => exact ⟨k + 1, by omega, by go_num, hJs, hB, hsz⟩
          case measure => simp [intOf]; omega
    · obtain rfl : k = 8 := by omega
      gi_wp2
      go_end0
      exact ⟨⟨_, rfl⟩, .inl ⟨_, rfl, hJs⟩⟩
theorem call1_stops (F : Fence) (n : Nat) (hF : F.fn 28) (hro : F.round = none) (hn : 1 ≤ n) (R : Nat) (rows : Nat → List Pr) (w0 : World) (hR : Rd w0 R rows 8) (hlen : ∀ k, k < 8 → (rows k).length ≤ 100) :
    SeqStopsK F n Try.prog 28 #[.pointer (some ⟨R, 0, none⟩)] encY (Below w0.heap.size) (fun ys => ys = allV rows 8) (fun pre => pre <+: allV rows 8) (allV rows 8).length w0 := by
  intro l J Jx W hW hJ hJx hY h0
  refine (call1_in F n hF hro hn l R rows w0 hR hlen J Jx W hW hJ hY h0).mono ?_
  rintro e W' ⟨h1, h2⟩
  exact ⟨h1, h2⟩
end Go.Proofs.Ytokmcelmodoeoaa
