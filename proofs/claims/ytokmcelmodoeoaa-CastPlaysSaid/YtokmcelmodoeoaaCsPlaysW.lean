/-
  The law CastPlays of layer 13: the walk.
-/
import Derived.Test.YtokmcelmodoeoaaCsPl
import Derived.Test.YtokmcelmodoeoaaCsOpen
import Derived.Deep.RegionHeld3
import Derived.Deep.QuietTactic
import Derived.BigQuiet
import Derived.Deep.DeepCutAuto
import Derived.Test.YtokmcelmodoeoaaQRound
import Derived.Deep.CutBlock
import Derived.Sort.QuietIn
namespace Go.Proofs.Ytokmcelmodoeoaa
open Go.RowKit Go.Shelf
set_option linter.unusedVariables false
set_option linter.unusedSimpArgs false
attribute [local go_sem] Oper.semAt_some
theorem Arr.own {W W' : World} {row : Option Nat} {b : Nat} {cs : List Value} (h : Arr W b cs) (hg : W.grownBy W' row) (hr : ∀ r, row = some r → ∃ o : Obj, W.heap[r]? = some o ∧ o.isCells = false) : Arr W' b cs :=
  ⟨Nat.lt_of_lt_of_le h.1 hg.size, fun i v hi => cell_kept (h.2.1 i v hi) hg hr, fun i hi => (frozen_kept (h.nat i hi) hg hr).trans (h.2.2 i hi)⟩
theorem KeepsFrom.alloc (B : Nat) (W : World) (o : Obj) : KeepsFrom B W (W.alloc o) := (KeepsOthers.alloc W o).from B
theorem pref_at {α : Type} {xs pre : List α} {x : α} (h : pre <+: xs) (hx : xs[pre.length]? = some x) : (pre ++ [x]) <+: xs := by
  obtain ⟨t, rfl⟩ := h
  rw [List.getElem?_append_right (Nat.le_refl _), Nat.sub_self] at hx
  cases t with
  | nil => simp at hx
  | cons y t =>
    simp at hx
    subst hx
    exact ⟨t, by simp⟩
theorem pref_not {α : Type} {xs pre : List α} {x y : α} (h : (pre ++ [x]) <+: xs) (hy : xs[pre.length]? = some y) : x = y := by
  obtain ⟨t, rfl⟩ := h
  simp at hy
  exact hy
/-- What the loop body keeps. -/
def PlI (W2 : World) (U : Nat) (xs : List (Int × Tq)) (pre : List (Int × Tq)) (W : World) : Prop := Arr W U [.int .i64 pre.length] ∧ Below W2.heap.size W2 W ∧ pre <+: xs
def PlIx (W2 : World) (U : Nat) (lv : Int) (xs : List (Int × Tq)) (c : Code) (pre : List (Int × Tq)) (W : World) : Prop :=
  (c = .exit 3 ∧ Arr W U [.int .i64 pre.length] ∧ Below W2.heap.size W2 W ∧ (pre.length : Int) = lv) ∨ (c = .ret ∧ ¬ pre <+: xs)
def PlA (U : Nat) (a : Go.Act) (x : Int × Tq) (a' : Go.Act) (W : World) : Prop :=
  ∃ Bx, U < Bx ∧ Arr W Bx [.int .i8 x.2.k, .int .i64 x.2.a, .int .u64 x.2.p] ∧ a' = { tmps := (((a.tmps.setIfInBounds 161 (.int .i64 x.1)).setIfInBounds 162 (.agg #[.int .i8 x.2.k, .int .i64 x.2.a, .int .u64 x.2.p])).setIfInBounds 26 (.int .i64 x.1)).setIfInBounds 27 (.pointer (some ⟨Bx, 0, none⟩)), defers := [] }
/-- What holds at the loop's head. -/
def CpRel (w0 : World) (T5 T6 b q n : Nat) (lv : Int) (wr : World) : Prop :=
  ∃ (rows : Nat → List Pr) (L : List Rp), Pl w0 (fun g => g = T5 ∨ g = T6) wr b n rows q L ∧ Rl n rows L ∧ Arr wr T5 [.int .i64 lv] ∧ Arr wr T6 [.bool false]
theorem keepsFrom_drewN (B : Nat) (W : World) (n : Nat) : KeepsFrom B W (W.drewN n) := ⟨Nat.le_refl _, fun _ _ _ h _ => h⟩
theorem pli_next {W2 Wn : World} {U : Nat} {xs pre : List (Int × Tq)} {x : Int × Tq} {v : Int} (hU : Arr Wn U [.int .i64 pre.length]) (hB : Below W2.heap.size W2 Wn) (hx : (pre ++ [x]) <+: xs) (hv : (pre.length : Int) + 1 = v) (hUU : W2.heap.size ≤ U) : PlI W2 U xs (pre ++ [x]) (Wn.setCell ⟨U, 0, none⟩ (.int .i64 v)) := by
  refine ⟨?_, bs hB hUU _, hx⟩
  have := hU.set 0 (by simp) (.int .i64 v)
  rw [show ((pre ++ [x]).length : Int) = v by simp; omega]
  exact this
set_option maxRecDepth 100000 in
theorem results_of {tmps : Array Value} {w : World} {b : Nat} {v : Value} (h : w.cell? ⟨b, 0, none⟩ = some v) (h6 : tmps[6]? = some (.pointer (some ⟨b, 0, none⟩))) : (results Try.f5 tmps).run Try.prog w = .ok v w := by
  simp [results, show Try.f5.results = #[.cell 6 4] from rfl, h6, go_sem, h]
set_option maxRecDepth 100000 in
set_option maxHeartbeats 8000000 in
theorem plays_any (O : Option Addr) (cap : Nat) (l : List Ac) (n lv : Int) (w : World) (hI : RK encA 5 w O l) (hwf : ∀ x ∈ l, x.wf) (hc : l.length ≤ cap) :
    Calls Try.prog 5 #[.int .i64 n, .slice O l.length cap, .int .i64 lv] w fun e w' => e = .returned (.bool true) ∧ Below w.heap.size w w' := by
  have HI := Lib.hid hI
  have HW := Lib.hid hwf
  clear hI hwf
  refine callsIn_wide (n := 20).1 ?_
  refine callsIn_of_wp_marks Try.func5 rfl trivial ?_ rfl
  refine wpIn_wide.2 ?_
  simp only [Try.ntmps5, List.size_toArray, List.length_cons, List.length_nil, Nat.reduceAdd, Nat.reduceSub, Array.replicate_succ, Array.replicate_zero, List.push_toArray, List.append_toArray, List.nil_append, List.cons_append]
  by_cases h200 : l.length ≤ 200
  · by_cases hn : 1 ≤ n ∧ n ≤ 8
    · obtain ⟨n, rfl⟩ := Int.eq_ofNat_of_zero_le (show 0 ≤ n by omega)
      have hn1 : 1 ≤ n := by omega
      have hn8 : n ≤ 8 := by omega
      clear hn
      go_upto_region 3 with fail
      refine (show ∀ W : World, Arr W w.heap.size [.int .i64 lv] → Arr W (w.heap.size + 1) [.bool false] → Below w.heap.size w W → Code.wp _ _ _ _ W from fun W hA hA2 hB => ?_) _ ((Arr.new w #[.int .i64 lv] 3).alloc _) (by have := Arr.new (w.alloc (.cells #[.int .i64 lv] 3)) #[.bool false] 4; simpa using this) (ba (ba (Below.refl _ _) _) _)
      go_wp2_with fail
      refine (cnew_yes n W hn1 hn8).mono ?_
      rintro e w1 ⟨rfl, hc1, hb1⟩
      have hA1 := hA.call hb1
      have hA21 := hA2.call hb1
      have z0 : W.heap.size < w1.heap.size := hc1.blt
      go_wp2_with fail
      refine (rnew_yes n w1 hn1 hn8).mono ?_
      rintro e w2 ⟨rfl, hr2, hb2⟩
      have HPl := Lib.hid (pl_new (E := fun g => g = w.heap.size ∨ g = w.heap.size + 1) hB hc1 hb1 hr2 hb2 (fun g hg => by have := hA.lt; have := hA2.lt; omega))
      have HA := Lib.hid (hA1.call hb2)
      have HA2 := Lib.hid (hA21.call hb2)
      clear hA1 hA21 hb1 hb2 hc1 hr2 hA hA2 hB
      generalize W.heap.size = b at *
      generalize w1.heap.size = q at *
      go_wp2_with fail
      have HCp := Lib.hid (show CpRel w w.heap.size (w.heap.size + 1) b q n lv w2 from ⟨_, _, HPl.out, rl_no n, HA.out, HA2.out⟩)
      clear HPl HA HA2
      go_loopw [57] (fun i wr => ∃ m : Nat, i = .int .i64 m ∧ m ≤ l.length ∧ CpRel w w.heap.size (w.heap.size + 1) b q n lv wr) (fun i _ => l.length - (intOf i).toNat)
      case atStart => exact ⟨0, rfl, by omega, HCp.out⟩
      case round =>
        clear HCp
        obtain ⟨m, rfl, hm, rows, L, hP, hRl, hA, hA2⟩ := hrel
        by_cases hlt : m < l.length
        · obtain ⟨x, hx⟩ : ∃ x, l[m]? = some x := ⟨_, List.getElem?_eq_getElem hlt⟩
          obtain ⟨ba0, off, rfl, hcell⟩ := (HI.out.call hP.below) (by omega)
          have hc2 := hcell m x hx
          have q0 := hc2 0 _ rfl
          have q1 := hc2 1 _ rfl
          have q2 := hc2 2 _ rfl
          have q3 := hc2 3 _ rfl
          have q4 := hc2 4 _ rfl
          rw [Nat.add_zero] at q0
          have HP := Lib.hid (show 0 ≤ (acP x).p from (u64_wf (HW.out x (List.mem_of_getElem? hx)).2.2.2.2).1)
          have HP0 := Lib.hid hP
          have HB0 := Lib.hid hA
          have HC0 := Lib.hid hA2
          clear hc2 hcell hx hP hA hA2
          go_upto_region 12 with fail
          refine (show ∀ W : World, Pl w (fun g => (g = w.heap.size ∨ g = w.heap.size + 1) ∨ g = wr.heap.size) W b n rows q L → Arr W wr.heap.size [.int .i64 x.d, .int .i64 x.c, .int .i8 x.k, .int .i64 x.a, .int .u64 x.p] → Arr W w.heap.size [.int .i64 lv] → Arr W (w.heap.size + 1) [.bool false] → Code.wp _ _ _ _ W from fun W hP hA hB hC => ?_) _ (HP0.out.lay _) (Arr.new _ _ _) (HB0.out.alloc _) (HC0.out.alloc _)
          have hXn : w.heap.size + 1 < wr.heap.size := HC0.out.lt
          clear HP0 HB0 HC0 q0 q1 q2 q3 q4
          generalize wr.heap.size = X at *
          have hln := hRl.short hn8 hP.short
          have HRL := Lib.hid hRl
          have HLN := Lib.hid (show L.length ≤ 900 by omega)
          have c0 := hA.cell 0 _ rfl
          have HPD := Lib.hid hP
          have HAD := Lib.hid hA
          have HBD := Lib.hid hB
          have HCD := Lib.hid hC
          clear hP hA hB hC hRl hln
          generalize x.d = kd at *
          go_upto_block 2 with fail
          go_cut [13, 14, 15, 16, 17, 18, 19, 20, 21, 22] from 63 to 153 (fun _ _ _ _ _ _ _ _ _ _ wx => ∃ (rows : Nat → List Pr) (L : List Rp), Pl w (fun g => (g = w.heap.size ∨ g = w.heap.size + 1) ∨ g = X) wx b n rows q L ∧ Rl n rows L ∧ Arr wx X [.int .i64 kd, .int .i64 x.c, .int .i8 x.k, .int .i64 x.a, .int .u64 x.p] ∧ Arr wx w.heap.size [.int .i64 lv] ∧ Arr wx (w.heap.size + 1) [.bool false])
          case first =>
            by_cases k0 : kd = 0
            · subst k0
              go_upto_region 14 with fail
              clear c0
              have HPW := Lib.hid HPD.out.drew
              have HAW := Lib.hid HAD.out.drew
              have HBW := Lib.hid HBD.out.drew
              have HCW := Lib.hid HCD.out.drew
              rename_i hK14
              have hK14 := Lib.hid hK14
              refine wp_region_noPanic ?_
              refine wp_region_held_drew (S := fun w' => Arr w' X [.int .i64 0, .int .i64 x.c, .int .i8 x.k, .int .i64 x.a, .int .u64 x.p]) (by kernel_rfl) HAW.out (fun hHeld => ?_)
              refine wpAnyH_take (i := 0) (oi := ⟨_, _, _, _, _, _⟩) (v := ?v0x1) rfl (by kernel_rfl) (by kernel_rfl) (by kernel_rfl) (fun _ _ _ h => h) (Or.inl ⟨by rfl, ?hy0x1⟩) hHeld ?rest0x1
              case hy0x1 => (intro w' hSw; go_simp; try with_reducible rfl)
              try simp only [Act.put, List.setIfInBounds_toArray, List.set_cons_zero, List.set_cons_succ]
              refine wpAnyH_take (i := 1) (oi := ⟨_, _, _, _, _, _⟩) (v := ?v1x2) rfl (by kernel_rfl) (by kernel_rfl) (by kernel_rfl) (fun _ _ _ h => h) (Or.inl ⟨by rfl, ?hy1x2⟩) hHeld ?rest1x2
              case hy1x2 => (intro w' hSw; go_simp; try with_reducible rfl)
              try simp only [Act.put, List.setIfInBounds_toArray, List.set_cons_zero, List.set_cons_succ]
              refine wpAnyH_take (i := 2) (oi := ⟨_, _, _, _, _, _⟩) (v := ?v2x3) rfl (by kernel_rfl) (by kernel_rfl) (by kernel_rfl) (fun _ _ _ h => h) (Or.inl ⟨by rfl, ?hy2x3⟩) hHeld ?rest2x3
              case hy2x3 => (intro w' hSw; have c1 := hSw.cell 1 _ rfl; have c2 := hSw.cell 2 _ rfl; have c3 := hSw.cell 3 _ rfl; have c4 := hSw.cell 4 _ rfl; go_simp; try with_reducible rfl)
              try simp only [Act.put, List.setIfInBounds_toArray, List.set_cons_zero, List.set_cons_succ]
              refine wpAnyH_take (i := 3) (oi := ⟨_, _, _, _, _, _⟩) (v := ?v3x4) rfl (by kernel_rfl) (by kernel_rfl) (by kernel_rfl) (fun _ _ _ h => h) (Or.inl ⟨by rfl, ?hy3x4⟩) hHeld ?rest3x4
              case hy3x4 => (intro w' hSw; go_simp; try with_reducible rfl)
              try simp only [Act.put, List.setIfInBounds_toArray, List.set_cons_zero, List.set_cons_succ]
              refine wpAnyH_take (i := 4) (oi := ⟨_, _, _, _, _, _⟩) (v := ?v4x5) rfl (by kernel_rfl) (by kernel_rfl) (by kernel_rfl) (fun _ _ _ h => h) (Or.inl ⟨by rfl, ?hy4x5⟩) hHeld ?rest4x5
              case hy4x5 => (intro w' hSw; have c1 := hSw.cell 1 _ rfl; have c2 := hSw.cell 2 _ rfl; have c3 := hSw.cell 3 _ rfl; have c4 := hSw.cell 4 _ rfl; go_simp; try with_reducible rfl)
              try simp only [Act.put, List.setIfInBounds_toArray, List.set_cons_zero, List.set_cons_succ]
              refine wpAnyH_take (i := 6) (oi := ⟨_, _, _, _, _, _⟩) (v := ?v6x6) rfl (by kernel_rfl) (by kernel_rfl) (by kernel_rfl) (fun _ _ _ h => h) (Or.inl ⟨by rfl, ?hy6x6⟩) hHeld ?rest6x6
              case hy6x6 => (intro w' hSw; go_simp; try with_reducible rfl)
              try simp only [Act.put, List.setIfInBounds_toArray, List.set_cons_zero, List.set_cons_succ]
              refine wpAnyH_take (i := 7) (oi := ⟨_, _, _, _, _, _⟩) (v := ?v7x7) rfl (by kernel_rfl) (by kernel_rfl) (by kernel_rfl) (fun _ _ _ h => h) (Or.inl ⟨by rfl, ?hy7x7⟩) hHeld ?rest7x7
              case hy7x7 => (intro w' hSw; go_simp; try with_reducible rfl)
              try simp only [Act.put, List.setIfInBounds_toArray, List.set_cons_zero, List.set_cons_succ]
              refine wpAnyH_take (i := 8) (oi := ⟨_, _, _, _, _, _⟩) (v := ?v8x8) rfl (by kernel_rfl) (by kernel_rfl) (by kernel_rfl) (fun _ _ _ h => h) (Or.inl ⟨by rfl, ?hy8x8⟩) hHeld ?rest8x8
              case hy8x8 => (intro w' hSw; have c1 := hSw.cell 1 _ rfl; have c2 := hSw.cell 2 _ rfl; have c3 := hSw.cell 3 _ rfl; have c4 := hSw.cell 4 _ rfl; go_simp; try with_reducible rfl)
              try simp only [Act.put, List.setIfInBounds_toArray, List.set_cons_zero, List.set_cons_succ]
              refine wpAnyH_take (i := 9) (oi := ⟨_, _, _, _, _, _⟩) (v := ?v9x9) rfl (by kernel_rfl) (by kernel_rfl) (by kernel_rfl) (fun _ _ _ h => h) (Or.inl ⟨by rfl, ?hy9x9⟩) hHeld ?rest9x9
              case hy9x9 => (intro w' hSw; go_simp; try with_reducible rfl)
              try simp only [Act.put, List.setIfInBounds_toArray, List.set_cons_zero, List.set_cons_succ]
              refine wpAnyH_take (i := 10) (oi := ⟨_, _, _, _, _, _⟩) (v := ?v10x10) rfl (by kernel_rfl) (by kernel_rfl) (by kernel_rfl) (fun _ _ _ h => h) (Or.inl ⟨by rfl, ?hy10x10⟩) hHeld ?rest10x10
              case hy10x10 => (intro w' hSw; have c1 := hSw.cell 1 _ rfl; have c2 := hSw.cell 2 _ rfl; have c3 := hSw.cell 3 _ rfl; have c4 := hSw.cell 4 _ rfl; go_simp; try with_reducible rfl)
              try simp only [Act.put, List.setIfInBounds_toArray, List.set_cons_zero, List.set_cons_succ]
              refine wpAnyH_ready (rs := [5]) (by kernel_rfl) (by simp) ?_
              refine AllReadyH.cons (o := ⟨_, _, _, _, _, _⟩) rfl (fun K hK => ?_) AllReadyH.nil
              go_simp
              refine (pl_send_c HPW.out (acP x) HP.out).mono ?_
              rintro e W1 ⟨rfl, hP1, hk1⟩
              rw [HRL.out.sende]
              have HP1 := Lib.hid hP1
              have HA1 := Lib.hid (HAW.out.keep hk1 (fun h => h (by simp)))
              have HB1 := Lib.hid (HBW.out.keep hk1 (fun h => h (by simp)))
              have HC1 := Lib.hid (HCW.out.keep hk1 (fun h => h (by simp)))
              clear hP1 hk1
              go_wp2_with fail
              refine hK.out _ _ HA1.out (fun hHeld => ?_)
              clear hK K
              try simp only [Act.put, List.setIfInBounds_toArray, List.set_cons_zero, List.set_cons_succ]
              refine wpAnyH_ready (rs := [11]) (by kernel_rfl) (by simp) ?_
              refine AllReadyH.cons (o := ⟨_, _, _, _, _, _⟩) rfl (fun K hK => ?_) AllReadyH.nil
              go_simp
              refine (pl_send_r HP1.out HLN.out (acP x)).mono ?_
              rintro e W2 ⟨rfl, hP2, hk2⟩
              have HP2 := Lib.hid hP2
              have HA2 := Lib.hid (HA1.out.keep hk2 (fun h => h (by simp)))
              have HB2 := Lib.hid (HB1.out.keep hk2 (fun h => h (by simp)))
              have HC2 := Lib.hid (HC1.out.keep hk2 (fun h => h (by simp)))
              clear hP2 hk2
              go_wp2_with fail
              refine hK.out _ _ HA2.out (fun hHeld => ?_)
              clear hK K
              try simp only [Act.put, List.setIfInBounds_toArray, List.set_cons_zero, List.set_cons_succ]
              have hbn := bne_self_i (rsE n L (acP x))
              refine wpAnyH_take (i := 12) (oi := ⟨_, _, _, _, _, _⟩) (v := ?v12x11) rfl (by kernel_rfl) (by kernel_rfl) (by kernel_rfl) (fun _ _ _ h => h) (Or.inl ⟨by rfl, ?hy12x11⟩) hHeld ?rest12x11
              case hy12x11 => (intro w' hSw; go_simp; try with_reducible rfl)
              try simp only [Act.put, List.setIfInBounds_toArray, List.set_cons_zero, List.set_cons_succ]
              refine wpAnyH_done (by kernel_rfl) ?_ _
              go_wp2_with fail
              refine hK14.out _ _ ?_
              go_wp2_with fail
              go_meet
              case rel => exact ⟨_, _, HP2.out, HRL.out.send (acP x), HA2.out, HB2.out, HC2.out⟩
            · by_cases k1 : kd = 1
              · subst k1
                have c1 := HAD.out.cell 1 _ rfl
                go_wp2_with fail
                refine (pl_ack_c HPD.out x.c).mono ?_
                rintro e W1 ⟨rfl, hP1, hk1⟩
                rw [HRL.out.firp, HRL.out.fire]
                simp only [toP]
                have a1 := HAD.out.keep hk1 (fun h => h (by simp))
                have b1 := HBD.out.keep hk1 (fun h => h (by simp))
                have d1 := HCD.out.keep hk1 (fun h => h (by simp))
                go_upto_region 18 with fail
                refine (show ∀ W : World, Pl w (fun g => ((g = w.heap.size ∨ g = w.heap.size + 1) ∨ g = X) ∨ g = W1.heap.size) W b n (ackR n rows x.c) q L → Arr W W1.heap.size [.int .i8 (rfP n L x.c).k, .int .i64 (rfP n L x.c).a, .int .u64 (rfP n L x.c).p] → Arr W X [.int .i64 1, .int .i64 x.c, .int .i8 x.k, .int .i64 x.a, .int .u64 x.p] → Arr W w.heap.size [.int .i64 lv] → Arr W (w.heap.size + 1) [.bool false] → Code.wp _ _ _ _ W from fun W hP hY hA hB hC => ?_) _ (hP1.lay _) (Arr.new _ _ _) (a1.alloc _) (b1.alloc _) (d1.alloc _)
                clear hP1 hk1 a1 b1 d1 HPD HAD HBD HCD c0 c1
                generalize W1.heap.size = Y at *
                have c1 := hA.cell 1 _ rfl
                go_wp2_with fail
                refine (pl_ack_r hP x.c).mono ?_
                rintro e W2 ⟨rfl, hP2, hk2⟩
                have y2 := hY.keep hk2 (fun h => h (by simp))
                have a2 := hA.keep hk2 (fun h => h (by simp))
                have b2 := hB.keep hk2 (fun h => h (by simp))
                have d2 := hC.keep hk2 (fun h => h (by simp))
                clear hk2 hY hA hB hC hP c1
                go_upto_region 19 with fail
                refine (show ∀ W : World, Pl w (fun g => (g = w.heap.size ∨ g = w.heap.size + 1) ∨ g = X) W b n (ackR n rows x.c) q (raL n L x.c) → Arr W W2.heap.size [.int .i8 (rfP n L x.c).k, .int .i64 (rfP n L x.c).a, .int .u64 (rfP n L x.c).p] → Arr W Y [.int .i8 (rfP n L x.c).k, .int .i64 (rfP n L x.c).a, .int .u64 (rfP n L x.c).p] → Arr W X [.int .i64 1, .int .i64 x.c, .int .i8 x.k, .int .i64 x.a, .int .u64 x.p] → Arr W w.heap.size [.int .i64 lv] → Arr W (w.heap.size + 1) [.bool false] → Code.wp _ _ _ _ W from fun W hP hZ hY hA hB hC => ?_) _ ((hP2.sub (fun g hg => Or.inl hg)).call (ba (Below.refl _ _) _)) (Arr.new _ _ _) (y2.alloc _) (a2.alloc _) (b2.alloc _) (d2.alloc _)
                clear hP2 y2 a2 b2 d2
                generalize W2.heap.size = Z at *
                have e0 := hY.cell 0 _ rfl
                have e1 := hY.cell 1 _ rfl
                have e2 := hY.cell 2 _ rfl
                have g0 := hZ.cell 0 _ rfl
                have g1 := hZ.cell 1 _ rfl
                have g2 := hZ.cell 2 _ rfl
                have HRA := Lib.hid (HRL.out.ack x.c)
                clear hY hZ
                go_wp2_with fail
                go_meet
                case rel => exact ⟨_, _, hP, HRA.out, hA, hB, hC⟩
              · by_cases k2 : kd = 2
                · subst k2
                  have c1 := HAD.out.cell 1 _ rfl
                  go_wp2_with fail
                  refine (pl_first_c HPD.out x.c).mono ?_
                  rintro e W1 ⟨rfl, hb1⟩
                  rw [HRL.out.firp, HRL.out.fire]
                  simp only [toP]
                  go_upto_region 23 with fail
                  refine (show ∀ W : World, Pl w (fun g => (g = w.heap.size ∨ g = w.heap.size + 1) ∨ g = X) W b n rows q L → Arr W W1.heap.size [.int .i8 (rfP n L x.c).k, .int .i64 (rfP n L x.c).a, .int .u64 (rfP n L x.c).p] → Arr W X [.int .i64 2, .int .i64 x.c, .int .i8 x.k, .int .i64 x.a, .int .u64 x.p] → Arr W w.heap.size [.int .i64 lv] → Arr W (w.heap.size + 1) [.bool false] → Code.wp _ _ _ _ W from fun W hP hY hA hB hC => ?_) _ ((HPD.out.call hb1).call (ba (Below.refl _ _) _)) (Arr.new _ _ _) ((HAD.out.call hb1).alloc _) ((HBD.out.call hb1).alloc _) ((HCD.out.call hb1).alloc _)
                  clear hb1 HPD HAD HBD HCD c0 c1
                  generalize W1.heap.size = Y at *
                  have c1 := hA.cell 1 _ rfl
                  go_wp2_with fail
                  refine (pl_first_r hP x.c).mono ?_
                  rintro e W2 ⟨rfl, hb2⟩
                  have p2 := hP.call hb2
                  have y2 := hY.call hb2
                  have a2 := hA.call hb2
                  have b2 := hB.call hb2
                  have d2 := hC.call hb2
                  clear hb2 hP hY hA hB hC c1
                  go_upto_region 24 with fail
                  refine (show ∀ W : World, Pl w (fun g => (g = w.heap.size ∨ g = w.heap.size + 1) ∨ g = X) W b n rows q L → Arr W W2.heap.size [.int .i8 (rfP n L x.c).k, .int .i64 (rfP n L x.c).a, .int .u64 (rfP n L x.c).p] → Arr W Y [.int .i8 (rfP n L x.c).k, .int .i64 (rfP n L x.c).a, .int .u64 (rfP n L x.c).p] → Arr W X [.int .i64 2, .int .i64 x.c, .int .i8 x.k, .int .i64 x.a, .int .u64 x.p] → Arr W w.heap.size [.int .i64 lv] → Arr W (w.heap.size + 1) [.bool false] → Code.wp _ _ _ _ W from fun W hP hZ hY hA hB hC => ?_) _ (p2.call (ba (Below.refl _ _) _)) (Arr.new _ _ _) (y2.alloc _) (a2.alloc _) (b2.alloc _) (d2.alloc _)
                  clear p2 y2 a2 b2 d2
                  generalize W2.heap.size = Z at *
                  have e0 := hY.cell 0 _ rfl
                  have e1 := hY.cell 1 _ rfl
                  have e2 := hY.cell 2 _ rfl
                  have g0 := hZ.cell 0 _ rfl
                  have g1 := hZ.cell 1 _ rfl
                  have g2 := hZ.cell 2 _ rfl
                  clear hY hZ
                  go_wp2_with fail
                  go_meet
                  case rel => exact ⟨_, _, hP, HRL.out, hA, hB, hC⟩
                · go_wp2_with fail
                  go_meet
                  case rel => exact ⟨_, _, HPD.out, HRL.out, HAD.out, HBD.out, HCD.out⟩
          case rest =>
            obtain ⟨rows, L, hP, hRl, hA, hB, hC⟩ := hcut
            clear HPD HAD HBD HCD HRL HLN c0
            have HRL := Lib.hid hRl
            have HPD := Lib.hid hP
            have HAD := Lib.hid hA
            have HBD := Lib.hid hB
            have HCD := Lib.hid hC
            clear hP hA hB hC hRl
            go_upto_region 26 with fail
            rcases hd : doneL L x.c with _ | _
            · have HD := Lib.hid hd
              clear hd
              have HPW := Lib.hid HPD.out.drew
              have HAW := Lib.hid HAD.out.drew
              have HBW := Lib.hid HBD.out.drew
              have HCW := Lib.hid HCD.out.drew
              rename_i hK14
              have hK14 := Lib.hid hK14
              refine wp_region_noPanic ?_
              refine wp_region_held_drew (S := fun w' => Arr w' X [.int .i64 kd, .int .i64 x.c, .int .i8 x.k, .int .i64 x.a, .int .u64 x.p]) (by kernel_rfl) HAW.out (fun hHeld => ?_)
              refine wpAnyH_take (i := 0) (oi := ⟨_, _, _, _, _, _⟩) (v := ?v0x12) rfl (by kernel_rfl) (by kernel_rfl) (by kernel_rfl) (fun _ _ _ h => h) (Or.inl ⟨by rfl, ?hy0x12⟩) hHeld ?rest0x12
              case hy0x12 => (intro w' hSw; go_simp; try with_reducible rfl)
              try simp only [Act.put, List.setIfInBounds_toArray, List.set_cons_zero, List.set_cons_succ]
              refine wpAnyH_take (i := 1) (oi := ⟨_, _, _, _, _, _⟩) (v := ?v1x13) rfl (by kernel_rfl) (by kernel_rfl) (by kernel_rfl) (fun _ _ _ h => h) (Or.inl ⟨by rfl, ?hy1x13⟩) hHeld ?rest1x13
              case hy1x13 => (intro w' hSw; go_simp; try with_reducible rfl)
              try simp only [Act.put, List.setIfInBounds_toArray, List.set_cons_zero, List.set_cons_succ]
              refine wpAnyH_take (i := 2) (oi := ⟨_, _, _, _, _, _⟩) (v := ?v2x14) rfl (by kernel_rfl) (by kernel_rfl) (by kernel_rfl) (fun _ _ _ h => h) (Or.inl ⟨by rfl, ?hy2x14⟩) hHeld ?rest2x14
              case hy2x14 => (intro w' hSw; have c1 := hSw.cell 1 _ rfl; have c2 := hSw.cell 2 _ rfl; have c3 := hSw.cell 3 _ rfl; have c4 := hSw.cell 4 _ rfl; go_simp; try with_reducible rfl)
              try simp only [Act.put, List.setIfInBounds_toArray, List.set_cons_zero, List.set_cons_succ]
              refine wpAnyH_take (i := 4) (oi := ⟨_, _, _, _, _, _⟩) (v := ?v4x15) rfl (by kernel_rfl) (by kernel_rfl) (by kernel_rfl) (fun _ _ _ h => h) (Or.inl ⟨by rfl, ?hy4x15⟩) hHeld ?rest4x15
              case hy4x15 => (intro w' hSw; go_simp; try with_reducible rfl)
              try simp only [Act.put, List.setIfInBounds_toArray, List.set_cons_zero, List.set_cons_succ]
              refine wpAnyH_take (i := 5) (oi := ⟨_, _, _, _, _, _⟩) (v := ?v5x16) rfl (by kernel_rfl) (by kernel_rfl) (by kernel_rfl) (fun _ _ _ h => h) (Or.inl ⟨by rfl, ?hy5x16⟩) hHeld ?rest5x16
              case hy5x16 => (intro w' hSw; go_simp; try with_reducible rfl)
              try simp only [Act.put, List.setIfInBounds_toArray, List.set_cons_zero, List.set_cons_succ]
              refine wpAnyH_take (i := 6) (oi := ⟨_, _, _, _, _, _⟩) (v := ?v6x17) rfl (by kernel_rfl) (by kernel_rfl) (by kernel_rfl) (fun _ _ _ h => h) (Or.inl ⟨by rfl, ?hy6x17⟩) hHeld ?rest6x17
              case hy6x17 => (intro w' hSw; have c1 := hSw.cell 1 _ rfl; have c2 := hSw.cell 2 _ rfl; have c3 := hSw.cell 3 _ rfl; have c4 := hSw.cell 4 _ rfl; go_simp; try with_reducible rfl)
              try simp only [Act.put, List.setIfInBounds_toArray, List.set_cons_zero, List.set_cons_succ]
              refine wpAnyH_ready (rs := [3]) (by kernel_rfl) (by simp) ?_
              refine AllReadyH.cons (o := ⟨_, _, _, _, _, _⟩) rfl (fun K hK => ?_) AllReadyH.nil
              go_simp
              refine (pl_done_c HPW.out x.c).mono ?_
              rintro e W1 ⟨rfl, hb1⟩
              rw [HRL.out.done hn8, HD.out]
              have HP1 := Lib.hid (HPW.out.call hb1)
              have HA1 := Lib.hid (HAW.out.call hb1)
              have HB1 := Lib.hid (HBW.out.call hb1)
              have HC1 := Lib.hid (HCW.out.call hb1)
              clear hb1
              go_wp2_with fail
              refine hK.out _ _ HA1.out (fun hHeld => ?_)
              clear hK K
              try simp only [Act.put, List.setIfInBounds_toArray, List.set_cons_zero, List.set_cons_succ]
              refine wpAnyH_ready (rs := [7]) (by kernel_rfl) (by simp) ?_
              refine AllReadyH.cons (o := ⟨_, _, _, _, _, _⟩) rfl (fun K hK => ?_) AllReadyH.nil
              go_simp
              refine (pl_done_r HP1.out x.c).mono ?_
              rintro e W2 ⟨rfl, rfl⟩
              rw [HD.out]
              go_wp2_with fail
              refine hK.out _ _ HA1.out (fun hHeld => ?_)
              clear hK K
              try simp only [Act.put, List.setIfInBounds_toArray, List.set_cons_zero, List.set_cons_succ]
              refine wpAnyH_take (i := 8) (oi := ⟨_, _, _, _, _, _⟩) (v := ?v8x18) rfl (by kernel_rfl) (by kernel_rfl) (by kernel_rfl) (fun _ _ _ h => h) (Or.inl ⟨by rfl, ?hy8x18⟩) hHeld ?rest8x18
              case hy8x18 => (intro w' hSw; go_simp; try with_reducible rfl)
              try simp only [Act.put, List.setIfInBounds_toArray, List.set_cons_zero, List.set_cons_succ]
              refine wpAnyH_take (i := 9) (oi := ⟨_, _, _, _, _, _⟩) (v := ?v9x19) rfl (by kernel_rfl) (by kernel_rfl) (by kernel_rfl) (fun _ _ _ h => h) (Or.inl ⟨by rfl, ?hy9x19⟩) hHeld ?rest9x19
              case hy9x19 => (intro w' hSw; go_simp; try with_reducible rfl)
              try simp only [Act.put, List.setIfInBounds_toArray, List.set_cons_zero, List.set_cons_succ]
              refine wpAnyH_take (i := 10) (oi := ⟨_, _, _, _, _, _⟩) (v := ?v10x20) rfl (by kernel_rfl) (by kernel_rfl) (by kernel_rfl) (fun _ _ _ h => h) (Or.inl ⟨by rfl, ?hy10x20⟩) hHeld ?rest10x20
              case hy10x20 => (intro w' hSw; go_simp; try with_reducible rfl)
              try simp only [Act.put, List.setIfInBounds_toArray, List.set_cons_zero, List.set_cons_succ]
              refine wpAnyH_take (i := 11) (oi := ⟨_, _, _, _, _, _⟩) (v := ?v11x21) rfl (by kernel_rfl) (by kernel_rfl) (by kernel_rfl) (fun _ _ _ h => h) (Or.inl ⟨by rfl, ?hy11x21⟩) hHeld ?rest11x21
              case hy11x21 => (intro w' hSw; go_simp; try with_reducible rfl)
              try simp only [Act.put, List.setIfInBounds_toArray, List.set_cons_zero, List.set_cons_succ]
              refine wpAnyH_take (i := 12) (oi := ⟨_, _, _, _, _, _⟩) (v := ?v12x22) rfl (by kernel_rfl) (by kernel_rfl) (by kernel_rfl) (fun _ _ _ h => h) (Or.inl ⟨by rfl, ?hy12x22⟩) hHeld ?rest12x22
              case hy12x22 => (intro w' hSw; have c1 := hSw.cell 1 _ rfl; have c2 := hSw.cell 2 _ rfl; have c3 := hSw.cell 3 _ rfl; have c4 := hSw.cell 4 _ rfl; go_simp; try with_reducible rfl)
              try simp only [Act.put, List.setIfInBounds_toArray, List.set_cons_zero, List.set_cons_succ]
              refine wpAnyH_take (i := 14) (oi := ⟨_, _, _, _, _, _⟩) (v := ?v14x23) rfl (by kernel_rfl) (by kernel_rfl) (by kernel_rfl) (fun _ _ _ h => h) (Or.inl ⟨by rfl, ?hy14x23⟩) hHeld ?rest14x23
              case hy14x23 => (intro w' hSw; go_simp; try with_reducible rfl)
              try simp only [Act.put, List.setIfInBounds_toArray, List.set_cons_zero, List.set_cons_succ]
              refine wpAnyH_take (i := 15) (oi := ⟨_, _, _, _, _, _⟩) (v := ?v15x24) rfl (by kernel_rfl) (by kernel_rfl) (by kernel_rfl) (fun _ _ _ h => h) (Or.inl ⟨by rfl, ?hy15x24⟩) hHeld ?rest15x24
              case hy15x24 => (intro w' hSw; go_simp; try with_reducible rfl)
              try simp only [Act.put, List.setIfInBounds_toArray, List.set_cons_zero, List.set_cons_succ]
              refine wpAnyH_take (i := 16) (oi := ⟨_, _, _, _, _, _⟩) (v := ?v16x25) rfl (by kernel_rfl) (by kernel_rfl) (by kernel_rfl) (fun _ _ _ h => h) (Or.inl ⟨by rfl, ?hy16x25⟩) hHeld ?rest16x25
              case hy16x25 => (intro w' hSw; have c1 := hSw.cell 1 _ rfl; have c2 := hSw.cell 2 _ rfl; have c3 := hSw.cell 3 _ rfl; have c4 := hSw.cell 4 _ rfl; go_simp; try with_reducible rfl)
              try simp only [Act.put, List.setIfInBounds_toArray, List.set_cons_zero, List.set_cons_succ]
              refine wpAnyH_ready (rs := [13]) (by kernel_rfl) (by simp) ?_
              refine AllReadyH.cons (o := ⟨_, _, _, _, _, _⟩) rfl (fun K hK => ?_) AllReadyH.nil
              go_simp
              refine (pl_waits_c HP1.out x.c).mono ?_
              rintro e W2 ⟨rfl, rfl⟩
              rw [HRL.out.waits]
              go_wp2_with fail
              refine hK.out _ _ HA1.out (fun hHeld => ?_)
              clear hK K
              try simp only [Act.put, List.setIfInBounds_toArray, List.set_cons_zero, List.set_cons_succ]
              refine wpAnyH_ready (rs := [17]) (by kernel_rfl) (by simp) ?_
              refine AllReadyH.cons (o := ⟨_, _, _, _, _, _⟩) rfl (fun K hK => ?_) AllReadyH.nil
              go_simp
              refine (pl_waits_r HP1.out x.c).mono ?_
              rintro e W2 ⟨rfl, rfl⟩
              go_wp2_with fail
              refine hK.out _ _ HA1.out (fun hHeld => ?_)
              clear hK K
              try simp only [Act.put, List.setIfInBounds_toArray, List.set_cons_zero, List.set_cons_succ]
              have hbn := bne_self_i ((cntL L x.c : Nat) : Int)
              refine wpAnyH_take (i := 18) (oi := ⟨_, _, _, _, _, _⟩) (v := ?v18x26) rfl (by kernel_rfl) (by kernel_rfl) (by kernel_rfl) (fun _ _ _ h => h) (Or.inl ⟨by rfl, ?hy18x26⟩) hHeld ?rest18x26
              case hy18x26 => (intro w' hSw; go_simp; try with_reducible rfl)
              try simp only [Act.put, List.setIfInBounds_toArray, List.set_cons_zero, List.set_cons_succ]
              refine wpAnyH_take (i := 19) (oi := ⟨_, _, _, _, _, _⟩) (v := ?v19x27) rfl (by kernel_rfl) (by kernel_rfl) (by kernel_rfl) (fun _ _ _ h => h) (Or.inl ⟨by rfl, ?hy19x27⟩) hHeld ?rest19x27
              case hy19x27 => (intro w' hSw; go_simp; try with_reducible rfl)
              try simp only [Act.put, List.setIfInBounds_toArray, List.set_cons_zero, List.set_cons_succ]
              refine wpAnyH_done (by kernel_rfl) ?_ _
              go_wp2_with fail
              refine hK14.out _ _ ?_
              go_wp2_with fail
              go_roundw
              case rel => exact ⟨m + 1, by go_num, by omega, rows, L, HP1.out.sub (fun g hg => Or.inl hg), HRL.out, HB1.out, HC1.out⟩
              case measure => simp [intOf]; omega
            · have HD := Lib.hid hd
              clear hd
              have HPW := Lib.hid HPD.out.drew
              have HAW := Lib.hid HAD.out.drew
              have HBW := Lib.hid HBD.out.drew
              have HCW := Lib.hid HCD.out.drew
              rename_i hK14
              have hK14 := Lib.hid hK14
              refine wp_region_noPanic ?_
              refine wp_region_held_drew (S := fun w' => Arr w' X [.int .i64 kd, .int .i64 x.c, .int .i8 x.k, .int .i64 x.a, .int .u64 x.p]) (by kernel_rfl) HAW.out (fun hHeld => ?_)
              refine wpAnyH_take (i := 0) (oi := ⟨_, _, _, _, _, _⟩) (v := ?v0x28) rfl (by kernel_rfl) (by kernel_rfl) (by kernel_rfl) (fun _ _ _ h => h) (Or.inl ⟨by rfl, ?hy0x28⟩) hHeld ?rest0x28
              case hy0x28 => (intro w' hSw; go_simp; try with_reducible rfl)
              try simp only [Act.put, List.setIfInBounds_toArray, List.set_cons_zero, List.set_cons_succ]
              refine wpAnyH_take (i := 1) (oi := ⟨_, _, _, _, _, _⟩) (v := ?v1x29) rfl (by kernel_rfl) (by kernel_rfl) (by kernel_rfl) (fun _ _ _ h => h) (Or.inl ⟨by rfl, ?hy1x29⟩) hHeld ?rest1x29
              case hy1x29 => (intro w' hSw; go_simp; try with_reducible rfl)
              try simp only [Act.put, List.setIfInBounds_toArray, List.set_cons_zero, List.set_cons_succ]
              refine wpAnyH_take (i := 2) (oi := ⟨_, _, _, _, _, _⟩) (v := ?v2x30) rfl (by kernel_rfl) (by kernel_rfl) (by kernel_rfl) (fun _ _ _ h => h) (Or.inl ⟨by rfl, ?hy2x30⟩) hHeld ?rest2x30
              case hy2x30 => (intro w' hSw; have c1 := hSw.cell 1 _ rfl; have c2 := hSw.cell 2 _ rfl; have c3 := hSw.cell 3 _ rfl; have c4 := hSw.cell 4 _ rfl; go_simp; try with_reducible rfl)
              try simp only [Act.put, List.setIfInBounds_toArray, List.set_cons_zero, List.set_cons_succ]
              refine wpAnyH_take (i := 4) (oi := ⟨_, _, _, _, _, _⟩) (v := ?v4x31) rfl (by kernel_rfl) (by kernel_rfl) (by kernel_rfl) (fun _ _ _ h => h) (Or.inl ⟨by rfl, ?hy4x31⟩) hHeld ?rest4x31
              case hy4x31 => (intro w' hSw; go_simp; try with_reducible rfl)
              try simp only [Act.put, List.setIfInBounds_toArray, List.set_cons_zero, List.set_cons_succ]
              refine wpAnyH_take (i := 5) (oi := ⟨_, _, _, _, _, _⟩) (v := ?v5x32) rfl (by kernel_rfl) (by kernel_rfl) (by kernel_rfl) (fun _ _ _ h => h) (Or.inl ⟨by rfl, ?hy5x32⟩) hHeld ?rest5x32
              case hy5x32 => (intro w' hSw; go_simp; try with_reducible rfl)
              try simp only [Act.put, List.setIfInBounds_toArray, List.set_cons_zero, List.set_cons_succ]
              refine wpAnyH_take (i := 6) (oi := ⟨_, _, _, _, _, _⟩) (v := ?v6x33) rfl (by kernel_rfl) (by kernel_rfl) (by kernel_rfl) (fun _ _ _ h => h) (Or.inl ⟨by rfl, ?hy6x33⟩) hHeld ?rest6x33
              case hy6x33 => (intro w' hSw; have c1 := hSw.cell 1 _ rfl; have c2 := hSw.cell 2 _ rfl; have c3 := hSw.cell 3 _ rfl; have c4 := hSw.cell 4 _ rfl; go_simp; try with_reducible rfl)
              try simp only [Act.put, List.setIfInBounds_toArray, List.set_cons_zero, List.set_cons_succ]
              refine wpAnyH_ready (rs := [3]) (by kernel_rfl) (by simp) ?_
              refine AllReadyH.cons (o := ⟨_, _, _, _, _, _⟩) rfl (fun K hK => ?_) AllReadyH.nil
              go_simp
              refine (pl_done_c HPW.out x.c).mono ?_
              rintro e W1 ⟨rfl, hb1⟩
              rw [HRL.out.done hn8, HD.out]
              have HP1 := Lib.hid (HPW.out.call hb1)
              have HA1 := Lib.hid (HAW.out.call hb1)
              have HB1 := Lib.hid (HBW.out.call hb1)
              have HC1 := Lib.hid (HCW.out.call hb1)
              clear hb1
              go_wp2_with fail
              refine hK.out _ _ HA1.out (fun hHeld => ?_)
              clear hK K
              try simp only [Act.put, List.setIfInBounds_toArray, List.set_cons_zero, List.set_cons_succ]
              refine wpAnyH_ready (rs := [7]) (by kernel_rfl) (by simp) ?_
              refine AllReadyH.cons (o := ⟨_, _, _, _, _, _⟩) rfl (fun K hK => ?_) AllReadyH.nil
              go_simp
              refine (pl_done_r HP1.out x.c).mono ?_
              rintro e W2 ⟨rfl, rfl⟩
              rw [HD.out]
              go_wp2_with fail
              refine hK.out _ _ HA1.out (fun hHeld => ?_)
              clear hK K
              try simp only [Act.put, List.setIfInBounds_toArray, List.set_cons_zero, List.set_cons_succ]
              refine wpAnyH_take (i := 8) (oi := ⟨_, _, _, _, _, _⟩) (v := ?v8x34) rfl (by kernel_rfl) (by kernel_rfl) (by kernel_rfl) (fun _ _ _ h => h) (Or.inl ⟨by rfl, ?hy8x34⟩) hHeld ?rest8x34
              case hy8x34 => (intro w' hSw; go_simp; try with_reducible rfl)
              try simp only [Act.put, List.setIfInBounds_toArray, List.set_cons_zero, List.set_cons_succ]
              refine wpAnyH_take (i := 9) (oi := ⟨_, _, _, _, _, _⟩) (v := ?v9x35) rfl (by kernel_rfl) (by kernel_rfl) (by kernel_rfl) (fun _ _ _ h => h) (Or.inl ⟨by rfl, ?hy9x35⟩) hHeld ?rest9x35
              case hy9x35 => (intro w' hSw; go_simp; try with_reducible rfl)
              try simp only [Act.put, List.setIfInBounds_toArray, List.set_cons_zero, List.set_cons_succ]
              refine wpAnyH_take (i := 10) (oi := ⟨_, _, _, _, _, _⟩) (v := ?v10x36) rfl (by kernel_rfl) (by kernel_rfl) (by kernel_rfl) (fun _ _ _ h => h) (Or.inl ⟨by rfl, ?hy10x36⟩) hHeld ?rest10x36
              case hy10x36 => (intro w' hSw; go_simp; try with_reducible rfl)
              try simp only [Act.put, List.setIfInBounds_toArray, List.set_cons_zero, List.set_cons_succ]
              refine wpAnyH_take (i := 11) (oi := ⟨_, _, _, _, _, _⟩) (v := ?v11x37) rfl (by kernel_rfl) (by kernel_rfl) (by kernel_rfl) (fun _ _ _ h => h) (Or.inl ⟨by rfl, ?hy11x37⟩) hHeld ?rest11x37
              case hy11x37 => (intro w' hSw; go_simp; try with_reducible rfl)
              try simp only [Act.put, List.setIfInBounds_toArray, List.set_cons_zero, List.set_cons_succ]
              refine wpAnyH_take (i := 12) (oi := ⟨_, _, _, _, _, _⟩) (v := ?v12x38) rfl (by kernel_rfl) (by kernel_rfl) (by kernel_rfl) (fun _ _ _ h => h) (Or.inl ⟨by rfl, ?hy12x38⟩) hHeld ?rest12x38
              case hy12x38 => (intro w' hSw; have c1 := hSw.cell 1 _ rfl; have c2 := hSw.cell 2 _ rfl; have c3 := hSw.cell 3 _ rfl; have c4 := hSw.cell 4 _ rfl; go_simp; try with_reducible rfl)
              try simp only [Act.put, List.setIfInBounds_toArray, List.set_cons_zero, List.set_cons_succ]
              refine wpAnyH_take (i := 14) (oi := ⟨_, _, _, _, _, _⟩) (v := ?v14x39) rfl (by kernel_rfl) (by kernel_rfl) (by kernel_rfl) (fun _ _ _ h => h) (Or.inl ⟨by rfl, ?hy14x39⟩) hHeld ?rest14x39
              case hy14x39 => (intro w' hSw; go_simp; try with_reducible rfl)
              try simp only [Act.put, List.setIfInBounds_toArray, List.set_cons_zero, List.set_cons_succ]
              refine wpAnyH_take (i := 15) (oi := ⟨_, _, _, _, _, _⟩) (v := ?v15x40) rfl (by kernel_rfl) (by kernel_rfl) (by kernel_rfl) (fun _ _ _ h => h) (Or.inl ⟨by rfl, ?hy15x40⟩) hHeld ?rest15x40
              case hy15x40 => (intro w' hSw; go_simp; try with_reducible rfl)
              try simp only [Act.put, List.setIfInBounds_toArray, List.set_cons_zero, List.set_cons_succ]
              refine wpAnyH_take (i := 16) (oi := ⟨_, _, _, _, _, _⟩) (v := ?v16x41) rfl (by kernel_rfl) (by kernel_rfl) (by kernel_rfl) (fun _ _ _ h => h) (Or.inl ⟨by rfl, ?hy16x41⟩) hHeld ?rest16x41
              case hy16x41 => (intro w' hSw; have c1 := hSw.cell 1 _ rfl; have c2 := hSw.cell 2 _ rfl; have c3 := hSw.cell 3 _ rfl; have c4 := hSw.cell 4 _ rfl; go_simp; try with_reducible rfl)
              try simp only [Act.put, List.setIfInBounds_toArray, List.set_cons_zero, List.set_cons_succ]
              refine wpAnyH_ready (rs := [13]) (by kernel_rfl) (by simp) ?_
              refine AllReadyH.cons (o := ⟨_, _, _, _, _, _⟩) rfl (fun K hK => ?_) AllReadyH.nil
              go_simp
              refine (pl_waits_c HP1.out x.c).mono ?_
              rintro e W2 ⟨rfl, rfl⟩
              rw [HRL.out.waits]
              go_wp2_with fail
              refine hK.out _ _ HA1.out (fun hHeld => ?_)
              clear hK K
              try simp only [Act.put, List.setIfInBounds_toArray, List.set_cons_zero, List.set_cons_succ]
              refine wpAnyH_ready (rs := [17]) (by kernel_rfl) (by simp) ?_
              refine AllReadyH.cons (o := ⟨_, _, _, _, _, _⟩) rfl (fun K hK => ?_) AllReadyH.nil
              go_simp
              refine (pl_waits_r HP1.out x.c).mono ?_
              rintro e W2 ⟨rfl, rfl⟩
              go_wp2_with fail
              refine hK.out _ _ HA1.out (fun hHeld => ?_)
              clear hK K
              try simp only [Act.put, List.setIfInBounds_toArray, List.set_cons_zero, List.set_cons_succ]
              have hbn := bne_self_i ((cntL L x.c : Nat) : Int)
              refine wpAnyH_take (i := 18) (oi := ⟨_, _, _, _, _, _⟩) (v := ?v18x42) rfl (by kernel_rfl) (by kernel_rfl) (by kernel_rfl) (fun _ _ _ h => h) (Or.inl ⟨by rfl, ?hy18x42⟩) hHeld ?rest18x42
              case hy18x42 => (intro w' hSw; go_simp; try with_reducible rfl)
              try simp only [Act.put, List.setIfInBounds_toArray, List.set_cons_zero, List.set_cons_succ]
              refine wpAnyH_take (i := 19) (oi := ⟨_, _, _, _, _, _⟩) (v := ?v19x43) rfl (by kernel_rfl) (by kernel_rfl) (by kernel_rfl) (fun _ _ _ h => h) (Or.inl ⟨by rfl, ?hy19x43⟩) hHeld ?rest19x43
              case hy19x43 => (intro w' hSw; go_simp; try with_reducible rfl)
              try simp only [Act.put, List.setIfInBounds_toArray, List.set_cons_zero, List.set_cons_succ]
              refine wpAnyH_done (by kernel_rfl) ?_ _
              go_wp2_with fail
              refine hK14.out _ _ ?_
              go_wp2_with fail
              go_roundw
              case rel => exact ⟨m + 1, by go_num, by omega, rows, L, HP1.out.sub (fun g hg => Or.inl hg), HRL.out, HB1.out, HC1.out⟩
              case measure => simp [intOf]; omega
        · obtain rfl : m = l.length := by omega
          have HP0 := Lib.hid hP
          have HRL := Lib.hid hRl
          have HB0 := Lib.hid hA
          have HC0 := Lib.hid hA2
          clear hP hRl hA hA2
          go_wp2_with fail
          refine (pl_all_r HP0.out).mono ?_
          rintro e W1 ⟨v1, rfl, ho1, hb1⟩
          obtain ⟨O1, cap1, rfl, ho2, ho3, hR1⟩ := ho1.form encR_len
          go_upto_region 30 with fail
          refine (show ∀ W : World, Pl w (fun g => g = w.heap.size ∨ g = w.heap.size + 1) W b n rows q L → Arr W W1.heap.size [.slice O1 (allL L n).length cap1] → RK encR 5 W O1 (allL L n) → Arr W w.heap.size [.int .i64 lv] → Arr W (w.heap.size + 1) [.bool false] → Code.wp _ _ _ _ W from fun W hP hT hR hB hC => ?_) _ ((HP0.out.call hb1).call (ba (Below.refl _ _) _)) (Arr.new _ _ _) (hR1.call (ba (Below.refl _ _) _)) ((HB0.out.call hb1).alloc _) ((HC0.out.call hb1).alloc _)
          clear hb1 hR1 ho1 ho2 ho3 HP0 HB0 HC0
          generalize W1.heap.size = T at *
          go_wp2_with fail
          refine (pl_all_c hP).mono ?_
          rintro e W2 ⟨R, rfl, hRd, hRl2, hb2⟩
          have hfn : ∀ w' : World, (binOp .eql 54 (.func (.func 28) #[] #[.pointer (some ⟨R, 0, none⟩)]) .nilFunc).run Try.prog w' = .ok (.bool false) w' := fun _ => by kernel_rfl
          have hP2 := hP.call hb2
          have hT2 := hT.call hb2
          have hR2 := hR.call hb2
          have hB2 := hB.call hb2
          have hC2 := hC.call hb2
          clear hP hT hR hB hC hb2
          go_wp2_with fail
          clear hfn
          have hx8 : allV rows 8 = (allL L n).map fun x => (x.c, (toP x).t) := by
            rw [HRL.out.all 8, allL_full HRL.out.core 8 hn8]
          have HL5 := Lib.hid (show (allL L n).length ≤ 8000 from by
            have h1 := HRL.out.short hn8 hP2.short
            have h2 := allL_len L n
            have h3 : n * L.length ≤ 8 * L.length := Nat.mul_le_mul_right _ hn8
            omega)
          have hsh : ∀ k, k < 8 → (rows k).length ≤ 100 := fun k hk => by have := hP2.short k hk; omega
          have hbW := hP2.below
          have hRW2 : R < W2.heap.size := by obtain ⟨us, hU, -⟩ := hRd; exact hU.lt
          refine (show ∀ W3 : World, W3 = W2.alloc (.cells #[.int .i64 0] 3) → Code.wp _ _ _ _ W3 from fun W3 hW3 => ?_) _ rfl
          refine (show ∀ a : Go.Act, a = _ → Code.wp _ _ _ a W3 from fun a ha => ?_) _ rfl
          have hs3 : W3.heap.size = W2.heap.size + 1 := by rw [hW3]; simp
          have hU3 : Arr W3 W2.heap.size [.int .i64 0] := by rw [hW3]; exact Arr.new _ _ _
          have hB3 : Below W2.heap.size W2 W3 := by rw [hW3]; exact ba (Below.refl _ _) _
          have HX8 := Lib.hid hx8
          have HX := Lib.hid hT2
          have HXR := Lib.hid hR2
          have HXB := Lib.hid hB2
          have HXC := Lib.hid hC2
          have HXP := Lib.hid hbW
          clear hT2 hR2 hB2 hC2 hP2 hbW hx8
          refine (wpIn_wide (n := 20)).1 ?_
          refine wpIn_rangeFunc_ownH (n := 20) rfl (by omega) (gf := 28) (lb := #[.pointer (some ⟨R, 0, none⟩)]) (by rw [ha]; rfl) trivial (enters_of Try.func28 (by kernel_rfl) rfl) (call1_stops Fence.wide 19 trivial rfl (by omega) R rows W2 hRd hsh) belowK_t (belowK_b (by omega)) hB3 (fun _ => rfl)
            (PlI W2 W2.heap.size (allV rows 8)) (PlIx W2 W2.heap.size lv (allV rows 8)) ?hI ?hIx ?h0 (PlA W2.heap.size a) ?hAx ?assign ?body ?done ?stop
          case hI =>
            intro s X Y row ⟨h1, h2, h3⟩ hg hr
            exact ⟨h1.own hg (fun r e => (hr r e).2), h2.grown hg h2.size (fun r e => by have := (hr r e).1; omega), h3⟩
          case hIx =>
            intro c s X Y row h hg hr
            rcases h with ⟨h0, h1, h2, h3⟩ | h
            · exact Or.inl ⟨h0, h1.own hg (fun r e => (hr r e).2), h2.grown hg h2.size (fun r e => by have := (hr r e).1; omega), h3⟩
            · exact Or.inr h
          case h0 => exact ⟨hU3, hB3, List.nil_prefix⟩
          case hAx =>
            intro x a' s X Y row ⟨Bx, h1, h2, h3⟩ hg hr
            exact ⟨Bx, h1, h2.own hg (fun r e => (hr r e).2), h3⟩
          case assign =>
            intro l' pre x W K hi hK
            have hsz := hi.2.1.size
            generalize hfa : Array.foldl _ _ _ = fa
            rw [ha] at hfa
            simp [encY] at hfa
            subst hfa
            gi_wp2
            refine hK _ _ ?_ ?_ ?_ ?_
            · exact KeepsFrom.alloc _ _ _
            · exact (Below.refl _ W).alloc (by omega) _
            · exact ⟨hi.1.alloc _, hi.2.1.alloc (by omega) _, hi.2.2⟩
            · refine ⟨W.heap.size, hi.1.lt, Arr.new _ _ _, ?_⟩
              rw [ha]
              simp only [List.setIfInBounds_toArray, List.set_cons_zero, List.set_cons_succ]
          case body =>
            rintro l' pre x a' W hl hr ⟨hU, hB, hpre⟩ ⟨Bx, hBx, hArr, rfl⟩ hlt
            have hsz := hB.size
            have hX := HX.out.call hB
            have hB5 := HXB.out.call hB
            have hC6 := HXC.out.call hB
            have hpl : pre.length < (allL L n).length := by
              have := hlt
              rw [HX8.out, List.length_map] at this
              exact this
            obtain ⟨y, hy⟩ : ∃ y, (allL L n)[pre.length]? = some y := ⟨_, List.getElem?_eq_getElem hpl⟩
            have hy8 : (allV rows 8)[pre.length]? = some (y.c, (toP y).t) := by rw [HX8.out, List.getElem?_map, hy]; rfl
            obtain ⟨bq, off, rfl, hcell⟩ := (HXR.out.call hB) (by omega)
            have hc2 := hcell pre.length y hy
            have q0 := hc2 0 _ rfl
            have q2 := hc2 2 _ rfl
            have q3 := hc2 3 _ rfl
            have q4 := hc2 4 _ rfl
            rw [Nat.add_zero] at q0
            have u0 := hU.cell 0 _ rfl
            have uf := hU.frozen 0 (by simp)
            have x0 := hX.cell 0 _ rfl
            have t0 := hArr.cell 0 _ rfl
            have t1 := hArr.cell 1 _ rfl
            have t2 := hArr.cell 2 _ rfl
            have l0 := hB5.cell 0 _ rfl
            have r0 := hC6.cell 0 _ rfl
            have rf := hC6.frozen 0 (by simp)
            have hplI : (pre.length : Int) < ((allL L n).length : Int) := by omega
            have hplI2 : decide (((allL L n).length : Int) ≤ (pre.length : Int)) = false := by simp; omega
            have hplI3 : decide ((allL L n).length ≤ pre.length) = false := by simp; omega
            have hpl0 : (0 : Int) ≤ (pre.length : Int) := by omega
            have hwU : w.heap.size + 1 < W2.heap.size := HXC.out.lt
            have HPRE := Lib.hid hpre
            have HY8 := Lib.hid hy8
            have HB := Lib.hid hB
            have HU := Lib.hid hU
            have hlen5 : (allL L n).length ≤ 8000 := HL5.out
            clear hc2 hcell hy hy8 hpre hX hArr hB hU
            rw [ha]
            simp only [List.setIfInBounds_toArray, List.set_cons_zero, List.set_cons_succ]
            have HPQ := Lib.hid (show ∀ m, Arr (W.drewN m) W2.heap.size [.int .i64 pre.length] from fun m => HU.out.drewN m)
            have HPQ := Lib.hid (show ∀ m, Arr (W.drewN m) W2.heap.size [.int .i64 pre.length] from fun m => HU.out.drewN m)
            have HLQ := Lib.hid (show ∀ m, Arr (W.drewN m) w.heap.size [.int .i64 lv] from fun m => hB5.drewN m)
            have HRQ := Lib.hid (show ∀ m, Arr (W.drewN m) (w.heap.size + 1) [.bool false] from fun m => hC6.drewN m)
            clear hB5 hC6
            by_cases h1 : x.1 = y.c
            · have h1' : (x.1 != y.c) = false := by simpa using h1
              by_cases h2 : x.2 = (toP y).t
              · have HNX := Lib.hid (pref_at (x := x) HPRE.out (by rw [HY8.out, ← h1, ← h2]))
                have hne : ∀ w' : World, (binOp .neq 35 (.agg #[.int .i8 x.2.k, .int .i64 x.2.a, .int .u64 x.2.p]) (.agg #[.int .i8 y.k, .int .i64 y.a, .int .u64 y.p])).run Try.prog w' = .ok (.bool false) w' := fun w' => by
                  rw [neq_tlbi, h2]; simp [toP, Pr.t]
                clear h1 h2
                gi_wp2
                refine wpIn_region_quiet_litR (by kernel_rfl) (by kernel_rfl) (by kernel_rfl) ?_
                repeat (gi_big_quiet_step (fail))
                refine wpQuietIn_nil ?_
                rintro _ ⟨nq, rfl⟩
                have u1 := (HPQ.out nq).cell 0 _ rfl
                have u2 := (HPQ.out nq).frozen 0 (by simp)
                have l1 := (HLQ.out nq).cell 0 _ rfl
                have r1 := (HRQ.out nq).frozen 0 (by simp)
                have r2 := (HRQ.out nq).cell 0 _ rfl
                have hBq := Lib.hid (bdn HB.out nq)
                have hUq := Lib.hid (HPQ.out nq)
                have hKq := Lib.hid (keepsFrom_drewN W3.heap.size W nq)
                have hBB := Lib.hid (bdn (Below.refl W2.heap.size W) nq)
                generalize W.drewN nq = Wn at *
                clear u0 uf x0 t0 t1 t2 q0 q2 q3 q4 l0 r0 rf hne hplI hplI2 hplI3 hpl0 HPQ HLQ HRQ
                by_cases hk : ((pre.length : Int) + 1) = lv
                · have hkd : decide (((pre.length : Int) + 1) = lv) = true := by simpa using hk
                  gi_wp2
                  have hp := pli_next hUq.out hBq.out HNX.out hk (Nat.le_refl _)
                  exact ⟨KeepsFrom.trans hKq.out ((KeepsOthers.setCell _ _ _).from _), Or.inl ⟨rfl, hp.1, hp.2.1, by simp; omega⟩⟩
                · have hkd : decide (((pre.length : Int) + 1) = lv) = false := by simpa using hk
                  gi_wp2
                  have hp := pli_next hUq.out hBq.out HNX.out rfl (Nat.le_refl _)
                  exact ⟨KeepsFrom.trans hKq.out ((KeepsOthers.setCell _ _ _).from _), hBB.out.setCell (Nat.le_refl _) _, hp⟩
              · have HNX := Lib.hid (show ¬ (pre ++ [x]) <+: allV rows 8 from fun h => h2 (by rw [pref_not h HY8.out]))
                have hne : ∀ w' : World, (binOp .neq 35 (.agg #[.int .i8 x.2.k, .int .i64 x.2.a, .int .u64 x.2.p]) (.agg #[.int .i8 y.k, .int .i64 y.a, .int .u64 y.p])).run Try.prog w' = .ok (.bool true) w' := fun w' => by
                  rw [neq_tlbi]
                  refine congrArg (fun b => Result.ok (Value.bool b) w') ?_
                  cases hb : ((x.2.k == y.k) && ((x.2.a == y.a) && (x.2.p == y.p))) with
                  | false => rfl
                  | true =>
                    exfalso
                    apply h2
                    simp only [Bool.and_eq_true, beq_iff_eq] at hb
                    obtain ⟨b1, b2, b3⟩ := hb
                    obtain ⟨x1, xk, xa, xp⟩ := x
                    simp only at b1 b2 b3
                    subst b1 b2 b3
                    rfl
                clear h1 h2
                gi_wp2
                refine wpIn_region_quiet_litR (by kernel_rfl) (by kernel_rfl) (by kernel_rfl) ?_
                repeat (gi_big_quiet_step (fail))
                refine wpQuietIn_nil ?_
                rintro _ ⟨nq, rfl⟩
                have u1 := (HPQ.out nq).cell 0 _ rfl
                have u2 := (HPQ.out nq).frozen 0 (by simp)
                have l1 := (HLQ.out nq).cell 0 _ rfl
                have r1 := (HRQ.out nq).frozen 0 (by simp)
                have r2 := (HRQ.out nq).cell 0 _ rfl
                have hBq := Lib.hid (bdn HB.out nq)
                have hUq := Lib.hid (HPQ.out nq)
                have hKq := Lib.hid (keepsFrom_drewN W3.heap.size W nq)
                have hBB := Lib.hid (bdn (Below.refl W2.heap.size W) nq)
                generalize W.drewN nq = Wn at *
                clear u0 uf x0 t0 t1 t2 q0 q2 q3 q4 l0 r0 rf hne hplI hplI2 hplI3 hpl0 HPQ HLQ HRQ
                gi_wp2
                refine ⟨KeepsFrom.trans hKq.out ((KeepsOthers.setCell _ _ _).from _), Or.inr ⟨rfl, HNX.out⟩⟩
            · have h1' : (x.1 != y.c) = true := by simpa using h1
              have HNX := Lib.hid (show ¬ (pre ++ [x]) <+: allV rows 8 from fun h => h1 (by rw [pref_not h HY8.out]))
              have hne := True.intro
              clear h1
              gi_wp2
              refine wpIn_region_quiet_litR (by kernel_rfl) (by kernel_rfl) (by kernel_rfl) ?_
              repeat (gi_big_quiet_step (fail))
              refine wpQuietIn_nil ?_
              rintro _ ⟨nq, rfl⟩
              have u1 := (HPQ.out nq).cell 0 _ rfl
              have u2 := (HPQ.out nq).frozen 0 (by simp)
              have l1 := (HLQ.out nq).cell 0 _ rfl
              have r1 := (HRQ.out nq).frozen 0 (by simp)
              have r2 := (HRQ.out nq).cell 0 _ rfl
              have hBq := Lib.hid (bdn HB.out nq)
              have hUq := Lib.hid (HPQ.out nq)
              have hKq := Lib.hid (keepsFrom_drewN W3.heap.size W nq)
              have hBB := Lib.hid (bdn (Below.refl W2.heap.size W) nq)
              generalize W.drewN nq = Wn at *
              clear u0 uf x0 t0 t1 t2 q0 q2 q3 q4 l0 r0 rf hne hplI hplI2 hplI3 hpl0 HPQ HLQ HRQ
              gi_wp2
              refine ⟨KeepsFrom.trans hKq.out ((KeepsOthers.setCell _ _ _).from _), Or.inr ⟨rfl, HNX.out⟩⟩
          case done =>
            rintro D xs W hD hS ⟨hU, hB, hpre⟩ hK
            subst hS
            have hB5 := Lib.hid (HXB.out.call hB)
            have hC6 := Lib.hid (HXC.out.call hB)
            have hX := Lib.hid (HX.out.call hB)
            clear hpre
            rw [HX8.out, List.length_map] at hU
            have hwU : w.heap.size + 1 < W2.heap.size := HXC.out.lt
            have u0 := hU.cell 0 _ rfl
            have b0 := hB5.out.cell 0 _ rfl
            have r0 := hC6.out.cell 0 _ rfl
            have rf := hC6.out.frozen 0 (by simp)
            have x0 := hX.out.cell 0 _ rfl
            rw [ha]
            gi_wp2
            go_wp2_with fail
            refine (wakes13_any _).mono ?_
            rintro e W' ⟨rfl, hw'⟩
            have hK' : W'.heap[D]? = some (.deferred (some [])) := (hw'.block D (Array.getElem?_eq_some_iff.1 hK).1).trans hK
            have HC' := Lib.hid (hC6.out.call hw')
            have HB' := Lib.hid (bthen hB hw')
            have r1 := HC'.out.cell 0 _ rfl
            have rf1 := HC'.out.frozen 0 (by simp)
            clear hw' u0 b0 r0 rf x0 hB5 hC6 hX hU hB hK
            go_wp2_with fail
            refine ⟨by simp, .inl ⟨_, _, rfl, run_takeDeferred ((KeepsOthers.setCell _ _ _).same D _ hK' rfl), ?_⟩⟩
            have hK2 := (KeepsOthers.setCell W' ⟨w.heap.size + 1, 0, none⟩ (.bool true)).same D _ hK' rfl
            have hk5 := cell_kept ((HC'.out.set 0 (by simp) (.bool true)).cell 0 _ rfl) (grownBy_putObj' _ D (.deferred none)) (fun r e => by cases e; exact ⟨_, hK2, rfl⟩)
            refine ⟨.bool true, ?_, rfl, ?_⟩
            · exact results_of hk5 rfl
            · refine (Below.trans ((HXP.out.trans (HB'.out.mono HXP.out.size)).setCell (p := ⟨w.heap.size + 1, 0, none⟩) (by show w.heap.size ≤ w.heap.size + 1; omega) (.bool true)) ?_)
              exact belowK_b (w := W3) (by omega) _ D _ _ (by omega) hK2 rfl rfl
          case stop =>
            rintro D c pre W hD hS hJ hK
            rcases hJ with ⟨rfl, hU, hB, hlv⟩ | ⟨rfl, hno⟩
            · have hB5 := Lib.hid (HXB.out.call hB)
              have hC6 := Lib.hid (HXC.out.call hB)
              have hX := Lib.hid (HX.out.call hB)
              have hwU : w.heap.size + 1 < W2.heap.size := HXC.out.lt
              rw [hlv] at hU
              have u0 := hU.cell 0 _ rfl
              have b0 := hB5.out.cell 0 _ rfl
              have r0 := hC6.out.cell 0 _ rfl
              have rf := hC6.out.frozen 0 (by simp)
              have x0 := hX.out.cell 0 _ rfl
              rw [ha]
              by_cases hk : lv = ((allL L n).length : Int)
              · have hkd : decide (lv = ((allL L n).length : Int)) = true := by simpa using hk
                have hke : (lv == ((allL L n).length : Int)) = true := by simpa using hk
                gi_wp2
                go_wp2_with fail
                refine (wakes13_any _).mono ?_
                rintro e W' ⟨rfl, hw'⟩
                have hK' : W'.heap[D]? = some (.deferred (some [])) := (hw'.block D (Array.getElem?_eq_some_iff.1 hK).1).trans hK
                have HC' := Lib.hid (hC6.out.call hw')
                have HB' := Lib.hid (bthen hB hw')
                have r1 := HC'.out.cell 0 _ rfl
                have rf1 := HC'.out.frozen 0 (by simp)
                clear hw' u0 b0 r0 rf x0 hB5 hC6 hX hU hB hK
                go_wp2_with fail
                refine ⟨by simp, .inl ⟨_, _, rfl, run_takeDeferred ((KeepsOthers.setCell _ _ _).same D _ hK' rfl), ?_⟩⟩
                have hK2 := (KeepsOthers.setCell W' ⟨w.heap.size + 1, 0, none⟩ (.bool true)).same D _ hK' rfl
                have hk5 := cell_kept ((HC'.out.set 0 (by simp) (.bool true)).cell 0 _ rfl) (grownBy_putObj' _ D (.deferred none)) (fun r e => by cases e; exact ⟨_, hK2, rfl⟩)
                refine ⟨.bool true, ?_, rfl, ?_⟩
                · exact results_of hk5 rfl
                · refine (Below.trans ((HXP.out.trans (HB'.out.mono HXP.out.size)).setCell (p := ⟨w.heap.size + 1, 0, none⟩) (by show w.heap.size ≤ w.heap.size + 1; omega) (.bool true)) ?_)
                  exact belowK_b (w := W3) (by omega) _ D _ _ (by omega) hK2 rfl rfl
              · have hkd : decide (lv = ((allL L n).length : Int)) = false := by simpa using hk
                have hke : (lv == ((allL L n).length : Int)) = false := by simpa using hk
                gi_wp2
                go_wp2_with fail
                refine (wakes13_any _).mono ?_
                rintro e W' ⟨rfl, hw'⟩
                have hK' : W'.heap[D]? = some (.deferred (some [])) := (hw'.block D (Array.getElem?_eq_some_iff.1 hK).1).trans hK
                have HC' := Lib.hid (hC6.out.call hw')
                have HB' := Lib.hid (bthen hB hw')
                have r1 := HC'.out.cell 0 _ rfl
                have rf1 := HC'.out.frozen 0 (by simp)
                clear hw' u0 b0 r0 rf x0 hB5 hC6 hX hU hB hK
                go_wp2_with fail
                refine ⟨by simp, .inl ⟨_, _, rfl, run_takeDeferred ((KeepsOthers.setCell _ _ _).same D _ hK' rfl), ?_⟩⟩
                have hK2 := (KeepsOthers.setCell W' ⟨w.heap.size + 1, 0, none⟩ (.bool true)).same D _ hK' rfl
                have hk5 := cell_kept ((HC'.out.set 0 (by simp) (.bool true)).cell 0 _ rfl) (grownBy_putObj' _ D (.deferred none)) (fun r e => by cases e; exact ⟨_, hK2, rfl⟩)
                refine ⟨.bool true, ?_, rfl, ?_⟩
                · exact results_of hk5 rfl
                · refine (Below.trans ((HXP.out.trans (HB'.out.mono HXP.out.size)).setCell (p := ⟨w.heap.size + 1, 0, none⟩) (by show w.heap.size ≤ w.heap.size + 1; omega) (.bool true)) ?_)
                  exact belowK_b (w := W3) (by omega) _ D _ _ (by omega) hK2 rfl rfl
            · exact absurd hS hno
    · have hnd : decide (200 < (l.length : Int)) = false := by simp; omega
      clear HI HW
      go_upto_region 3 with fail
      refine (show ∀ W : World, Arr W w.heap.size [.int .i64 lv] → Arr W (w.heap.size + 1) [.bool false] → Below w.heap.size w W → Code.wp _ _ _ _ W from fun W hA hA2 hB => ?_) _ ((Arr.new w #[.int .i64 lv] 3).alloc _) (by have := Arr.new (w.alloc (.cells #[.int .i64 lv] 3)) #[.bool false] 4; simpa using this) (ba (ba (Below.refl _ _) _) _)
      go_wp2_with fail
      refine (cnew_no n W (by omega)).mono ?_
      rintro e _ ⟨rfl, rfl⟩
      go_wp2_with fail
      refine (rnew_no n W (by omega)).mono ?_
      rintro e _ ⟨rfl, rfl⟩
      go_wp2_with fail
      refine (wakes13_any _).mono ?_
      rintro e W' ⟨rfl, hw'⟩
      have hA' := hA2.call hw'
      have r1 := hA'.cell 0 _ rfl
      have rf1 := hA'.frozen 0 (by simp)
      have hB' := bthen hB hw'
      clear hw' hB hA2
      go_wp2_with fail
      refine ⟨.bool true, results_of ((hA'.set 0 (by simp) (.bool true)).cell 0 _ rfl) rfl, rfl, ?_⟩
      exact hB'.setCell (p := ⟨w.heap.size + 1, 0, none⟩) (by show w.heap.size ≤ w.heap.size + 1; omega) (.bool true)
  · have hnd : decide (200 < (l.length : Int)) = true := by simp; omega
    clear HI HW
    go_wp2_with fail
    refine (show ∀ W : World, Arr W (w.heap.size + 1) [.bool false] → Below w.heap.size w W → Calls _ _ _ W _ from fun W hA2 hB => ?_) _ (by have := Arr.new (w.alloc (.cells #[.int .i64 lv] 3)) #[.bool false] 4; simpa using this) (ba (ba (Below.refl _ _) _) _)
    refine (wakes13_any _).mono ?_
    rintro e W' ⟨rfl, hw'⟩
    have hA' := hA2.call hw'
    have r1 := hA'.cell 0 _ rfl
    have rf1 := hA'.frozen 0 (by simp)
    have hB' := bthen hB hw'
    clear hw' hB hA2
    go_wp2_with fail
    refine ⟨.bool true, results_of ((hA'.set 0 (by simp) (.bool true)).cell 0 _ rfl) rfl, rfl, ?_⟩
    exact hB'.setCell (p := ⟨w.heap.size + 1, 0, none⟩) (by show w.heap.size ≤ w.heap.size + 1; omega) (.bool true)
end Go.Proofs.Ytokmcelmodoeoaa
