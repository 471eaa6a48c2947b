/-
  The law FieldEach of layer 1: the walk.
-/
import Derived.Test.YtiaebfccgolbgaaDoorEachW
import Derived.Deep.DeepCutAuto
import Derived.Test.YtiaebfccgolbgaaDoorQRound
namespace Go.Proofs.YtiaebfccgolbgaaDoor
open Go.RowKit Go.Shelf
attribute [local go_sem] Oper.semAt_some
set_option linter.unusedVariables false
set_option linter.unusedSimpArgs false
def PlI (W2 : World) (U : Nat) (xs pre : List Nat) (W : World) : Prop := Arr W U [.int .i64 pre.length] ∧ Below W2.heap.size W2 W ∧ pre <+: xs
def PlIx (W2 : World) (U : Nat) (lv : Int) (xs : List Nat) (c : Code) (pre : List Nat) (W : World) : Prop :=
  (c = .exit 0 ∧ Arr W U [.int .i64 pre.length] ∧ Below W2.heap.size W2 W ∧ (pre.length : Int) = lv) ∨ (c = .ret ∧ ¬ pre <+: xs)
def PlA (a : Go.Act) (x : Nat) (a' : Go.Act) (_ : World) : Prop :=
  a' = { tmps := (a.tmps.setIfInBounds 16 (.int .i64 x)).setIfInBounds 8 (.int .i64 x), defers := [] }
theorem Arr.own {W W' : World} {row : Option Nat} {b : Nat} {cs : List Value} (h : Arr W b cs) (hg : W.grownBy W' row) (hr : ∀ r, row = some r → ∃ o : Obj, W.heap[r]? = some o ∧ o.isCells = false) : Arr W' b cs :=
  ⟨Nat.lt_of_lt_of_le h.1 hg.size, fun i v hi => cell_kept (h.2.1 i v hi) hg hr, fun i hi => (frozen_kept (h.nat i hi) hg hr).trans (h.2.2 i hi)⟩
theorem keepsFrom_drewN (B : Nat) (W : World) (n : Nat) : KeepsFrom B W (W.drewN n) := ⟨Nat.le_refl _, fun _ _ _ h _ => h⟩
theorem pli_next {W2 Wn : World} {U : Nat} {xs pre : List Nat} {x : Nat} {v : Int} (hU : Arr Wn U [.int .i64 pre.length]) (hB : Below W2.heap.size W2 Wn) (hx : (pre ++ [x]) <+: xs) (hv : (pre.length : Int) + 1 = v) (hUU : W2.heap.size ≤ U) : PlI W2 U xs (pre ++ [x]) (Wn.setCell ⟨U, 0, none⟩ (.int .i64 v)) := by
  refine ⟨?_, bs hB hUU _, hx⟩
  have := hU.set 0 (by simp) (.int .i64 v)
  rw [show ((pre ++ [x]).length : Int) = v by simp; omega]
  exact this
theorem pref_at {xs pre : List Nat} {x : Nat} (h : pre <+: xs) (hx : xs[pre.length]? = some x) : (pre ++ [x]) <+: xs := by
  obtain ⟨ys, rfl⟩ := h
  rw [List.getElem?_append_right (Nat.le_refl _), Nat.sub_self] at hx
  cases ys with
  | nil => simp at hx
  | cons y ys => simp at hx; subst hx; exact ⟨ys, by simp⟩
theorem pref_not {xs pre : List Nat} {x y : Nat} (h : (pre ++ [x]) <+: xs) (hy : xs[pre.length]? = some y) : x = y := by
  obtain ⟨ys, rfl⟩ := h
  simp at hy
  exact hy
set_option maxRecDepth 100000 in
theorem results_of {tmps : Array Value} {w : World} {b : Nat} {v : Value} (h : w.cell? ⟨b, 0, none⟩ = some v) (h6 : tmps[4]? = some (.pointer (some ⟨b, 0, none⟩))) : (results Tryd.f3 tmps).run Tryd.prog w = .ok v w := by
  simp [results, show Tryd.f3.results = #[.cell 4 4] from rfl, h6, go_sem, h]
set_option maxRecDepth 100000 in
set_option maxHeartbeats 8000000 in
theorem each_law (x : Nat) (lv : Int) (w : World) (hx : x < 18446744073709551616) (hG : G w) :
    Calls Tryd.prog 3 #[.int .u64 x, .int .i64 lv] w fun e w' => e = .returned (.bool true) ∧ Below w.heap.size w w' := by
  refine callsIn_wide (n := 20).1 ?_
  refine callsIn_of_wp_marks Tryd.func3 rfl trivial ?_ rfl
  refine wpIn_wide.2 ?_
  simp only [Tryd.ntmps3, List.size_toArray, List.length_cons, List.length_nil, Nat.reduceAdd, Nat.reduceSub, Array.replicate_succ, Array.replicate_zero, List.push_toArray, List.append_toArray, List.nil_append, List.cons_append]
  go_upto_region 1 with fail
  refine (show ∀ W : World, Arr W w.heap.size [.int .i64 lv] → Arr W (w.heap.size + 1) [.bool false] → Below w.heap.size w W → Code.wp _ _ _ _ W from fun W hA hA2 hB => ?_) _ ((Arr.new w #[.int .i64 lv] 3).alloc _) (by have := Arr.new (w.alloc (.cells #[.int .i64 lv] 3)) #[.bool false] 4; simpa using this) (ba (ba (Below.refl _ _) _) _)
  have HG1 := Lib.hid (hG.call hB)
  clear hG
  go_wp2_with fail
  refine (reach_any x _ hx).mono ?_
  rintro e w1 ⟨v, rfl, ho, hb⟩
  obtain ⟨O, cap, rfl, ho1, ho2, hR⟩ := ho.form encI_len
  have HA := Lib.hid (hA.call hb)
  have HA2 := Lib.hid (hA2.call hb)
  have HB := Lib.hid (bthen hB hb)
  have HG2 := Lib.hid (HG1.out.call hb)
  clear hA hA2 hB HG1 hb ho
  go_upto_region 2 with fail
  refine (show ∀ W : World, Arr W w1.heap.size [.slice O (onesL x.testBit 0 64).length cap] → RK encI 1 W O (onesL x.testBit 0 64) → Arr W w.heap.size [.int .i64 lv] → Arr W (w.heap.size + 1) [.bool false] → Below w.heap.size w W → G W → Code.wp _ _ _ _ W from fun W hT hRR hA hA2 hB hG => ?_) _ (Arr.new _ _ _) (hR.call (ba (Below.refl _ _) _)) (HA.out.alloc _) (HA2.out.alloc _) (ba HB.out _) (HG2.out.call (ba (Below.refl _ _) _))
  clear ho1 ho2 hR HA HA2 HB HG2
  generalize w1.heap.size = T at *
  go_wp2_with fail
  refine (each_any x W).mono ?_
  rintro e W2 ⟨rfl, hRd, hb2⟩
  have HT2 := Lib.hid (hT.call hb2)
  have HR2 := Lib.hid (hRR.call hb2)
  have HA2 := Lib.hid (hA.call hb2)
  have HC2 := Lib.hid (hA2.call hb2)
  have HB2 := Lib.hid (bthen hB hb2)
  have HG2 := Lib.hid (hG.call hb2)
  have HRd := Lib.hid hRd
  clear hT hRR hA hA2 hB hG hb2 hRd
  generalize W.heap.size = R at *
  have hfn : ∀ w' : World, (binOp .eql 26 (.func (.func 8) #[] #[.pointer (some ⟨R, 0, none⟩)]) .nilFunc).run Tryd.prog w' = .ok (.bool false) w' := fun _ => by kernel_rfl
  go_wp2_with fail
  clear hfn
  have hln := onesL_len x.testBit 0 64
  refine (show ∀ W3 : World, W3 = W2.alloc (.cells #[.int .i64 0] 3) → Code.wp _ _ _ _ W3 from fun W3 hW3 => ?_) _ rfl
  refine (show ∀ a : Go.Act, a = _ → Code.wp _ _ _ a W3 from fun a ha => ?_) _ rfl
  have hs3 : W3.heap.size = W2.heap.size + 1 := by rw [hW3]; simp
  have hU3 : Arr W3 W2.heap.size [.int .i64 0] := by rw [hW3]; exact Arr.new _ _ _
  have hB3 : Below W2.heap.size W2 W3 := by rw [hW3]; exact ba (Below.refl _ _) _
  refine (wpIn_wide (n := 20)).1 ?_
  refine wpIn_rangeFunc_ownH (n := 20) rfl (by omega) (gf := 8) (lb := #[.pointer (some ⟨R, 0, none⟩)]) (by rw [ha]; rfl) trivial (enters_of Tryd.func8 (by kernel_rfl) rfl) (each1_stops 19 (by omega) R x hx W2 HG2.out HRd.out) belowK_t (belowK_b (by omega)) hB3 (fun _ => rfl)
    (PlI W2 W2.heap.size (onesL x.testBit 0 64)) (PlIx W2 W2.heap.size lv (onesL x.testBit 0 64)) ?hI ?hIx ?h0 (PlA a) ?hAx ?assign ?body ?done ?stop
  case hI =>
    intro s X Y row ⟨h1, h2, h3⟩ hg hr
    exact ⟨h1.own hg (fun r e => (hr r e).2), h2.grown hg h2.size (fun r e => by have := (hr r e).1; omega), h3⟩
  case hIx =>
    intro c s X Y row h hg hr
    rcases h with ⟨h0, h1, h2, h3⟩ | h
    · exact Or.inl ⟨h0, h1.own hg (fun r e => (hr r e).2), h2.grown hg h2.size (fun r e => by have := (hr r e).1; omega), h3⟩
    · exact Or.inr h
  case h0 => exact ⟨hU3, hB3, List.nil_prefix⟩
  case hAx => intro k a' s X Y row h hg hr; exact h
  case assign =>
    intro l' pre k W K hi hK
    generalize hfa : Array.foldl _ _ _ = fa
    rw [ha] at hfa
    simp [encZ] at hfa
    subst hfa
    gi_wp2
    refine hK _ _ (KeepsFrom.refl _ _) (Below.refl _ W) hi ?_
    unfold PlA
    rw [ha]
    simp only [List.setIfInBounds_toArray, List.set_cons_zero, List.set_cons_succ]
  case body =>
    rintro l' pre k a' W hl hr ⟨hU, hB, hpre⟩ rfl hlt
    obtain ⟨y, hy⟩ : ∃ y, (onesL x.testBit 0 64)[pre.length]? = some y := ⟨_, List.getElem?_eq_getElem hlt⟩
    obtain ⟨bq, off, rfl, hcell⟩ := (HR2.out.call hB) (by omega)
    have hc2 := hcell pre.length y hy
    have q0 := hc2 0 _ rfl
    rw [Nat.add_zero, Nat.mul_one] at q0
    have hX := HT2.out.call hB
    have hB5 := HA2.out.call hB
    have hC6 := HC2.out.call hB
    have u0 := hU.cell 0 _ rfl
    have uf := hU.frozen 0 (by simp)
    have x0 := hX.cell 0 _ rfl
    have l0 := hB5.cell 0 _ rfl
    have r0 := hC6.cell 0 _ rfl
    have rf := hC6.frozen 0 (by simp)
    have hplI : (pre.length : Int) < ((onesL x.testBit 0 64).length : Int) := by omega
    have hplI2 : decide (((onesL x.testBit 0 64).length : Int) ≤ (pre.length : Int)) = false := by simp; omega
    have hplI3 : decide ((onesL x.testBit 0 64).length ≤ pre.length) = false := by simp; omega
    have hpl0 : (0 : Int) ≤ (pre.length : Int) := by omega
    have hwU : w.heap.size + 1 < W2.heap.size := HC2.out.lt
    have HPRE := Lib.hid hpre
    have HY := Lib.hid hy
    have HB := Lib.hid hB
    have HU := Lib.hid hU
    have HLQ := Lib.hid hB5
    have HRQ := Lib.hid hC6
    clear hc2 hcell hy hpre hX hB hU hB5 hC6
    rw [ha]
    simp only [List.setIfInBounds_toArray, List.set_cons_zero, List.set_cons_succ]
    by_cases h1 : k = y
    · subst h1
      have HNX := Lib.hid (pref_at HPRE.out HY.out)
      have h1' : ((k : Int) != (k : Int)) = false := by simp
      by_cases hk : ((pre.length : Int) + 1) = lv
      · have hkd : decide (((pre.length : Int) + 1) = lv) = true := by simpa using hk
        refine wpIn_block ?_
        refine wpIn_seq_k fun K1 hK1 => ?_
        refine wpIn_seq_k fun K2 hK2 => ?_
        refine wpIn_region_quiet_seqR (by kernel_rfl) ?_
        repeat (gi_big_quiet_step (fail))
        refine wpQuietIn_nil ?_
        rintro _ ⟨nq, rfl⟩
        have u1 := (HU.out.drewN nq).cell 0 _ rfl
        have u2 := (HU.out.drewN nq).frozen 0 (by simp)
        have l1 := (HLQ.out.drewN nq).cell 0 _ rfl
        have r1 := (HRQ.out.drewN nq).frozen 0 (by simp)
        have r2 := (HRQ.out.drewN nq).cell 0 _ rfl
        have hBq := Lib.hid (bdn HB.out nq)
        have hUq := Lib.hid (HU.out.drewN nq)
        have hKq := Lib.hid (keepsFrom_drewN W3.heap.size W nq)
        have hBB := Lib.hid (bdn (Below.refl W2.heap.size W) nq)
        generalize W.drewN nq = Wn at *
        clear u0 uf x0 q0 l0 r0 rf hplI hplI2 hplI3 hpl0 HU HB HLQ HRQ
        gi_wp2
        have hp := pli_next hUq.out hBq.out HNX.out hk (Nat.le_refl _)
        exact ⟨hKq.out.trans ((KeepsOthers.setCell _ _ _).from _), Or.inl ⟨rfl, hp.1, hp.2.1, by simp; omega⟩⟩
      · have hkd : decide (((pre.length : Int) + 1) = lv) = false := by simpa using hk
        refine wpIn_block ?_
        refine wpIn_seq_k fun K1 hK1 => ?_
        refine wpIn_seq_k fun K2 hK2 => ?_
        refine wpIn_region_quiet_seqR (by kernel_rfl) ?_
        repeat (gi_big_quiet_step (fail))
        refine wpQuietIn_nil ?_
        rintro _ ⟨nq, rfl⟩
        have u1 := (HU.out.drewN nq).cell 0 _ rfl
        have u2 := (HU.out.drewN nq).frozen 0 (by simp)
        have l1 := (HLQ.out.drewN nq).cell 0 _ rfl
        have r1 := (HRQ.out.drewN nq).frozen 0 (by simp)
        have r2 := (HRQ.out.drewN nq).cell 0 _ rfl
        have hBq := Lib.hid (bdn HB.out nq)
        have hUq := Lib.hid (HU.out.drewN nq)
        have hKq := Lib.hid (keepsFrom_drewN W3.heap.size W nq)
        have hBB := Lib.hid (bdn (Below.refl W2.heap.size W) nq)
        generalize W.drewN nq = Wn at *
        clear u0 uf x0 q0 l0 r0 rf hplI hplI2 hplI3 hpl0 HU HB HLQ HRQ
        gi_wp2
        have hp := pli_next hUq.out hBq.out HNX.out rfl (Nat.le_refl _)
        exact ⟨hKq.out.trans ((KeepsOthers.setCell _ _ _).from _), hBB.out.setCell (Nat.le_refl _) _, hp⟩
    · have h1' : ((k : Int) != (y : Int)) = true := by simp; omega
      have HNX := Lib.hid (show ¬ (pre ++ [k]) <+: onesL x.testBit 0 64 from fun h => h1 (pref_not h HY.out))
      refine wpIn_block ?_
      refine wpIn_seq_k fun K1 hK1 => ?_
      refine wpIn_seq_k fun K2 hK2 => ?_
      refine wpIn_region_quiet_seqR (by kernel_rfl) ?_
      repeat (gi_big_quiet_step (fail))
      refine wpQuietIn_nil ?_
      rintro _ ⟨nq, rfl⟩
      have u1 := (HU.out.drewN nq).cell 0 _ rfl
      have u2 := (HU.out.drewN nq).frozen 0 (by simp)
      have l1 := (HLQ.out.drewN nq).cell 0 _ rfl
      have r1 := (HRQ.out.drewN nq).frozen 0 (by simp)
      have r2 := (HRQ.out.drewN nq).cell 0 _ rfl
      have hBq := Lib.hid (bdn HB.out nq)
      have hUq := Lib.hid (HU.out.drewN nq)
      have hKq := Lib.hid (keepsFrom_drewN W3.heap.size W nq)
      have hBB := Lib.hid (bdn (Below.refl W2.heap.size W) nq)
      generalize W.drewN nq = Wn at *
      clear u0 uf x0 q0 l0 r0 rf hplI hplI2 hplI3 hpl0 HU HB HLQ HRQ
      gi_wp2
      exact ⟨hKq.out.trans ((KeepsOthers.setCell _ _ _).from _), Or.inr ⟨rfl, HNX.out⟩⟩
  case done =>
    rintro D xs W hD hS ⟨hU, hB, hpre⟩ hK
    subst hS
    have hC6 := Lib.hid (HC2.out.call hB)
    have hX := Lib.hid (HT2.out.call hB)
    have b0 := (HA2.out.call hB).cell 0 _ rfl
    clear hpre
    have hwU : w.heap.size + 1 < W2.heap.size := HC2.out.lt
    have u0 := hU.cell 0 _ rfl
    have r0 := hC6.out.cell 0 _ rfl
    have rf := hC6.out.frozen 0 (by simp)
    have x0 := hX.out.cell 0 _ rfl
    rw [ha]
    gi_wp2
    go_wp2_with fail
    refine (wakes1_any _).mono ?_
    rintro e W' ⟨rfl, hw'⟩
    have hK' : W'.heap[D]? = some (.deferred (some [])) := (hw'.block D (Array.getElem?_eq_some_iff.1 hK).1).trans hK
    have HC' := Lib.hid (hC6.out.call hw')
    have HB' := Lib.hid (bthen hB hw')
    have r1 := HC'.out.cell 0 _ rfl
    have rf1 := HC'.out.frozen 0 (by simp)
    clear hw' u0 b0 r0 rf x0 hC6 hX hU hB hK
    go_wp2_with fail
    refine ⟨by simp, .inl ⟨_, _, rfl, run_takeDeferred ((KeepsOthers.setCell _ _ _).same D _ hK' rfl), ?_⟩⟩
    have hK2 := (KeepsOthers.setCell W' ⟨w.heap.size + 1, 0, none⟩ (.bool true)).same D _ hK' rfl
    have hk5 := cell_kept ((HC'.out.set 0 (by simp) (.bool true)).cell 0 _ rfl) (grownBy_putObj' _ D (.deferred none)) (fun r e => by cases e; exact ⟨_, hK2, rfl⟩)
    refine ⟨.bool true, ?_, rfl, ?_⟩
    · exact results_of hk5 rfl
    · refine (Below.trans ((HB2.out.trans (HB'.out.mono HB2.out.size)).setCell (p := ⟨w.heap.size + 1, 0, none⟩) (by show w.heap.size ≤ w.heap.size + 1; omega) (.bool true)) ?_)
      exact belowK_b (w := W3) (by omega) _ D _ _ (by omega) hK2 rfl rfl
  case stop =>
    rintro D c pre W hD hS hJ hK
    rcases hJ with ⟨rfl, hU, hB, hlv⟩ | ⟨rfl, hno⟩
    · have hC6 := Lib.hid (HC2.out.call hB)
      have hX := Lib.hid (HT2.out.call hB)
      have b0 := (HA2.out.call hB).cell 0 _ rfl
      have hwU : w.heap.size + 1 < W2.heap.size := HC2.out.lt
      rw [hlv] at hU
      have u0 := hU.cell 0 _ rfl
      have r0 := hC6.out.cell 0 _ rfl
      have rf := hC6.out.frozen 0 (by simp)
      have x0 := hX.out.cell 0 _ rfl
      rw [ha]
      by_cases hk : lv = ((onesL x.testBit 0 64).length : Int)
      · have hkd : decide (lv = ((onesL x.testBit 0 64).length : Int)) = true := by simpa using hk
        have hke : (lv == ((onesL x.testBit 0 64).length : Int)) = true := by simpa using hk
        gi_wp2
        go_wp2_with fail
        refine (wakes1_any _).mono ?_
        rintro e W' ⟨rfl, hw'⟩
        have hK' : W'.heap[D]? = some (.deferred (some [])) := (hw'.block D (Array.getElem?_eq_some_iff.1 hK).1).trans hK
        have HC' := Lib.hid (hC6.out.call hw')
        have HB' := Lib.hid (bthen hB hw')
        have r1 := HC'.out.cell 0 _ rfl
        have rf1 := HC'.out.frozen 0 (by simp)
        clear hw' u0 b0 r0 rf x0 hC6 hX hU hB hK
        go_wp2_with fail
        refine ⟨by simp, .inl ⟨_, _, rfl, run_takeDeferred ((KeepsOthers.setCell _ _ _).same D _ hK' rfl), ?_⟩⟩
        have hK2 := (KeepsOthers.setCell W' ⟨w.heap.size + 1, 0, none⟩ (.bool true)).same D _ hK' rfl
        have hk5 := cell_kept ((HC'.out.set 0 (by simp) (.bool true)).cell 0 _ rfl) (grownBy_putObj' _ D (.deferred none)) (fun r e => by cases e; exact ⟨_, hK2, rfl⟩)
        refine ⟨.bool true, ?_, rfl, ?_⟩
        · exact results_of hk5 rfl
        · refine (Below.trans ((HB2.out.trans (HB'.out.mono HB2.out.size)).setCell (p := ⟨w.heap.size + 1, 0, none⟩) (by show w.heap.size ≤ w.heap.size + 1; omega) (.bool true)) ?_)
          exact belowK_b (w := W3) (by omega) _ D _ _ (by omega) hK2 rfl rfl
      · have hkd : decide (lv = ((onesL x.testBit 0 64).length : Int)) = false := by simpa using hk
        have hke : (lv == ((onesL x.testBit 0 64).length : Int)) = false := by simpa using hk
        gi_wp2
        go_wp2_with fail
        refine (wakes1_any _).mono ?_
        rintro e W' ⟨rfl, hw'⟩
        have hK' : W'.heap[D]? = some (.deferred (some [])) := (hw'.block D (Array.getElem?_eq_some_iff.1 hK).1).trans hK
        have HC' := Lib.hid (hC6.out.call hw')
        have HB' := Lib.hid (bthen hB hw')
        have r1 := HC'.out.cell 0 _ rfl
        have rf1 := HC'.out.frozen 0 (by simp)
        clear hw' u0 b0 r0 rf x0 hC6 hX hU hB hK
        go_wp2_with fail
        refine ⟨by simp, .inl ⟨_, _, rfl, run_takeDeferred ((KeepsOthers.setCell _ _ _).same D _ hK' rfl), ?_⟩⟩
        have hK2 := (KeepsOthers.setCell W' ⟨w.heap.size + 1, 0, none⟩ (.bool true)).same D _ hK' rfl
        have hk5 := cell_kept ((HC'.out.set 0 (by simp) (.bool true)).cell 0 _ rfl) (grownBy_putObj' _ D (.deferred none)) (fun r e => by cases e; exact ⟨_, hK2, rfl⟩)
        refine ⟨.bool true, ?_, rfl, ?_⟩
        · exact results_of hk5 rfl
        · refine (Below.trans ((HB2.out.trans (HB'.out.mono HB2.out.size)).setCell (p := ⟨w.heap.size + 1, 0, none⟩) (by show w.heap.size ≤ w.heap.size + 1; omega) (.bool true)) ?_)
          exact belowK_b (w := W3) (by omega) _ D _ _ (by omega) hK2 rfl rfl
    · exact absurd hS hno
theorem each_card (x lv : Int) (w : World) (hG : G w) (hx : U64 x) :
    Calls Tryd.prog 3 #[.int .u64 x, .int .i64 lv] w fun e w' => e = .returned (.bool true) ∧ Below w.heap.size w w' := by
  obtain ⟨n, rfl, hn⟩ := u64_nat hx
  exact each_law n lv w hn hG
end Go.Proofs.YtiaebfccgolbgaaDoor
