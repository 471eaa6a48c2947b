/-
  SpaceTells: which regions may be, what they tell.
-/
import Derived.Test.YtaikkdlphfmgiaaSpWakes
import Derived.Test.YtaikkdlphfmgiaaSpPgs
import Derived.Deep.DeepCutAuto
import Derived.Test.YtaikkdlphfmgiaaQRound
namespace Go.Proofs.Ytaikkdlphfmgiaa
open Go.RowKit Go.Shelf
attribute [local go_sem] Oper.semAt_some
set_option linter.unusedVariables false
set_option linter.unusedSimpArgs false
def PlI (W2 : World) (U : Nat) (xs pre : List Int) (W : World) : Prop := Arr W U [.int .i64 pre.length] ∧ Below W2.heap.size W2 W ∧ pre <+: xs
def PlIx (W2 : World) (U : Nat) (lv : Int) (xs : List Int) (c : Code) (pre : List Int) (W : World) : Prop :=
  (c = .exit 0 ∧ Arr W U [.int .i64 pre.length] ∧ Below W2.heap.size W2 W ∧ (pre.length : Int) = lv) ∨ (c = .ret ∧ ¬ pre <+: xs)
def PlA (a : Go.Act) (x : Int) (a' : Go.Act) (_ : World) : Prop :=
  a' = { tmps := (a.tmps.setIfInBounds 66 (.int .u64 x)).setIfInBounds 16 (.int .u64 x), defers := [] }
theorem Arr.own {W W' : World} {row : Option Nat} {b : Nat} {cs : List Value} (h : Arr W b cs) (hg : W.grownBy W' row) (hr : ∀ r, row = some r → ∃ o : Obj, W.heap[r]? = some o ∧ o.isCells = false) : Arr W' b cs :=
  ⟨Nat.lt_of_lt_of_le h.1 hg.size, fun i v hi => cell_kept (h.2.1 i v hi) hg hr, fun i hi => (frozen_kept (h.nat i hi) hg hr).trans (h.2.2 i hi)⟩
theorem pli_next {W2 Wn : World} {U : Nat} {xs pre : List Int} {x : Int} {v : Int} (hU : Arr Wn U [.int .i64 pre.length]) (hB : Below W2.heap.size W2 Wn) (hx : (pre ++ [x]) <+: xs) (hv : (pre.length : Int) + 1 = v) (hUU : W2.heap.size ≤ U) : PlI W2 U xs (pre ++ [x]) (Wn.setCell ⟨U, 0, none⟩ (.int .i64 v)) := by
  refine ⟨?_, bs hB hUU _, hx⟩
  have := hU.set 0 (by simp) (.int .i64 v)
  rw [show ((pre ++ [x]).length : Int) = v by simp; omega]
  exact this
theorem pref_at {xs pre : List Int} {x : Int} (h : pre <+: xs) (hx : xs[pre.length]? = some x) : (pre ++ [x]) <+: xs := by
  obtain ⟨ys, rfl⟩ := h
  rw [List.getElem?_append_right (Nat.le_refl _), Nat.sub_self] at hx
  cases ys with
  | nil => simp at hx
  | cons y ys => simp at hx; subst hx; exact ⟨ys, by simp⟩
theorem pref_not {xs pre : List Int} {x y : Int} (h : (pre ++ [x]) <+: xs) (hy : xs[pre.length]? = some y) : x = y := by
  obtain ⟨ys, rfl⟩ := h
  simp at hy
  exact hy
set_option maxRecDepth 100000 in
theorem results_of {tmps : Array Value} {w : World} {b : Nat} {v : Value} (h : w.cell? ⟨b, 0, none⟩ = some v) (h6 : tmps[8]? = some (.pointer (some ⟨b, 0, none⟩))) : (results Try.f6 tmps).run Try.prog w = .ok v w := by
  simp [results, show Try.f6.results = #[.cell 8 4] from rfl, h6, go_sem, h]
theorem KpC.drewN {n0 n1 : Nat} (W : World) (n : Nat) : KpC n0 n1 W (W.drewN n) := ⟨bdn (Below.refl _ _) n, fun _ _ _ h _ => h⟩
theorem keepsFrom_drewN (B : Nat) (W : World) (n : Nat) : KeepsFrom B W (W.drewN n) := ⟨Nat.le_refl _, fun _ _ _ h _ => h⟩
set_option maxHeartbeats 2000000 in
theorem tells_long (O : Option Addr) (len cap : Nat) (p c lv : Int) (w : World) (h : 40 < len) :
    Calls Try.prog 6 #[.slice O len cap, .int .u64 p, .int .i64 c, .int .i64 lv] w fun e w' => e = .returned (.bool true) ∧ Below w.heap.size w w' := by
  go_enter Try.func6, Try.ntmps6
  go_wp2_with fail
  have hA := (Arr.new (w.alloc (.cells #[.int .i64 lv] 3)) #[.bool false] 4)
  have hB := ba (ba (Below.refl w.heap.size w) (.cells #[.int .i64 lv] 3)) (.cells #[.bool false] 4)
  simp only [World.size_alloc] at hA
  refine (wakes19_any _).mono ?_
  rintro e w1 ⟨rfl, hb⟩
  have hA1 := hA.call hb
  have HA1 := Lib.hid hA1
  have HB1 := Lib.hid (bthen hB hb)
  have c0 := hA1.cell 0 _ rfl
  have f0 := hA1.frozen 0 (by simp)
  clear hA hB hb hA1
  go_wp2_with fail
  have c1 := (HA1.out.set 0 (by simp) (.bool true)).cell 0 _ rfl
  refine bodyPost_ret (v := .bool true) (results_of c1 rfl) rfl ⟨rfl, bs HB1.out (by show w.heap.size ≤ w.heap.size + 1; omega) _⟩
set_option maxRecDepth 100000 in
set_option maxHeartbeats 8000000 in
theorem tells_few (O : Option Addr) (len cap : Nat) (l : List Reg) (p c lv : Int) (w : World) (hI : RegsK w O l) (hl : l.length = len) (hcap : len ≤ cap) (h40 : len ≤ 40) (hwf : ∀ i, i < len → (rg l i).wf) (hp : U64 p) (hc : -9223372036854775808 ≤ c ∧ c < 9223372036854775808) :
    Calls Try.prog 6 #[.slice O len cap, .int .u64 p, .int .i64 c, .int .i64 lv] w fun e w' => e = .returned (.bool true) ∧ Below w.heap.size w w' := by
  have HI := Lib.hid hI
  have HL := Lib.hid hl
  have HW := Lib.hid hwf
  clear hI hl hwf
  refine callsIn_wide (n := 20).1 ?_
  refine callsIn_of_wp_marks Try.func6 rfl trivial ?_ rfl
  refine wpIn_wide.2 ?_
  simp only [Try.ntmps6, List.size_toArray, List.length_cons, List.length_nil, Nat.reduceAdd, Nat.reduceSub, Array.replicate_succ, Array.replicate_zero, List.push_toArray, List.append_toArray, List.nil_append, List.cons_append]
  go_upto_region 1 with fail
  refine (show ∀ W : World, Arr W w.heap.size [.int .i64 lv] → Arr W (w.heap.size + 1) [.bool false] → Below w.heap.size w W → Code.wp _ _ _ _ W from fun W hA hA2 hB => ?_) _ ((Arr.new w #[.int .i64 lv] 3).alloc _) (by have := Arr.new (w.alloc (.cells #[.int .i64 lv] 3)) #[.bool false] 4; simpa using this) (ba (ba (Below.refl _ _) _) _)
  have HA := Lib.hid hA
  have HA2 := Lib.hid hA2
  have HB := Lib.hid hB
  clear hA hA2 hB
  obtain ⟨r1, hr1⟩ := fndV_isSome (fnd l p)
  have HR1 := Lib.hid hr1
  generalize (fnd l p).isSome = sm at HR1
  clear hr1
  go_wp2_with fail
  refine (spFind_any O len cap p l _ (HI.out.call HB.out) HL.out hcap HW.out).mono ?_
  rintro e w1 ⟨rfl, hb⟩
  have HA := Lib.hid (HA.out.call hb)
  have HA2 := Lib.hid (HA2.out.call hb)
  have HB := Lib.hid (bthen HB.out hb)
  rw [HR1.out]
  clear hb
  go_wp2_with fail
  have hx := ba (Below.refl w1.heap.size w1) (.cells #[.int .u64 r1.f, .int .i64 r1.c, .bool r1.w] 25)
  have hn := Arr.new w1 #[.int .u64 r1.f, .int .i64 r1.c, .bool r1.w] 25
  refine (r19Find_any O len cap p l _ (HI.out.call (bthen HB.out hx)) HL.out hcap (by omega) hp HW.out).mono ?_
  rintro e w2 ⟨rfl, hb⟩
  have hxb := bthen hx hb
  have HA := Lib.hid (HA.out.call hxb)
  have HA2 := Lib.hid (HA2.out.call hxb)
  have HB := Lib.hid (bthen HB.out hxb)
  have HN := Lib.hid (hn.call hb)
  rw [HR1.out]
  clear hb hxb hx hn
  generalize w1.heap.size = N1 at *
  go_wp2_with fail
  have hx := ba (Below.refl w2.heap.size w2) (.cells #[.int .u64 r1.f, .int .i64 r1.c, .bool r1.w] 25)
  have hn := Arr.new w2 #[.int .u64 r1.f, .int .i64 r1.c, .bool r1.w] 25
  refine (spCheck_any O len cap l _ (HI.out.call (bthen HB.out hx)) HL.out hcap HW.out).mono ?_
  rintro e w3 ⟨rfl, hb⟩
  have hxb := bthen hx hb
  have HA := Lib.hid (HA.out.call hxb)
  have HA2 := Lib.hid (HA2.out.call hxb)
  have HB := Lib.hid (bthen HB.out hxb)
  have HN := Lib.hid (HN.out.call hxb)
  have HM := Lib.hid (hn.call hb)
  clear hb hxb hx hn
  generalize w2.heap.size = N2 at *
  go_wp2_with fail
  refine (r19Check_any O len cap l _ (HI.out.call HB.out) HL.out hcap HW.out).mono ?_
  rintro e w4 ⟨rfl, hb⟩
  have hn := HN.out.call hb
  have hm := HM.out.call hb
  have HA := Lib.hid (HA.out.call hb)
  have HA2 := Lib.hid (HA2.out.call hb)
  have HB := Lib.hid (bthen HB.out hb)
  clear hb HN HM
  generalize ckV l = ck at *
  have a0 := hn.cell 0 _ rfl
  have a1 := hn.cell 1 _ rfl
  have a2 := hn.cell 2 _ rfl
  have b0 := hm.cell 0 _ rfl
  have b1 := hm.cell 1 _ rfl
  have b2 := hm.cell 2 _ rfl
  clear hn hm
  go_wp2_with fail
  refine (spWhole_any O len cap p c l _ (HI.out.call HB.out) HL.out hcap HW.out hp hc).mono ?_
  rintro e w5 ⟨rfl, hb⟩
  have HA := Lib.hid (HA.out.call hb)
  have HA2 := Lib.hid (HA2.out.call hb)
  have HB := Lib.hid (bthen HB.out hb)
  clear hb a0 a1 a2 b0 b1 b2
  go_wp2_with fail
  refine (r19Whole_any O len cap p c l _ (HI.out.call HB.out) HL.out hcap (by omega) HW.out hp).mono ?_
  rintro e w6 ⟨rfl, hb⟩
  have HA := Lib.hid (HA.out.call hb)
  have HA2 := Lib.hid (HA2.out.call hb)
  have HB := Lib.hid (bthen HB.out hb)
  clear hb
  generalize whl l p c = wh at *
  go_wp2_with fail
  refine (r19Pages_any O len cap l _ (HI.out.call HB.out) HL.out hcap (by omega) HW.out).mono ?_
  rintro e w7 ⟨v, rfl, ho, hb⟩
  obtain ⟨Oq, capq, rfl, ho1, ho2, hR⟩ := ho.form encV_len
  have HA := Lib.hid (HA.out.call hb)
  have HA2 := Lib.hid (HA2.out.call hb)
  have HB := Lib.hid (bthen HB.out hb)
  have hln := pagesL_len l
  clear hb ho
  go_upto_region 8 with fail
  refine (show ∀ W : World, Arr W w7.heap.size [.slice Oq (pagesL l).length capq] → RK encV 1 W Oq (pagesL l) → Arr W w.heap.size [.int .i64 lv] → Arr W (w.heap.size + 1) [.bool false] → Below w.heap.size w W → Code.wp _ _ _ _ W from fun W hT hRR hA hA2 hB => ?_) _ (Arr.new _ _ _) (hR.call (ba (Below.refl _ _) _)) (HA.out.alloc _) (HA2.out.alloc _) (ba HB.out _)
  clear hR HA HA2 HB
  generalize w7.heap.size = T at *
  go_wp2_with fail
  refine (spPagesS_any O len cap l W (HI.out.call hB) HL.out hcap (by omega) HW.out).mono ?_
  rintro e W2 ⟨R, rfl, hRd, hRW, hb2⟩
  have HT2 := Lib.hid (hT.call hb2)
  have HR2 := Lib.hid (hRR.call hb2)
  have HA2 := Lib.hid (hA.call hb2)
  have HC2 := Lib.hid (hA2.call hb2)
  have HB2 := Lib.hid (bthen hB hb2)
  have HRd := Lib.hid hRd
  clear hT hRR hA hA2 hB hb2 hRd hRW
  have hfn : ∀ w' : World, (binOp .eql 44 (.func (.func 36) #[] #[.pointer (some ⟨R, 0, none⟩)]) .nilFunc).run Try.prog w' = .ok (.bool false) w' := fun _ => by kernel_rfl
  go_wp2_with fail
  clear hfn
  refine (show ∀ W3 : World, W3 = W2.alloc (.cells #[.int .i64 0] 3) → Code.wp _ _ _ _ W3 from fun W3 hW3 => ?_) _ rfl
  refine (show ∀ a : Go.Act, a = _ → Code.wp _ _ _ a W3 from fun a ha => ?_) _ rfl
  have hs3 : W3.heap.size = W2.heap.size + 1 := by rw [hW3]; simp
  have hU3 : Arr W3 W2.heap.size [.int .i64 0] := by rw [hW3]; exact Arr.new _ _ _
  have hB3 : Below W2.heap.size W2 W3 := by rw [hW3]; exact ba (Below.refl _ _) _
  have hseq := pgs1_stops 19 (by omega) R (ownL l) W2 W3 HRd.out (by unfold ownL; split; exact (chk_parts (by assumption)).1; simp) (by unfold ownL; split; exact (chk_parts (by assumption)).2.1; rfl) hB3
  rw [ownL_pages] at hseq
  generalize pagesL l = xs at *
  refine (wpIn_wide (n := 20)).1 ?_
  refine wpIn_rangeFunc_ownH (n := 20) rfl (by omega) (gf := 36) (lb := #[.pointer (some ⟨R, 0, none⟩)]) (by rw [ha]; rfl) trivial (enters_of Try.func36 (by kernel_rfl) rfl) hseq (fun h k => KpC.trans h k) (KpC.putObj (by omega)) (Below.refl _ _) (fun _ => rfl)
    (PlI W2 W2.heap.size xs) (PlIx W2 W2.heap.size lv xs) ?hI ?hIx ?h0 (PlA a) ?hAx ?assign ?body ?done ?stop
  case hI =>
    intro s X Y row ⟨h1, h2, h3⟩ hg hr
    exact ⟨h1.own hg (fun r e => (hr r e).2), h2.grown hg h2.size (fun r e => by have := (hr r e).1; omega), h3⟩
  case hIx =>
    intro c s X Y row h hg hr
    rcases h with ⟨h0, h1, h2, h3⟩ | h
    · exact Or.inl ⟨h0, h1.own hg (fun r e => (hr r e).2), h2.grown hg h2.size (fun r e => by have := (hr r e).1; omega), h3⟩
    · exact Or.inr h
  case h0 => exact ⟨hU3, hB3, List.nil_prefix⟩
  case hAx => intro k a' s X Y row h hg hr; exact h
  case assign =>
    intro l' pre k W K hi hK
    generalize hfa : Array.foldl _ _ _ = fa
    rw [ha] at hfa
    simp [encU] at hfa
    subst hfa
    gi_wp2
    refine hK _ _ (KeepsFrom.refl _ _) (KpC.refl _ _ W) hi ?_
    unfold PlA
    rw [ha]
    simp only [List.setIfInBounds_toArray, List.set_cons_zero, List.set_cons_succ]
  case body =>
    rintro l' pre k a' W hl hr ⟨hU, hB, hpre⟩ rfl hlt
    obtain ⟨y, hy⟩ : ∃ y, xs[pre.length]? = some y := ⟨_, List.getElem?_eq_getElem hlt⟩
    obtain ⟨bq, off, rfl, hcell⟩ := (HR2.out.call hB) (by omega)
    have hc2 := hcell pre.length y hy
    have q0 := hc2 0 _ rfl
    rw [Nat.add_zero, Nat.mul_one] at q0
    have hX := HT2.out.call hB
    have hB5 := HA2.out.call hB
    have hC6 := HC2.out.call hB
    have u0 := hU.cell 0 _ rfl
    have uf := hU.frozen 0 (by simp)
    have x0 := hX.cell 0 _ rfl
    have l0 := hB5.cell 0 _ rfl
    have r0 := hC6.cell 0 _ rfl
    have rf := hC6.frozen 0 (by simp)
    have hplI : (pre.length : Int) < (xs.length : Int) := by omega
    have hplI2 : decide ((xs.length : Int) ≤ (pre.length : Int)) = false := by simp; omega
    have hplI3 : decide (xs.length ≤ pre.length) = false := by simp; omega
    have hpl0 : (0 : Int) ≤ (pre.length : Int) := by omega
    have hwU : w.heap.size + 1 < W2.heap.size := HC2.out.lt
    have HPRE := Lib.hid hpre
    have HY := Lib.hid hy
    have HB := Lib.hid hB
    have HU := Lib.hid hU
    have HLQ := Lib.hid hB5
    have HRQ := Lib.hid hC6
    clear hc2 hcell hy hpre hX hB hU hB5 hC6
    rw [ha]
    simp only [List.setIfInBounds_toArray, List.set_cons_zero, List.set_cons_succ]
    by_cases h1 : k = y
    · subst h1
      have HNX := Lib.hid (pref_at HPRE.out HY.out)
      have h1' : ((k : Int) != (k : Int)) = false := by simp
      by_cases hk : ((pre.length : Int) + 1) = lv
      · have hkd : decide (((pre.length : Int) + 1) = lv) = true := by simpa using hk
        refine wpIn_block ?_
        refine wpIn_seq_k fun K1 hK1 => ?_
        refine wpIn_seq_k fun K2 hK2 => ?_
        refine wpIn_region_quiet_seqR (by kernel_rfl) ?_
        repeat (gi_big_quiet_step (fail))
        refine wpQuietIn_nil ?_
        rintro _ ⟨nq, rfl⟩
        have u1 := (HU.out.drewN nq).cell 0 _ rfl
        have u2 := (HU.out.drewN nq).frozen 0 (by simp)
        have l1 := (HLQ.out.drewN nq).cell 0 _ rfl
        have r1 := (HRQ.out.drewN nq).frozen 0 (by simp)
        have r2 := (HRQ.out.drewN nq).cell 0 _ rfl
        have hBq := Lib.hid (bdn HB.out nq)
        have hUq := Lib.hid (HU.out.drewN nq)
        have hKq := Lib.hid (keepsFrom_drewN W3.heap.size W nq)
        have hBB := Lib.hid (show KpC W2.heap.size W3.heap.size W (W.drewN nq) from KpC.drewN W nq)
        generalize W.drewN nq = Wn at *
        clear u0 uf x0 q0 l0 r0 rf hplI hplI2 hplI3 hpl0 HU HB HLQ HRQ
        gi_wp2
        have hp := pli_next hUq.out hBq.out HNX.out hk (Nat.le_refl _)
        exact ⟨hKq.out.trans ((KeepsOthers.setCell _ _ _).from _), Or.inl ⟨rfl, hp.1, hp.2.1, by simp; omega⟩⟩
      · have hkd : decide (((pre.length : Int) + 1) = lv) = false := by simpa using hk
        refine wpIn_block ?_
        refine wpIn_seq_k fun K1 hK1 => ?_
        refine wpIn_seq_k fun K2 hK2 => ?_
        refine wpIn_region_quiet_seqR (by kernel_rfl) ?_
        repeat (gi_big_quiet_step (fail))
        refine wpQuietIn_nil ?_
        rintro _ ⟨nq, rfl⟩
        have u1 := (HU.out.drewN nq).cell 0 _ rfl
        have u2 := (HU.out.drewN nq).frozen 0 (by simp)
        have l1 := (HLQ.out.drewN nq).cell 0 _ rfl
        have r1 := (HRQ.out.drewN nq).frozen 0 (by simp)
        have r2 := (HRQ.out.drewN nq).cell 0 _ rfl
        have hBq := Lib.hid (bdn HB.out nq)
        have hUq := Lib.hid (HU.out.drewN nq)
        have hKq := Lib.hid (keepsFrom_drewN W3.heap.size W nq)
        have hBB := Lib.hid (show KpC W2.heap.size W3.heap.size W (W.drewN nq) from KpC.drewN W nq)
        generalize W.drewN nq = Wn at *
        clear u0 uf x0 q0 l0 r0 rf hplI hplI2 hplI3 hpl0 HU HB HLQ HRQ
        gi_wp2
        have hp := pli_next hUq.out hBq.out HNX.out rfl (Nat.le_refl _)
        exact ⟨hKq.out.trans ((KeepsOthers.setCell _ _ _).from _), hBB.out.trans (KpC.setCell _ _ (Nat.le_refl _) (by show W2.heap.size < W3.heap.size; omega)), hp⟩
    · have h1' : ((k : Int) != (y : Int)) = true := by simpa using h1
      have HNX := Lib.hid (show ¬ (pre ++ [k]) <+: xs from fun h => h1 (pref_not h HY.out))
      refine wpIn_block ?_
      refine wpIn_seq_k fun K1 hK1 => ?_
      refine wpIn_seq_k fun K2 hK2 => ?_
      refine wpIn_region_quiet_seqR (by kernel_rfl) ?_
      repeat (gi_big_quiet_step (fail))
      refine wpQuietIn_nil ?_
      rintro _ ⟨nq, rfl⟩
      have u1 := (HU.out.drewN nq).cell 0 _ rfl
      have u2 := (HU.out.drewN nq).frozen 0 (by simp)
      have l1 := (HLQ.out.drewN nq).cell 0 _ rfl
      have r1 := (HRQ.out.drewN nq).frozen 0 (by simp)
      have r2 := (HRQ.out.drewN nq).cell 0 _ rfl
      have hBq := Lib.hid (bdn HB.out nq)
      have hUq := Lib.hid (HU.out.drewN nq)
      have hKq := Lib.hid (keepsFrom_drewN W3.heap.size W nq)
      have hBB := Lib.hid (show KpC W2.heap.size W3.heap.size W (W.drewN nq) from KpC.drewN W nq)
      generalize W.drewN nq = Wn at *
      clear u0 uf x0 q0 l0 r0 rf hplI hplI2 hplI3 hpl0 HU HB HLQ HRQ
      gi_wp2
      exact ⟨hKq.out.trans ((KeepsOthers.setCell _ _ _).from _), Or.inr ⟨rfl, HNX.out⟩⟩
  case done =>
    rintro D ys W hD hS ⟨hU, hB, hpre⟩ hK
    subst hS
    have hC6 := Lib.hid (HC2.out.call hB)
    have hX := Lib.hid (HT2.out.call hB)
    have b0 := (HA2.out.call hB).cell 0 _ rfl
    clear hpre
    have hwU : w.heap.size + 1 < W2.heap.size := HC2.out.lt
    have u0 := hU.cell 0 _ rfl
    have r0 := hC6.out.cell 0 _ rfl
    have rf := hC6.out.frozen 0 (by simp)
    have x0 := hX.out.cell 0 _ rfl
    rw [ha]
    gi_wp2
    go_wp2_with fail
    refine (wakes19_any _).mono ?_
    rintro e W' ⟨rfl, hw'⟩
    have hK' : W'.heap[D]? = some (.deferred (some [])) := (hw'.block D (Array.getElem?_eq_some_iff.1 hK).1).trans hK
    have HC' := Lib.hid (hC6.out.call hw')
    have HB' := Lib.hid (bthen hB hw')
    have r1 := HC'.out.cell 0 _ rfl
    have rf1 := HC'.out.frozen 0 (by simp)
    clear hw' u0 b0 r0 rf x0 hC6 hX hU hB hK
    go_wp2_with fail
    refine ⟨by simp, .inl ⟨_, _, rfl, run_takeDeferred ((KeepsOthers.setCell _ _ _).same D _ hK' rfl), ?_⟩⟩
    have hK2 := (KeepsOthers.setCell W' ⟨w.heap.size + 1, 0, none⟩ (.bool true)).same D _ hK' rfl
    have hk5 := cell_kept ((HC'.out.set 0 (by simp) (.bool true)).cell 0 _ rfl) (grownBy_putObj' _ D (.deferred none)) (fun r e => by cases e; exact ⟨_, hK2, rfl⟩)
    refine ⟨.bool true, ?_, rfl, ?_⟩
    · exact results_of hk5 rfl
    · refine (Below.trans ((HB2.out.trans (HB'.out.mono HB2.out.size)).setCell (p := ⟨w.heap.size + 1, 0, none⟩) (by show w.heap.size ≤ w.heap.size + 1; omega) (.bool true)) ?_)
      exact belowK_b (w := W3) (by omega) _ D _ _ (by omega) hK2 rfl rfl
  case stop =>
    rintro D c pre W hD hS hJ hK
    rcases hJ with ⟨rfl, hU, hB, hlv⟩ | ⟨rfl, hno⟩
    · have hC6 := Lib.hid (HC2.out.call hB)
      have hX := Lib.hid (HT2.out.call hB)
      have b0 := (HA2.out.call hB).cell 0 _ rfl
      have hwU : w.heap.size + 1 < W2.heap.size := HC2.out.lt
      rw [hlv] at hU
      have u0 := hU.cell 0 _ rfl
      have r0 := hC6.out.cell 0 _ rfl
      have rf := hC6.out.frozen 0 (by simp)
      have x0 := hX.out.cell 0 _ rfl
      rw [ha]
      by_cases hk : lv = (xs.length : Int)
      · have hkd : decide (lv = (xs.length : Int)) = true := by simpa using hk
        have hke : (lv == (xs.length : Int)) = true := by simpa using hk
        gi_wp2
        go_wp2_with fail
        refine (wakes19_any _).mono ?_
        rintro e W' ⟨rfl, hw'⟩
        have hK' : W'.heap[D]? = some (.deferred (some [])) := (hw'.block D (Array.getElem?_eq_some_iff.1 hK).1).trans hK
        have HC' := Lib.hid (hC6.out.call hw')
        have HB' := Lib.hid (bthen hB hw')
        have r1 := HC'.out.cell 0 _ rfl
        have rf1 := HC'.out.frozen 0 (by simp)
        clear hw' u0 b0 r0 rf x0 hC6 hX hU hB hK
        go_wp2_with fail
        refine ⟨by simp, .inl ⟨_, _, rfl, run_takeDeferred ((KeepsOthers.setCell _ _ _).same D _ hK' rfl), ?_⟩⟩
        have hK2 := (KeepsOthers.setCell W' ⟨w.heap.size + 1, 0, none⟩ (.bool true)).same D _ hK' rfl
        have hk5 := cell_kept ((HC'.out.set 0 (by simp) (.bool true)).cell 0 _ rfl) (grownBy_putObj' _ D (.deferred none)) (fun r e => by cases e; exact ⟨_, hK2, rfl⟩)
        refine ⟨.bool true, ?_, rfl, ?_⟩
        · exact results_of hk5 rfl
        · refine (Below.trans ((HB2.out.trans (HB'.out.mono HB2.out.size)).setCell (p := ⟨w.heap.size + 1, 0, none⟩) (by show w.heap.size ≤ w.heap.size + 1; omega) (.bool true)) ?_)
          exact belowK_b (w := W3) (by omega) _ D _ _ (by omega) hK2 rfl rfl
      · have hkd : decide (lv = (xs.length : Int)) = false := by simpa using hk
        have hke : (lv == (xs.length : Int)) = false := by simpa using hk
        gi_wp2
        go_wp2_with fail
        refine (wakes19_any _).mono ?_
        rintro e W' ⟨rfl, hw'⟩
        have hK' : W'.heap[D]? = some (.deferred (some [])) := (hw'.block D (Array.getElem?_eq_some_iff.1 hK).1).trans hK
        have HC' := Lib.hid (hC6.out.call hw')
        have HB' := Lib.hid (bthen hB hw')
        have r1 := HC'.out.cell 0 _ rfl
        have rf1 := HC'.out.frozen 0 (by simp)
        clear hw' u0 b0 r0 rf x0 hC6 hX hU hB hK
        go_wp2_with fail
        refine ⟨by simp, .inl ⟨_, _, rfl, run_takeDeferred ((KeepsOthers.setCell _ _ _).same D _ hK' rfl), ?_⟩⟩
        have hK2 := (KeepsOthers.setCell W' ⟨w.heap.size + 1, 0, none⟩ (.bool true)).same D _ hK' rfl
        have hk5 := cell_kept ((HC'.out.set 0 (by simp) (.bool true)).cell 0 _ rfl) (grownBy_putObj' _ D (.deferred none)) (fun r e => by cases e; exact ⟨_, hK2, rfl⟩)
        refine ⟨.bool true, ?_, rfl, ?_⟩
        · exact results_of hk5 rfl
        · refine (Below.trans ((HB2.out.trans (HB'.out.mono HB2.out.size)).setCell (p := ⟨w.heap.size + 1, 0, none⟩) (by show w.heap.size ≤ w.heap.size + 1; omega) (.bool true)) ?_)
          exact belowK_b (w := W3) (by omega) _ D _ _ (by omega) hK2 rfl rfl
    · exact absurd hS hno
theorem tells_any (O : Option Addr) (cap : Nat) (l : List Reg) (p c lv : Int) (w : World) (hI : RegsK w O l) (hcap : l.length ≤ cap) (hwf : ∀ i, i < l.length → (rg l i).wf) (hp : U64 p) (hc : -9223372036854775808 ≤ c ∧ c < 9223372036854775808) :
    Calls Try.prog 6 #[.slice O l.length cap, .int .u64 p, .int .i64 c, .int .i64 lv] w fun e w' => e = .returned (.bool true) ∧ Below w.heap.size w w' := by
  by_cases h : 40 < l.length
  · exact tells_long O l.length cap p c lv w h
  · exact tells_few O l.length cap l p c lv w hI rfl hcap (by omega) hwf hp hc
end Go.Proofs.Ytaikkdlphfmgiaa
