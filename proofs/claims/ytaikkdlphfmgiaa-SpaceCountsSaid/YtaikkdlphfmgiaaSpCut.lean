/-
  space.Unmap and space.Protect: regions cut at the ends of a stretch.
-/
import Derived.Test.YtaikkdlphfmgiaaSpDel
import Derived.Deep.RegionHeld3
import Derived.Deep.QuietTactic
import Derived.BigQuiet
namespace Go.Proofs.Ytaikkdlphfmgiaa
open Go.RowKit
set_option linter.unusedVariables false
set_option linter.unusedSimpArgs false
def paA (r : Reg) (f : Int) : Int := min (max f r.f) (r.f + r.c)
def paB (r : Reg) (f t : Int) : Int := max (min t (r.f + r.c)) (paA r f)
def pAhead (r : Reg) (f : Int) : Reg := ⟨r.f, paA r f - r.f, r.w⟩
def pIn (r : Reg) (f t : Int) : Reg := ⟨paA r f, paB r f t - paA r f, r.w⟩
def pRest (r : Reg) (f t : Int) : Reg := ⟨paB r f t, r.f + r.c - paB r f t, r.w⟩
def gV (r : Reg) : Value := .agg #[.int .u64 r.f, .int .i64 r.c, .bool r.w]
/-- A region that may be, by itself. -/
def Rok (r : Reg) : Prop := 0 ≤ r.f ∧ 1 ≤ r.c ∧ r.f + r.c ≤ 34359738368
theorem paA_bd (r : Reg) (f : Int) (h : Rok r) : r.f ≤ paA r f ∧ paA r f ≤ r.f + r.c := by
  obtain ⟨h0, h1, h2⟩ := h
  unfold paA
  omega
theorem paB_bd (r : Reg) (f t : Int) (h : Rok r) : paA r f ≤ paB r f t ∧ paB r f t ≤ r.f + r.c := by
  have := paA_bd r f h
  unfold paB
  omega
theorem Arr.put3 {w : World} {b : Nat} {a0 a1 a2 : Value} (h : Arr w b [a0, a1, a2]) (u0 u1 u2 : Value) : Arr (((w.setCell ⟨b, 0, none⟩ u0).setCell ⟨b, 1, none⟩ u1).setCell ⟨b, 2, none⟩ u2) b [u0, u1, u2] := by
  have := ((h.set 0 (by simp) u0).set 1 (by simp) u1).set 2 (by simp) u2
  simpa using this
theorem Arr.far3 {w : World} {b g : Nat} {cs : List Value} (h : Arr w b cs) (hne : g ≠ b) (u0 u1 u2 : Value) : Arr (((w.setCell ⟨g, 0, none⟩ u0).setCell ⟨g, 1, none⟩ u1).setCell ⟨g, 2, none⟩ u2) b cs :=
  ((h.far hne u0).far hne u1).far hne u2
/-- The boxes of parts: its region, what is ahead, in, behind. -/
structure Pt (w W : World) (r p q s : Reg) : Prop where
  a0 : Arr W w.heap.size [.int .u64 r.f, .int .i64 r.c, .bool r.w]
  a1 : Arr W (w.heap.size + 1) [.int .u64 p.f, .int .i64 p.c, .bool p.w]
  a2 : Arr W (w.heap.size + 1 + 1) [.int .u64 q.f, .int .i64 q.c, .bool q.w]
  a3 : Arr W (w.heap.size + 1 + 1 + 1) [.int .u64 s.f, .int .i64 s.c, .bool s.w]
  bl : Below w.heap.size w W
section
variable {w W : World} {r p q s : Reg}
theorem Pt.drew (h : Pt w W r p q s) : Pt w W.drew r p q s := ⟨h.a0.drew, h.a1.drew, h.a2.drew, h.a3.drew, bd h.bl⟩
theorem Pt.call {W' : World} (h : Pt w W r p q s) (hb : Below W.heap.size W W') : Pt w W' r p q s := ⟨h.a0.call hb, h.a1.call hb, h.a2.call hb, h.a3.call hb, bthen h.bl hb⟩
theorem Pt.put1 (h : Pt w W r p q s) (x : Reg) : Pt w (((W.setCell ⟨w.heap.size + 1, 0, none⟩ (.int .u64 x.f)).setCell ⟨w.heap.size + 1, 1, none⟩ (.int .i64 x.c)).setCell ⟨w.heap.size + 1, 2, none⟩ (.bool x.w)) r x q s :=
  ⟨h.a0.far3 (by omega) _ _ _, h.a1.put3 _ _ _, h.a2.far3 (by omega) _ _ _, h.a3.far3 (by omega) _ _ _, bs (bs (bs h.bl (by dsimp only; omega) _) (by dsimp only; omega) _) (by dsimp only; omega) _⟩
theorem Pt.put2 (h : Pt w W r p q s) (x : Reg) : Pt w (((W.setCell ⟨w.heap.size + 1 + 1, 0, none⟩ (.int .u64 x.f)).setCell ⟨w.heap.size + 1 + 1, 1, none⟩ (.int .i64 x.c)).setCell ⟨w.heap.size + 1 + 1, 2, none⟩ (.bool x.w)) r p x s :=
  ⟨h.a0.far3 (by omega) _ _ _, h.a1.far3 (by omega) _ _ _, h.a2.put3 _ _ _, h.a3.far3 (by omega) _ _ _, bs (bs (bs h.bl (by dsimp only; omega) _) (by dsimp only; omega) _) (by dsimp only; omega) _⟩
theorem Pt.put3 (h : Pt w W r p q s) (x : Reg) : Pt w (((W.setCell ⟨w.heap.size + 1 + 1 + 1, 0, none⟩ (.int .u64 x.f)).setCell ⟨w.heap.size + 1 + 1 + 1, 1, none⟩ (.int .i64 x.c)).setCell ⟨w.heap.size + 1 + 1 + 1, 2, none⟩ (.bool x.w)) r p q x :=
  ⟨h.a0.far3 (by omega) _ _ _, h.a1.far3 (by omega) _ _ _, h.a2.far3 (by omega) _ _ _, h.a3.put3 _ _ _, bs (bs (bs h.bl (by dsimp only; omega) _) (by dsimp only; omega) _) (by dsimp only; omega) _⟩
theorem Pt.cnt1 (h : Pt w W r p q s) (c : Int) : Pt w (W.setCell ⟨w.heap.size + 1, 1, none⟩ (.int .i64 c)) r ⟨p.f, c, p.w⟩ q s :=
  ⟨h.a0.far (by dsimp only; omega) _, by simpa using h.a1.set 1 (by simp) (.int .i64 c), h.a2.far (by dsimp only; omega) _, h.a3.far (by dsimp only; omega) _, bs h.bl (by dsimp only; omega) _⟩
theorem Pt.st2 (h : Pt w W r p q s) (f c : Int) : Pt w ((W.setCell ⟨w.heap.size + 1 + 1, 0, none⟩ (.int .u64 f)).setCell ⟨w.heap.size + 1 + 1, 1, none⟩ (.int .i64 c)) r p ⟨f, c, q.w⟩ s :=
  ⟨(h.a0.far (by dsimp only; omega) _).far (by dsimp only; omega) _, (h.a1.far (by dsimp only; omega) _).far (by dsimp only; omega) _, by simpa using (h.a2.set 0 (by simp) (.int .u64 f)).set 1 (by simp) (.int .i64 c), (h.a3.far (by dsimp only; omega) _).far (by dsimp only; omega) _, bs (bs h.bl (by dsimp only; omega) _) (by dsimp only; omega) _⟩
theorem Pt.st3 (h : Pt w W r p q s) (f c : Int) : Pt w ((W.setCell ⟨w.heap.size + 1 + 1 + 1, 0, none⟩ (.int .u64 f)).setCell ⟨w.heap.size + 1 + 1 + 1, 1, none⟩ (.int .i64 c)) r p q ⟨f, c, s.w⟩ :=
  ⟨(h.a0.far (by dsimp only; omega) _).far (by dsimp only; omega) _, (h.a1.far (by dsimp only; omega) _).far (by dsimp only; omega) _, (h.a2.far (by dsimp only; omega) _).far (by dsimp only; omega) _, by simpa using (h.a3.set 0 (by simp) (.int .u64 f)).set 1 (by simp) (.int .i64 c), bs (bs h.bl (by dsimp only; omega) _) (by dsimp only; omega) _⟩
end
set_option maxRecDepth 100000 in
set_option maxHeartbeats 2000000 in
theorem parts_any (rf rc : Int) (rw : Bool) (f t : Int) (w : World) (h : Rok ⟨rf, rc, rw⟩) (hf : U64 f) (ht : U64 t) :
    Calls Try.prog 44 #[.agg #[.int .u64 rf, .int .i64 rc, .bool rw], .int .u64 f, .int .u64 t] w fun e w' => e = .returned (.tuple #[gV (pAhead ⟨rf, rc, rw⟩ f), gV (pIn ⟨rf, rc, rw⟩ f t), gV (pRest ⟨rf, rc, rw⟩ f t)]) ∧ Below w.heap.size w w' := by
  have hA := paA_bd _ f h
  have hB := paB_bd _ f t h
  obtain ⟨k0, k1, k2⟩ := h
  simp only at k0 k1 k2 hA hB
  have HQA := Lib.hid hA
  have HQB := Lib.hid hB
  clear hA hB
  go_enter Try.func44, Try.ntmps44
  go_upto_region 1 with fail
  refine (show ∀ W : World, Arr W w.heap.size [.int .u64 rf, .int .i64 rc, .bool rw] → Arr W (w.heap.size + 1) [.int .u64 0, .int .i64 0, .bool false] → Arr W (w.heap.size + 1 + 1) [.int .u64 0, .int .i64 0, .bool false] → Arr W (w.heap.size + 1 + 1 + 1) [.int .u64 0, .int .i64 0, .bool false] → Below w.heap.size w W → Code.wp _ _ _ _ W from fun W h0 h1 h2 h3 hB => ?_) _ ?b0 ?b1 ?b2 ?b3 ?b4
  case b0 => exact (((Arr.new w #[.int .u64 rf, .int .i64 rc, .bool rw] 25).alloc _).alloc _).alloc _
  case b1 => have := (((Arr.new (w.alloc (.cells #[.int .u64 rf, .int .i64 rc, .bool rw] 25)) #[.int .u64 0, .int .i64 0, .bool false] 25).alloc (.cells #[.int .u64 0, .int .i64 0, .bool false] 25)).alloc (.cells #[.int .u64 0, .int .i64 0, .bool false] 25)); simpa using this
  case b2 => have := ((Arr.new ((w.alloc (.cells #[.int .u64 rf, .int .i64 rc, .bool rw] 25)).alloc (.cells #[.int .u64 0, .int .i64 0, .bool false] 25)) #[.int .u64 0, .int .i64 0, .bool false] 25).alloc (.cells #[.int .u64 0, .int .i64 0, .bool false] 25)); simpa using this
  case b3 => have := (Arr.new (((w.alloc (.cells #[.int .u64 rf, .int .i64 rc, .bool rw] 25)).alloc (.cells #[.int .u64 0, .int .i64 0, .bool false] 25)).alloc (.cells #[.int .u64 0, .int .i64 0, .bool false] 25)) #[.int .u64 0, .int .i64 0, .bool false] 25); simpa using this
  case b4 => exact ba (ba (ba (ba (Below.refl _ _) _) _) _) _
  have H0 := Lib.hid h0
  have H1 := Lib.hid h1
  have H2 := Lib.hid h2
  have H3 := Lib.hid h3
  have HB := Lib.hid hB
  clear h0 h1 h2 h3 hB
  have HF := Lib.hid hf
  have HT := Lib.hid ht
  have f0 := hf.1
  have t0 := ht.1
  clear hf ht
  go_cut [9] from 11 to 17 (fun v9 wx => v9 = .int .u64 (paA ⟨rf, rc, rw⟩ f) ∧ Arr wx w.heap.size [.int .u64 rf, .int .i64 rc, .bool rw] ∧ Arr wx (w.heap.size + 1) [.int .u64 0, .int .i64 0, .bool false] ∧ Arr wx (w.heap.size + 1 + 1) [.int .u64 0, .int .i64 0, .bool false] ∧ Arr wx (w.heap.size + 1 + 1 + 1) [.int .u64 0, .int .i64 0, .bool false] ∧ Below w.heap.size w wx)
  case first =>
    by_cases fA : f ≤ rf
    · by_cases fL : f < rf
      · rename_i hK14
        have hK14 := Lib.hid hK14
        refine wp_region_held_drew (S := fun w' => Arr w' w.heap.size [.int .u64 rf, .int .i64 rc, .bool rw]) (by kernel_rfl) H0.out.drew (fun hHeld => ?_)
        refine wpAnyH_take (i := 0) (oi := ⟨_, _, _, _, _, _⟩) (v := ?v0x1) rfl (by kernel_rfl) (by kernel_rfl) (by kernel_rfl) (fun _ _ _ h => h) (Or.inl ⟨by rfl, ?hy0x1⟩) hHeld ?rest0x1
        case hy0x1 => (intro w' hSw; go_simp; try with_reducible rfl)
        try simp only [Act.put, List.setIfInBounds_toArray, List.set_cons_zero, List.set_cons_succ]
        refine wpAnyH_take (i := 1) (oi := ⟨_, _, _, _, _, _⟩) (v := ?v1x2) rfl (by kernel_rfl) (by kernel_rfl) (by kernel_rfl) (fun _ _ _ h => h) (Or.inl ⟨by rfl, ?hy1x2⟩) hHeld ?rest1x2
        case hy1x2 => (intro w' hSw; go_simp; try with_reducible rfl)
        try simp only [Act.put, List.setIfInBounds_toArray, List.set_cons_zero, List.set_cons_succ]
        refine wpAnyH_take (i := 2) (oi := ⟨_, _, _, _, _, _⟩) (v := ?v2x3) rfl (by kernel_rfl) (by kernel_rfl) (by kernel_rfl) (fun _ _ _ h => h) (Or.inl ⟨by rfl, ?hy2x3⟩) hHeld ?rest2x3
        case hy2x3 => (intro w' hSw; have c0 := hSw.cell 0 _ rfl; have c1 := hSw.cell 1 _ rfl; have c2 := hSw.cell 2 _ rfl; go_simp; try with_reducible rfl)
        try simp only [Act.put, List.setIfInBounds_toArray, List.set_cons_zero, List.set_cons_succ]
        refine wpAnyH_take (i := 3) (oi := ⟨_, _, _, _, _, _⟩) (v := ?v3x4) rfl (by kernel_rfl) (by kernel_rfl) (by kernel_rfl) (fun _ _ _ h => h) (Or.inl ⟨by rfl, ?hy3x4⟩) hHeld ?rest3x4
        case hy3x4 => (intro w' hSw; go_simp; try with_reducible rfl)
        try simp only [Act.put, List.setIfInBounds_toArray, List.set_cons_zero, List.set_cons_succ]
        refine wpAnyH_take (i := 4) (oi := ⟨_, _, _, _, _, _⟩) (v := ?v4x5) rfl (by kernel_rfl) (by kernel_rfl) (by kernel_rfl) (fun _ _ _ h => h) (Or.inl ⟨by rfl, ?hy4x5⟩) hHeld ?rest4x5
        case hy4x5 => (intro w' hSw; have c0 := hSw.cell 0 _ rfl; have c1 := hSw.cell 1 _ rfl; have c2 := hSw.cell 2 _ rfl; go_simp; try with_reducible rfl)
        try simp only [Act.put, List.setIfInBounds_toArray, List.set_cons_zero, List.set_cons_succ]
        refine wpAnyH_ready (rs := [5]) (by kernel_rfl) (by simp) ?_
        refine AllReadyH.cons (o := ⟨_, _, _, _, _, _⟩) rfl (fun K hK => ?_) AllReadyH.nil
        go_simp
        refine (spBehind_any rf rc rw _ k0 k1 k2).mono ?_
        rintro e W1 ⟨rfl, hb1⟩
        have H01 := Lib.hid (H0.out.drew.call hb1)
        have H11 := Lib.hid (H1.out.drew.call hb1)
        have H21 := Lib.hid (H2.out.drew.call hb1)
        have H31 := Lib.hid (H3.out.drew.call hb1)
        have HB1 := Lib.hid (bthen HB.out.drew hb1)
        clear hb1 H0 H1 H2 H3 HB
        go_wp2_with fail
        refine hK.out _ _ H01.out (fun hHeld => ?_)
        clear hK K
        try simp only [Act.put, List.setIfInBounds_toArray, List.set_cons_zero, List.set_cons_succ]
        refine wpAnyH_take (i := 6) (oi := ⟨_, _, _, _, _, _⟩) (v := ?v6x6) rfl (by kernel_rfl) (by kernel_rfl) (by kernel_rfl) (fun _ _ _ h => h) (Or.inl ⟨by rfl, ?hy6x6⟩) hHeld ?rest6x6
        case hy6x6 => (intro w' hSw; go_simp; try with_reducible rfl)
        try simp only [Act.put, List.setIfInBounds_toArray, List.set_cons_zero, List.set_cons_succ]
        refine wpAnyH_take (i := 7) (oi := ⟨_, _, _, _, _, _⟩) (v := ?v7x7) rfl (by kernel_rfl) (by kernel_rfl) (by kernel_rfl) (fun _ _ _ h => h) (Or.inl ⟨by rfl, ?hy7x7⟩) hHeld ?rest7x7
        case hy7x7 => (intro w' hSw; go_simp; try with_reducible rfl)
        try simp only [Act.put, List.setIfInBounds_toArray, List.set_cons_zero, List.set_cons_succ]
        refine wpAnyH_done (by kernel_rfl) ?_ _
        refine hK14.out _ _ ?_
        go_meet
        case rel => exact ⟨by simp only [paA, Value.int.injEq, true_and]; omega, H01.out, H11.out, H21.out, H31.out, HB1.out⟩
      · rename_i hK14
        have hK14 := Lib.hid hK14
        refine wp_region_held_drew (S := fun w' => Arr w' w.heap.size [.int .u64 rf, .int .i64 rc, .bool rw]) (by kernel_rfl) H0.out.drew (fun hHeld => ?_)
        refine wpAnyH_take (i := 0) (oi := ⟨_, _, _, _, _, _⟩) (v := ?v0x8) rfl (by kernel_rfl) (by kernel_rfl) (by kernel_rfl) (fun _ _ _ h => h) (Or.inl ⟨by rfl, ?hy0x8⟩) hHeld ?rest0x8
        case hy0x8 => (intro w' hSw; go_simp; try with_reducible rfl)
        try simp only [Act.put, List.setIfInBounds_toArray, List.set_cons_zero, List.set_cons_succ]
        refine wpAnyH_take (i := 1) (oi := ⟨_, _, _, _, _, _⟩) (v := ?v1x9) rfl (by kernel_rfl) (by kernel_rfl) (by kernel_rfl) (fun _ _ _ h => h) (Or.inl ⟨by rfl, ?hy1x9⟩) hHeld ?rest1x9
        case hy1x9 => (intro w' hSw; go_simp; try with_reducible rfl)
        try simp only [Act.put, List.setIfInBounds_toArray, List.set_cons_zero, List.set_cons_succ]
        refine wpAnyH_take (i := 2) (oi := ⟨_, _, _, _, _, _⟩) (v := ?v2x10) rfl (by kernel_rfl) (by kernel_rfl) (by kernel_rfl) (fun _ _ _ h => h) (Or.inl ⟨by rfl, ?hy2x10⟩) hHeld ?rest2x10
        case hy2x10 => (intro w' hSw; have c0 := hSw.cell 0 _ rfl; have c1 := hSw.cell 1 _ rfl; have c2 := hSw.cell 2 _ rfl; go_simp; try with_reducible rfl)
        try simp only [Act.put, List.setIfInBounds_toArray, List.set_cons_zero, List.set_cons_succ]
        refine wpAnyH_take (i := 3) (oi := ⟨_, _, _, _, _, _⟩) (v := ?v3x11) rfl (by kernel_rfl) (by kernel_rfl) (by kernel_rfl) (fun _ _ _ h => h) (Or.inl ⟨by rfl, ?hy3x11⟩) hHeld ?rest3x11
        case hy3x11 => (intro w' hSw; go_simp; try with_reducible rfl)
        try simp only [Act.put, List.setIfInBounds_toArray, List.set_cons_zero, List.set_cons_succ]
        refine wpAnyH_take (i := 4) (oi := ⟨_, _, _, _, _, _⟩) (v := ?v4x12) rfl (by kernel_rfl) (by kernel_rfl) (by kernel_rfl) (fun _ _ _ h => h) (Or.inl ⟨by rfl, ?hy4x12⟩) hHeld ?rest4x12
        case hy4x12 => (intro w' hSw; have c0 := hSw.cell 0 _ rfl; have c1 := hSw.cell 1 _ rfl; have c2 := hSw.cell 2 _ rfl; go_simp; try with_reducible rfl)
        try simp only [Act.put, List.setIfInBounds_toArray, List.set_cons_zero, List.set_cons_succ]
        refine wpAnyH_ready (rs := [5]) (by kernel_rfl) (by simp) ?_
        refine AllReadyH.cons (o := ⟨_, _, _, _, _, _⟩) rfl (fun K hK => ?_) AllReadyH.nil
        go_simp
        refine (spBehind_any rf rc rw _ k0 k1 k2).mono ?_
        rintro e W1 ⟨rfl, hb1⟩
        have H01 := Lib.hid (H0.out.drew.call hb1)
        have H11 := Lib.hid (H1.out.drew.call hb1)
        have H21 := Lib.hid (H2.out.drew.call hb1)
        have H31 := Lib.hid (H3.out.drew.call hb1)
        have HB1 := Lib.hid (bthen HB.out.drew hb1)
        clear hb1 H0 H1 H2 H3 HB
        go_wp2_with fail
        refine hK.out _ _ H01.out (fun hHeld => ?_)
        clear hK K
        try simp only [Act.put, List.setIfInBounds_toArray, List.set_cons_zero, List.set_cons_succ]
        refine wpAnyH_take (i := 6) (oi := ⟨_, _, _, _, _, _⟩) (v := ?v6x13) rfl (by kernel_rfl) (by kernel_rfl) (by kernel_rfl) (fun _ _ _ h => h) (Or.inl ⟨by rfl, ?hy6x13⟩) hHeld ?rest6x13
        case hy6x13 => (intro w' hSw; go_simp; try with_reducible rfl)
        try simp only [Act.put, List.setIfInBounds_toArray, List.set_cons_zero, List.set_cons_succ]
        refine wpAnyH_take (i := 7) (oi := ⟨_, _, _, _, _, _⟩) (v := ?v7x14) rfl (by kernel_rfl) (by kernel_rfl) (by kernel_rfl) (fun _ _ _ h => h) (Or.inl ⟨by rfl, ?hy7x14⟩) hHeld ?rest7x14
        case hy7x14 => (intro w' hSw; go_simp; try with_reducible rfl)
        try simp only [Act.put, List.setIfInBounds_toArray, List.set_cons_zero, List.set_cons_succ]
        refine wpAnyH_done (by kernel_rfl) ?_ _
        refine hK14.out _ _ ?_
        go_meet
        case rel => exact ⟨by simp only [paA, Value.int.injEq, true_and]; omega, H01.out, H11.out, H21.out, H31.out, HB1.out⟩
    · by_cases fB : f ≤ rf + rc
      · by_cases fL : f < rf + rc
        · rename_i hK14
          have hK14 := Lib.hid hK14
          refine wp_region_held_drew (S := fun w' => Arr w' w.heap.size [.int .u64 rf, .int .i64 rc, .bool rw]) (by kernel_rfl) H0.out.drew (fun hHeld => ?_)
          refine wpAnyH_take (i := 0) (oi := ⟨_, _, _, _, _, _⟩) (v := ?v0x15) rfl (by kernel_rfl) (by kernel_rfl) (by kernel_rfl) (fun _ _ _ h => h) (Or.inl ⟨by rfl, ?hy0x15⟩) hHeld ?rest0x15
          case hy0x15 => (intro w' hSw; go_simp; try with_reducible rfl)
          try simp only [Act.put, List.setIfInBounds_toArray, List.set_cons_zero, List.set_cons_succ]
          refine wpAnyH_take (i := 1) (oi := ⟨_, _, _, _, _, _⟩) (v := ?v1x16) rfl (by kernel_rfl) (by kernel_rfl) (by kernel_rfl) (fun _ _ _ h => h) (Or.inl ⟨by rfl, ?hy1x16⟩) hHeld ?rest1x16
          case hy1x16 => (intro w' hSw; go_simp; try with_reducible rfl)
          try simp only [Act.put, List.setIfInBounds_toArray, List.set_cons_zero, List.set_cons_succ]
          refine wpAnyH_take (i := 2) (oi := ⟨_, _, _, _, _, _⟩) (v := ?v2x17) rfl (by kernel_rfl) (by kernel_rfl) (by kernel_rfl) (fun _ _ _ h => h) (Or.inl ⟨by rfl, ?hy2x17⟩) hHeld ?rest2x17
          case hy2x17 => (intro w' hSw; have c0 := hSw.cell 0 _ rfl; have c1 := hSw.cell 1 _ rfl; have c2 := hSw.cell 2 _ rfl; go_simp; try with_reducible rfl)
          try simp only [Act.put, List.setIfInBounds_toArray, List.set_cons_zero, List.set_cons_succ]
          refine wpAnyH_take (i := 3) (oi := ⟨_, _, _, _, _, _⟩) (v := ?v3x18) rfl (by kernel_rfl) (by kernel_rfl) (by kernel_rfl) (fun _ _ _ h => h) (Or.inl ⟨by rfl, ?hy3x18⟩) hHeld ?rest3x18
          case hy3x18 => (intro w' hSw; go_simp; try with_reducible rfl)
          try simp only [Act.put, List.setIfInBounds_toArray, List.set_cons_zero, List.set_cons_succ]
          refine wpAnyH_take (i := 4) (oi := ⟨_, _, _, _, _, _⟩) (v := ?v4x19) rfl (by kernel_rfl) (by kernel_rfl) (by kernel_rfl) (fun _ _ _ h => h) (Or.inl ⟨by rfl, ?hy4x19⟩) hHeld ?rest4x19
          case hy4x19 => (intro w' hSw; have c0 := hSw.cell 0 _ rfl; have c1 := hSw.cell 1 _ rfl; have c2 := hSw.cell 2 _ rfl; go_simp; try with_reducible rfl)
          try simp only [Act.put, List.setIfInBounds_toArray, List.set_cons_zero, List.set_cons_succ]
          refine wpAnyH_ready (rs := [5]) (by kernel_rfl) (by simp) ?_
          refine AllReadyH.cons (o := ⟨_, _, _, _, _, _⟩) rfl (fun K hK => ?_) AllReadyH.nil
          go_simp
          refine (spBehind_any rf rc rw _ k0 k1 k2).mono ?_
          rintro e W1 ⟨rfl, hb1⟩
          have H01 := Lib.hid (H0.out.drew.call hb1)
          have H11 := Lib.hid (H1.out.drew.call hb1)
          have H21 := Lib.hid (H2.out.drew.call hb1)
          have H31 := Lib.hid (H3.out.drew.call hb1)
          have HB1 := Lib.hid (bthen HB.out.drew hb1)
          clear hb1 H0 H1 H2 H3 HB
          go_wp2_with fail
          refine hK.out _ _ H01.out (fun hHeld => ?_)
          clear hK K
          try simp only [Act.put, List.setIfInBounds_toArray, List.set_cons_zero, List.set_cons_succ]
          refine wpAnyH_take (i := 6) (oi := ⟨_, _, _, _, _, _⟩) (v := ?v6x20) rfl (by kernel_rfl) (by kernel_rfl) (by kernel_rfl) (fun _ _ _ h => h) (Or.inl ⟨by rfl, ?hy6x20⟩) hHeld ?rest6x20
          case hy6x20 => (intro w' hSw; go_simp; try with_reducible rfl)
          try simp only [Act.put, List.setIfInBounds_toArray, List.set_cons_zero, List.set_cons_succ]
          refine wpAnyH_take (i := 7) (oi := ⟨_, _, _, _, _, _⟩) (v := ?v7x21) rfl (by kernel_rfl) (by kernel_rfl) (by kernel_rfl) (fun _ _ _ h => h) (Or.inl ⟨by rfl, ?hy7x21⟩) hHeld ?rest7x21
          case hy7x21 => (intro w' hSw; go_simp; try with_reducible rfl)
          try simp only [Act.put, List.setIfInBounds_toArray, List.set_cons_zero, List.set_cons_succ]
          refine wpAnyH_done (by kernel_rfl) ?_ _
          refine hK14.out _ _ ?_
          go_meet
          case rel => exact ⟨by simp only [paA, Value.int.injEq, true_and]; omega, H01.out, H11.out, H21.out, H31.out, HB1.out⟩
        · rename_i hK14
          have hK14 := Lib.hid hK14
          refine wp_region_held_drew (S := fun w' => Arr w' w.heap.size [.int .u64 rf, .int .i64 rc, .bool rw]) (by kernel_rfl) H0.out.drew (fun hHeld => ?_)
          refine wpAnyH_take (i := 0) (oi := ⟨_, _, _, _, _, _⟩) (v := ?v0x22) rfl (by kernel_rfl) (by kernel_rfl) (by kernel_rfl) (fun _ _ _ h => h) (Or.inl ⟨by rfl, ?hy0x22⟩) hHeld ?rest0x22
          case hy0x22 => (intro w' hSw; go_simp; try with_reducible rfl)
          try simp only [Act.put, List.setIfInBounds_toArray, List.set_cons_zero, List.set_cons_succ]
          refine wpAnyH_take (i := 1) (oi := ⟨_, _, _, _, _, _⟩) (v := ?v1x23) rfl (by kernel_rfl) (by kernel_rfl) (by kernel_rfl) (fun _ _ _ h => h) (Or.inl ⟨by rfl, ?hy1x23⟩) hHeld ?rest1x23
          case hy1x23 => (intro w' hSw; go_simp; try with_reducible rfl)
          try simp only [Act.put, List.setIfInBounds_toArray, List.set_cons_zero, List.set_cons_succ]
          refine wpAnyH_take (i := 2) (oi := ⟨_, _, _, _, _, _⟩) (v := ?v2x24) rfl (by kernel_rfl) (by kernel_rfl) (by kernel_rfl) (fun _ _ _ h => h) (Or.inl ⟨by rfl, ?hy2x24⟩) hHeld ?rest2x24
          case hy2x24 => (intro w' hSw; have c0 := hSw.cell 0 _ rfl; have c1 := hSw.cell 1 _ rfl; have c2 := hSw.cell 2 _ rfl; go_simp; try with_reducible rfl)
          try simp only [Act.put, List.setIfInBounds_toArray, List.set_cons_zero, List.set_cons_succ]
          refine wpAnyH_take (i := 3) (oi := ⟨_, _, _, _, _, _⟩) (v := ?v3x25) rfl (by kernel_rfl) (by kernel_rfl) (by kernel_rfl) (fun _ _ _ h => h) (Or.inl ⟨by rfl, ?hy3x25⟩) hHeld ?rest3x25
          case hy3x25 => (intro w' hSw; go_simp; try with_reducible rfl)
          try simp only [Act.put, List.setIfInBounds_toArray, List.set_cons_zero, List.set_cons_succ]
          refine wpAnyH_take (i := 4) (oi := ⟨_, _, _, _, _, _⟩) (v := ?v4x26) rfl (by kernel_rfl) (by kernel_rfl) (by kernel_rfl) (fun _ _ _ h => h) (Or.inl ⟨by rfl, ?hy4x26⟩) hHeld ?rest4x26
          case hy4x26 => (intro w' hSw; have c0 := hSw.cell 0 _ rfl; have c1 := hSw.cell 1 _ rfl; have c2 := hSw.cell 2 _ rfl; go_simp; try with_reducible rfl)
          try simp only [Act.put, List.setIfInBounds_toArray, List.set_cons_zero, List.set_cons_succ]
          refine wpAnyH_ready (rs := [5]) (by kernel_rfl) (by simp) ?_
          refine AllReadyH.cons (o := ⟨_, _, _, _, _, _⟩) rfl (fun K hK => ?_) AllReadyH.nil
          go_simp
          refine (spBehind_any rf rc rw _ k0 k1 k2).mono ?_
          rintro e W1 ⟨rfl, hb1⟩
          have H01 := Lib.hid (H0.out.drew.call hb1)
          have H11 := Lib.hid (H1.out.drew.call hb1)
          have H21 := Lib.hid (H2.out.drew.call hb1)
          have H31 := Lib.hid (H3.out.drew.call hb1)
          have HB1 := Lib.hid (bthen HB.out.drew hb1)
          clear hb1 H0 H1 H2 H3 HB
          go_wp2_with fail
          refine hK.out _ _ H01.out (fun hHeld => ?_)
          clear hK K
          try simp only [Act.put, List.setIfInBounds_toArray, List.set_cons_zero, List.set_cons_succ]
          refine wpAnyH_take (i := 6) (oi := ⟨_, _, _, _, _, _⟩) (v := ?v6x27) rfl (by kernel_rfl) (by kernel_rfl) (by kernel_rfl) (fun _ _ _ h => h) (Or.inl ⟨by rfl, ?hy6x27⟩) hHeld ?rest6x27
          case hy6x27 => (intro w' hSw; go_simp; try with_reducible rfl)
          try simp only [Act.put, List.setIfInBounds_toArray, List.set_cons_zero, List.set_cons_succ]
          refine wpAnyH_take (i := 7) (oi := ⟨_, _, _, _, _, _⟩) (v := ?v7x28) rfl (by kernel_rfl) (by kernel_rfl) (by kernel_rfl) (fun _ _ _ h => h) (Or.inl ⟨by rfl, ?hy7x28⟩) hHeld ?rest7x28
          case hy7x28 => (intro w' hSw; go_simp; try with_reducible rfl)
          try simp only [Act.put, List.setIfInBounds_toArray, List.set_cons_zero, List.set_cons_succ]
          refine wpAnyH_done (by kernel_rfl) ?_ _
          refine hK14.out _ _ ?_
          go_meet
          case rel => exact ⟨by simp only [paA, Value.int.injEq, true_and]; omega, H01.out, H11.out, H21.out, H31.out, HB1.out⟩
      · have fL : rf + rc < f := by omega
        rename_i hK14
        have hK14 := Lib.hid hK14
        refine wp_region_held_drew (S := fun w' => Arr w' w.heap.size [.int .u64 rf, .int .i64 rc, .bool rw]) (by kernel_rfl) H0.out.drew (fun hHeld => ?_)
        refine wpAnyH_take (i := 0) (oi := ⟨_, _, _, _, _, _⟩) (v := ?v0x29) rfl (by kernel_rfl) (by kernel_rfl) (by kernel_rfl) (fun _ _ _ h => h) (Or.inl ⟨by rfl, ?hy0x29⟩) hHeld ?rest0x29
        case hy0x29 => (intro w' hSw; go_simp; try with_reducible rfl)
        try simp only [Act.put, List.setIfInBounds_toArray, List.set_cons_zero, List.set_cons_succ]
        refine wpAnyH_take (i := 1) (oi := ⟨_, _, _, _, _, _⟩) (v := ?v1x30) rfl (by kernel_rfl) (by kernel_rfl) (by kernel_rfl) (fun _ _ _ h => h) (Or.inl ⟨by rfl, ?hy1x30⟩) hHeld ?rest1x30
        case hy1x30 => (intro w' hSw; go_simp; try with_reducible rfl)
        try simp only [Act.put, List.setIfInBounds_toArray, List.set_cons_zero, List.set_cons_succ]
        refine wpAnyH_take (i := 2) (oi := ⟨_, _, _, _, _, _⟩) (v := ?v2x31) rfl (by kernel_rfl) (by kernel_rfl) (by kernel_rfl) (fun _ _ _ h => h) (Or.inl ⟨by rfl, ?hy2x31⟩) hHeld ?rest2x31
        case hy2x31 => (intro w' hSw; have c0 := hSw.cell 0 _ rfl; have c1 := hSw.cell 1 _ rfl; have c2 := hSw.cell 2 _ rfl; go_simp; try with_reducible rfl)
        try simp only [Act.put, List.setIfInBounds_toArray, List.set_cons_zero, List.set_cons_succ]
        refine wpAnyH_take (i := 3) (oi := ⟨_, _, _, _, _, _⟩) (v := ?v3x32) rfl (by kernel_rfl) (by kernel_rfl) (by kernel_rfl) (fun _ _ _ h => h) (Or.inl ⟨by rfl, ?hy3x32⟩) hHeld ?rest3x32
        case hy3x32 => (intro w' hSw; go_simp; try with_reducible rfl)
        try simp only [Act.put, List.setIfInBounds_toArray, List.set_cons_zero, List.set_cons_succ]
        refine wpAnyH_take (i := 4) (oi := ⟨_, _, _, _, _, _⟩) (v := ?v4x33) rfl (by kernel_rfl) (by kernel_rfl) (by kernel_rfl) (fun _ _ _ h => h) (Or.inl ⟨by rfl, ?hy4x33⟩) hHeld ?rest4x33
        case hy4x33 => (intro w' hSw; have c0 := hSw.cell 0 _ rfl; have c1 := hSw.cell 1 _ rfl; have c2 := hSw.cell 2 _ rfl; go_simp; try with_reducible rfl)
        try simp only [Act.put, List.setIfInBounds_toArray, List.set_cons_zero, List.set_cons_succ]
        refine wpAnyH_ready (rs := [5]) (by kernel_rfl) (by simp) ?_
        refine AllReadyH.cons (o := ⟨_, _, _, _, _, _⟩) rfl (fun K hK => ?_) AllReadyH.nil
        go_simp
        refine (spBehind_any rf rc rw _ k0 k1 k2).mono ?_
        rintro e W1 ⟨rfl, hb1⟩
        have H01 := Lib.hid (H0.out.drew.call hb1)
        have H11 := Lib.hid (H1.out.drew.call hb1)
        have H21 := Lib.hid (H2.out.drew.call hb1)
        have H31 := Lib.hid (H3.out.drew.call hb1)
        have HB1 := Lib.hid (bthen HB.out.drew hb1)
        clear hb1 H0 H1 H2 H3 HB
        go_wp2_with fail
        refine hK.out _ _ H01.out (fun hHeld => ?_)
        clear hK K
        try simp only [Act.put, List.setIfInBounds_toArray, List.set_cons_zero, List.set_cons_succ]
        refine wpAnyH_take (i := 6) (oi := ⟨_, _, _, _, _, _⟩) (v := ?v6x34) rfl (by kernel_rfl) (by kernel_rfl) (by kernel_rfl) (fun _ _ _ h => h) (Or.inl ⟨by rfl, ?hy6x34⟩) hHeld ?rest6x34
        case hy6x34 => (intro w' hSw; go_simp; try with_reducible rfl)
        try simp only [Act.put, List.setIfInBounds_toArray, List.set_cons_zero, List.set_cons_succ]
        refine wpAnyH_take (i := 7) (oi := ⟨_, _, _, _, _, _⟩) (v := ?v7x35) rfl (by kernel_rfl) (by kernel_rfl) (by kernel_rfl) (fun _ _ _ h => h) (Or.inl ⟨by rfl, ?hy7x35⟩) hHeld ?rest7x35
        case hy7x35 => (intro w' hSw; go_simp; try with_reducible rfl)
        try simp only [Act.put, List.setIfInBounds_toArray, List.set_cons_zero, List.set_cons_succ]
        refine wpAnyH_done (by kernel_rfl) ?_ _
        refine hK14.out _ _ ?_
        go_meet
        case rel => exact ⟨by simp only [paA, Value.int.injEq, true_and]; omega, H01.out, H11.out, H21.out, H31.out, HB1.out⟩
  case rest =>
    obtain ⟨rfl, h0, h1, h2, h3, hB⟩ := hcut
    clear H0 H1 H2 H3 HB
    have H0 := Lib.hid h0
    have H1 := Lib.hid h1
    have H2 := Lib.hid h2
    have H3 := Lib.hid h3
    have HB := Lib.hid hB
    clear h0 h1 h2 h3 hB
    have HPB := Lib.hid (show paB ⟨rf, rc, rw⟩ f t = max (min t (rf + rc)) (paA ⟨rf, rc, rw⟩ f) from rfl)
    have a0 := HQA.out.1
    have a1 := HQA.out.2
    have b0 := HQB.out.1
    have b1 := HQB.out.2
    generalize hea : paA ⟨rf, rc, rw⟩ f = a at *
    generalize heb : paB ⟨rf, rc, rw⟩ f t = b at *
    have HEA := Lib.hid hea
    have HEB := Lib.hid heb
    clear hea heb
    clear HQA HQB
    go_upto_region 2 with fail
    go_cut [10] from 18 to 23 (fun v10 wx => v10 = .int .u64 b ∧ Arr wx w.heap.size [.int .u64 rf, .int .i64 rc, .bool rw] ∧ Arr wx (w.heap.size + 1) [.int .u64 0, .int .i64 0, .bool false] ∧ Arr wx (w.heap.size + 1 + 1) [.int .u64 0, .int .i64 0, .bool false] ∧ Arr wx (w.heap.size + 1 + 1 + 1) [.int .u64 0, .int .i64 0, .bool false] ∧ Below w.heap.size w wx)
    case first =>
      have c0 := H0.out.cell 0 _ rfl
      have c1 := H0.out.cell 1 _ rfl
      have c2 := H0.out.cell 2 _ rfl
      go_wp2_with fail
      refine (spBehind_any rf rc rw _ k0 k1 k2).mono ?_
      rintro e W1 ⟨rfl, hb1⟩
      have H01 := Lib.hid (H0.out.call hb1)
      have H11 := Lib.hid (H1.out.call hb1)
      have H21 := Lib.hid (H2.out.call hb1)
      have H31 := Lib.hid (H3.out.call hb1)
      have HB1 := Lib.hid (bthen HB.out hb1)
      clear hb1 c0 c1 c2 H0 H1 H2 H3 HB
      by_cases tA : t ≤ a
      · by_cases tL : t < a
        · go_wp2_with fail
          go_meet
          case rel => exact ⟨by rw [HPB.out]; simp only [Value.int.injEq, true_and]; omega, H01.out, H11.out, H21.out, H31.out, HB1.out⟩
        · go_wp2_with fail
          go_meet
          case rel => exact ⟨by rw [HPB.out]; simp only [Value.int.injEq, true_and]; omega, H01.out, H11.out, H21.out, H31.out, HB1.out⟩
      · by_cases tB : t ≤ rf + rc
        · go_wp2_with fail
          go_meet
          case rel => exact ⟨by rw [HPB.out]; simp only [Value.int.injEq, true_and]; omega, H01.out, H11.out, H21.out, H31.out, HB1.out⟩
        · go_wp2_with fail
          go_meet
          case rel => exact ⟨by rw [HPB.out]; simp only [Value.int.injEq, true_and]; omega, H01.out, H11.out, H21.out, H31.out, HB1.out⟩
    case rest =>
      obtain ⟨rfl, h0, h1, h2, h3, hB⟩ := hcut
      clear H0 H1 H2 H3 HB
      have H0 := Lib.hid h0
      have H1 := Lib.hid h1
      have H2 := Lib.hid h2
      have H3 := Lib.hid h3
      have HB := Lib.hid hB
      clear h0 h1 h2 h3 hB
      go_upto_region 3 with fail
      have h0 := H0.out
      have h1 := H1.out
      have h2 := H2.out
      have h3 := H3.out
      have hB := HB.out
      go_cut [24] from 25 to 26 (fun v24 wx => v24 = .agg #[.int .u64 rf, .int .i64 rc, .bool rw] ∧ Arr wx w.heap.size [.int .u64 rf, .int .i64 rc, .bool rw] ∧ Arr wx (w.heap.size + 1) [.int .u64 rf, .int .i64 rc, .bool rw] ∧ Arr wx (w.heap.size + 1 + 1) [.int .u64 rf, .int .i64 rc, .bool rw] ∧ Arr wx (w.heap.size + 1 + 1 + 1) [.int .u64 rf, .int .i64 rc, .bool rw] ∧ Below w.heap.size w wx)
      case first =>
        rename_i hKJ
        have hKJ := Lib.hid hKJ
        have c0 := H0.out.cell 0 _ rfl
        have c1 := H0.out.cell 1 _ rfl
        have c2 := H0.out.cell 2 _ rfl
        have d0 := H1.out.cell 0 _ rfl
        have d1 := H1.out.cell 1 _ rfl
        have d2 := H1.out.cell 2 _ rfl
        have e0 := H2.out.cell 0 _ rfl
        have e1 := H2.out.cell 1 _ rfl
        have e2 := H2.out.cell 2 _ rfl
        have g0 := H3.out.cell 0 _ rfl
        have g1 := H3.out.cell 1 _ rfl
        have g2 := H3.out.cell 2 _ rfl
        have d3 := H1.out.frozen 0 (by simp)
        have d4 := H1.out.frozen 1 (by simp)
        have d5 := H1.out.frozen 2 (by simp)
        have e3 := H2.out.frozen 0 (by simp)
        have e4 := H2.out.frozen 1 (by simp)
        have e5 := H2.out.frozen 2 (by simp)
        have g3 := H3.out.frozen 0 (by simp)
        have g4 := H3.out.frozen 1 (by simp)
        have g5 := H3.out.frozen 2 (by simp)
        clear H0 H1 H2 H3 HB
        go_region
        refine hKJ.out _ _ ?_
        go_meet
        case rel =>
          have hP := (((Pt.mk (r := ⟨rf, rc, rw⟩) (p := ⟨0, 0, false⟩) (q := ⟨0, 0, false⟩) (s := ⟨0, 0, false⟩) h0 h1 h2 h3 hB).put1 ⟨rf, rc, rw⟩).put2 ⟨rf, rc, rw⟩).put3 ⟨rf, rc, rw⟩
          exact ⟨rfl, hP.a0.drew, hP.a1.drew, hP.a2.drew, hP.a3.drew, hP.bl.drew⟩
      case rest =>
        obtain ⟨rfl, h0, h1, h2, h3, hB⟩ := hcut
        clear H0 H1 H2 H3 HB
        have H0 := Lib.hid h0
        have H1 := Lib.hid h1
        have H2 := Lib.hid h2
        have H3 := Lib.hid h3
        have HB := Lib.hid hB
        clear h0 h1 h2 h3 hB
        have c0 := H0.out.cell 0 _ rfl
        have c1 := H0.out.cell 1 _ rfl
        have c2 := H0.out.cell 2 _ rfl
        have d0 := H1.out.cell 1 _ rfl
        have e0 := H2.out.cell 0 _ rfl
        have e1 := H2.out.cell 1 _ rfl
        have g0 := H3.out.cell 0 _ rfl
        have g1 := H3.out.cell 1 _ rfl
        have d3 := H1.out.frozen 1 (by simp)
        have e3 := H2.out.frozen 0 (by simp)
        have e4 := H2.out.frozen 1 (by simp)
        have g3 := H3.out.frozen 0 (by simp)
        have g4 := H3.out.frozen 1 (by simp)
        have h0 := H0.out
        have h1 := H1.out
        have h2 := H2.out
        have h3 := H3.out
        have hB := HB.out
        clear H1 H2 H3 HB H0
        have HP := Lib.hid ((Pt.mk (r := ⟨rf, rc, rw⟩) (p := ⟨rf, rc, rw⟩) (q := ⟨rf, rc, rw⟩) (s := ⟨rf, rc, rw⟩) h0 h1 h2 h3 hB).cnt1 (a - rf) |>.st2 a (b - a))
        clear h0 h1 h2 h3 hB
        go_wp2_with fail
        refine (spBehind_any rf rc rw _ k0 k1 k2).mono ?_
        rintro e W1 ⟨rfl, hb1⟩
        have HP1 := Lib.hid (HP.out.call hb1)
        clear hb1 HP c0 c1 c2 d0 e0 e1 g0 g1 d3 e3 e4 g3 g4
        have g0 := HP1.out.a3.cell 0 _ rfl
        have g1 := HP1.out.a3.cell 1 _ rfl
        have g3 := HP1.out.a3.frozen 0 (by simp)
        have g4 := HP1.out.a3.frozen 1 (by simp)
        go_upto_region 7 with fail
        rename_i hKJ
        have hKJ := Lib.hid hKJ
        refine (show ∀ W : World, Pt w W ⟨rf, rc, rw⟩ ⟨rf, a - rf, rw⟩ ⟨a, b - a, rw⟩ ⟨b, rf + rc - b, rw⟩ → Code.wp _ _ _ _ W from fun W h => ?_) _ (HP1.out.st3 b (rf + rc - b))
        clear HP1 g0 g1 g3 g4
        have d0 := h.a1.cell 0 _ rfl
        have d1 := h.a1.cell 1 _ rfl
        have d2 := h.a1.cell 2 _ rfl
        have e0 := h.a2.cell 0 _ rfl
        have e1 := h.a2.cell 1 _ rfl
        have e2 := h.a2.cell 2 _ rfl
        have g0 := h.a3.cell 0 _ rfl
        have g1 := h.a3.cell 1 _ rfl
        have g2 := h.a3.cell 2 _ rfl
        have d3 := h.a1.frozen 0 (by simp)
        have d4 := h.a1.frozen 1 (by simp)
        have d5 := h.a1.frozen 2 (by simp)
        have e3 := h.a2.frozen 0 (by simp)
        have e4 := h.a2.frozen 1 (by simp)
        have e5 := h.a2.frozen 2 (by simp)
        have g3 := h.a3.frozen 0 (by simp)
        have g4 := h.a3.frozen 1 (by simp)
        have g5 := h.a3.frozen 2 (by simp)
        have HP := Lib.hid (((h.put1 ⟨rf, a - rf, rw⟩).put2 ⟨a, b - a, rw⟩).put3 ⟨b, rf + rc - b, rw⟩).drew
        clear h
        go_region
        refine hKJ.out _ _ ?_
        refine (show ∀ W : World, Pt w W ⟨rf, rc, rw⟩ ⟨rf, a - rf, rw⟩ ⟨a, b - a, rw⟩ ⟨b, rf + rc - b, rw⟩ → Code.wp _ _ _ _ W from fun W h => ?_) _ HP.out
        clear HP d0 d1 d2 e0 e1 e2 g0 g1 g2 d3 d4 d5 e3 e4 e5 g3 g4 g5
        have d0 := h.a1.cell 0 _ rfl
        have d1 := h.a1.cell 1 _ rfl
        have d2 := h.a1.cell 2 _ rfl
        have e0 := h.a2.cell 0 _ rfl
        have e1 := h.a2.cell 1 _ rfl
        have e2 := h.a2.cell 2 _ rfl
        have g0 := h.a3.cell 0 _ rfl
        have g1 := h.a3.cell 1 _ rfl
        have g2 := h.a3.cell 2 _ rfl
        have hB := h.bl
        clear h
        go_wp2_with fail
        refine bodyPost_ret (v := .tuple #[gV ⟨rf, a - rf, rw⟩, gV ⟨a, b - a, rw⟩, gV ⟨b, rf + rc - b, rw⟩]) (by simp [results, Try.results44, gV, go_sem, d0, d1, d2, e0, e1, e2, g0, g1, g2]) rfl ⟨?_, hB⟩
        simp only [pAhead, pIn, pRest, HEA.out, HEB.out]
end Go.Proofs.Ytaikkdlphfmgiaa
