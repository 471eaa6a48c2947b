/-
  Both houses are asked for one act.
-/
import Derived.Test.YtgfogbifbpadoaaPcGreat
namespace Go.Proofs.Ytgfogbifbpadoaa
open Go.RowKit Go.Maps
set_option linter.unusedVariables false
set_option linter.unusedSimpArgs false
variable {w w' : World} {W : Nat → Prop} {P M Q K B : Nat} {x : Ac} {c : Int}
def PMQ (P M Q : Nat) : Nat → Prop := fun y => y = P ∨ y = M ∨ y = Q
/-- Both houses. -/
structure Bo (c : Int) (w : World) (W : Nat → Prop) (P M Q K : Nat) : Prop where
  h : Hw c w W P M K
  r : ∃ R, Rm w W Q R
  PQ : P ≠ Q
  MQ : M ≠ Q
theorem Bo.call (h : Bo c w W P M Q K) (hb : Below w.heap.size w w') : Bo c w' W P M Q K := ⟨h.h.imp fun H hH => ⟨hH.1.call hb, hH.2⟩, h.r.imp fun R hR => hR.call hb, h.PQ, h.MQ⟩
theorem Bo.goH (h : Bo c w W P M Q K) (hw : HWent c w w' W P M K) : Bo c w' W P M Q (K + 1) := by
  obtain ⟨H, hH, -⟩ := h.h
  exact ⟨hw.1, h.r.imp fun R hR => hR.keep hw.2 (fun y hy => by rcases hy with rfl | rfl; exact ⟨hH.WP, h.PQ⟩; exact ⟨hH.WM, h.MQ⟩), h.PQ, h.MQ⟩
theorem Bo.goR (h : Bo c w W P M Q K) (hw : RWent w w' W Q) : Bo c w' W P M Q K := by
  obtain ⟨R, hR⟩ := h.r
  exact ⟨h.h.imp fun H hH => ⟨hH.1.keep hw.2 (fun y hy => by subst hy; exact ⟨hR.WQ, fun e => h.PQ e.symm, fun e => h.MQ e.symm⟩), hH.2⟩, hw.1, h.PQ, h.MQ⟩
/-- Both houses, an act in a box, its rows. -/
structure Aq (c : Int) (W : Nat → Prop) (P M Q K : Nat) (x : Ac) (B : Nat) (w : World) : Prop where
  bo : Bo c w W P M Q K
  bk : Bk w B 40 (acC x).toArray
  gv : x.Given w
  rf1 : Rf W w x.O x.l
  rf2 : Rf W w x.S.O x.S.l
  nB : ¬ W B
theorem Given.rows (h : x.Given w) (h1 : Rf W w' x.O x.l) (h2 : Rf W w' x.S.O x.S.l) : x.Given w' := ⟨h.kind, h.n, h.m, h1.1, h.cap, h.wf, h.T, ⟨h2.1, h.S.cap, h.S.wf, h.S.thr, h.S.img, h.S.asid, h.S.age⟩⟩
theorem Aq.PMw (h : Aq c W P M Q K x B w) : ∀ y, PM P M y → W y := by
  obtain ⟨H, hH, -⟩ := h.bo.h
  rintro y (rfl | rfl)
  · exact hH.WP
  · exact hH.WM
theorem Aq.Qw (h : Aq c W P M Q K x B w) : ∀ y, y = Q → W y := by
  obtain ⟨R, hR⟩ := h.bo.r
  rintro y rfl
  exact hR.WQ
theorem Aq.call (h : Aq c W P M Q K x B w) (hb : Below w.heap.size w w') : Aq c W P M Q K x B w' :=
  ⟨h.bo.call hb, h.bk.call hb, h.gv.call hb, h.rf1.keep (Keeps.of_below (F := fun _ => False) hb) (fun _ hf => hf.elim), h.rf2.keep (Keeps.of_below (F := fun _ => False) hb) (fun _ hf => hf.elim), h.nB⟩
theorem Aq.goH (h : Aq c W P M Q K x B w) (hw : HWent c w w' W P M K) : Aq c W P M Q (K + 1) x B w' :=
  have h1 := h.rf1.keep hw.2 h.PMw
  have h2 := h.rf2.keep hw.2 h.PMw
  ⟨h.bo.goH hw, h.bk.keep hw.2 (fun hf => h.nB (h.PMw _ hf)), Given.rows h.gv h1 h2, h1, h2, h.nB⟩
theorem Aq.goR (h : Aq c W P M Q K x B w) (hw : RWent w w' W Q) : Aq c W P M Q K x B w' :=
  have h1 := h.rf1.keep hw.2 h.Qw
  have h2 := h.rf2.keep hw.2 h.Qw
  ⟨h.bo.goR hw, h.bk.keep hw.2 (fun hf => h.nB (h.Qw _ hf)), Given.rows h.gv h1 h2, h1, h2, h.nB⟩
theorem Aq.more (h : Aq c W P M Q K x B w) : Aq c W P M Q (K + 1) x B w :=
  ⟨⟨h.bo.h.imp fun H hH => ⟨hH.1.more (by omega), hH.2⟩, h.bo.r, h.bo.PQ, h.bo.MQ⟩, h.bk, h.gv, h.rf1, h.rf2, h.nB⟩
theorem Bk.actT (h : Bk w B 40 (acC x).toArray) : w.rangeAt B 4 (thC x.T) := fun j v hv => by
  rw [h.cell (4 + j)]
  have hj : j < 12 := (List.getElem?_eq_some_iff.1 hv).1
  rw [← hv]
  rcases (show j = 0 ∨ j = 1 ∨ j = 2 ∨ j = 3 ∨ j = 4 ∨ j = 5 ∨ j = 6 ∨ j = 7 ∨ j = 8 ∨ j = 9 ∨ j = 10 ∨ j = 11 by omega) with rfl | rfl | rfl | rfl | rfl | rfl | rfl | rfl | rfl | rfl | rfl | rfl <;> rfl
theorem Bk.actS (h : Bk w B 40 (acC x).toArray) : w.rangeAt B 16 (spC x.S) := fun j v hv => by
  rw [h.cell (16 + j)]
  have hj : j < 5 := (List.getElem?_eq_some_iff.1 hv).1
  rw [← hv]
  rcases (show j = 0 ∨ j = 1 ∨ j = 2 ∨ j = 3 ∨ j = 4 by omega) with rfl | rfl | rfl | rfl | rfl <;> rfl
theorem k3cell {w w1 : World} (h : Keeps (PMQ P M Q) w w1) : (∀ b o, b < w.heap.size → b ≠ P → b ≠ M → b ≠ Q → w1.cell? ⟨b, o, none⟩ = w.cell? ⟨b, o, none⟩) ∧ (∀ b o, b < w.heap.size → b ≠ P → b ≠ M → b ≠ Q → w1.frozen? ⟨b, o, none⟩ = w.frozen? ⟨b, o, none⟩) :=
  ⟨fun b o h1 h2 h3 h4 => World.cell?_of_block (a := ⟨b, o, none⟩) (h.block b h1 (fun hf => by rcases hf with e | e | e; exact h2 e; exact h3 e; exact h4 e)), fun b o h1 h2 h3 h4 => World.frozen?_of_block (a := ⟨b, o, none⟩) (h.block b h1 (fun hf => by rcases hf with e | e | e; exact h2 e; exact h3 e; exact h4 e))⟩
theorem mH {a b : World} (h : Keeps (PM P M) a b) : Keeps (PMQ P M Q) a b := h.mono (fun y hy => hy.imp id .inl)
theorem mR {a b : World} (h : Keeps (fun y => y = Q) a b) : Keeps (PMQ P M Q) a b := h.mono (fun y hy => .inr (.inr hy))
set_option maxRecDepth 100000 in
set_option maxHeartbeats 16000000 in
theorem asks_any (x : Ac) (hx : x.Given w) (h1 : Rf W w x.O x.l) (h2 : Rf W w x.S.O x.S.l) (hB : Bo c w W P M Q K) (hK9 : K < 100000) :
    Calls Try.prog 10 #[.pointer (some ⟨P, 0, none⟩), .pointer (some ⟨Q, 0, none⟩), .agg (acC x).toArray] w fun e w' => (∃ b, e = .returned (.bool b)) ∧ Bo c w' W P M Q (K + 1) ∧ Keeps (PMQ P M Q) w w' := by
  have hlt : ∀ y, W y → y < w.heap.size := by
    obtain ⟨H, hH, -⟩ := hB.h
    exact hH.lt
  have HQ := Lib.hid (show Aq c W P M Q K x w.heap.size (w.alloc (.cells (acC x).toArray 40)) from
    ⟨hB.call (ba (Below.refl _ _) _), Bk.new _ _ _, hx.call (ba (Below.refl _ _) _), h1.keep (Keeps.of_below (F := fun _ => False) (ba (Below.refl _ _) _)) (fun _ hf => hf.elim), h2.keep (Keeps.of_below (F := fun _ => False) (ba (Below.refl _ _) _)) (fun _ hf => hf.elim), fun hf => by have := hlt _ hf; omega⟩)
  have hwP : w.heap.size ≠ P := by
    obtain ⟨H, hH, -⟩ := hB.h
    have := hlt _ hH.WP; omega
  have hwM : w.heap.size ≠ M := by
    obtain ⟨H, hH, -⟩ := hB.h
    have := hlt _ hH.WM; omega
  have hwQ : w.heap.size ≠ Q := by
    obtain ⟨R, hR⟩ := hB.r
    have := hlt _ hR.WQ; omega
  clear hlt h1 h2 hB hx
  go_enter Try.func10, Try.ntmps10
  go_upto_region 1 with fail
  refine (show ∀ W1 : World, Aq c W P M Q K x w.heap.size W1 → Below w.heap.size w W1 → Code.wp _ _ _ _ W1 from fun W1 hq hb => ?_) _ HQ.out (ba (Below.refl _ _) _)
  have HA := Lib.hid hq
  have HB := Lib.hid hb
  have c0 := hq.bk.cell 0
  have c1 := hq.bk.cell 1
  have c2 := hq.bk.cell 2
  have c3 := hq.bk.cell 3
  have lB := hq.bk.lt
  have HG := Lib.hid hq.gv
  simp only [acC, List.getElem?_toArray, List.getElem?_cons_zero, List.getElem?_cons_succ] at c0 c1 c2 c3
  clear hq hb HQ
  by_cases k0 : x.kind = 0
  · rw [k0] at c0
    clear k0
    obtain ⟨H, hH, hI⟩ := HA.out.bo.h
    go_wp2_with fail
    refine (sBegin x.n x.m x.O x.cap x.l HG.out.n HG.out.m hH hI HA.out.gv.row HG.out.cap HG.out.wf).mono ?_
    rintro e w2 ⟨⟨a1, a2, a3, rfl⟩, hw⟩
    have HA2 := Lib.hid (HA.out.goH hw)
    have HK2 := Lib.hid (mH (Q := Q) hw.2)
    have d0 := HA2.out.bk.cell 0
    have d1 := HA2.out.bk.cell 1
    have d2 := HA2.out.bk.cell 2
    have d3 := HA2.out.bk.cell 3
    simp only [acC, List.getElem?_toArray, List.getElem?_cons_zero, List.getElem?_cons_succ] at d0 d1 d2 d3
    clear c0 c1 c2 c3 hw
    obtain ⟨R, hR⟩ := HA2.out.bo.r
    have hR := Lib.hid hR
    clear hH hI
    go_wp2_with fail
    refine (rBegin_any x.n x.m x.O x.cap x.l hR.out HA2.out.gv.row HG.out.cap HG.out.wf).mono ?_
    rintro e w3 ⟨⟨b1, b2, b3, rfl, -⟩, hw⟩
    have HA3 := Lib.hid (HA2.out.goR hw)
    have HK3 := Lib.hid (mR (P := P) (M := M) hw.2)
    clear hw d0 d1 d2 d3
    rcases q0 : (a1 == ((b1 : Nat) : Int)) with _ | _ <;> rcases q1 : (a2 == ((b2 : Nat) : Int)) with _ | _ <;> rcases q2 : (a3 == b3) with _ | _
    all_goals
      go_wp2_with fail
      go_ret
      exact ⟨⟨_, rfl⟩, HA3.out.bo, kkeep (Keeps.of_below HB.out) (kkeep HK2.out HK3.out)⟩
  by_cases k1 : x.kind = 1
  · rw [k1] at c0
    clear k0 k1
    obtain ⟨H, hH, hI⟩ := HA.out.bo.h
    go_wp2_with fail
    refine (sFork x.n HG.out.n hH hI).mono ?_
    rintro e w2 ⟨⟨a1, a2, a3, rfl⟩, hw⟩
    have HA2 := Lib.hid (HA.out.goH hw)
    have HK2 := Lib.hid (mH (Q := Q) hw.2)
    have d0 := HA2.out.bk.cell 0
    have d1 := HA2.out.bk.cell 1
    have d2 := HA2.out.bk.cell 2
    have d3 := HA2.out.bk.cell 3
    simp only [acC, List.getElem?_toArray, List.getElem?_cons_zero, List.getElem?_cons_succ] at d0 d1 d2 d3
    clear c0 c1 c2 c3 hw
    obtain ⟨R, hR⟩ := HA2.out.bo.r
    have hR := Lib.hid hR
    clear hH hI
    go_wp2_with fail
    refine (rFork_any x.n HG.out.n hR.out).mono ?_
    rintro e w3 ⟨⟨b1, b2, b3, rfl⟩, hw⟩
    have HA3 := Lib.hid (HA2.out.goR hw)
    have HK3 := Lib.hid (mR (P := P) (M := M) hw.2)
    clear hw d0 d1 d2 d3
    rcases q0 : (a1 == b1) with _ | _ <;> rcases q1 : (a2 == b2) with _ | _ <;> rcases q2 : (a3 == b3) with _ | _
    all_goals
      go_wp2_with fail
      go_ret
      exact ⟨⟨_, rfl⟩, HA3.out.bo, kkeep (Keeps.of_below HB.out) (kkeep HK2.out HK3.out)⟩
  by_cases k2 : x.kind = 2
  · rw [k2] at c0
    clear k0 k1 k2
    obtain ⟨H, hH, hI⟩ := HA.out.bo.h
    go_wp2_with fail
    refine (sMore x.n x.m HG.out.n HG.out.m hH hI).mono ?_
    rintro e w2 ⟨⟨a1, a2, rfl⟩, hw⟩
    have HA2 := Lib.hid (HA.out.goH hw)
    have HK2 := Lib.hid (mH (Q := Q) hw.2)
    have d0 := HA2.out.bk.cell 0
    have d1 := HA2.out.bk.cell 1
    have d2 := HA2.out.bk.cell 2
    have d3 := HA2.out.bk.cell 3
    simp only [acC, List.getElem?_toArray, List.getElem?_cons_zero, List.getElem?_cons_succ] at d0 d1 d2 d3
    clear c0 c1 c2 c3 hw
    obtain ⟨R, hR⟩ := HA2.out.bo.r
    have hR := Lib.hid hR
    clear hH hI
    go_wp2_with fail
    refine (rMore_any x.n x.m HG.out.n HG.out.m hR.out).mono ?_
    rintro e w3 ⟨⟨b1, b2, rfl⟩, hw⟩
    have HA3 := Lib.hid (HA2.out.goR hw)
    have HK3 := Lib.hid (mR (P := P) (M := M) hw.2)
    clear hw d0 d1 d2 d3
    rcases q0 : (a1 == b1) with _ | _ <;> rcases q1 : (a2 == b2) with _ | _
    all_goals
      go_wp2_with fail
      go_ret
      exact ⟨⟨_, rfl⟩, HA3.out.bo, kkeep (Keeps.of_below HB.out) (kkeep HK2.out HK3.out)⟩
  by_cases k3 : x.kind = 3
  · rw [k3] at c0
    clear k0 k1 k2 k3
    obtain ⟨H, hH, hI⟩ := HA.out.bo.h
    go_wp2_with fail
    refine (sEnd x.n HG.out.n hH hI).mono ?_
    rintro e w2 ⟨⟨a1, a2, rfl⟩, hw⟩
    have HA2 := Lib.hid (HA.out.goH hw)
    have HK2 := Lib.hid (mH (Q := Q) hw.2)
    have d0 := HA2.out.bk.cell 0
    have d1 := HA2.out.bk.cell 1
    have d2 := HA2.out.bk.cell 2
    have d3 := HA2.out.bk.cell 3
    simp only [acC, List.getElem?_toArray, List.getElem?_cons_zero, List.getElem?_cons_succ] at d0 d1 d2 d3
    clear c0 c1 c2 c3 hw
    obtain ⟨R, hR⟩ := HA2.out.bo.r
    have hR := Lib.hid hR
    clear hH hI
    go_wp2_with fail
    refine (rEnd_any x.n HG.out.n hR.out).mono ?_
    rintro e w3 ⟨⟨b1, b2, rfl⟩, hw⟩
    have HA3 := Lib.hid (HA2.out.goR hw)
    have HK3 := Lib.hid (mR (P := P) (M := M) hw.2)
    clear hw d0 d1 d2 d3
    rcases q0 : (a1 == b1) with _ | _ <;> rcases q1 : (a2 == b2) with _ | _
    all_goals
      go_wp2_with fail
      go_ret
      exact ⟨⟨_, rfl⟩, HA3.out.bo, kkeep (Keeps.of_below HB.out) (kkeep HK2.out HK3.out)⟩
  by_cases k4 : x.kind = 4
  · rw [k4] at c0
    clear k0 k1 k2 k3 k4
    have HAd := Lib.hid (HA.out.call (bd (Below.refl W1.heap.size W1)))
    obtain ⟨H, hH, hI⟩ := HAd.out.bo.h
    have hH := Lib.hid hH
    have hI := Lib.hid hI
    go_wp2_with fail
    refine wp_region_held_drew (S := fun w' => Keeps (PMQ P M Q) W1 w') (by kernel_rfl) (Keeps.refl _ _).drew (fun hHeld => ?_)
    refine wpAnyH_take (i := 0) (oi := ⟨_, _, _, _, _, _⟩) (v := ?vd4x0) rfl (by kernel_rfl) (by kernel_rfl) (by kernel_rfl) (fun _ _ _ h => h) (Or.inl ⟨by rfl, ?hyd4x0⟩) hHeld ?restd4x0
    case hyd4x0 => (intro w' hSw; go_simp; try with_reducible rfl)
    try simp only [Act.put, List.setIfInBounds_toArray, List.set_cons_zero, List.set_cons_succ]
    refine wpAnyH_take (i := 1) (oi := ⟨_, _, _, _, _, _⟩) (v := ?vd4x1) rfl (by kernel_rfl) (by kernel_rfl) (by kernel_rfl) (fun _ _ _ h => h) (Or.inl ⟨by rfl, ?hyd4x1⟩) hHeld ?restd4x1
    case hyd4x1 => (intro w' hSw; go_simp; try with_reducible rfl)
    try simp only [Act.put, List.setIfInBounds_toArray, List.set_cons_zero, List.set_cons_succ]
    refine wpAnyH_take (i := 2) (oi := ⟨_, _, _, _, _, _⟩) (v := ?vd4x2) rfl (by kernel_rfl) (by kernel_rfl) (by kernel_rfl) (fun _ _ _ h => h) (Or.inl ⟨by rfl, ?hyd4x2⟩) hHeld ?restd4x2
    case hyd4x2 => (intro w' hSw; obtain ⟨hcc, hff⟩ := k3cell hSw; go_simp; try with_reducible rfl)
    try simp only [Act.put, List.setIfInBounds_toArray, List.set_cons_zero, List.set_cons_succ]
    refine wpAnyH_take (i := 3) (oi := ⟨_, _, _, _, _, _⟩) (v := ?vd4x3) rfl (by kernel_rfl) (by kernel_rfl) (by kernel_rfl) (fun _ _ _ h => h) (Or.inl ⟨by rfl, ?hyd4x3⟩) hHeld ?restd4x3
    case hyd4x3 => (intro w' hSw; go_simp; try with_reducible rfl)
    try simp only [Act.put, List.setIfInBounds_toArray, List.set_cons_zero, List.set_cons_succ]
    refine wpAnyH_take (i := 4) (oi := ⟨_, _, _, _, _, _⟩) (v := ?vd4x4) rfl (by kernel_rfl) (by kernel_rfl) (by kernel_rfl) (fun _ _ _ h => h) (Or.inl ⟨by rfl, ?hyd4x4⟩) hHeld ?restd4x4
    case hyd4x4 => (intro w' hSw; obtain ⟨hcc, hff⟩ := k3cell hSw; go_simp; try with_reducible rfl)
    try simp only [Act.put, List.setIfInBounds_toArray, List.set_cons_zero, List.set_cons_succ]
    refine wpAnyH_take (i := 6) (oi := ⟨_, _, _, _, _, _⟩) (v := ?vd4x6) rfl (by kernel_rfl) (by kernel_rfl) (by kernel_rfl) (fun _ _ _ h => h) (Or.inl ⟨by rfl, ?hyd4x6⟩) hHeld ?restd4x6
    case hyd4x6 => (intro w' hSw; go_simp; try with_reducible rfl)
    try simp only [Act.put, List.setIfInBounds_toArray, List.set_cons_zero, List.set_cons_succ]
    refine wpAnyH_take (i := 7) (oi := ⟨_, _, _, _, _, _⟩) (v := ?vd4x7) rfl (by kernel_rfl) (by kernel_rfl) (by kernel_rfl) (fun _ _ _ h => h) (Or.inl ⟨by rfl, ?hyd4x7⟩) hHeld ?restd4x7
    case hyd4x7 => (intro w' hSw; go_simp; try with_reducible rfl)
    try simp only [Act.put, List.setIfInBounds_toArray, List.set_cons_zero, List.set_cons_succ]
    refine wpAnyH_take (i := 8) (oi := ⟨_, _, _, _, _, _⟩) (v := ?vd4x8) rfl (by kernel_rfl) (by kernel_rfl) (by kernel_rfl) (fun _ _ _ h => h) (Or.inl ⟨by rfl, ?hyd4x8⟩) hHeld ?restd4x8
    case hyd4x8 => (intro w' hSw; obtain ⟨hcc, hff⟩ := k3cell hSw; go_simp; try with_reducible rfl)
    try simp only [Act.put, List.setIfInBounds_toArray, List.set_cons_zero, List.set_cons_succ]
    refine wpAnyH_take (i := 9) (oi := ⟨_, _, _, _, _, _⟩) (v := ?vd4x9) rfl (by kernel_rfl) (by kernel_rfl) (by kernel_rfl) (fun _ _ _ h => h) (Or.inl ⟨by rfl, ?hyd4x9⟩) hHeld ?restd4x9
    case hyd4x9 => (intro w' hSw; go_simp; try with_reducible rfl)
    try simp only [Act.put, List.setIfInBounds_toArray, List.set_cons_zero, List.set_cons_succ]
    refine wpAnyH_take (i := 10) (oi := ⟨_, _, _, _, _, _⟩) (v := ?vd4x10) rfl (by kernel_rfl) (by kernel_rfl) (by kernel_rfl) (fun _ _ _ h => h) (Or.inl ⟨by rfl, ?hyd4x10⟩) hHeld ?restd4x10
    case hyd4x10 => (intro w' hSw; obtain ⟨hcc, hff⟩ := k3cell hSw; go_simp; try with_reducible rfl)
    try simp only [Act.put, List.setIfInBounds_toArray, List.set_cons_zero, List.set_cons_succ]
    refine wpAnyH_ready (rs := [5]) (by kernel_rfl) (by simp) ?_
    refine AllReadyH.cons (o := ⟨_, _, _, _, _, _⟩) rfl (fun K hK => ?_) AllReadyH.nil
    go_simp
    refine (sRun x.n x.m HG.out.n HG.out.m hH.out hI.out hK9).mono ?_
    rintro e wrd4x1 ⟨⟨v1, rfl⟩, hw⟩
    have HA2 := Lib.hid (HAd.out.goH hw)
    have hb := mH (Q := Q) hw.2
    obtain ⟨R, hR⟩ := HA2.out.bo.r
    have hR := Lib.hid hR
    clear hw
    go_wp2_with fail
    have hB2 := kkeep hHeld hb
    clear hHeld hb
    refine hK.out _ _ hB2 (fun hHeld => ?_)
    clear hB2 hK K
    try simp only [Act.put, List.setIfInBounds_toArray, List.set_cons_zero, List.set_cons_succ]
    refine wpAnyH_ready (rs := [11]) (by kernel_rfl) (by simp) ?_
    refine AllReadyH.cons (o := ⟨_, _, _, _, _, _⟩) rfl (fun K hK => ?_) AllReadyH.nil
    go_simp
    refine (rRun_any x.n x.m HG.out.n HG.out.m hR.out).mono ?_
    rintro e wrd4x2 ⟨⟨v2, rfl⟩, hw⟩
    have HA3 := Lib.hid (HA2.out.goR hw)
    have hb := mR (P := P) (M := M) hw.2
    clear hw
    go_wp2_with fail
    have hB2 := kkeep hHeld hb
    clear hHeld hb
    refine hK.out _ _ hB2 (fun hHeld => ?_)
    clear hB2 hK K
    try simp only [Act.put, List.setIfInBounds_toArray, List.set_cons_zero, List.set_cons_succ]
    refine wpAnyH_take (i := 12) (oi := ⟨_, _, _, _, _, _⟩) (v := ?vd4x12) rfl (by kernel_rfl) (by kernel_rfl) (by kernel_rfl) (fun _ _ _ h => h) (Or.inl ⟨by rfl, ?hyd4x12⟩) hHeld ?restd4x12
    case hyd4x12 => (intro w' hSw; go_simp; try with_reducible rfl)
    try simp only [Act.put, List.setIfInBounds_toArray, List.set_cons_zero, List.set_cons_succ]
    refine wpAnyH_take (i := 13) (oi := ⟨_, _, _, _, _, _⟩) (v := ?vd4x13) rfl (by kernel_rfl) (by kernel_rfl) (by kernel_rfl) (fun _ _ _ h => h) (Or.inl ⟨by rfl, ?hyd4x13⟩) hHeld ?restd4x13
    case hyd4x13 => (intro w' hSw; go_simp; try with_reducible rfl)
    try simp only [Act.put, List.setIfInBounds_toArray, List.set_cons_zero, List.set_cons_succ]
    refine wpAnyH_done (by kernel_rfl) ?_ _
    go_wp2_with fail
    go_ret
    exact ⟨⟨_, rfl⟩, HA3.out.bo, kkeep (Keeps.of_below HB.out) hHeld⟩
  by_cases k5 : x.kind = 5
  · rw [k5] at c0
    clear k0 k1 k2 k3 k4 k5
    obtain ⟨H, hH, hI⟩ := HA.out.bo.h
    go_wp2_with fail
    refine (sStop x.n HG.out.n hH hI).mono ?_
    rintro e w2 ⟨⟨a1, a2, rfl⟩, hw⟩
    have HA2 := Lib.hid (HA.out.goH hw)
    have HK2 := Lib.hid (mH (Q := Q) hw.2)
    have d0 := HA2.out.bk.cell 0
    have d1 := HA2.out.bk.cell 1
    have d2 := HA2.out.bk.cell 2
    have d3 := HA2.out.bk.cell 3
    simp only [acC, List.getElem?_toArray, List.getElem?_cons_zero, List.getElem?_cons_succ] at d0 d1 d2 d3
    clear c0 c1 c2 c3 hw
    obtain ⟨R, hR⟩ := HA2.out.bo.r
    have hR := Lib.hid hR
    clear hH hI
    go_wp2_with fail
    refine (rStop_any x.n HG.out.n hR.out).mono ?_
    rintro e w3 ⟨⟨b1, b2, rfl⟩, hw⟩
    have HA3 := Lib.hid (HA2.out.goR hw)
    have HK3 := Lib.hid (mR (P := P) (M := M) hw.2)
    clear hw d0 d1 d2 d3
    rcases q0 : (a1 == b1) with _ | _ <;> rcases q1 : (a2 == b2) with _ | _
    all_goals
      go_wp2_with fail
      go_ret
      exact ⟨⟨_, rfl⟩, HA3.out.bo, kkeep (Keeps.of_below HB.out) (kkeep HK2.out HK3.out)⟩
  by_cases k6 : x.kind = 6
  · rw [k6] at c0
    clear k0 k1 k2 k3 k4 k5 k6
    have HAd := Lib.hid (HA.out.call (bd (Below.refl W1.heap.size W1)))
    obtain ⟨H, hH, hI⟩ := HAd.out.bo.h
    have hH := Lib.hid hH
    have hI := Lib.hid hI
    go_wp2_with fail
    refine wp_region_held_drew (S := fun w' => Keeps (PMQ P M Q) W1 w') (by kernel_rfl) (Keeps.refl _ _).drew (fun hHeld => ?_)
    refine wpAnyH_take (i := 0) (oi := ⟨_, _, _, _, _, _⟩) (v := ?vd6x0) rfl (by kernel_rfl) (by kernel_rfl) (by kernel_rfl) (fun _ _ _ h => h) (Or.inl ⟨by rfl, ?hyd6x0⟩) hHeld ?restd6x0
    case hyd6x0 => (intro w' hSw; go_simp; try with_reducible rfl)
    try simp only [Act.put, List.setIfInBounds_toArray, List.set_cons_zero, List.set_cons_succ]
    refine wpAnyH_take (i := 1) (oi := ⟨_, _, _, _, _, _⟩) (v := ?vd6x1) rfl (by kernel_rfl) (by kernel_rfl) (by kernel_rfl) (fun _ _ _ h => h) (Or.inl ⟨by rfl, ?hyd6x1⟩) hHeld ?restd6x1
    case hyd6x1 => (intro w' hSw; go_simp; try with_reducible rfl)
    try simp only [Act.put, List.setIfInBounds_toArray, List.set_cons_zero, List.set_cons_succ]
    refine wpAnyH_take (i := 2) (oi := ⟨_, _, _, _, _, _⟩) (v := ?vd6x2) rfl (by kernel_rfl) (by kernel_rfl) (by kernel_rfl) (fun _ _ _ h => h) (Or.inl ⟨by rfl, ?hyd6x2⟩) hHeld ?restd6x2
    case hyd6x2 => (intro w' hSw; obtain ⟨hcc, hff⟩ := k3cell hSw; go_simp; try with_reducible rfl)
    try simp only [Act.put, List.setIfInBounds_toArray, List.set_cons_zero, List.set_cons_succ]
    refine wpAnyH_take (i := 3) (oi := ⟨_, _, _, _, _, _⟩) (v := ?vd6x3) rfl (by kernel_rfl) (by kernel_rfl) (by kernel_rfl) (fun _ _ _ h => h) (Or.inl ⟨by rfl, ?hyd6x3⟩) hHeld ?restd6x3
    case hyd6x3 => (intro w' hSw; go_simp; try with_reducible rfl)
    try simp only [Act.put, List.setIfInBounds_toArray, List.set_cons_zero, List.set_cons_succ]
    refine wpAnyH_take (i := 4) (oi := ⟨_, _, _, _, _, _⟩) (v := .agg (thC x.T).toArray) rfl (by kernel_rfl) (by kernel_rfl) (by kernel_rfl) (fun _ _ _ h => h) (yieldsIf_load_mid (by rfl) 36 _ rfl w.heap.size 4 rfl (thC x.T) _ (fun w' hSw => (HA.out.bk.keep hSw (fun hf => by rcases hf with e | e | e; exact hwP e; exact hwM e; exact hwQ e)).actT) Try.underlying36 rfl thInfo) hHeld ?_
    try simp only [Act.put, List.setIfInBounds_toArray, List.set_cons_zero, List.set_cons_succ]
    refine wpAnyH_take (i := 6) (oi := ⟨_, _, _, _, _, _⟩) (v := ?vd6x6) rfl (by kernel_rfl) (by kernel_rfl) (by kernel_rfl) (fun _ _ _ h => h) (Or.inl ⟨by rfl, ?hyd6x6⟩) hHeld ?restd6x6
    case hyd6x6 => (intro w' hSw; go_simp; try with_reducible rfl)
    try simp only [Act.put, List.setIfInBounds_toArray, List.set_cons_zero, List.set_cons_succ]
    refine wpAnyH_take (i := 7) (oi := ⟨_, _, _, _, _, _⟩) (v := ?vd6x7) rfl (by kernel_rfl) (by kernel_rfl) (by kernel_rfl) (fun _ _ _ h => h) (Or.inl ⟨by rfl, ?hyd6x7⟩) hHeld ?restd6x7
    case hyd6x7 => (intro w' hSw; go_simp; try with_reducible rfl)
    try simp only [Act.put, List.setIfInBounds_toArray, List.set_cons_zero, List.set_cons_succ]
    refine wpAnyH_take (i := 8) (oi := ⟨_, _, _, _, _, _⟩) (v := ?vd6x8) rfl (by kernel_rfl) (by kernel_rfl) (by kernel_rfl) (fun _ _ _ h => h) (Or.inl ⟨by rfl, ?hyd6x8⟩) hHeld ?restd6x8
    case hyd6x8 => (intro w' hSw; obtain ⟨hcc, hff⟩ := k3cell hSw; go_simp; try with_reducible rfl)
    try simp only [Act.put, List.setIfInBounds_toArray, List.set_cons_zero, List.set_cons_succ]
    refine wpAnyH_take (i := 9) (oi := ⟨_, _, _, _, _, _⟩) (v := ?vd6x9) rfl (by kernel_rfl) (by kernel_rfl) (by kernel_rfl) (fun _ _ _ h => h) (Or.inl ⟨by rfl, ?hyd6x9⟩) hHeld ?restd6x9
    case hyd6x9 => (intro w' hSw; go_simp; try with_reducible rfl)
    try simp only [Act.put, List.setIfInBounds_toArray, List.set_cons_zero, List.set_cons_succ]
    refine wpAnyH_take (i := 10) (oi := ⟨_, _, _, _, _, _⟩) (v := .agg (thC x.T).toArray) rfl (by kernel_rfl) (by kernel_rfl) (by kernel_rfl) (fun _ _ _ h => h) (yieldsIf_load_mid (by rfl) 36 _ rfl w.heap.size 4 rfl (thC x.T) _ (fun w' hSw => (HA.out.bk.keep hSw (fun hf => by rcases hf with e | e | e; exact hwP e; exact hwM e; exact hwQ e)).actT) Try.underlying36 rfl thInfo) hHeld ?_
    try simp only [Act.put, List.setIfInBounds_toArray, List.set_cons_zero, List.set_cons_succ]
    refine wpAnyH_ready (rs := [5]) (by kernel_rfl) (by simp) ?_
    refine AllReadyH.cons (o := ⟨_, _, _, _, _, _⟩) rfl (fun K hK => ?_) AllReadyH.nil
    go_simp
    refine (sSetThread x.n x.T HG.out.n HG.out.T hH.out hI.out).mono ?_
    rintro e wrd6x1 ⟨⟨v1, rfl⟩, hw⟩
    have HA2 := Lib.hid (HAd.out.goH hw)
    have hb := mH (Q := Q) hw.2
    obtain ⟨R, hR⟩ := HA2.out.bo.r
    have hR := Lib.hid hR
    clear hw
    go_wp2_with fail
    have hB2 := kkeep hHeld hb
    clear hHeld hb
    refine hK.out _ _ hB2 (fun hHeld => ?_)
    clear hB2 hK K
    try simp only [Act.put, List.setIfInBounds_toArray, List.set_cons_zero, List.set_cons_succ]
    refine wpAnyH_ready (rs := [11]) (by kernel_rfl) (by simp) ?_
    refine AllReadyH.cons (o := ⟨_, _, _, _, _, _⟩) rfl (fun K hK => ?_) AllReadyH.nil
    go_simp
    refine (rSetThread_any x.n x.T HG.out.n hR.out).mono ?_
    rintro e wrd6x2 ⟨⟨v2, rfl⟩, hw⟩
    have HA3 := Lib.hid (HA2.out.goR hw)
    have hb := mR (P := P) (M := M) hw.2
    clear hw
    go_wp2_with fail
    have hB2 := kkeep hHeld hb
    clear hHeld hb
    refine hK.out _ _ hB2 (fun hHeld => ?_)
    clear hB2 hK K
    try simp only [Act.put, List.setIfInBounds_toArray, List.set_cons_zero, List.set_cons_succ]
    refine wpAnyH_take (i := 12) (oi := ⟨_, _, _, _, _, _⟩) (v := ?vd6x12) rfl (by kernel_rfl) (by kernel_rfl) (by kernel_rfl) (fun _ _ _ h => h) (Or.inl ⟨by rfl, ?hyd6x12⟩) hHeld ?restd6x12
    case hyd6x12 => (intro w' hSw; go_simp; try with_reducible rfl)
    try simp only [Act.put, List.setIfInBounds_toArray, List.set_cons_zero, List.set_cons_succ]
    refine wpAnyH_take (i := 13) (oi := ⟨_, _, _, _, _, _⟩) (v := ?vd6x13) rfl (by kernel_rfl) (by kernel_rfl) (by kernel_rfl) (fun _ _ _ h => h) (Or.inl ⟨by rfl, ?hyd6x13⟩) hHeld ?restd6x13
    case hyd6x13 => (intro w' hSw; go_simp; try with_reducible rfl)
    try simp only [Act.put, List.setIfInBounds_toArray, List.set_cons_zero, List.set_cons_succ]
    refine wpAnyH_done (by kernel_rfl) ?_ _
    go_wp2_with fail
    go_ret
    exact ⟨⟨_, rfl⟩, HA3.out.bo, kkeep (Keeps.of_below HB.out) hHeld⟩
  by_cases k7 : x.kind = 7
  · rw [k7] at c0
    clear k0 k1 k2 k3 k4 k5 k6 k7
    have HAd := Lib.hid (HA.out.call (bd (Below.refl W1.heap.size W1)))
    obtain ⟨H, hH, hI⟩ := HAd.out.bo.h
    have hH := Lib.hid hH
    have hI := Lib.hid hI
    go_wp2_with fail
    refine wp_region_held_drew (S := fun w' => Keeps (PMQ P M Q) W1 w') (by kernel_rfl) (Keeps.refl _ _).drew (fun hHeld => ?_)
    refine wpAnyH_take (i := 0) (oi := ⟨_, _, _, _, _, _⟩) (v := ?vd7x0) rfl (by kernel_rfl) (by kernel_rfl) (by kernel_rfl) (fun _ _ _ h => h) (Or.inl ⟨by rfl, ?hyd7x0⟩) hHeld ?restd7x0
    case hyd7x0 => (intro w' hSw; go_simp; try with_reducible rfl)
    try simp only [Act.put, List.setIfInBounds_toArray, List.set_cons_zero, List.set_cons_succ]
    refine wpAnyH_take (i := 1) (oi := ⟨_, _, _, _, _, _⟩) (v := ?vd7x1) rfl (by kernel_rfl) (by kernel_rfl) (by kernel_rfl) (fun _ _ _ h => h) (Or.inl ⟨by rfl, ?hyd7x1⟩) hHeld ?restd7x1
    case hyd7x1 => (intro w' hSw; go_simp; try with_reducible rfl)
    try simp only [Act.put, List.setIfInBounds_toArray, List.set_cons_zero, List.set_cons_succ]
    refine wpAnyH_take (i := 2) (oi := ⟨_, _, _, _, _, _⟩) (v := ?vd7x2) rfl (by kernel_rfl) (by kernel_rfl) (by kernel_rfl) (fun _ _ _ h => h) (Or.inl ⟨by rfl, ?hyd7x2⟩) hHeld ?restd7x2
    case hyd7x2 => (intro w' hSw; obtain ⟨hcc, hff⟩ := k3cell hSw; go_simp; try with_reducible rfl)
    try simp only [Act.put, List.setIfInBounds_toArray, List.set_cons_zero, List.set_cons_succ]
    refine wpAnyH_take (i := 3) (oi := ⟨_, _, _, _, _, _⟩) (v := ?vd7x3) rfl (by kernel_rfl) (by kernel_rfl) (by kernel_rfl) (fun _ _ _ h => h) (Or.inl ⟨by rfl, ?hyd7x3⟩) hHeld ?restd7x3
    case hyd7x3 => (intro w' hSw; go_simp; try with_reducible rfl)
    try simp only [Act.put, List.setIfInBounds_toArray, List.set_cons_zero, List.set_cons_succ]
    refine wpAnyH_take (i := 4) (oi := ⟨_, _, _, _, _, _⟩) (v := .agg (spC x.S).toArray) rfl (by kernel_rfl) (by kernel_rfl) (by kernel_rfl) (fun _ _ _ h => h) (yieldsIf_load_mid (by rfl) 38 _ rfl w.heap.size 16 rfl (spC x.S) _ (fun w' hSw => (HA.out.bk.keep hSw (fun hf => by rcases hf with e | e | e; exact hwP e; exact hwM e; exact hwQ e)).actS) Try.underlying38 rfl spInfo) hHeld ?_
    try simp only [Act.put, List.setIfInBounds_toArray, List.set_cons_zero, List.set_cons_succ]
    refine wpAnyH_take (i := 6) (oi := ⟨_, _, _, _, _, _⟩) (v := ?vd7x6) rfl (by kernel_rfl) (by kernel_rfl) (by kernel_rfl) (fun _ _ _ h => h) (Or.inl ⟨by rfl, ?hyd7x6⟩) hHeld ?restd7x6
    case hyd7x6 => (intro w' hSw; go_simp; try with_reducible rfl)
    try simp only [Act.put, List.setIfInBounds_toArray, List.set_cons_zero, List.set_cons_succ]
    refine wpAnyH_take (i := 7) (oi := ⟨_, _, _, _, _, _⟩) (v := ?vd7x7) rfl (by kernel_rfl) (by kernel_rfl) (by kernel_rfl) (fun _ _ _ h => h) (Or.inl ⟨by rfl, ?hyd7x7⟩) hHeld ?restd7x7
    case hyd7x7 => (intro w' hSw; go_simp; try with_reducible rfl)
    try simp only [Act.put, List.setIfInBounds_toArray, List.set_cons_zero, List.set_cons_succ]
    refine wpAnyH_take (i := 8) (oi := ⟨_, _, _, _, _, _⟩) (v := ?vd7x8) rfl (by kernel_rfl) (by kernel_rfl) (by kernel_rfl) (fun _ _ _ h => h) (Or.inl ⟨by rfl, ?hyd7x8⟩) hHeld ?restd7x8
    case hyd7x8 => (intro w' hSw; obtain ⟨hcc, hff⟩ := k3cell hSw; go_simp; try with_reducible rfl)
    try simp only [Act.put, List.setIfInBounds_toArray, List.set_cons_zero, List.set_cons_succ]
    refine wpAnyH_take (i := 9) (oi := ⟨_, _, _, _, _, _⟩) (v := ?vd7x9) rfl (by kernel_rfl) (by kernel_rfl) (by kernel_rfl) (fun _ _ _ h => h) (Or.inl ⟨by rfl, ?hyd7x9⟩) hHeld ?restd7x9
    case hyd7x9 => (intro w' hSw; go_simp; try with_reducible rfl)
    try simp only [Act.put, List.setIfInBounds_toArray, List.set_cons_zero, List.set_cons_succ]
    refine wpAnyH_take (i := 10) (oi := ⟨_, _, _, _, _, _⟩) (v := .agg (spC x.S).toArray) rfl (by kernel_rfl) (by kernel_rfl) (by kernel_rfl) (fun _ _ _ h => h) (yieldsIf_load_mid (by rfl) 38 _ rfl w.heap.size 16 rfl (spC x.S) _ (fun w' hSw => (HA.out.bk.keep hSw (fun hf => by rcases hf with e | e | e; exact hwP e; exact hwM e; exact hwQ e)).actS) Try.underlying38 rfl spInfo) hHeld ?_
    try simp only [Act.put, List.setIfInBounds_toArray, List.set_cons_zero, List.set_cons_succ]
    refine wpAnyH_ready (rs := [5]) (by kernel_rfl) (by simp) ?_
    refine AllReadyH.cons (o := ⟨_, _, _, _, _, _⟩) rfl (fun K hK => ?_) AllReadyH.nil
    go_simp
    refine (sSetSpace x.n x.S HG.out.n HAd.out.gv.S hH.out hI.out).mono ?_
    rintro e wrd7x1 ⟨⟨v1, rfl⟩, hw⟩
    have HA2 := Lib.hid (HAd.out.goH hw)
    have hb := mH (Q := Q) hw.2
    obtain ⟨R, hR⟩ := HA2.out.bo.r
    have hR := Lib.hid hR
    clear hw
    go_wp2_with fail
    have hB2 := kkeep hHeld hb
    clear hHeld hb
    refine hK.out _ _ hB2 (fun hHeld => ?_)
    clear hB2 hK K
    try simp only [Act.put, List.setIfInBounds_toArray, List.set_cons_zero, List.set_cons_succ]
    refine wpAnyH_ready (rs := [11]) (by kernel_rfl) (by simp) ?_
    refine AllReadyH.cons (o := ⟨_, _, _, _, _, _⟩) rfl (fun K hK => ?_) AllReadyH.nil
    go_simp
    refine (rSetSpace_any x.n x.S HG.out.n HA2.out.gv.S hR.out).mono ?_
    rintro e wrd7x2 ⟨⟨v2, rfl⟩, hw⟩
    have HA3 := Lib.hid (HA2.out.goR hw)
    have hb := mR (P := P) (M := M) hw.2
    clear hw
    go_wp2_with fail
    have hB2 := kkeep hHeld hb
    clear hHeld hb
    refine hK.out _ _ hB2 (fun hHeld => ?_)
    clear hB2 hK K
    try simp only [Act.put, List.setIfInBounds_toArray, List.set_cons_zero, List.set_cons_succ]
    refine wpAnyH_take (i := 12) (oi := ⟨_, _, _, _, _, _⟩) (v := ?vd7x12) rfl (by kernel_rfl) (by kernel_rfl) (by kernel_rfl) (fun _ _ _ h => h) (Or.inl ⟨by rfl, ?hyd7x12⟩) hHeld ?restd7x12
    case hyd7x12 => (intro w' hSw; go_simp; try with_reducible rfl)
    try simp only [Act.put, List.setIfInBounds_toArray, List.set_cons_zero, List.set_cons_succ]
    refine wpAnyH_take (i := 13) (oi := ⟨_, _, _, _, _, _⟩) (v := ?vd7x13) rfl (by kernel_rfl) (by kernel_rfl) (by kernel_rfl) (fun _ _ _ h => h) (Or.inl ⟨by rfl, ?hyd7x13⟩) hHeld ?restd7x13
    case hyd7x13 => (intro w' hSw; go_simp; try with_reducible rfl)
    try simp only [Act.put, List.setIfInBounds_toArray, List.set_cons_zero, List.set_cons_succ]
    refine wpAnyH_done (by kernel_rfl) ?_ _
    go_wp2_with fail
    go_ret
    exact ⟨⟨_, rfl⟩, HA3.out.bo, kkeep (Keeps.of_below HB.out) hHeld⟩
  have e0 : (x.kind == 0) = false := beq_eq_false_iff_ne.2 k0
  have e1 : (x.kind == 1) = false := beq_eq_false_iff_ne.2 k1
  have e2 : (x.kind == 2) = false := beq_eq_false_iff_ne.2 k2
  have e3 : (x.kind == 3) = false := beq_eq_false_iff_ne.2 k3
  have e4 : (x.kind == 4) = false := beq_eq_false_iff_ne.2 k4
  have e5 : (x.kind == 5) = false := beq_eq_false_iff_ne.2 k5
  have e6 : (x.kind == 6) = false := beq_eq_false_iff_ne.2 k6
  have e7 : (x.kind == 7) = false := beq_eq_false_iff_ne.2 k7
  clear k0 k1 k2 k3 k4 k5 k6 k7
  generalize x.kind = kd at c0 e0 e1 e2 e3 e4 e5 e6 e7
  go_wp2_with fail
  go_ret
  exact ⟨⟨_, rfl⟩, HA.out.more.bo, Keeps.of_below HB.out⟩
end Go.Proofs.Ytgfogbifbpadoaa
