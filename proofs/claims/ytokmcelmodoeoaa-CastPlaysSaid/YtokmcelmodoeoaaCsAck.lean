/-
  The walk of Ack.
-/
import Derived.Test.YtokmcelmodoeoaaCsDel
import Derived.Deep.RegionHeld3
namespace Go.Proofs.Ytokmcelmodoeoaa
open Go.RowKit
set_option linter.unusedVariables false
set_option linter.unusedSimpArgs false
theorem results_cell2 {P : Program} {fn : Func} {p q : Tmp} {t : TypeId} (h : fn.results = #[.cell p t, .tmp q]) (tmps : Array Value) (w : World) (g : Nat) (u v : Value) (hp : tmps.getD p undef = .pointer (some ⟨g, 0, none⟩)) (hq : tmps.getD q undef = v) (hl : (loadVar t ⟨g, 0, none⟩).run P w = .ok u w) :
    (results fn tmps).run P w = .ok (.tuple #[u, v]) w := by
  have hp' : tmps[p]?.getD undef = .pointer (some ⟨g, 0, none⟩) := by simpa using hp
  have hq' : tmps[q]?.getD undef = v := by simpa using hq
  simp [results, h, hp', hq', asAddr, hl]
theorem cack_no (b n : Nat) (rows : Nat → List Pr) (vs : Nat → Value) (F : Nat → Prop) (c : Int) (w : World) (h : Cs w b n rows vs F) (hf : firE n rows c ≠ 0) : Calls Try.prog 11 #[.pointer (some ⟨b, 0, none⟩), .int .i64 c] w fun e w' => e = .returned (.tuple #[.agg #[.int .i8 0, .int .i64 0, .int .u64 0], .int .i64 (firE n rows c)]) ∧ Below w.heap.size w w' := by
  have h' := h.alloc (.cells #[.int .i8 0, .int .i64 0, .int .u64 0] 35)
  have hn : (firE n rows c != 0) = true := by simpa using hf
  clear hf
  go_enter Try.func11, Try.ntmps11
  go_wp2_with (go_at_call 10; refine (cfirst_any b n _ _ _ _ _ h').mono ?_; rintro e w1 ⟨rfl, hb1⟩; have cA := (Arr.new w #[.int .i8 0, .int .i64 0, .int .u64 0] 35).call hb1; have hs1 := hb1.size; simp only [World.size_alloc] at hs1; have hy : w.heap.size < w1.heap.size := (by omega); have c0 := cA.cell 0 _ rfl; have c1 := cA.cell 1 _ rfl; have c2 := cA.cell 2 _ rfl; have f0 := cA.frozen 0 (by simp); have f1 := cA.frozen 1 (by simp); have f2 := cA.frozen 2 (by simp))
  have hne : w.heap.size ≠ w1.heap.size := by omega
  refine bodyPost_ret (v := .tuple #[.agg #[.int .i8 0, .int .i64 0, .int .u64 0], .int .i64 (firE n rows c)]) (by simp [results, Try.results11, go_sem, c0, c1, c2, hne, hy]) rfl ⟨rfl, ?_⟩
  exact ba (bs (bs (bs (bthen (ba (Below.refl _ _) _) hb1) (by exact Nat.le_refl _) _) (by exact Nat.le_refl _) _) (by exact Nat.le_refl _) _) _
theorem cack_yes (b n k : Nat) (rows : Nat → List Pr) (vs : Nat → Value) (F : Nat → Prop) (w : World) (h : Cs w b n rows vs F) (hk : k < n) (x : Pr) (xs : List Pr) (hr : rows k = x :: xs) : Calls Try.prog 11 #[.pointer (some ⟨b, 0, none⟩), .int .i64 (k + 1)] w fun e w' => e = .returned (.tuple #[.agg #[.int .i8 x.k, .int .i64 x.a, .int .u64 x.p], .int .i64 0]) ∧ ∃ vs' F', Cs w' b n (upR rows k xs) vs' F' ∧ Keeps F w w' ∧ ∀ g, F' g → F g ∨ w.heap.size ≤ g := by
  have h' := h.alloc (.cells #[.int .i8 0, .int .i64 0, .int .u64 0] 35)
  have hn8 := h.n8
  have hk8 : k < 8 := by omega
  have hl : (rows k).length = xs.length + 1 := by rw [hr]; rfl
  obtain ⟨g, cap, hv, -, hg, hcap, hmx⟩ := (h.row k hk8).head (by omega)
  rw [hl] at hv hcap
  have hO := h.row k hk8
  rw [hv, hr] at hO
  have H := Lib.hid h
  have HG := Lib.hid (show F g from h.rF k g hk8 (by rw [hv]; rfl))
  have hgb : g ≠ b := fun e => h.off k hk8 (by rw [hv, ← e]; rfl)
  have HO := Lib.hid hO
  have HV := Lib.hid hv
  have HR := Lib.hid hr
  have hbl := h.blt
  clear hO hv hr h
  go_enter Try.func11, Try.ntmps11
  go_wp2_with (go_at_call 10; refine (cfirst_some b n k _ _ _ _ h' hk x xs HR.out).mono ?_; rintro e w1 ⟨rfl, hb1⟩; have cA := (Arr.new w #[.int .i8 0, .int .i64 0, .int .u64 0] 35).call hb1; have hs1 := hb1.size; simp only [World.size_alloc] at hs1; have hy : w.heap.size < w1.heap.size := (by omega); clear h')
  have hCW := Lib.hid ((H.out.call (bthen (ba (Below.refl _ _) (.cells #[.int .i8 0, .int .i64 0, .int .u64 0] 35)) hb1)).alloc (.cells #[.int .i8 x.k, .int .i64 x.a, .int .u64 x.p] 35))
  have hBW := Lib.hid (ba (bthen (ba (Below.refl _ _) (.cells #[.int .i8 0, .int .i64 0, .int .u64 0] 35)) hb1) (.cells #[.int .i8 x.k, .int .i64 x.a, .int .u64 x.p] 35))
  have hA4 := Lib.hid (cA.alloc (.cells #[.int .i8 x.k, .int .i64 x.a, .int .u64 x.p] 35))
  have hA7 := Lib.hid (Arr.new w1 #[.int .i8 x.k, .int .i64 x.a, .int .u64 x.p] 35)
  clear cA hb1 hs1
  generalize w1.alloc (.cells #[.int .i8 x.k, .int .i64 x.a, .int .u64 x.p] 35) = W at *
  have HD := Lib.hid hCW.out.drew
  have c0 : W.drew.cell? ⟨b, 1 + k, none⟩ = some (.slice (some ⟨g, 0, none⟩) (xs.length + 1) cap) := by rw [HD.out.cellk hk8, HV.out]
  have hOW : Ow encP 4 66 W.drew 0 (.slice (some ⟨g, 0, none⟩) (xs.length + 1) cap) (x :: xs) := by
    have := HD.out.row k hk8
    rwa [HV.out, HR.out] at this
  have HOW := Lib.hid hOW
  have HBL := Lib.hid HD.out.blt
  have HFR := Lib.hid (HD.out.fr (1 + k))
  clear hOW
  have hki : (k : Int) < 8 := by omega
  have hki0 : (0 : Int) ≤ k := by omega
  have hw2 : IntKind.i64.wrap (k : Int) = k := IntWalk.i64_in _ (by omega)
  refine wp_region_held_drew (S := fun _ => True) (by kernel_rfl) trivial (fun hHeld => ?_)
  refine wpAnyH_take (i := 0) (oi := ⟨_, _, _, _, _, _⟩) (v := ?v0) rfl (by kernel_rfl) (by kernel_rfl) (by kernel_rfl) (fun _ _ _ h => h) (Or.inl ⟨by rfl, ?hy0⟩) trivial ?rest0
  case hy0 => (intro w' hSw; go_simp; try with_reducible rfl)
  try simp only [Act.put, List.setIfInBounds_toArray, List.set_cons_zero, List.set_cons_succ]
  refine wpAnyH_take (i := 1) (oi := ⟨_, _, _, _, _, _⟩) (v := ?v1) rfl (by kernel_rfl) (by kernel_rfl) (by kernel_rfl) (fun _ _ _ h => h) (Or.inl ⟨by rfl, ?hy1⟩) trivial ?rest1
  case hy1 => (intro w' hSw; go_simp; try with_reducible rfl)
  try simp only [Act.put, List.setIfInBounds_toArray, List.set_cons_zero, List.set_cons_succ]
  refine wpAnyH_take (i := 2) (oi := ⟨_, _, _, _, _, _⟩) (v := ?v2) rfl (by kernel_rfl) (by kernel_rfl) (by kernel_rfl) (fun _ _ _ h => h) (Or.inl ⟨by rfl, ?hy2⟩) trivial ?rest2
  case hy2 => (intro w' hSw; go_simp; try with_reducible rfl)
  try simp only [Act.put, List.setIfInBounds_toArray, List.set_cons_zero, List.set_cons_succ]
  refine wpAnyH_take (i := 3) (oi := ⟨_, _, _, _, _, _⟩) (v := ?v3) rfl (by kernel_rfl) (by kernel_rfl) (by kernel_rfl) (fun _ _ _ h => h) (Or.inl ⟨by rfl, ?hy3⟩) trivial ?rest3
  case hy3 => (intro w' hSw; go_simp; try with_reducible rfl)
  try simp only [Act.put, List.setIfInBounds_toArray, List.set_cons_zero, List.set_cons_succ]
  refine wpAnyH_take (i := 4) (oi := ⟨_, _, _, _, _, _⟩) (v := ?v4) rfl (by kernel_rfl) (by kernel_rfl) (by kernel_rfl) (fun _ _ _ h => h) (Or.inl ⟨by rfl, ?hy4⟩) trivial ?rest4
  case hy4 => (intro w' hSw; go_simp; try with_reducible rfl)
  try simp only [Act.put, List.setIfInBounds_toArray, List.set_cons_zero, List.set_cons_succ]
  refine wpAnyH_take (i := 5) (oi := ⟨_, _, _, _, _, _⟩) (v := ?v5) rfl (by kernel_rfl) (by kernel_rfl) (by kernel_rfl) (fun _ _ _ h => h) (Or.inl ⟨by rfl, ?hy5⟩) trivial ?rest5
  case hy5 => (intro w' hSw; go_simp; try with_reducible rfl)
  try simp only [Act.put, List.setIfInBounds_toArray, List.set_cons_zero, List.set_cons_succ]
  refine wpAnyH_take (i := 6) (oi := ⟨_, _, _, _, _, _⟩) (v := ?v6) rfl (by kernel_rfl) (by kernel_rfl) (by kernel_rfl) (fun _ _ _ h => h) (Or.inl ⟨by rfl, ?hy6⟩) trivial ?rest6
  case hy6 => (intro w' hSw; go_simp; try with_reducible rfl)
  try simp only [Act.put, List.setIfInBounds_toArray, List.set_cons_zero, List.set_cons_succ]
  refine wpAnyH_take (i := 7) (oi := ⟨_, _, _, _, _, _⟩) (v := ?v7) rfl (by kernel_rfl) (by kernel_rfl) (by kernel_rfl) (fun _ _ _ h => h) (Or.inl ⟨by rfl, ?hy7⟩) trivial ?rest7
  case hy7 => (intro w' hSw; go_simp; try with_reducible rfl)
  try simp only [Act.put, List.setIfInBounds_toArray, List.set_cons_zero, List.set_cons_succ]
  refine wpAnyH_take (i := 8) (oi := ⟨_, _, _, _, _, _⟩) (v := ?v8) rfl (by kernel_rfl) (by kernel_rfl) (by kernel_rfl) (fun _ _ _ h => h) (Or.inl ⟨by rfl, ?hy8⟩) trivial ?rest8
  case hy8 => (intro w' hSw; go_simp; try with_reducible rfl)
  try simp only [Act.put, List.setIfInBounds_toArray, List.set_cons_zero, List.set_cons_succ]
  refine wpAnyH_take (i := 11) (oi := ⟨_, _, _, _, _, _⟩) (v := ?v11) rfl (by kernel_rfl) (by kernel_rfl) (by kernel_rfl) (fun _ _ _ h => h) (Or.inl ⟨by rfl, ?hy11⟩) trivial ?rest11
  case hy11 => (intro w' hSw; go_simp; try with_reducible rfl)
  try simp only [Act.put, List.setIfInBounds_toArray, List.set_cons_zero, List.set_cons_succ]
  refine wpAnyH_take (i := 12) (oi := ⟨_, _, _, _, _, _⟩) (v := ?v12) rfl (by kernel_rfl) (by kernel_rfl) (by kernel_rfl) (fun _ _ _ h => h) (Or.inl ⟨by rfl, ?hy12⟩) trivial ?rest12
  case hy12 => (intro w' hSw; go_simp; try with_reducible rfl)
  try simp only [Act.put, List.setIfInBounds_toArray, List.set_cons_zero, List.set_cons_succ]
  refine wpAnyH_ready (rs := [9]) (by kernel_rfl) (by simp) ?_
  refine AllReadyH.cons (o := ⟨_, _, _, _, _, _⟩) rfl (fun K hK => ?_) AllReadyH.nil
  go_simp
  refine hK.out _ _ trivial (fun _ => ?_)
  clear hK K
  try simp only [Act.put, List.setIfInBounds_toArray, List.set_cons_zero, List.set_cons_succ]
  refine wpAnyH_ready (rs := [10]) (by kernel_rfl) (by simp) ?_
  refine AllReadyH.cons (o := ⟨_, _, _, _, _, _⟩) rfl (fun K hK => ?_) AllReadyH.nil
  go_simp
  refine (cdelete_any g cap x xs W.drew HOW.out hcap hmx).mono ?_
  rintro e w2 ⟨rfl, hO2, hK2⟩
  have c2 : w2.cell? ⟨b, 1 + k, none⟩ = some (.slice (some ⟨g, 0, none⟩) (xs.length + 1) cap) := (hK2.cell HBL.out (fun e => hgb e.symm) _).trans c0
  have f2 : w2.frozen? ⟨b, 1 + k, none⟩ = false := (World.frozen?_of_block (a := ⟨b, 1 + k, none⟩) (hK2.block b HBL.out (fun e => hgb e.symm))).trans HFR.out
  clear c0
  go_wp2_with fail
  refine hK.out _ _ trivial (fun _ => ?_)
  clear hK K
  try simp only [Act.put, List.setIfInBounds_toArray, List.set_cons_zero, List.set_cons_succ]
  refine wpAnyH_ready (rs := [13]) (by kernel_rfl) (by simp) ?_
  refine AllReadyH.cons (o := ⟨_, _, _, _, _, _⟩) rfl (fun K hK => ?_) AllReadyH.nil
  go_simp
  refine hK.out _ _ trivial (fun _ => ?_)
  clear hK K
  try simp only [Act.put, List.setIfInBounds_toArray, List.set_cons_zero, List.set_cons_succ]
  refine wpAnyH_ready (rs := [14]) (by kernel_rfl) (by simp) ?_
  refine AllReadyH.cons (o := ⟨_, _, _, _, _, _⟩) rfl (fun K hK => ?_) AllReadyH.nil
  go_simp
  refine hK.out _ _ trivial (fun _ => ?_)
  clear hK K
  try simp only [Act.put, List.setIfInBounds_toArray, List.set_cons_zero, List.set_cons_succ]
  refine wpAnyH_done (by kernel_rfl) ?_ _
  have hT := HD.out.turned hk8 hO2 (hK2.mono (fun y hy => by rw [HV.out, hy]; rfl)) (fun y hy => Or.inl (by rw [HV.out]; exact hy))
  have HT1 := Lib.hid hT.1
  have HT2 := Lib.hid hT.2
  clear hT c2 f2 hO2 hK2
  generalize w2.setCell ⟨b, 1 + k, none⟩ (.slice (some ⟨g, 0, none⟩) xs.length cap) = W3 at *
  have HLT := Lib.hid H.out.lt
  have hnF : ∀ y, w.heap.size ≤ y → ¬ F y := fun y hy hF => by have := HLT.out y hF; omega
  have d4 := hA4.out.drew.keep HT2.out (hnF _ (Nat.le_refl _))
  have d7 := hA7.out.drew.keep HT2.out (hnF _ (by omega))
  have q0 := d7.cell 0 _ rfl
  have q1 := d7.cell 1 _ rfl
  have q2 := d7.cell 2 _ rfl
  have z0 := d4.cell 0 _ rfl
  have z1 := d4.cell 1 _ rfl
  have z2 := d4.cell 2 _ rfl
  have y0 := d4.frozen 0 (by simp)
  have y1 := d4.frozen 1 (by simp)
  have y2 := d4.frozen 2 (by simp)
  have HKW := Lib.hid (show Keeps F w W3 from ((Keeps.of_below (F := F) hBW.out).drew.trans HT2.out (fun y hy => Or.inl hy)))
  have hkk : Keeps (fun y => y = w.heap.size) W3 (((W3.setCell ⟨w.heap.size, 0, none⟩ (.int .i8 x.k)).setCell ⟨w.heap.size, 1, none⟩ (.int .i64 x.a)).setCell ⟨w.heap.size, 2, none⟩ (.int .u64 x.p)) :=
    ((Keeps.setCell (F := fun y => y = w.heap.size) (p := ⟨w.heap.size, 0, none⟩) rfl _).trans (Keeps.setCell (F := fun y => y = w.heap.size) (p := ⟨w.heap.size, 1, none⟩) rfl _) (fun y hy => Or.inl hy)).trans (Keeps.setCell (F := fun y => y = w.heap.size) (p := ⟨w.heap.size, 2, none⟩) rfl _) (fun y hy => Or.inl hy)
  have HKK := Lib.hid hkk
  clear hkk d4 d7
  go_wp2_with fail
  have hlt4 : w.heap.size < W.heap.size := hA4.out.lt
  refine bodyPost_ret (v := .tuple #[.agg #[.int .i8 x.k, .int .i64 x.a, .int .u64 x.p], .int .i64 0]) (by simp [results, Try.results11, go_sem, z0, z1, z2]) rfl ⟨rfl, _, _, HT1.out.keep HKK.out (fun y hy e => ?_), HKW.out.trans HKK.out (fun y hy => Or.inr (by rw [hy]; exact Nat.le_refl _)), fun y hy => ?_⟩
  · rcases hy with hy | ⟨hy, -⟩
    · have := HLT.out y hy; omega
    · have : W.heap.size ≤ y := hy
      omega
  · rcases hy with hy | ⟨hy, -⟩
    · exact Or.inl hy
    · have : W.heap.size ≤ y := hy
      exact Or.inr (by omega)
end Go.Proofs.Ytokmcelmodoeoaa
