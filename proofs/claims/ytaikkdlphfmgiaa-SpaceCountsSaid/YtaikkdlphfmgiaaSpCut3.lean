/-
  space.change and what it calls: regions cut at the ends of a stretch.
-/
import Derived.Test.YtaikkdlphfmgiaaSpCut2
namespace Go.Proofs.Ytaikkdlphfmgiaa
open Go.RowKit
set_option linter.unusedVariables false
set_option linter.unusedSimpArgs false
/-- The variables that change's function knows, and its region. -/
structure Ch (w W : World) (bx b1 bt : Nat) (fid : Nat) (caps : Array Value) (r : Reg) (f t : Int) : Prop where
  d : Arr W bx [.func (.func fid) #[] caps]
  f : Arr W b1 [.int .u64 f]
  t : Arr W bt [.int .u64 t]
  r : Arr W w.heap.size [.int .u64 r.f, .int .i64 r.c, .bool r.w]
  b : Below w.heap.size w W
section
variable {w W W' : World} {bx b1 bt fid : Nat} {caps : Array Value} {r : Reg} {f t : Int}
theorem Ch.drew (h : Ch w W bx b1 bt fid caps r f t) : Ch w W.drew bx b1 bt fid caps r f t := ⟨h.d.drew, h.f.drew, h.t.drew, h.r.drew, bd h.b⟩
theorem Ch.call (h : Ch w W bx b1 bt fid caps r f t) (hb : Below W.heap.size W W') : Ch w W' bx b1 bt fid caps r f t := ⟨h.d.call hb, h.f.call hb, h.t.call hb, h.r.call hb, bthen h.b hb⟩
end
/-- What a function makes of the three parts of a region, from the world W0 on. -/
def DoOk (W0 : World) (fid : Nat) (caps : Array Value) (kp : Reg → Reg → Reg → List Reg) : Prop :=
  (∀ (args : Array Value) (w : World), (callFunc fid args).run Try.prog w = .ok (.enter fid args) w) ∧ ∀ (a i r : Reg) (w : World), Below W0.heap.size W0 w → Calls Try.prog fid (#[gV a, gV i, gV r] ++ caps) w fun e w' => Row w w' e (keepL (kp a i r))
set_option maxRecDepth 100000 in
set_option maxHeartbeats 2000000 in
theorem change1_any (W0 : World) (bx b1 bt fid : Nat) (caps : Array Value) (kp : Reg → Reg → Reg → List Reg) (hdo : DoOk W0 fid caps kp) (r : Reg) (f t : Int) (w : World) (hr : Rok r) (hf : U64 f) (ht : U64 t)
    (hW : Below W0.heap.size W0 w) (hd : Arr w bx [.func (.func fid) #[] caps]) (h1 : Arr w b1 [.int .u64 f]) (h2 : Arr w bt [.int .u64 t]) :
    Calls Try.prog 43 #[gV r, .pointer (some ⟨bx, 0, none⟩), .pointer (some ⟨b1, 0, none⟩), .pointer (some ⟨bt, 0, none⟩)] w fun e w' => Row w w' e (keepL (kp (pAhead r f) (pIn r f t) (pRest r f t))) := by
  have HD := Lib.hid hd
  have H1 := Lib.hid h1
  have H2 := Lib.hid h2
  clear hd h1 h2
  unfold gV
  go_enter Try.func43, Try.ntmps43
  go_upto_region 1 with fail
  refine (show ∀ W : World, Ch w W bx b1 bt fid caps r f t → Code.wp _ _ _ _ W from fun W h0 => ?_) _ ⟨HD.out.alloc _, H1.out.alloc _, H2.out.alloc _, Arr.new _ #[.int .u64 r.f, .int .i64 r.c, .bool r.w] _, ba (Below.refl _ _) _⟩
  have H0 := Lib.hid h0
  clear h0 HD H1 H2
  rename_i hKJ
  have hKJ := Lib.hid hKJ
  refine wp_region_held_drew (S := fun w' => Ch w w' bx b1 bt fid caps r f t) (by kernel_rfl) H0.out.drew (fun hHeld => ?_)
  refine wpAnyH_take (i := 0) (oi := ⟨_, _, _, _, _, _⟩) (v := ?v0x1) rfl (by kernel_rfl) (by kernel_rfl) (by kernel_rfl) (fun _ _ _ h => h) (Or.inl ⟨by rfl, ?hy0x1⟩) hHeld ?rest0x1
  case hy0x1 => (intro w' hSw; have z0 := hSw.d.cell 0 _ rfl; go_simp; try with_reducible rfl)
  try simp only [Act.put, List.setIfInBounds_toArray, List.set_cons_zero, List.set_cons_succ]
  refine wpAnyH_take (i := 1) (oi := ⟨_, _, _, _, _, _⟩) (v := ?v1x2) rfl (by kernel_rfl) (by kernel_rfl) (by kernel_rfl) (fun _ _ _ h => h) (Or.inl ⟨by rfl, ?hy1x2⟩) hHeld ?rest1x2
  case hy1x2 => (intro w' hSw; have z0 := hSw.r.cell 0 _ rfl; have z1 := hSw.r.cell 1 _ rfl; have z2 := hSw.r.cell 2 _ rfl; go_simp; try with_reducible rfl)
  try simp only [Act.put, List.setIfInBounds_toArray, List.set_cons_zero, List.set_cons_succ]
  refine wpAnyH_take (i := 2) (oi := ⟨_, _, _, _, _, _⟩) (v := ?v2x3) rfl (by kernel_rfl) (by kernel_rfl) (by kernel_rfl) (fun _ _ _ h => h) (Or.inl ⟨by rfl, ?hy2x3⟩) hHeld ?rest2x3
  case hy2x3 => (intro w' hSw; have z0 := hSw.f.cell 0 _ rfl; go_simp; try with_reducible rfl)
  try simp only [Act.put, List.setIfInBounds_toArray, List.set_cons_zero, List.set_cons_succ]
  refine wpAnyH_take (i := 3) (oi := ⟨_, _, _, _, _, _⟩) (v := ?v3x4) rfl (by kernel_rfl) (by kernel_rfl) (by kernel_rfl) (fun _ _ _ h => h) (Or.inl ⟨by rfl, ?hy3x4⟩) hHeld ?rest3x4
  case hy3x4 => (intro w' hSw; have z0 := hSw.t.cell 0 _ rfl; go_simp; try with_reducible rfl)
  try simp only [Act.put, List.setIfInBounds_toArray, List.set_cons_zero, List.set_cons_succ]
  refine wpAnyH_ready (rs := [4]) (by kernel_rfl) (by simp) ?_
  refine AllReadyH.cons (o := ⟨_, _, _, _, _, _⟩) rfl (fun K hK => ?_) AllReadyH.nil
  go_simp
  refine (parts_any r.f r.c r.w f t _ hr hf ht).mono ?_
  rintro e W1 ⟨rfl, hb1⟩
  have H1 := Lib.hid (H0.out.drew.call hb1)
  clear hb1 H0
  go_wp2_with fail
  refine hK.out _ _ H1.out (fun hHeld => ?_)
  clear hK K
  try simp only [Act.put, List.setIfInBounds_toArray, List.set_cons_zero, List.set_cons_succ]
  refine wpAnyH_take (i := 5) (oi := ⟨_, _, _, _, _, _⟩) (v := ?v5x5) rfl (by kernel_rfl) (by kernel_rfl) (by kernel_rfl) (fun _ _ _ h => h) (Or.inl ⟨by rfl, ?hy5x5⟩) hHeld ?rest5x5
  case hy5x5 => (intro w' hSw; go_simp; try with_reducible rfl)
  try simp only [Act.put, List.setIfInBounds_toArray, List.set_cons_zero, List.set_cons_succ]
  refine wpAnyH_take (i := 6) (oi := ⟨_, _, _, _, _, _⟩) (v := ?v6x6) rfl (by kernel_rfl) (by kernel_rfl) (by kernel_rfl) (fun _ _ _ h => h) (Or.inl ⟨by rfl, ?hy6x6⟩) hHeld ?rest6x6
  case hy6x6 => (intro w' hSw; go_simp; try with_reducible rfl)
  try simp only [Act.put, List.setIfInBounds_toArray, List.set_cons_zero, List.set_cons_succ]
  refine wpAnyH_take (i := 7) (oi := ⟨_, _, _, _, _, _⟩) (v := ?v7x7) rfl (by kernel_rfl) (by kernel_rfl) (by kernel_rfl) (fun _ _ _ h => h) (Or.inl ⟨by rfl, ?hy7x7⟩) hHeld ?rest7x7
  case hy7x7 => (intro w' hSw; go_simp; try with_reducible rfl)
  try simp only [Act.put, List.setIfInBounds_toArray, List.set_cons_zero, List.set_cons_succ]
  refine wpAnyH_ready (rs := [8]) (by kernel_rfl) (by simp) ?_
  refine AllReadyH.cons (o := ⟨_, _, _, _, _, _⟩) rfl (fun K hK => ?_) AllReadyH.nil
  go_simp
  rw [hdo.1, Oper.upon_enter]
  refine (hdo.2 (pAhead r f) (pIn r f t) (pRest r f t) _ (bthen hW H1.out.b)).mono ?_
  rintro e W2 ⟨O, m, c, rfl, hm, hmc, hrk, hb2⟩
  have HRK := Lib.hid hrk
  have H2 := Lib.hid (H1.out.call hb2)
  clear hrk hb2 H1
  go_wp2_with fail
  refine hK.out _ _ H2.out (fun hHeld => ?_)
  clear hK K
  try simp only [Act.put, List.setIfInBounds_toArray, List.set_cons_zero, List.set_cons_succ]
  refine wpAnyH_take (i := 9) (oi := ⟨_, _, _, _, _, _⟩) (v := ?v9x8) rfl (by kernel_rfl) (by kernel_rfl) (by kernel_rfl) (fun _ _ _ h => h) (Or.inl ⟨by rfl, ?hy9x8⟩) hHeld ?rest9x8
  case hy9x8 => (intro w' hSw; go_simp; try with_reducible rfl)
  try simp only [Act.put, List.setIfInBounds_toArray, List.set_cons_zero, List.set_cons_succ]
  refine wpAnyH_done (by kernel_rfl) ?_ _
  refine hKJ.out _ _ ?_
  go_wp2_with fail
  go_ret
  exact ⟨_, _, _, rfl, hm, hmc, HRK.out, H2.out.b⟩
end Go.Proofs.Ytaikkdlphfmgiaa
