/-
  The document's house: Begin.
-/
import Derived.Test.YtgfogbifbpadoaaRcWalks
namespace Go.Proofs.Ytgfogbifbpadoaa
open Go.RowKit Go.Maps
set_option linter.unusedVariables false
set_option linter.unusedSimpArgs false
variable {w : World} {W : Nat → Prop} {Q : Nat} {R : Rh}
/-- A call that may turn the document's house. -/
def RWent (w w' : World) (W : Nat → Prop) (Q : Nat) : Prop := (∃ R', Rm w' W Q R') ∧ Keeps (fun x => x = Q) w w'
theorem RWent.same {w' : World} (h : Rm w W Q R) (hb : Below w.heap.size w w') : RWent w w' W Q := ⟨⟨R, h.call hb⟩, Keeps.of_below hb⟩
/-- What Begin answers. -/
def RbP (e : Ending) : Prop := ∃ (s t : Nat) (E : Int), e = .returned (.tuple #[.int .i64 s, .int .i64 t, .int .i64 E]) ∧ (E = 0 → 1 ≤ s ∧ s ≤ 6 ∧ 1 ≤ t ∧ t ≤ 8)
theorem RbP.no {E : Int} (h : E ≠ 0) : RbP (.returned (.tuple #[.int .i64 0, .int .i64 0, .int .i64 E])) := ⟨0, 0, E, rfl, fun h' => absurd h' h⟩
theorem qcell {w w1 : World} {Q : Nat} (h : Keeps (fun x => x = Q) w w1) : (∀ b o, b < w.heap.size → b ≠ Q → w1.cell? ⟨b, o, none⟩ = w.cell? ⟨b, o, none⟩) ∧ (∀ b o, b < w.heap.size → b ≠ Q → w1.frozen? ⟨b, o, none⟩ = w.frozen? ⟨b, o, none⟩) :=
  ⟨fun b o h1 h2 => World.cell?_of_block (a := ⟨b, o, none⟩) (h.block b h1 h2), fun b o h1 h2 => World.frozen?_of_block (a := ⟨b, o, none⟩) (h.block b h1 h2)⟩
set_option maxRecDepth 100000 in
set_option maxHeartbeats 4000000 in
theorem rBegin_any (img pc : Int) (O : Option Addr) (cap : Nat) (l : List Reg) (h : Rm w W Q R) (hR : RegsK w O l) (hcap : l.length ≤ cap) (hwf : ∀ i, i < l.length → (rg l i).wf) :
    Calls Try.prog 26 #[.pointer (some ⟨Q, 0, none⟩), .int .i64 img, .slice O l.length cap, .int .i64 pc] w fun e w' => RbP e ∧ RWent w w' W Q := by
  obtain ⟨i0, hi0, hz0, hz1, hz2⟩ := info_parts infoReg
  have HH := Lib.hid h
  have HR := Lib.hid hR
  have HW := Lib.hid hwf
  clear h hR hwf
  by_cases a1 : img < 0
  · go_enter Try.func26, Try.ntmps26
    go_wp2_with fail
    refine bodyPost_ret (results_tmp3 rfl _ _ _) rfl ?_
    exact ⟨RbP.no (by decide), RWent.same HH.out (Below.refl _ _)⟩
  have a1' : 0 ≤ img := by omega
  by_cases a2 : pc < 0
  · clear a1
    go_enter Try.func26, Try.ntmps26
    go_wp2_with fail
    refine bodyPost_ret (results_tmp3 rfl _ _ _) rfl ?_
    exact ⟨RbP.no (by decide), RWent.same HH.out (Below.refl _ _)⟩
  have a2' : 0 ≤ pc := by omega
  clear a1 a2
  rcases hck : chk l with _ | _
  · have HV := Lib.hid (show ckV l = 2 by simp [ckV, hck])
    clear hck
    go_enter Try.func26, Try.ntmps26
    go_wp2_with fail
    refine (r19Check_any O l.length cap l _ HR.out rfl hcap HW.out).mono ?_
    rintro e w1 ⟨rfl, hb1⟩
    rw [HV.out]
    have HB := Lib.hid hb1
    clear hb1
    go_wp2_with fail
    refine bodyPost_ret (results_tmp3 rfl _ _ _) rfl ?_
    exact ⟨RbP.no (by decide), RWent.same HH.out HB.out⟩
  have HV := Lib.hid (show ckV l = 0 by simp [ckV, hck])
  have HCK := Lib.hid hck
  have h8 := (chk_parts hck).1
  clear hck
  go_enter Try.func26, Try.ntmps26
  go_wp2_with fail
  refine (r19Check_any O l.length cap l _ HR.out rfl hcap HW.out).mono ?_
  rintro e w1 ⟨rfl, hb1⟩
  rw [HV.out]
  have HB1 := Lib.hid hb1
  have HH1 := Lib.hid (HH.out.call hb1)
  have HR1 := Lib.hid (HR.out.call hb1)
  clear hb1 HR
  go_wp2_with fail
  refine (rfreeSpace_any HH1.out).mono ?_
  rintro e w2 ⟨⟨s, s6, rfl⟩, rfl⟩
  go_wp2_with fail
  refine (rfreeThread_any HH1.out).mono ?_
  rintro e w2 ⟨⟨t, t8, rfl⟩, rfl⟩
  by_cases hs : s = 0
  · subst hs
    go_wp2_with fail
    refine bodyPost_ret (results_tmp3 rfl _ _ _) rfl ?_
    exact ⟨RbP.no (by decide), RWent.same HH.out HB1.out⟩
  have hs2 : (((s : Nat) : Int) == 0) = false := beq_eq_false_iff_ne.2 (by omega)
  by_cases ht : t = 0
  · subst ht
    go_wp2_with fail
    refine bodyPost_ret (results_tmp3 rfl _ _ _) rfl ?_
    exact ⟨RbP.no (by decide), RWent.same HH.out HB1.out⟩
  have ht2 : (((t : Nat) : Int) == 0) = false := beq_eq_false_iff_ne.2 (by omega)
  go_upto_region 8 with fail
  refine (show ∀ W8 : World, Below w1.heap.size w1 W8 → Bk W8 w1.heap.size 38 (spC ⟨none, 0, [], 1, img, 0, 0⟩).toArray → Code.wp _ _ _ _ W8 from fun W8 hb8 hk8 => ?_) _ (ba (Below.refl _ _) _) (Bk.new w1 38 (spC ⟨none, 0, [], 1, img, 0, 0⟩).toArray)
  have HB8 := Lib.hid (bthen HB1.out hb8)
  have HY8 := Lib.hid hb8
  have HH8 := Lib.hid (HH1.out.call hb8)
  have HK8 := Lib.hid hk8
  have HR8 := Lib.hid (HR1.out.call hb8)
  have x0 := hk8.spc.1
  have f0 := hk8.frozen 0
  have l8 := hk8.lt
  have hQ : w1.heap.size ≠ Q := by have := HH1.out.lt Q HH1.out.WQ; omega
  clear hb8 hk8
  go_upto_region 9 with (at_builtin; refine wp_app (enc := encG) (k := 3) rfl _ _ 32 rfl W8.heap.size 79 i0 _ 24 Try.underlying32 hi0 hz0 hz1 hz2 rfl (by decide) encG_len encG_one (.slice none 0 0) [] rfl (Ow.nil _ _ _) l O l.length cap rfl rfl HR8.out.rk (by simp; omega) (by decide) W8 (Below.refl _ _) (Nat.le_refl _) ?_; intro v' w9 o1 o2; have HO := Lib.hid o1; have HX := Lib.hid o2; clear o1 o2; obtain ⟨O', cap', rfl, hc', hrf⟩ := rf_of_ow (W := fun x => W x ∨ x = w1.heap.size) (show Ow encG 3 79 w9 W8.heap.size v' l by simpa using HO.out) (fun x hx => by rcases hx with hx | hx <;> first | omega | exact HH8.out.lt x hx); have HRF := Lib.hid hrf; have HY9 := Lib.hid (bthen HY8.out HX.out); have HH9 := Lib.hid (HH8.out.call HX.out); have HK9 := Lib.hid (HK8.out.call HX.out); clear hrf HO HX x0 f0; have x0 := HK9.out.spc.1; have f0 := HK9.out.frozen 0)
  refine (show ∀ Wa : World, Below w1.heap.size w1 Wa → Bk Wa w1.heap.size 38 (spC ⟨O', cap', l, 1, img, 0, 0⟩).toArray → Rf W Wa O' l → Code.wp _ _ _ _ Wa from fun Wa ha hk hr => ?_) _ (bs HY9.out (p := ⟨w1.heap.size, 0, none⟩) (Nat.le_refl _) (.slice O' l.length cap')) (HK9.out.set 0 (.slice O' l.length cap')) ((HRF.out.keep (Keeps.setCell (F := fun x => x = w1.heap.size) (p := ⟨w1.heap.size, 0, none⟩) rfl (.slice O' l.length cap')) (fun x hx => .inr hx)).sub (W := W) (fun x hx => .inl hx))
  have HKa := Lib.hid (Keeps.of_below (F := fun x => x = Q) (bthen HB1.out ha))
  have HHad := Lib.hid (HH1.out.call (bd ha))
  have HBa := Lib.hid hk
  have HRa := Lib.hid (hr.keep (Keeps.refl (fun _ => False) Wa).drew (fun x hx => hx.elim))
  have HT := Lib.hid (HHad.out.putSp (n := s) (by omega) ⟨O', cap', l, 1, img, 0, 0⟩ ⟨HRa.out, hc', HCK.out⟩)
  have la := hk.lt
  clear ha hk hr x0 f0 HY9 HK9 HRF HH9 HY8 HH8 HK8 HR8 HB8 HH1 HR1 HB1 HH
  have hs7 : (s : Int) < 7 := by omega
  go_wp2_with fail
  refine wp_region_held_drew (S := fun w' => Keeps (fun x => x = Q) Wa w') (by kernel_rfl) (Keeps.refl _ _).drew (fun hHeld => ?_)
  refine wpAnyH_take (i := 0) (oi := ⟨_, _, _, _, _, _⟩) (v := ?v0) rfl (by kernel_rfl) (by kernel_rfl) (by kernel_rfl) (fun _ _ _ h => h) (Or.inl ⟨by rfl, ?hy0⟩) hHeld ?rest0
  case hy0 => (intro w' hSw; go_simp; (try rw [if_pos hs7]); try with_reducible rfl)
  try simp only [Act.put, List.setIfInBounds_toArray, List.set_cons_zero, List.set_cons_succ]
  refine wpAnyH_take (i := 1) (oi := ⟨_, _, _, _, _, _⟩) (v := ?v1) rfl (by kernel_rfl) (by kernel_rfl) (by kernel_rfl) (fun _ _ _ h => h) (Or.inl ⟨by rfl, ?hy1⟩) hHeld ?rest1
  case hy1 => (intro w' hSw; go_simp; (try rw [if_pos hs7]); try with_reducible rfl)
  try simp only [Act.put, List.setIfInBounds_toArray, List.set_cons_zero, List.set_cons_succ]
  refine wpAnyH_take (i := 2) (oi := ⟨_, _, _, _, _, _⟩) (v := .agg (spC ⟨O', cap', l, 1, img, 0, 0⟩).toArray) rfl (by kernel_rfl) (by kernel_rfl) (by kernel_rfl) (fun _ _ _ h => h) (yieldsIf_load_mid (by rfl) 38 _ rfl w1.heap.size 0 rfl (spC ⟨O', cap', l, 1, img, 0, 0⟩) _ (fun w' hSw => (HBa.out.keep hSw hQ).range) Try.underlying38 rfl spInfo) hHeld ?_
  try simp only [Act.put, List.setIfInBounds_toArray, List.set_cons_zero, List.set_cons_succ]
  refine wpAnyH_take (i := 3) (oi := ⟨_, _, _, _, _, _⟩) (v := ?v3) rfl (by kernel_rfl) (by kernel_rfl) (by kernel_rfl) (fun _ _ _ h => h) (Or.inl ⟨by rfl, ?hy3⟩) hHeld ?rest3
  case hy3 => (intro w' hSw; go_simp; (try rw [if_pos hs7]); try with_reducible rfl)
  try simp only [Act.put, List.setIfInBounds_toArray, List.set_cons_zero, List.set_cons_succ]
  refine wpAnyH_take (i := 4) (oi := ⟨_, _, _, _, _, _⟩) (v := ?v4) rfl (by kernel_rfl) (by kernel_rfl) (by kernel_rfl) (fun _ _ _ h => h) (Or.inl ⟨by rfl, ?hy4⟩) hHeld ?rest4
  case hy4 => (intro w' hSw; go_simp; (try rw [if_pos hs7]); try with_reducible rfl)
  try simp only [Act.put, List.setIfInBounds_toArray, List.set_cons_zero, List.set_cons_succ]
  refine wpAnyH_take (i := 5) (oi := ⟨_, _, _, _, _, _⟩) (v := ?v5) rfl (by kernel_rfl) (by kernel_rfl) (by kernel_rfl) (fun _ _ _ h => h) (Or.inl ⟨by rfl, ?hy5⟩) hHeld ?rest5
  case hy5 => (intro w' hSw; go_simp; (try rw [if_pos hs7]); try with_reducible rfl)
  try simp only [Act.put, List.setIfInBounds_toArray, List.set_cons_zero, List.set_cons_succ]
  refine wpAnyH_ready (rs := [6]) (by kernel_rfl) (by simp) ?_
  refine AllReadyH.cons (o := ⟨_, _, _, _, _, _⟩) rfl (fun K hK => ?_) AllReadyH.nil
  refine wp_store_mid 38 _ _ rfl Q (109 + s * 5) (spC ⟨O', cap', l, 1, img, 0, 0⟩).toArray rfl rfl (rthere_sub HHad.out.room (by simp [spC_len]; omega)) spInfo (all_oneCell_toArray (spC_one _)) ?_
  simp only [List.toList_toArray]
  have hB2 := kcells hHeld rfl (spC ⟨O', cap', l, 1, img, 0, 0⟩) (109 + s * 5)
  clear hHeld
  refine hK.out _ _ hB2 (fun hHeld => ?_)
  clear hB2 hK K
  try simp only [Act.put, List.setIfInBounds_toArray, List.set_cons_zero, List.set_cons_succ]
  refine wpAnyH_done (by kernel_rfl) ?_ _
  have HKb := Lib.hid (kkeep HKa.out hHeld)
  clear hHeld HKa
  generalize hwx : Wa.drew.setCells Q (109 + s * 5) (spC ⟨O', cap', l, 1, img, 0, 0⟩) = wx at *
  clear hwx
  obtain ⟨b0, hb0⟩ := HT.out.hr s (by omega)
  have fb := HT.out.cellFree (o := 144 + s) (by omega)
  go_upto_region 11 with fail
  refine (show ∀ Wb : World, (∃ R', Rm Wb W Q R') → Keeps (fun x => x = Q) w Wb → Code.wp _ _ _ _ Wb from fun Wb ha hk => ?_) _ ⟨_, HT.out.setHr (by omega) true⟩ (kset HKb.out rfl _)
  obtain ⟨Rb, hRb⟩ := ha
  have HRb := Lib.hid hRb
  have HKc := Lib.hid hk
  clear hRb hk hb0 fb HT HKb
  go_wp2_with (refine rput_th rfl _ _ rfl HRb.out (n := t) (by omega) (Th.of s pc) rfl rfl ?_)
  refine bodyPost_ret (results_tmp3 rfl _ _ _) rfl ?_
  exact ⟨⟨s, t, 0, rfl, fun _ => ⟨by omega, s6, by omega, t8⟩⟩, ⟨_, HRb.out.putTh (by omega) _ ⟨by show (0 : Int) ≤ s; omega, by show (s : Int) ≤ 6; omega⟩⟩, kcells HKc.out rfl _ _⟩
end Go.Proofs.Ytgfogbifbpadoaa
