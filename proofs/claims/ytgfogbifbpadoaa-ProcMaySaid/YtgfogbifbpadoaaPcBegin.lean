/-
  A house's Begin.
-/
import Derived.Test.YtgfogbifbpadoaaPcSpace
import Derived.Deep.RegionHeld
namespace Go.Proofs.Ytgfogbifbpadoaa
open Go.RowKit Go.Maps
set_option linter.unusedVariables false
set_option linter.unusedSimpArgs false
variable {w : World} {W : Nat → Prop} {P M K : Nat} {H : Hs}
theorem kthen {F : Nat → Prop} {a b c : World} (h : Keeps F a b) (hb : Below b.heap.size b c) : Keeps F a c := h.trans (Keeps.of_below (F := fun _ => False) hb) (fun _ hf => hf.elim)
theorem kcells {F : Nat → Prop} {a b : World} {p : Nat} (h : Keeps F a b) (hp : F p) (vs : List Value) (o : Nat) : Keeps F a (b.setCells p o vs) := h.trans (Keeps.setCells (F := F) hp vs o b) (fun _ hf => .inl hf)
theorem kset {F : Nat → Prop} {a b : World} {p : Addr} (h : Keeps F a b) (hp : F p.block) (v : Value) : Keeps F a (b.setCell p v) := h.trans (Keeps.setCell (F := F) hp v) (fun _ hf => .inl hf)
theorem kkeep {F : Nat → Prop} {a b c : World} (h : Keeps F a b) (k : Keeps F b c) : Keeps F a c := h.trans k (fun _ hf => .inl hf)
/-- The blocks that a house writes. -/
def PM (P M : Nat) : Nat → Prop := fun x => x = P ∨ x = M
/-- What Begin answers. -/
def bgE (H : Hs) (img pc : Int) (l : List Reg) : Int := if img < 0 ∨ pc < 0 ∨ chk l = false then 2 else match frS H, frT H with
  | some _, some _ => 0
  | _, _ => 20
def Th.of (s : Nat) (pc : Int) : Th := { Th.z with sp := s, pc := pc }
/-- A call that may turn the house. -/
def Went (w w' : World) (W : Nat → Prop) (P M K : Nat) (H' : Hs) : Prop := Hm w' W P M K H' ∧ Keeps (PM P M) w w'
theorem Went.same {w' : World} (h : Hm w W P M K H) (hb : Below w.heap.size w w') : Went w w' W P M K H := ⟨h.call hb, Keeps.of_below hb⟩
def BgPost (w w' : World) (W : Nat → Prop) (P M K : Nat) (H : Hs) (e : Ending) (img pc : Int) (l : List Reg) : Prop :=
  (bgE H img pc l ≠ 0 → e = .returned (.tuple #[.int .i64 0, .int .i64 0, .int .i64 (bgE H img pc l)]) ∧ Went w w' W P M K H) ∧
  (bgE H img pc l = 0 → ∃ s t O cap, frS H = some s ∧ frT H = some t ∧ e = .returned (.tuple #[.int .i64 s, .int .i64 t, .int .i64 0]) ∧ Went w w' W P M K ((H.setSp s ⟨O, cap, l, 1, img, 0, 0⟩).setTh t (Th.of s pc)))
theorem pcBegin_nil (n m : Int) (O : Option Addr) (len cap : Nat) (w : World) : Calls Try.prog 18 #[.pointer none, .int .i64 n, .slice O len cap, .int .i64 m] w fun e w' => e = .returned (.tuple #[.int .i64 0, .int .i64 0, .int .i64 1]) ∧ w = w' := by
  go_enter Try.func18, Try.ntmps18
  go_wp2_with fail
  refine bodyPost_ret (results_tmp3 rfl _ _ _) rfl ?_
  exact ⟨rfl, rfl⟩
theorem bgE_arg {H : Hs} {img pc : Int} {l : List Reg} (h : img < 0 ∨ pc < 0 ∨ chk l = false) : bgE H img pc l = 2 := by unfold bgE; rw [if_pos h]
theorem BgPost.no {w' : World} {img pc E : Int} {l : List Reg} {e : Ending} (hE : bgE H img pc l = E) (h0 : E ≠ 0) (he : e = .returned (.tuple #[.int .i64 0, .int .i64 0, .int .i64 E])) (h : Went w w' W P M K H) : BgPost w w' W P M K H e img pc l := by
  subst hE
  exact ⟨fun _ => ⟨he, h⟩, fun h' => absurd h' h0⟩
theorem frS_lt {H : Hs} {s : Nat} (h : frS H = some s) : 1 ≤ s ∧ s ≤ 6 ∧ (H.sp s).thr = 0 := by
  obtain ⟨h1, h2, h3, -⟩ := lst_some h
  exact ⟨h1, h2, by simpa using h3⟩
theorem frT_lt {H : Hs} {t : Nat} (h : frT H = some t) : 1 ≤ t ∧ t ≤ 8 ∧ (H.th t).sp = 0 := by
  obtain ⟨h1, h2, h3, -⟩ := lst_some h
  exact ⟨h1, h2, by simpa using h3⟩
set_option maxRecDepth 100000 in
set_option maxHeartbeats 4000000 in
theorem pcBegin_any (img pc : Int) (O : Option Addr) (cap : Nat) (l : List Reg) (hi : I64 img) (hp : I64 pc) (h : Hm w W P M K H) (hR : RegsK w O l) (hcap : l.length ≤ cap) (hwf : ∀ i, i < l.length → (rg l i).wf) :
    Calls Try.prog 18 #[.pointer (some ⟨P, 0, none⟩), .int .i64 img, .slice O l.length cap, .int .i64 pc] w fun e w' => BgPost w w' W P M K H e img pc l := by
  have HH := Lib.hid h
  have HR := Lib.hid hR
  have HW := Lib.hid hwf
  have hi0 := hi.1
  have hi1 := hi.2
  have hp0 := hp.1
  have hp1 := hp.2
  clear h hR hwf hi hp
  by_cases a1 : img < 0
  · have HE := Lib.hid (bgE_arg (H := H) (img := img) (pc := pc) (l := l) (.inl a1))
    go_enter Try.func18, Try.ntmps18
    go_wp2_with fail
    refine bodyPost_ret (results_tmp3 rfl _ _ _) rfl ?_
    exact BgPost.no HE.out (by decide) rfl (Went.same HH.out (Below.refl _ _))
  have a1' : 0 ≤ img := by omega
  by_cases a2 : pc < 0
  · have HE := Lib.hid (bgE_arg (H := H) (img := img) (pc := pc) (l := l) (.inr (.inl a2)))
    clear a1
    go_enter Try.func18, Try.ntmps18
    go_wp2_with fail
    refine bodyPost_ret (results_tmp3 rfl _ _ _) rfl ?_
    exact BgPost.no HE.out (by decide) rfl (Went.same HH.out (Below.refl _ _))
  have a2' : 0 ≤ pc := by omega
  rcases hck : chk l with _ | _
  · have HE := Lib.hid (bgE_arg (H := H) (img := img) (pc := pc) (l := l) (.inr (.inr hck)))
    have HV := Lib.hid (show ckV l = 2 by simp [ckV, hck])
    clear a1 a2 hck
    go_enter Try.func18, Try.ntmps18
    go_wp2_with fail
    refine (spCheck_any O l.length cap l _ HR.out rfl hcap HW.out).mono ?_
    rintro e w1 ⟨rfl, hb1⟩
    rw [HV.out]
    have HB := Lib.hid hb1
    clear hb1
    go_wp2_with fail
    refine bodyPost_ret (results_tmp3 rfl _ _ _) rfl ?_
    exact BgPost.no HE.out (by decide) rfl (Went.same HH.out HB.out)
  have HV := Lib.hid (show ckV l = 0 by simp [ckV, hck])
  have HCK := Lib.hid hck
  have HE := Lib.hid (show bgE H img pc l = match frS H, frT H with
    | some _, some _ => 0
    | _, _ => 20 by unfold bgE; rw [if_neg (by simp [hck]; omega)])
  have h8 := (chk_parts hck).1
  clear a1 a2 hck
  by_cases hpl : ∃ s t, frS H = some s ∧ frT H = some t
  · obtain ⟨s, t, hs, ht⟩ := hpl
    obtain ⟨s1, s6, -⟩ := frS_lt hs
    obtain ⟨t1, t8, -⟩ := frT_lt ht
    have HE' := Lib.hid (show bgE H img pc l = 0 by rw [HE.out, hs, ht])
    have HP := Lib.hid (show plcV H = .tuple #[.int .i64 s, .int .i64 t, .bool true] by unfold plcV; rw [hs, ht])
    have HFS := Lib.hid hs
    have HFT := Lib.hid ht
    clear hs ht HE
    go_enter Try.func18, Try.ntmps18
    go_wp2_with fail
    refine (spCheck_any O l.length cap l _ HR.out rfl hcap HW.out).mono ?_
    rintro e w1 ⟨rfl, hb1⟩
    rw [HV.out]
    have HH1 := Lib.hid (HH.out.call hb1)
    have HR1 := Lib.hid (HR.out.call hb1)
    have HK1 := Lib.hid (Keeps.of_below (F := PM P M) hb1)
    clear hb1 HH HR
    go_wp2_with fail
    refine (pcPlaces_any HH1.out).mono ?_
    rintro e w2 ⟨rfl, rfl⟩
    rw [HP.out]
    go_wp2_with fail
    have hs7 : (s : Int) < 7 := by omega
    have HR1d := Lib.hid (HR1.out.call (bd (Below.refl w1.heap.size w1)))
    have HH1d := Lib.hid (HH1.out.call (bd (Below.refl w1.heap.size w1)))
    refine wp_region_held_drew (S := fun w' => Keeps (PM P M) w1 w') (by kernel_rfl) (Keeps.refl _ _).drew (fun hHeld => ?_)
    refine wpAnyH_take (i := 0) (oi := ⟨_, _, _, _, _, _⟩) (v := ?v0) rfl (by kernel_rfl) (by kernel_rfl) (by kernel_rfl) (fun _ _ _ h => h) (Or.inl ⟨by rfl, ?hy0⟩) hHeld ?rest0
    case hy0 => (intro w' hSw; go_simp; (try rw [if_pos hs7]); try with_reducible rfl)
    try simp only [Act.put, List.setIfInBounds_toArray, List.set_cons_zero, List.set_cons_succ]
    refine wpAnyH_take (i := 1) (oi := ⟨_, _, _, _, _, _⟩) (v := ?v1) rfl (by kernel_rfl) (by kernel_rfl) (by kernel_rfl) (fun _ _ _ h => h) (Or.inl ⟨by rfl, ?hy1⟩) hHeld ?rest1
    case hy1 => (intro w' hSw; go_simp; (try rw [if_pos hs7]); try with_reducible rfl)
    try simp only [Act.put, List.setIfInBounds_toArray, List.set_cons_zero, List.set_cons_succ]
    refine wpAnyH_take (i := 2) (oi := ⟨_, _, _, _, _, _⟩) (v := ?v2) rfl (by kernel_rfl) (by kernel_rfl) (by kernel_rfl) (fun _ _ _ h => h) (Or.inl ⟨by rfl, ?hy2⟩) hHeld ?rest2
    case hy2 => (intro w' hSw; go_simp; (try rw [if_pos hs7]); try with_reducible rfl)
    try simp only [Act.put, List.setIfInBounds_toArray, List.set_cons_zero, List.set_cons_succ]
    refine wpAnyH_take (i := 4) (oi := ⟨_, _, _, _, _, _⟩) (v := ?v4) rfl (by kernel_rfl) (by kernel_rfl) (by kernel_rfl) (fun _ _ _ h => h) (Or.inl ⟨by rfl, ?hy4⟩) hHeld ?rest4
    case hy4 => (intro w' hSw; go_simp; (try rw [if_pos hs7]); try with_reducible rfl)
    try simp only [Act.put, List.setIfInBounds_toArray, List.set_cons_zero, List.set_cons_succ]
    refine wpAnyH_take (i := 6) (oi := ⟨_, _, _, _, _, _⟩) (v := ?v6) rfl (by kernel_rfl) (by kernel_rfl) (by kernel_rfl) (fun _ _ _ h => h) (Or.inl ⟨by rfl, ?hy6⟩) hHeld ?rest6
    case hy6 => (intro w' hSw; go_simp; (try rw [if_pos hs7]); try with_reducible rfl)
    try simp only [Act.put, List.setIfInBounds_toArray, List.set_cons_zero, List.set_cons_succ]
    refine wpAnyH_take (i := 7) (oi := ⟨_, _, _, _, _, _⟩) (v := ?v7) rfl (by kernel_rfl) (by kernel_rfl) (by kernel_rfl) (fun _ _ _ h => h) (Or.inl ⟨by rfl, ?hy7⟩) hHeld ?rest7
    case hy7 => (intro w' hSw; go_simp; (try rw [if_pos hs7]); try with_reducible rfl)
    try simp only [Act.put, List.setIfInBounds_toArray, List.set_cons_zero, List.set_cons_succ]
    refine wpAnyH_ready (rs := [3]) (by kernel_rfl) (by simp) ?_
    refine AllReadyH.cons (o := ⟨_, _, _, _, _, _⟩) rfl (fun K hK => ?_) AllReadyH.nil
    go_simp
    refine (srclone_any O l.length cap l _ HR1d.out rfl hcap (by omega)).mono ?_
    rintro e wr1 ⟨v, rfl, ho, hb⟩
    obtain ⟨O', cap', rfl, hc', hrf⟩ := rf_of_ow (W := W) ho (fun x hx => HH1d.out.lt x hx)
    have HHr := Lib.hid (HH1d.out.call hb)
    have HX := Lib.hid (HHr.out.putSp (n := s) (by omega) ⟨O', cap', l, 1, img, 0, 0⟩ ⟨hrf, hc', HCK.out⟩)
    clear ho hrf
    go_wp2_with fail
    have hB2 := kthen hHeld hb
    clear hHeld hb
    refine hK.out _ _ hB2 (fun hHeld => ?_)
    clear hB2 hK K
    try simp only [Act.put, List.setIfInBounds_toArray, List.set_cons_zero, List.set_cons_succ]
    refine wpAnyH_take (i := 5) (oi := ⟨_, _, _, _, _, _⟩) (v := ?v5) rfl (by kernel_rfl) (by kernel_rfl) (by kernel_rfl) (fun _ _ _ h => h) (Or.inl ⟨by rfl, ?hy5⟩) hHeld ?rest5
    case hy5 => (intro w' hSw; go_simp; (try rw [if_pos hs7]); try with_reducible rfl)
    try simp only [Act.put, List.setIfInBounds_toArray, List.set_cons_zero, List.set_cons_succ]
    refine wpAnyH_take (i := 8) (oi := ⟨_, _, _, _, _, _⟩) (v := ?v8) rfl (by kernel_rfl) (by kernel_rfl) (by kernel_rfl) (fun _ _ _ h => h) (Or.inl ⟨by rfl, ?hy8⟩) hHeld ?rest8
    case hy8 => (intro w' hSw; go_simp; (try rw [if_pos hs7]); try with_reducible rfl)
    try simp only [Act.put, List.setIfInBounds_toArray, List.set_cons_zero, List.set_cons_succ]
    refine wpAnyH_ready (rs := [9]) (by kernel_rfl) (by simp) ?_
    refine AllReadyH.cons (o := ⟨_, _, _, _, _, _⟩) rfl (fun K hK => ?_) AllReadyH.nil
    refine wp_store_mid 38 _ _ rfl P (109 + s * 5) (spC ⟨O', cap', l, 1, img, 0, 0⟩).toArray rfl rfl (there_sub HHr.out.room (by simp [spC_len]; omega)) spInfo (all_oneCell_toArray (spC_one _)) ?_
    simp only [List.toList_toArray]
    have hB2 := kcells hHeld (.inl rfl) (spC ⟨O', cap', l, 1, img, 0, 0⟩) (109 + s * 5)
    clear hHeld
    refine hK.out _ _ hB2 (fun hHeld => ?_)
    clear hB2 hK K
    try simp only [Act.put, List.setIfInBounds_toArray, List.set_cons_zero, List.set_cons_succ]
    refine wpAnyH_done (by kernel_rfl) ?_ _
    have HKK := Lib.hid (kkeep HK1.out hHeld)
    clear hHeld HK1 HH1 HR1
    generalize hwx : wr1.setCells P (109 + s * 5) (spC ⟨O', cap', l, 1, img, 0, 0⟩) = wx at *
    clear hwx
    go_wp2_with (refine put_th rfl _ _ rfl HX.out (n := t) (by omega) (Th.of s pc) rfl rfl ?_)
    refine bodyPost_ret (results_tmp3 rfl _ _ _) rfl ?_
    exact ⟨fun h0 => absurd HE'.out h0, fun _ => ⟨s, t, O', cap', HFS.out, HFT.out, rfl, HX.out.putTh (by omega) _, kcells HKK.out (.inl rfl) _ _⟩⟩
  · have HE' := Lib.hid (show bgE H img pc l = 20 by
      rw [HE.out]
      cases hs : frS H with
      | none => rfl
      | some s =>
        cases ht : frT H with
        | none => rfl
        | some t => exact absurd ⟨s, t, hs, ht⟩ hpl)
    have HP := Lib.hid (show plcV H = .tuple #[.int .i64 0, .int .i64 0, .bool false] by
      unfold plcV
      cases hs : frS H with
      | none => rfl
      | some s =>
        cases ht : frT H with
        | none => rfl
        | some t => exact absurd ⟨s, t, hs, ht⟩ hpl)
    clear hpl HE
    go_enter Try.func18, Try.ntmps18
    go_wp2_with fail
    refine (spCheck_any O l.length cap l _ HR.out rfl hcap HW.out).mono ?_
    rintro e w1 ⟨rfl, hb1⟩
    rw [HV.out]
    have HB := Lib.hid hb1
    clear hb1
    go_wp2_with fail
    refine (pcPlaces_any (HH.out.call HB.out)).mono ?_
    rintro e w2 ⟨rfl, rfl⟩
    rw [HP.out]
    go_wp2_with fail
    refine bodyPost_ret (results_tmp3 rfl _ _ _) rfl ?_
    exact BgPost.no HE'.out (by decide) rfl (Went.same HH.out HB.out)
end Go.Proofs.Ytgfogbifbpadoaa
