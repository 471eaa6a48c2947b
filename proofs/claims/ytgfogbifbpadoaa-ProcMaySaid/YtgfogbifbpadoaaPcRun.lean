/-
  A house's Run, Stop.
-/
import Derived.Test.YtgfogbifbpadoaaPcBegin
import Derived.Deep.DeepCutAuto
namespace Go.Proofs.Ytgfogbifbpadoaa
open Go.RowKit Go.Maps
set_option linter.unusedVariables false
set_option linter.unusedSimpArgs false
variable {w : World} {W : Nat → Prop} {P M K : Nat} {H : Hs}
theorem Hm.core1 (h : Hm w W P M K H) {n : Nat} (hn : n < 9) (c : Int) : Hm (w.setCell ⟨P, 1 + n * 12 + 10, none⟩ (.int .i64 c)) W P M K (H.setTh n { H.th n with core := c }) :=
  h.setTh1 hn (k := 10) (by omega) (.int .i64 c) { H.th n with core := c } rfl
theorem Hm.dead1 (h : Hm w W P M K H) {n : Nat} (hn : n < 9) (b : Bool) : Hm (w.setCell ⟨P, 1 + n * 12 + 11, none⟩ (.bool b)) W P M K (H.setTh n { H.th n with dead := b }) :=
  h.setTh1 hn (k := 11) (by omega) (.bool b) { H.th n with dead := b } rfl
theorem Hm.thr1 (h : Hm w W P M K H) {n : Nat} (hn : n < 7) (x : Int) : Hm (w.setCell ⟨P, 109 + n * 5 + 1, none⟩ (.int .i64 x)) W P M K (H.setSp n { H.sp n with thr := x }) :=
  h.setSp1 hn (k := 1) (by omega) (.int .i64 x) { H.sp n with thr := x } rfl (h.rf n hn)
theorem Hm.coreAt (h : Hm w W P M K H) {n : Nat} (hn : n < 9) : w.cell? ⟨P, 1 + n * 12 + 10, none⟩ = some (.int .i64 (H.th n).core) ∧ w.frozen? ⟨P, 1 + n * 12 + 10, none⟩ = false := ⟨h.thAt hn 10 _ rfl, h.cellFree (by omega)⟩
def rnE (H : Hs) (n c : Int) : Int := if coreB H c then (if livesB H n then (if (H.on c).isSome || !((H.th n.toNat).core == 0) then 240 else 0) else 4) else 2
def rnH (H : Hs) (n c : Int) : Hs := if rnE H n c = 0 then (H.setTh n.toNat { H.th n.toNat with core := c }).setOn (updI H.on c (some n)) else H
theorem pcRun_nil (n c : Int) (w : World) : Calls Try.prog 22 #[.pointer none, .int .i64 n, .int .i64 c] w fun e w' => e = .returned (.int .i64 1) ∧ w = w' := by
  go_enter Try.func22, Try.ntmps22
  go_wp2_with fail
  go_ret
  exact ⟨rfl, rfl⟩
set_option maxRecDepth 100000 in
set_option maxHeartbeats 2000000 in
theorem pcRun_any (n c : Int) (hn : I64 n) (hc : I64 c) (h : Hm w W P M K H) (hK : K < 100000) :
    Calls Try.prog 22 #[.pointer (some ⟨P, 0, none⟩), .int .i64 n, .int .i64 c] w fun e w' => e = .returned (.int .i64 (rnE H n c)) ∧ Went w w' W P M (K + 1) (rnH H n c) := by
  have HH := Lib.hid h
  have HN := Lib.hid hn
  have HC := Lib.hid hc
  have hc0 := hc.1
  have hc1 := hc.2
  have hn0 := hn.1
  have hn1 := hn.2
  clear h hn hc
  rcases hco : coreB H c with _ | _
  · have HE := Lib.hid (show rnE H n c = 2 by simp [rnE, hco])
    have HX := Lib.hid (show rnH H n c = H by simp [rnH, HE.out])
    have HV := Lib.hid hco
    clear hco
    go_enter Try.func22, Try.ntmps22
    go_wp2_with fail
    refine (pcCore_any c HC.out HH.out).mono ?_
    rintro e w1 ⟨rfl, rfl⟩
    rw [HV.out]
    go_wp2_with fail
    go_ret
    exact ⟨ret_int HE.out.symm, by rw [HX.out]; exact Went.same (HH.out.more (by omega)) (Below.refl _ _)⟩
  have HV := Lib.hid hco
  clear hco
  rcases hlv : livesB H n with _ | _
  · have HE := Lib.hid (show rnE H n c = 4 by simp [rnE, HV.out, hlv])
    have HX := Lib.hid (show rnH H n c = H by simp [rnH, HE.out])
    have HL := Lib.hid hlv
    clear hlv
    go_enter Try.func22, Try.ntmps22
    go_wp2_with fail
    refine (pcCore_any c HC.out HH.out).mono ?_
    rintro e w1 ⟨rfl, rfl⟩
    rw [HV.out]
    go_wp2_with fail
    refine (pcLives_any n HN.out HH.out).mono ?_
    rintro e w1 ⟨rfl, rfl⟩
    rw [HL.out]
    go_wp2_with fail
    go_ret
    exact ⟨ret_int HE.out.symm, by rw [HX.out]; exact Went.same (HH.out.more (by omega)) (Below.refl _ _)⟩
  obtain ⟨k, rfl, k1, k8, -, -⟩ := livesB_some hlv
  have HL := Lib.hid hlv
  clear hlv
  have hcl := HH.out.c1
  have hlk := HH.out.map.look HC.out
  obtain ⟨hcr, hcf⟩ := HH.out.coreAt (n := k) (by omega)
  by_cases hb : (H.on c).isSome = false ∧ (H.th k).core = 0
  · obtain ⟨hb1, hb2⟩ := hb
    have HE := Lib.hid (show rnE H k c = 0 by simp [rnE, HV.out, HL.out, hb1, hb2])
    have HX := Lib.hid (show rnH H k c = (H.setTh k { H.th k with core := c }).setOn (updI H.on c (some k)) by simp [rnH, HE.out])
    rw [hb1] at hlk
    rw [hb2] at hcr
    generalize (H.on c).getD 0 = d at *
    go_enter Try.func22, Try.ntmps22
    go_wp2_with fail
    refine (pcCore_any c HC.out HH.out).mono ?_
    rintro e w1 ⟨rfl, rfl⟩
    rw [HV.out]
    go_wp2_with fail
    refine (pcLives_any k HN.out HH.out).mono ?_
    rintro e w1 ⟨rfl, rfl⟩
    rw [HL.out]
    go_upto_region 11 with fail
    refine (show ∀ W1 : World, Hm W1 W P M K (H.setTh k { H.th k with core := c }) → Keeps (PM P M) w W1 → Code.wp _ _ _ _ W1 from fun W1 h1 hk1 => ?_) _ (HH.out.core1 (by omega) c) (kset (Keeps.refl _ _) (.inl rfl) _)
    clear hcl hlk hcr hcf
    have hcl := h1.c1
    obtain ⟨w2, hup, hon, hk2⟩ := h1.map.put HC.out (t := k) HN.out hK
    have HK2 := Lib.hid (kkeep hk1 (hk2.mono (fun x hx => .inr hx)))
    have HO := Lib.hid (h1.putOn hk2 hon)
    clear hon hk2 hk1
    go_wp2_with fail
    go_ret
    exact ⟨ret_int HE.out.symm, by rw [HX.out]; exact ⟨HO.out, HK2.out⟩⟩
  · have HE := Lib.hid (show rnE H k c = 240 by
      simp [rnE, HV.out, HL.out]
      intro h1 h2
      exact hb ⟨by simp [h1], h2⟩)
    have HX := Lib.hid (show rnH H k c = H by simp [rnH, HE.out])
    go_enter Try.func22, Try.ntmps22
    go_wp2_with fail
    refine (pcCore_any c HC.out HH.out).mono ?_
    rintro e w1 ⟨rfl, rfl⟩
    rw [HV.out]
    go_wp2_with fail
    refine (pcLives_any k HN.out HH.out).mono ?_
    rintro e w1 ⟨rfl, rfl⟩
    rw [HL.out]
    rcases hs : (H.on c).isSome with _ | _
    · rw [hs] at hlk
      have hne : (H.th k).core ≠ 0 := fun e => hb ⟨hs, e⟩
      clear hb hs
      generalize (H.on c).getD 0 = d at *
      generalize (H.th k).core = x at *
      have hx : (x != 0) = true := by simpa using hne
      clear hne
      go_wp2_with fail
      go_ret
      exact ⟨ret_int HE.out.symm, by rw [HX.out]; exact Went.same (HH.out.more (by omega)) (Below.refl _ _)⟩
    · rw [hs] at hlk
      clear hb hs
      generalize (H.on c).getD 0 = d at *
      clear hcr hcf
      go_wp2_with fail
      go_ret
      exact ⟨ret_int HE.out.symm, by rw [HX.out]; exact Went.same (HH.out.more (by omega)) (Below.refl _ _)⟩
/-- Who runs is a thread. -/
def OnOk (H : Hs) : Prop := ∀ c t, H.on c = some t → ∃ k : Nat, t = k ∧ k < 9
def stE (H : Hs) (c : Int) : Int := if coreB H c then (if (H.on c).isSome then 0 else 4) else 2
def stH (H : Hs) (c : Int) : Hs := if stE H c = 0 then (H.setTh ((H.on c).getD 0).toNat { H.th ((H.on c).getD 0).toNat with core := 0 }).setOn (updI H.on c none) else H
theorem pcStop_nil (c : Int) (w : World) : Calls Try.prog 21 #[.pointer none, .int .i64 c] w fun e w' => e = .returned (.tuple #[.int .i64 0, .int .i64 1]) ∧ w = w' := by
  go_enter Try.func21, Try.ntmps21
  go_wp2_with fail
  refine bodyPost_ret (results_tmp2 rfl _ _ _) rfl ?_
  exact ⟨rfl, rfl⟩
set_option maxRecDepth 100000 in
set_option maxHeartbeats 2000000 in
theorem pcStop_any (c : Int) (hc : I64 c) (h : Hm w W P M K H) (ho : OnOk H) :
    Calls Try.prog 21 #[.pointer (some ⟨P, 0, none⟩), .int .i64 c] w fun e w' => e = .returned (.tuple #[.int .i64 (if stE H c = 0 then (H.on c).getD 0 else 0), .int .i64 (stE H c)]) ∧ Went w w' W P M K (stH H c) := by
  have HH := Lib.hid h
  have HC := Lib.hid hc
  clear h hc
  rcases hco : coreB H c with _ | _
  · have HE := Lib.hid (show stE H c = 2 by simp [stE, hco])
    have HX := Lib.hid (show stH H c = H by simp [stH, HE.out])
    have HV := Lib.hid hco
    rw [HE.out, HX.out]
    clear hco
    go_enter Try.func21, Try.ntmps21
    go_wp2_with fail
    refine (pcCore_any c HC.out HH.out).mono ?_
    rintro e w1 ⟨rfl, rfl⟩
    rw [HV.out]
    go_wp2_with fail
    refine bodyPost_ret (results_tmp2 rfl _ _ _) rfl ?_
    exact ⟨rfl, Went.same HH.out (Below.refl _ _)⟩
  have HV := Lib.hid hco
  clear hco
  have hcl := HH.out.c1
  have hlk := HH.out.map.look HC.out
  cases hon : H.on c with
  | none =>
    have HE := Lib.hid (show stE H c = 4 by simp [stE, HV.out, hon])
    have HX := Lib.hid (show stH H c = H by simp [stH, HE.out])
    rw [HE.out, HX.out]
    rw [hon] at hlk
    clear hon
    simp only [Option.getD_none, Option.isSome_none] at hlk
    go_enter Try.func21, Try.ntmps21
    go_wp2_with fail
    refine (pcCore_any c HC.out HH.out).mono ?_
    rintro e w1 ⟨rfl, rfl⟩
    rw [HV.out]
    go_wp2_with fail
    refine bodyPost_ret (results_tmp2 rfl _ _ _) rfl ?_
    exact ⟨rfl, Went.same HH.out (Below.refl _ _)⟩
  | some t =>
    obtain ⟨k, rfl, k9⟩ := ho c t hon
    have HE := Lib.hid (show stE H c = 0 by simp [stE, HV.out, hon])
    have HX := Lib.hid (show stH H c = (H.setTh k { H.th k with core := 0 }).setOn (updI H.on c none) by simp [stH, HE.out, hon])
    rw [HE.out, HX.out, if_pos rfl, Option.getD_some]
    rw [hon] at hlk
    clear hon
    simp only [Option.getD_some, Option.isSome_some] at hlk
    obtain ⟨hcr, hcf⟩ := HH.out.coreAt k9
    go_enter Try.func21, Try.ntmps21
    go_wp2_with fail
    refine (pcCore_any c HC.out HH.out).mono ?_
    rintro e w1 ⟨rfl, rfl⟩
    rw [HV.out]
    go_upto_region 9 with fail
    refine (show ∀ W1 : World, Hm W1 W P M K (H.setTh k { H.th k with core := 0 }) → Keeps (PM P M) w W1 → Code.wp _ _ _ _ W1 from fun W1 h1 hk1 => ?_) _ (HH.out.core1 k9 0) (kset (Keeps.refl _ _) (.inl rfl) _)
    clear hcl hlk hcr hcf
    have hcl := h1.c1
    obtain ⟨w2, hup, hon, hk2⟩ := h1.map.del HC.out 0
    have HK2 := Lib.hid (kkeep hk1 (hk2.mono (fun x hx => .inr hx)))
    have HO := Lib.hid (h1.putOn hk2 hon)
    clear hon hk2 hk1
    go_wp2_with fail
    refine bodyPost_ret (results_tmp2 rfl _ _ _) rfl ?_
    exact ⟨rfl, HO.out, HK2.out⟩
end Go.Proofs.Ytgfogbifbpadoaa
