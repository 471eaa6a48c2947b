/-
  A house's More; a new house.
-/
import Derived.Test.YtgfogbifbpadoaaPcRun
import Derived.Test.YtgfogbifbpadoaaPcFork
namespace Go.Proofs.Ytgfogbifbpadoaa
open Go.RowKit Go.Maps
set_option linter.unusedVariables false
set_option linter.unusedSimpArgs false
variable {w : World} {W : Nat → Prop} {P M K : Nat} {H : Hs}
theorem Hm.thrAt (h : Hm w W P M K H) {n : Nat} (hn : n < 7) : w.cell? ⟨P, 109 + n * 5 + 1, none⟩ = some (.int .i64 (H.sp n).thr) ∧ w.frozen? ⟨P, 109 + n * 5 + 1, none⟩ = false := ⟨h.spAt hn 1 _ rfl, h.cellFree (by omega)⟩
theorem Hm.numAt (h : Hm w W P M K H) {n : Nat} (hn : n < 9) : w.cell? ⟨P, 1 + n * 12, none⟩ = some (.int .i64 (H.th n).sp) := h.thAt hn 0 _ rfl
/-- How many threads a space has may be. -/
def ThrOk (H : Hs) : Prop := ∀ q, q < 7 → 0 ≤ (H.sp q).thr ∧ (H.sp q).thr ≤ 1000
def mrE (H : Hs) (n pc : Int) : Int := if livesB H n then (if pc < 0 then 2 else if (frT H).isSome then 0 else 20) else 4
def mrH (H : Hs) (n pc : Int) : Hs := if mrE H n pc = 0 then
  (H.setTh ((frT H).getD 0) (Th.of (H.th n.toNat).sp.toNat pc)).setSp (H.th n.toNat).sp.toNat { H.sp (H.th n.toNat).sp.toNat with thr := (H.sp (H.th n.toNat).sp.toNat).thr + 1 } else H
theorem pcMore_nil (n pc : Int) (w : World) : Calls Try.prog 19 #[.pointer none, .int .i64 n, .int .i64 pc] w fun e w' => e = .returned (.tuple #[.int .i64 0, .int .i64 1]) ∧ w = w' := by
  go_enter Try.func19, Try.ntmps19
  go_wp2_with fail
  refine bodyPost_ret (results_tmp2 rfl _ _ _) rfl ?_
  exact ⟨rfl, rfl⟩
set_option maxRecDepth 100000 in
set_option maxHeartbeats 2000000 in
theorem pcMore_any (n pc : Int) (hn : I64 n) (hp : I64 pc) (h : Hm w W P M K H) (hso : SpOk H) (hto : ThrOk H) :
    Calls Try.prog 19 #[.pointer (some ⟨P, 0, none⟩), .int .i64 n, .int .i64 pc] w fun e w' => e = .returned (.tuple #[.int .i64 (if mrE H n pc = 0 then (frT H).getD 0 else 0), .int .i64 (mrE H n pc)]) ∧ Went w w' W P M K (mrH H n pc) := by
  have HH := Lib.hid h
  have HN := Lib.hid hn
  have hp0 := hp.1
  have hp1 := hp.2
  clear h hn hp
  rcases hlv : livesB H n with _ | _
  · have HE := Lib.hid (show mrE H n pc = 4 by simp [mrE, hlv])
    have HX := Lib.hid (show mrH H n pc = H by simp [mrH, HE.out])
    have HV := Lib.hid hlv
    rw [HE.out, HX.out, if_neg (by decide)]
    clear hlv
    go_enter Try.func19, Try.ntmps19
    go_wp2_with fail
    refine (pcLives_any n HN.out HH.out).mono ?_
    rintro e w1 ⟨rfl, rfl⟩
    rw [HV.out]
    go_wp2_with fail
    refine bodyPost_ret (results_tmp2 rfl _ _ _) rfl ?_
    exact ⟨rfl, Went.same HH.out (Below.refl _ _)⟩
  obtain ⟨k, rfl, k1, k8, -, -⟩ := livesB_some hlv
  have HV := Lib.hid hlv
  clear hlv
  by_cases a1 : pc < 0
  · have HE := Lib.hid (show mrE H k pc = 2 by simp [mrE, HV.out, a1])
    have HX := Lib.hid (show mrH H k pc = H by simp [mrH, HE.out])
    rw [HE.out, HX.out, if_neg (by decide)]
    go_enter Try.func19, Try.ntmps19
    go_wp2_with fail
    refine (pcLives_any k HN.out HH.out).mono ?_
    rintro e w1 ⟨rfl, rfl⟩
    rw [HV.out]
    go_wp2_with fail
    refine bodyPost_ret (results_tmp2 rfl _ _ _) rfl ?_
    exact ⟨rfl, Went.same HH.out (Below.refl _ _)⟩
  have a1' : 0 ≤ pc := by omega
  cases hft : frT H with
  | none =>
    have HE := Lib.hid (show mrE H k pc = 20 by simp [mrE, HV.out, a1, hft])
    have HX := Lib.hid (show mrH H k pc = H by simp [mrH, HE.out])
    have HT := Lib.hid hft
    rw [HE.out, HX.out, if_neg (by decide)]
    clear a1 hft
    go_enter Try.func19, Try.ntmps19
    go_wp2_with fail
    refine (pcLives_any k HN.out HH.out).mono ?_
    rintro e w1 ⟨rfl, rfl⟩
    rw [HV.out]
    go_wp2_with fail
    refine (least_thread HH.out).mono ?_
    rintro e w1 ⟨rfl, rfl⟩
    rw [HT.out]
    simp only [lstV]
    go_wp2_with fail
    refine bodyPost_ret (results_tmp2 rfl _ _ _) rfl ?_
    exact ⟨rfl, Went.same HH.out (Below.refl _ _)⟩
  | some t =>
    obtain ⟨t1, t8, -⟩ := frT_lt hft
    have HT := Lib.hid hft
    obtain ⟨q, hq⟩ := Int.eq_ofNat_of_zero_le (hso k (by omega)).1
    have q6 : q ≤ 6 := by have := (hso k (by omega)).2; omega
    have HE := Lib.hid (show mrE H k pc = 0 by simp [mrE, HV.out, a1, hft])
    have HX := Lib.hid (show mrH H k pc = (H.setTh t (Th.of q pc)).setSp q { H.sp q with thr := (H.sp q).thr + 1 } by simp [mrH, HE.out, hft, hq])
    rw [HE.out, HX.out, if_pos rfl, Option.getD_some]
    have hnum := HH.out.numAt (n := k) (by omega)
    rw [hq] at hnum
    clear a1 hft hq
    go_enter Try.func19, Try.ntmps19
    go_wp2_with fail
    refine (pcLives_any k HN.out HH.out).mono ?_
    rintro e w1 ⟨rfl, rfl⟩
    rw [HV.out]
    go_wp2_with fail
    refine (least_thread HH.out).mono ?_
    rintro e w1 ⟨rfl, rfl⟩
    rw [HT.out]
    simp only [lstV]
    go_upto_region 12 with (refine put_th rfl _ _ rfl HH.out (n := t) (by omega) (Th.of q pc) rfl rfl ?_)
    refine (show ∀ W1 : World, Hm W1 W P M K (H.setTh t (Th.of q pc)) → Keeps (PM P M) w W1 → Code.wp _ _ _ _ W1 from fun W1 h1 hk1 => ?_) _ (HH.out.putTh (by omega) _) (kcells (Keeps.refl _ _) (.inl rfl) _ _)
    clear hnum
    obtain ⟨hth, htf⟩ := h1.thrAt (n := q) (by omega)
    have hth : W1.cell? ⟨P, 109 + q * 5 + 1, none⟩ = some (.int .i64 (H.sp q).thr) := hth
    obtain ⟨b0, b1⟩ := hto q (by omega)
    have H1 := Lib.hid h1
    have HK1 := Lib.hid hk1
    clear h1 hk1
    have HW := Lib.hid (show wrap64 (((H.setTh t (Th.of q pc)).sp q).thr + 1) = (H.sp q).thr + 1 from by show wrap64 ((H.sp q).thr + 1) = _; unfold wrap64; omega)
    have H2 := Lib.hid ((H1.out.thr1 (n := q) (by omega) ((H.sp q).thr + 1)).call (bd (Below.refl _ _)))
    simp only [Act.put]
    go_region
    rw [HW.out]
    go_wp2_with fail
    refine bodyPost_ret (results_tmp2 rfl _ _ _) rfl ?_
    exact ⟨rfl, H2.out, (kset HK1.out (.inl rfl) _).drew⟩
end Go.Proofs.Ytgfogbifbpadoaa
