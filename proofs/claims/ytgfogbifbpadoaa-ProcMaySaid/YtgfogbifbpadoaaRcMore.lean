/-
  The document's house: More, Run, Stop.
-/
import Derived.Test.YtgfogbifbpadoaaRcBegin
import Derived.Deep.DeepCutAuto
namespace Go.Proofs.Ytgfogbifbpadoaa
open Go.RowKit Go.Maps
set_option linter.unusedVariables false
set_option linter.unusedSimpArgs false
variable {w : World} {W : Nat → Prop} {Q : Nat} {R : Rh}
/-- A number and an errno; an errno; a bool and an errno. -/
def NeP (e : Ending) : Prop := ∃ a b : Int, e = .returned (.tuple #[.int .i64 a, .int .i64 b])
def EpP (e : Ending) : Prop := ∃ b : Int, e = .returned (.int .i64 b)
def BeP (e : Ending) : Prop := ∃ (a : Bool) (b : Int), e = .returned (.tuple #[.bool a, .int .i64 b])
set_option maxRecDepth 100000 in
set_option maxHeartbeats 4000000 in
theorem rMore_any (n pc : Int) (hn : I64 n) (hp : I64 pc) (h : Rm w W Q R) :
    Calls Try.prog 28 #[.pointer (some ⟨Q, 0, none⟩), .int .i64 n, .int .i64 pc] w fun e w' => NeP e ∧ RWent w w' W Q := by
  have HH := Lib.hid h
  have HN := Lib.hid hn
  have hp0 := hp.1
  have hp1 := hp.2
  clear h hn hp
  go_enter Try.func28, Try.ntmps28
  go_wp2_with fail
  refine (rlive_any n HN.out HH.out).mono ?_
  rintro e w1 ⟨⟨b, rfl, hb⟩, rfl⟩
  rcases b with _ | _
  · go_wp2_with fail
    refine bodyPost_ret (results_tmp2 rfl _ _ _) rfl ?_
    exact ⟨⟨_, _, rfl⟩, RWent.same HH.out (Below.refl _ _)⟩
  obtain ⟨k, rfl, k1, k8⟩ := hb rfl
  clear hb
  by_cases a1 : pc < 0
  · go_wp2_with fail
    refine bodyPost_ret (results_tmp2 rfl _ _ _) rfl ?_
    exact ⟨⟨_, _, rfl⟩, RWent.same HH.out (Below.refl _ _)⟩
  have a1' : 0 ≤ pc := by omega
  clear a1
  go_wp2_with fail
  refine (rfreeThread_any HH.out).mono ?_
  rintro e w2 ⟨⟨t, t8, rfl⟩, rfl⟩
  by_cases ht : t = 0
  · subst ht
    go_wp2_with fail
    refine bodyPost_ret (results_tmp2 rfl _ _ _) rfl ?_
    exact ⟨⟨_, _, rfl⟩, RWent.same HH.out (Below.refl _ _)⟩
  have ht2 : (((t : Nat) : Int) == 0) = false := beq_eq_false_iff_ne.2 (by omega)
  obtain ⟨o1, o2⟩ := HH.out.ok k (by omega)
  obtain ⟨q, hq⟩ := Int.eq_ofNat_of_zero_le o1
  have q6 : q ≤ 6 := by omega
  have hnum := HH.out.num (n := k) (by omega)
  rw [hq] at hnum
  clear o1 o2 hq
  go_upto_region 9 with fail
  go_upto_region 10 with (refine rput_th rfl _ _ rfl HH.out (n := t) (by omega) (Th.of q pc) rfl rfl ?_)
  refine (show ∀ W1 : World, (∃ R', Rm W1 W Q R') → Keeps (fun x => x = Q) w W1 → Code.wp _ _ _ _ W1 from fun W1 ha hk1 => ?_) _ ⟨_, HH.out.putTh (n := t) (by omega) (Th.of q pc) ⟨by show (0 : Int) ≤ q; omega, by show (q : Int) ≤ 6; omega⟩⟩ (kcells (Keeps.refl (fun x => x = Q) w) rfl _ _)
  obtain ⟨R1, hR1⟩ := ha
  have hth := hR1.spAt (n := q) (by omega) 1 _ rfl
  have htf := hR1.cellFree (o := 109 + q * 5 + 1) (by omega)
  have H1 := Lib.hid hR1
  have HK1 := Lib.hid hk1
  clear hR1 hk1 hnum ht2
  simp only [Act.put]
  go_region
  go_wp2_with fail
  refine bodyPost_ret (results_tmp2 rfl _ _ _) rfl ?_
  exact ⟨⟨_, _, rfl⟩, ⟨_, (H1.out.setSp1 (n := q) (k := 1) (by omega) (by omega) (.int .i64 (wrap64 ((R1.sp q).thr + 1))) { R1.sp q with thr := wrap64 ((R1.sp q).thr + 1) } rfl (H1.out.rf q (by omega))).call (bd (Below.refl _ _))⟩, (kset HK1.out rfl _).drew⟩
set_option maxRecDepth 100000 in
set_option maxHeartbeats 4000000 in
theorem rRun_any (n c : Int) (hn : I64 n) (hc : I64 c) (h : Rm w W Q R) :
    Calls Try.prog 30 #[.pointer (some ⟨Q, 0, none⟩), .int .i64 n, .int .i64 c] w fun e w' => EpP e ∧ RWent w w' W Q := by
  have HH := Lib.hid h
  have HN := Lib.hid hn
  have HC := Lib.hid hc
  obtain ⟨k0, hc0⟩ := h.c0
  clear h hn hc
  by_cases a1 : c < 1
  · go_enter Try.func30, Try.ntmps30
    go_wp2_with fail
    go_ret
    exact ⟨⟨_, rfl⟩, RWent.same HH.out (Below.refl _ _)⟩
  have a1' : 1 ≤ c := by omega
  clear a1
  by_cases a2 : k0 < c
  · go_enter Try.func30, Try.ntmps30
    go_wp2_with fail
    go_ret
    exact ⟨⟨_, rfl⟩, RWent.same HH.out (Below.refl _ _)⟩
  have a2' : c ≤ k0 := by omega
  clear a2
  go_enter Try.func30, Try.ntmps30
  go_wp2_with fail
  refine (rlive_any n HN.out HH.out).mono ?_
  rintro e w1 ⟨⟨b, rfl, hb⟩, rfl⟩
  rcases b with _ | _
  · go_wp2_with fail
    go_ret
    exact ⟨⟨_, rfl⟩, RWent.same HH.out (Below.refl _ _)⟩
  obtain ⟨k, rfl, k1, k8⟩ := hb rfl
  clear hb
  go_wp2_with fail
  refine (rOn_any c HC.out HH.out).mono ?_
  rintro e w1 ⟨⟨t, b, t8, rfl⟩, rfl⟩
  rcases b with _ | _
  · have hcr := HH.out.thAt (n := k) (by omega) 10 _ rfl
    have hcf := HH.out.cellFree (o := 1 + k * 12 + 10) (by omega)
    generalize hx : (R.th k).core = x at hcr
    by_cases hx0 : x = 0
    · subst hx0
      go_wp2_with fail
      go_ret
      exact ⟨⟨_, rfl⟩, ⟨_, HH.out.setTh1 (n := k) (k := 10) (by omega) (by omega) (.int .i64 c) { R.th k with core := c } rfl (HH.out.ok k (by omega))⟩, kset (Keeps.refl (fun x => x = Q) w) rfl _⟩
    · have hx2 : (x != 0) = true := by simpa using hx0
      clear hx0
      go_wp2_with fail
      go_ret
      exact ⟨⟨_, rfl⟩, RWent.same HH.out (Below.refl _ _)⟩
  · go_wp2_with fail
    go_ret
    exact ⟨⟨_, rfl⟩, RWent.same HH.out (Below.refl _ _)⟩
set_option maxRecDepth 100000 in
set_option maxHeartbeats 4000000 in
theorem rStop_any (c : Int) (hc : I64 c) (h : Rm w W Q R) :
    Calls Try.prog 31 #[.pointer (some ⟨Q, 0, none⟩), .int .i64 c] w fun e w' => NeP e ∧ RWent w w' W Q := by
  have HH := Lib.hid h
  have HC := Lib.hid hc
  obtain ⟨k0, hc0⟩ := h.c0
  clear h hc
  by_cases a1 : c < 1
  · go_enter Try.func31, Try.ntmps31
    go_wp2_with fail
    refine bodyPost_ret (results_tmp2 rfl _ _ _) rfl ?_
    exact ⟨⟨_, _, rfl⟩, RWent.same HH.out (Below.refl _ _)⟩
  have a1' : 1 ≤ c := by omega
  clear a1
  by_cases a2 : k0 < c
  · go_enter Try.func31, Try.ntmps31
    go_wp2_with fail
    refine bodyPost_ret (results_tmp2 rfl _ _ _) rfl ?_
    exact ⟨⟨_, _, rfl⟩, RWent.same HH.out (Below.refl _ _)⟩
  have a2' : c ≤ k0 := by omega
  clear a2
  go_enter Try.func31, Try.ntmps31
  go_wp2_with fail
  refine (rOn_any c HC.out HH.out).mono ?_
  rintro e w1 ⟨⟨t, b, t8, rfl⟩, rfl⟩
  rcases b with _ | _
  · go_wp2_with fail
    refine bodyPost_ret (results_tmp2 rfl _ _ _) rfl ?_
    exact ⟨⟨_, _, rfl⟩, RWent.same HH.out (Below.refl _ _)⟩
  · have hcr := HH.out.thAt (n := t) (by omega) 10 _ rfl
    have hcf := HH.out.cellFree (o := 1 + t * 12 + 10) (by omega)
    go_wp2_with fail
    refine bodyPost_ret (results_tmp2 rfl _ _ _) rfl ?_
    exact ⟨⟨_, _, rfl⟩, ⟨_, HH.out.setTh1 (n := t) (k := 10) (by omega) (by omega) (.int .i64 0) { R.th t with core := 0 } rfl (HH.out.ok t (by omega))⟩, kset (Keeps.refl (fun x => x = Q) w) rfl _⟩
end Go.Proofs.Ytgfogbifbpadoaa
