/-
  The document's house: Space.
-/
import Derived.Test.YtgfogbifbpadoaaRcFork
namespace Go.Proofs.Ytgfogbifbpadoaa
open Go.RowKit Go.Maps
set_option linter.unusedVariables false
set_option linter.unusedSimpArgs false
variable {w : World} {W : Nat → Prop} {Q : Nat} {R : Rh}
/-- What Space answers. -/
def SpP (n : Int) (e : Ending) : Prop := ∃ (s : Spc) (E : Int), e = .returned (spV s E) ∧ (E = 0 → ∃ k : Nat, n = k ∧ 1 ≤ k ∧ k ≤ 6) ∧ (E ≠ 0 → E = 4)
theorem SpP.no (n : Int) : SpP n (.returned (spV Spc.z 4)) := ⟨Spc.z, 4, rfl, fun h => absurd h (by decide), fun _ => rfl⟩
set_option maxRecDepth 100000 in
set_option maxHeartbeats 4000000 in
theorem rSpace_any (n : Int) (hn : I64 n) (h : Rm w W Q R) :
    Calls Try.prog 49 #[.pointer (some ⟨Q, 0, none⟩), .int .i64 n] w fun e w' => SpP n e ∧ Below w.heap.size w w' := by
  obtain ⟨i0, hi0, hz0, hz1, hz2⟩ := info_parts infoReg
  have HN := Lib.hid hn
  have HH0 := Lib.hid h
  clear h hn
  go_enter Try.func49, Try.ntmps49
  go_upto_region 1 with fail
  refine (show ∀ W1 : World, Below w.heap.size w W1 → Bk W1 w.heap.size 38 (spC Spc.z).toArray → Code.wp _ _ _ _ W1 from fun W1 hb1 hk1 => ?_) _ (ba (Below.refl _ _) _) (Bk.new _ _ _)
  have HB := Lib.hid hb1
  have HK := Lib.hid hk1
  have HH := Lib.hid (HH0.out.call hb1)
  have l1 := hk1.lt
  clear hb1 hk1 HH0
  by_cases a1 : 1 ≤ n
  · by_cases a2 : n ≤ 6
    · obtain ⟨k, rfl⟩ := Int.eq_ofNat_of_zero_le (show 0 ≤ n by omega)
      obtain ⟨b, hb⟩ := HH.out.hr k (by omega)
      rcases b with _ | _
      · go_upto_region 2 with fail
        go_wp2_with (refine box_sp rfl _ _ rfl w.heap.size Spc.z _ rfl rfl HK.out rfl ?_)
        refine bodyPost_ret (res_sp (g := w.heap.size) rfl _ _ (spC Spc.z).toArray _ rfl rfl (HK.out.row _) rfl) rfl ?_
        exact ⟨SpP.no _, brow HB.out (Nat.le_refl _) _⟩
      · have HKz := Lib.hid (Bk.new W1 38 #[.slice none 0 0, .int .i64 0, .int .i64 0, .int .i64 0, .int .i64 0])
        go_upto_region 3 with fail
        go_upto_region 4 with (first | refine rget_sp rfl _ rfl HH.out (n := k) (by omega) rfl ?_ | refine box_sp rfl _ _ rfl W1.heap.size (R.sp k) _ rfl rfl HKz.out rfl ?_)
        refine (show ∀ W4 : World, Below W1.heap.size W1 W4 → Bk W4 W1.heap.size 38 (spC (R.sp k)).toArray → Code.wp _ _ _ _ W4 from fun W4 hb4 hk4 => ?_) _ (brow (ba (Below.refl _ _) _) (Nat.le_refl _) _) (HKz.out.row _)
        have x0 := hk4.spc.1
        have f0 := hk4.frozen 0
        have HB4 := Lib.hid hb4
        have HK4 := Lib.hid hk4
        clear hb4 hk4 HKz hb
        go_upto_region 5 with fail
        refine (show ∀ W5 : World, Below W1.heap.size W1 W5 → Bk W5 W1.heap.size 38 (spC { R.sp k with O := none, cap := 0, l := [] }).toArray → Code.wp _ _ _ _ W5 from fun W5 hb5 hk5 => ?_) _ (bs HB4.out (p := ⟨W1.heap.size, 0, none⟩) (Nat.le_refl _) (.slice none 0 0)) (HK4.out.set 0 _)
        clear x0 f0 HB4 HK4
        have HH5 := Lib.hid (HH.out.call hb5)
        have HK5 := Lib.hid hk5
        have HY5 := Lib.hid hb5
        have HB5 := Lib.hid (bthen HB.out hb5)
        have HKo := Lib.hid (HK.out.call hb5)
        obtain ⟨y0, -⟩ := HH5.out.spc (n := k) (by omega)
        have x0 := hk5.spc.1
        have f0 := hk5.frozen 0
        have l5 := hk5.lt
        have lQ := HH5.out.lt Q HH5.out.WQ
        obtain ⟨⟨hrf0, -⟩, hrc, hrk⟩ := HH5.out.rf k (by omega)
        have HR5d := Lib.hid (hrf0.call (bd (Below.refl W5.heap.size W5)))
        have h8 := (chk_parts hrk).1
        have hk7 : (k : Int) < 7 := by omega
        clear hb5 hk5 hrf0 hrk
        have HRK := Lib.hid (show RK encG 3 W5.drew (R.sp k).O (R.sp k).l from HR5d.out.rk)
        have hwl : W1.heap.size < W5.drew.heap.size := l5
        go_wp2_with fail
        go_region_law ((refine step_app (enc := encG) (k := 3) (by rfl) _ _ 32 (by rfl) W5.heap.size 79 i0 _ 24 Try.underlying32 hi0 hz0 hz1 hz2 (by rfl) (by decide) encG_len encG_one (.slice none 0 0) [] (by rfl) (Ow.nil _ _ _) (R.sp k).l (R.sp k).O (R.sp k).l.length (R.sp k).cap (by rfl) (by rfl) (by exact HRK.out) (by simp; omega) (by decide) W5 (bd (Below.refl W5.heap.size W5)) (Nat.le_refl _) ?_; intro v' w9 o1 o2; have hO9 : Ow encG 3 79 w9 W5.heap.size v' (R.sp k).l := (by simpa using o1); have HX9 := Lib.hid (show Below W5.heap.size W5 w9 from o2); obtain ⟨O', cap', rfl, hc', -⟩ := hO9.form encG_len; have HK9 := Lib.hid (HK5.out.call HX9.out); have HKp := Lib.hid (HKo.out.call HX9.out); have f9 := HK9.out.frozen 0; have x9 := HK9.out.spc.1; clear o1 hO9 o2))
        all_goals
          have HKq := Lib.hid (show Bk (w9.setCell ⟨W1.heap.size, 0, none⟩ (.slice O' (R.sp k).l.length cap')) W1.heap.size 38 (spC { R.sp k with O := O', cap := cap' }).toArray from HK9.out.set 0 _)
          have HKr := Lib.hid (HKp.out.far (p := ⟨W1.heap.size, 0, none⟩) (by show w.heap.size ≠ W1.heap.size; omega) (.slice O' (R.sp k).l.length cap'))
          have HBr := Lib.hid (bs (bthen HB5.out HX9.out) (p := ⟨W1.heap.size, 0, none⟩) (by show w.heap.size ≤ W1.heap.size; omega) (.slice O' (R.sp k).l.length cap'))
          go_wp2_with (first | refine unbox_sp rfl _ rfl W1.heap.size _ rfl HKq.out rfl ?_ | refine box_sp rfl _ _ rfl w.heap.size { R.sp k with O := O', cap := cap' } _ rfl rfl HKr.out rfl ?_)
          refine bodyPost_ret (res_sp (g := w.heap.size) rfl _ _ (spC { R.sp k with O := O', cap := cap' }).toArray _ rfl rfl (HKr.out.row _) rfl) rfl ?_
          exact ⟨⟨_, 0, rfl, fun _ => ⟨k, rfl, by omega, by omega⟩, fun h => absurd rfl h⟩, brow HBr.out (Nat.le_refl _) _⟩
    · have a2' : 6 < n := by omega
      clear a2
      go_wp2_with (refine box_sp rfl _ _ rfl w.heap.size Spc.z _ rfl rfl HK.out rfl ?_)
      refine bodyPost_ret (res_sp (g := w.heap.size) rfl _ _ (spC Spc.z).toArray _ rfl rfl (HK.out.row _) rfl) rfl ?_
      exact ⟨SpP.no _, brow HB.out (Nat.le_refl _) _⟩
  · have a1' : n < 1 := by omega
    clear a1
    go_wp2_with (refine box_sp rfl _ _ rfl w.heap.size Spc.z _ rfl rfl HK.out rfl ?_)
    refine bodyPost_ret (res_sp (g := w.heap.size) rfl _ _ (spC Spc.z).toArray _ rfl rfl (HK.out.row _) rfl) rfl ?_
    exact ⟨SpP.no _, brow HB.out (Nat.le_refl _) _⟩
end Go.Proofs.Ytgfogbifbpadoaa
