/-
  The document's house: SetThread.
-/
import Derived.Test.YtgfogbifbpadoaaRcSpace
namespace Go.Proofs.Ytgfogbifbpadoaa
open Go.RowKit Go.Maps
set_option linter.unusedVariables false
set_option linter.unusedSimpArgs false
variable {w : World} {W : Nat → Prop} {Q : Nat} {R : Rh}
set_option maxRecDepth 100000 in
set_option maxHeartbeats 8000000 in
theorem rSetThread_any (n : Int) (t : Th) (hn : I64 n) (h : Rm w W Q R) :
    Calls Try.prog 32 #[.pointer (some ⟨Q, 0, none⟩), .int .i64 n, .agg (thC t).toArray] w fun e w' => EpP e ∧ RWent w w' W Q := by
  have HB0 := Lib.hid (ba (Below.refl w.heap.size w) (.cells (thC t).toArray 36))
  have HT0 := Lib.hid (Bk.new w 36 (thC t).toArray)
  have HH := Lib.hid h
  have HN := Lib.hid hn
  have hlQ := h.lt Q h.WQ
  clear h hn
  go_enter Try.func32, Try.ntmps32
  go_wp2_with fail
  refine (rThread_any n HN.out (HH.out.call HB0.out)).mono ?_
  rintro e w1 ⟨⟨T, E, rfl, hE, hE4⟩, hb1⟩
  have HB1 := Lib.hid (bthen HB0.out hb1)
  have HT1 := Lib.hid (HT0.out.call hb1)
  have HKz := Lib.hid (Bk.new w1 36 #[.int .i64 0, .int .u64 0, .int .u64 0, .int .u64 0, .int .u64 0, .int .u64 0, .int .u64 0, .int .u64 0, .int .u64 0, .int .i64 0, .int .i64 0, .bool false])
  clear hb1 HT0 HB0
  simp only [thV]
  go_upto_region 2 with (refine box_th rfl _ _ rfl w1.heap.size T _ rfl rfl HKz.out rfl ?_)
  refine (show ∀ W2 : World, Below w1.heap.size w1 W2 → Bk W2 w1.heap.size 36 (thC T).toArray → Code.wp _ _ _ _ W2 from fun W2 hb2 hk2 => ?_) _ (brow (ba (Below.refl _ _) _) (Nat.le_refl _) _) (HKz.out.row _)
  have HB2 := Lib.hid (bthen HB1.out hb2)
  have HT2 := Lib.hid (HT1.out.call hb2)
  have HK2 := Lib.hid hk2
  have HH2 := Lib.hid (HH.out.call HB2.out)
  clear hb2 hk2 HKz HT1 HB1
  by_cases h0 : E = 0
  · subst h0
    obtain ⟨k, rfl, k1, k8, rfl⟩ := hE rfl
    clear hE hE4
    obtain ⟨x0, -, -, -, -, -, -, -, -, x9, x10, x11⟩ := HT2.out.th
    obtain ⟨y0, -, -, -, -, -, -, -, -, y9, y10, y11⟩ := HK2.out.th
    have ok := HH.out.ok k (by omega)
    by_cases h1 : t.sp = (R.th k).sp
    · by_cases h2 : t.core = (R.th k).core
      · by_cases h3 : t.dead = (R.th k).dead
        · by_cases h4 : 0 ≤ t.pc
          · rw [h1] at x0
            rw [h2] at x10
            rw [h3] at x11
            have hs : 0 ≤ t.sp ∧ t.sp ≤ 6 := by rw [h1]; exact ok
            clear h1 h2 h3 ok
            have HH2d := Lib.hid (HH2.out.call (bd (Below.refl W2.heap.size W2)))
            have hk9 : (k : Int) < 9 := by omega
            go_upto_region 6 with fail
            go_wp2_with fail
            refine wp_region_held_drew (S := fun w' => Keeps (fun x => x = Q) W2 w') (by kernel_rfl) (Keeps.refl _ _).drew (fun hHeld => ?_)
            refine wpAnyH_take (i := 0) (oi := ⟨_, _, _, _, _, _⟩) (v := ?vc0) rfl (by kernel_rfl) (by kernel_rfl) (by kernel_rfl) (fun _ _ _ h => h) (Or.inl ⟨by rfl, ?hyc0⟩) hHeld ?restc0
            case hyc0 => (intro w' hSw; go_simp; (try rw [if_pos hk9]); try with_reducible rfl)
            try simp only [Act.put, List.setIfInBounds_toArray, List.set_cons_zero, List.set_cons_succ]
            refine wpAnyH_take (i := 1) (oi := ⟨_, _, _, _, _, _⟩) (v := ?vc1) rfl (by kernel_rfl) (by kernel_rfl) (by kernel_rfl) (fun _ _ _ h => h) (Or.inl ⟨by rfl, ?hyc1⟩) hHeld ?restc1
            case hyc1 => (intro w' hSw; go_simp; (try rw [if_pos hk9]); try with_reducible rfl)
            try simp only [Act.put, List.setIfInBounds_toArray, List.set_cons_zero, List.set_cons_succ]
            refine wpAnyH_take (i := 2) (oi := ⟨_, _, _, _, _, _⟩) (v := .agg (thC t).toArray) rfl (by kernel_rfl) (by kernel_rfl) (by kernel_rfl) (fun _ _ _ h => h) (yieldsIf_load_mid (by rfl) 36 _ rfl w.heap.size 0 rfl (thC t) _ (fun w' hSw => (HT2.out.keep hSw (by omega)).range) Try.underlying36 rfl thInfo) hHeld ?_
            try simp only [Act.put, List.setIfInBounds_toArray, List.set_cons_zero, List.set_cons_succ]
            refine wpAnyH_take (i := 3) (oi := ⟨_, _, _, _, _, _⟩) (v := ?vc3) rfl (by kernel_rfl) (by kernel_rfl) (by kernel_rfl) (fun _ _ _ h => h) (Or.inl ⟨by rfl, ?hyc3⟩) hHeld ?restc3
            case hyc3 => (intro w' hSw; go_simp; (try rw [if_pos hk9]); try with_reducible rfl)
            try simp only [Act.put, List.setIfInBounds_toArray, List.set_cons_zero, List.set_cons_succ]
            refine wpAnyH_take (i := 4) (oi := ⟨_, _, _, _, _, _⟩) (v := ?vc4) rfl (by kernel_rfl) (by kernel_rfl) (by kernel_rfl) (fun _ _ _ h => h) (Or.inl ⟨by rfl, ?hyc4⟩) hHeld ?restc4
            case hyc4 => (intro w' hSw; go_simp; (try rw [if_pos hk9]); try with_reducible rfl)
            try simp only [Act.put, List.setIfInBounds_toArray, List.set_cons_zero, List.set_cons_succ]
            refine wpAnyH_take (i := 5) (oi := ⟨_, _, _, _, _, _⟩) (v := ?vc5) rfl (by kernel_rfl) (by kernel_rfl) (by kernel_rfl) (fun _ _ _ h => h) (Or.inl ⟨by rfl, ?hyc5⟩) hHeld ?restc5
            case hyc5 => (intro w' hSw; go_simp; (try rw [if_pos hk9]); try with_reducible rfl)
            try simp only [Act.put, List.setIfInBounds_toArray, List.set_cons_zero, List.set_cons_succ]
            refine wpAnyH_ready (rs := [6]) (by kernel_rfl) (by simp) ?_
            refine AllReadyH.cons (o := ⟨_, _, _, _, _, _⟩) rfl (fun K hK => ?_) AllReadyH.nil
            refine wp_store_mid 36 _ _ rfl Q (1 + k * 12) (thC t).toArray rfl rfl (rthere_sub HH2d.out.room (by simp [thC_len]; omega)) thInfo (all_oneCell_toArray (thC_one _)) ?_
            simp only [List.toList_toArray]
            have hB2 := kcells hHeld rfl (thC t) (1 + k * 12)
            clear hHeld
            refine hK.out _ _ hB2 (fun hHeld => ?_)
            clear hB2 hK K
            try simp only [Act.put, List.setIfInBounds_toArray, List.set_cons_zero, List.set_cons_succ]
            refine wpAnyH_done (by kernel_rfl) ?_ _
            go_wp2_with fail
            go_ret
            exact ⟨⟨_, rfl⟩, ⟨_, HH2d.out.putTh (by omega) _ hs⟩, kkeep (Keeps.of_below HB2.out) hHeld⟩
          · have h4' : t.pc < 0 := by omega
            rw [h1] at x0
            rw [h2] at x10
            rw [h3] at x11
            clear h1 h2 h3 h4 ok
            go_wp2_with fail
            go_ret
            exact ⟨⟨_, rfl⟩, ⟨_, HH2.out⟩, Keeps.of_below HB2.out⟩
        · rw [h1] at x0
          rw [h2] at x10
          rw [show (R.th k).dead = !t.dead from by revert h3; cases t.dead <;> cases (R.th k).dead <;> simp] at y11
          clear h1 h2 h3 ok
          generalize t.dead = bb at x11 y11
          rcases bb with _ | _
          all_goals
            go_wp2_with fail
            go_ret
            exact ⟨⟨_, rfl⟩, ⟨_, HH2.out⟩, Keeps.of_below HB2.out⟩
      · have h2' : (t.core != (R.th k).core) = true := by simpa using h2
        rw [h1] at x0
        clear h1 h2 ok
        go_wp2_with fail
        go_ret
        exact ⟨⟨_, rfl⟩, ⟨_, HH2.out⟩, Keeps.of_below HB2.out⟩
    · have h1' : (t.sp != (R.th k).sp) = true := by simpa using h1
      clear h1 ok
      go_wp2_with fail
      go_ret
      exact ⟨⟨_, rfl⟩, ⟨_, HH2.out⟩, Keeps.of_below HB2.out⟩
  · obtain rfl := hE4 h0
    clear hE hE4 h0
    go_wp2_with fail
    go_ret
    exact ⟨⟨_, rfl⟩, ⟨_, HH2.out⟩, Keeps.of_below HB2.out⟩
end Go.Proofs.Ytgfogbifbpadoaa
