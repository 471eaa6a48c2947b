/-
  The document's house: SetSpace.
-/
import Derived.Test.YtgfogbifbpadoaaRcSetT
namespace Go.Proofs.Ytgfogbifbpadoaa
open Go.RowKit Go.Maps
set_option linter.unusedVariables false
set_option linter.unusedSimpArgs false
variable {w : World} {W : Nat → Prop} {Q : Nat} {R : Rh}
set_option maxRecDepth 100000 in
set_option maxHeartbeats 8000000 in
theorem rSetSpace_any (n : Int) (s : Spc) (hn : I64 n) (hs : s.Given w) (h : Rm w W Q R) :
    Calls Try.prog 33 #[.pointer (some ⟨Q, 0, none⟩), .int .i64 n, .agg (spC s).toArray] w fun e w' => EpP e ∧ RWent w w' W Q := by
  obtain ⟨i0, hi0, hz0, hz1, hz2⟩ := info_parts infoReg
  have HB0 := Lib.hid (ba (Below.refl w.heap.size w) (.cells (spC s).toArray 38))
  have HT0 := Lib.hid (Bk.new w 38 (spC s).toArray)
  have HH := Lib.hid h
  have HN := Lib.hid hn
  have HG := Lib.hid hs
  have hcap := hs.cap
  have hlQ := h.lt Q h.WQ
  clear h hn hs
  go_enter Try.func33, Try.ntmps33
  go_wp2_with fail
  refine (rSpace_any n HN.out (HH.out.call HB0.out)).mono ?_
  rintro e w1 ⟨⟨T, E, rfl, hE, hE4⟩, hb1⟩
  have HB1 := Lib.hid (bthen HB0.out hb1)
  have HT1 := Lib.hid (HT0.out.call hb1)
  have HKz := Lib.hid (Bk.new w1 38 #[.slice none 0 0, .int .i64 0, .int .i64 0, .int .i64 0, .int .i64 0])
  clear hb1 HT0 HB0
  simp only [spV]
  go_upto_region 2 with (refine box_sp rfl _ _ rfl w1.heap.size T _ rfl rfl HKz.out rfl ?_)
  refine (show ∀ W2 : World, Below w1.heap.size w1 W2 → Bk W2 w1.heap.size 38 (spC T).toArray → Code.wp _ _ _ _ W2 from fun W2 hb2 hk2 => ?_) _ (brow (ba (Below.refl _ _) _) (Nat.le_refl _) _) (HKz.out.row _)
  have HB2 := Lib.hid (bthen HB1.out hb2)
  have HT2 := Lib.hid (HT1.out.call hb2)
  have HK2 := Lib.hid hk2
  have HH2 := Lib.hid (HH.out.call HB2.out)
  clear hb2 hk2 HKz HT1 HB1
  by_cases h0 : E = 0
  · subst h0
    obtain ⟨k, rfl, k1, k6⟩ := hE rfl
    clear hE hE4
    obtain ⟨x0, x1, x2, x3, x4⟩ := HT2.out.spc
    obtain ⟨-, y1, y2, -, -⟩ := HK2.out.spc
    by_cases h1 : s.thr = T.thr
    · by_cases h2 : s.img = T.img
      · by_cases h3 : 0 ≤ s.asid
        · by_cases h4 : 0 ≤ s.age
          · rw [h1] at x1
            rw [h2] at x2
            clear h1 h2
            rcases h5 : chk s.l with _ | _
            · have HCV := Lib.hid (show ckV s.l = 2 by simp [ckV, h5])
              clear h5
              go_wp2_with fail
              refine (r19Check_any s.O s.l.length s.cap s.l _ (HG.out.row.call HB2.out) rfl hcap HG.out.wf).mono ?_
              rintro e w7 ⟨rfl, hb7⟩
              rw [HCV.out]
              have HB7 := Lib.hid (bthen HB2.out hb7)
              clear hb7
              go_wp2_with fail
              go_ret
              exact ⟨⟨_, rfl⟩, ⟨_, HH.out.call HB7.out⟩, Keeps.of_below HB7.out⟩
            · have HCV := Lib.hid (show ckV s.l = 0 by simp [ckV, h5])
              have HCK := Lib.hid h5
              have h8 := (chk_parts h5).1
              clear h5
              go_wp2_with fail
              refine (r19Check_any s.O s.l.length s.cap s.l _ (HG.out.row.call HB2.out) rfl hcap HG.out.wf).mono ?_
              rintro e w7 ⟨rfl, hb7⟩
              rw [HCV.out]
              have HB7 := Lib.hid (bthen HB2.out hb7)
              have HT7 := Lib.hid (HT2.out.call hb7)
              have HH7 := Lib.hid (HH.out.call HB7.out)
              have HR7 := Lib.hid (HG.out.row.call HB7.out)
              clear hb7 x0 x1 x2 x3 x4 y1 y2
              have hz7 : w.heap.size ≤ w7.heap.size := HB7.out.size
              have l7 := HT7.out.lt
              have HKz := Lib.hid (Bk.new w7 38 #[.slice none 0 0, .int .i64 0, .int .i64 0, .int .i64 0, .int .i64 0])
              go_upto_region 7 with (first | refine unbox_sp rfl _ rfl w.heap.size _ rfl HT7.out rfl ?_ | refine box_sp rfl _ _ rfl w7.heap.size s _ rfl rfl HKz.out rfl ?_)
              refine (show ∀ W7 : World, Below w7.heap.size w7 W7 → Bk W7 w7.heap.size 38 (spC s).toArray → Code.wp _ _ _ _ W7 from fun W7 hb hk => ?_) _ (brow (ba (Below.refl _ _) _) (Nat.le_refl _) _) (HKz.out.row _)
              have x0 := hk.spc.1
              have f0 := hk.frozen 0
              have HBq := Lib.hid hb
              have HKq := Lib.hid hk
              clear hb hk HKz
              go_upto_region 8 with fail
              refine (show ∀ W8 : World, Below w7.heap.size w7 W8 → Bk W8 w7.heap.size 38 (spC { s with O := none, cap := 0, l := [] }).toArray → Code.wp _ _ _ _ W8 from fun W8 hb hk => ?_) _ (bs HBq.out (p := ⟨w7.heap.size, 0, none⟩) (Nat.le_refl _) (.slice none 0 0)) (HKq.out.set 0 _)
              clear x0 f0
              have HB8 := Lib.hid hb
              have HK8 := Lib.hid hk
              have HT8 := Lib.hid (HT7.out.call hb)
              have HR8 := Lib.hid (HR7.out.call hb)
              have x0 := hk.spc.1
              have f0 := hk.frozen 0
              have z0 := HT8.out.spc.1
              have l8 := hk.lt
              clear hb hk HBq HKq
              go_upto_region 9 with (at_builtin; refine wp_app (enc := encG) (k := 3) rfl _ _ 32 rfl W8.heap.size 79 i0 _ 24 Try.underlying32 hi0 hz0 hz1 hz2 rfl (by decide) encG_len encG_one (.slice none 0 0) [] rfl (Ow.nil _ _ _) s.l s.O s.l.length s.cap rfl rfl HR8.out.rk (by simp; omega) (by decide) W8 (Below.refl _ _) (Nat.le_refl _) ?_; intro v' w9 o1 o2; have HO := Lib.hid o1; have HX := Lib.hid o2; clear o1 o2; obtain ⟨O', cap', rfl, hc', hrf⟩ := rf_of_ow (W := fun x => W x ∨ x = w7.heap.size) (show Ow encG 3 79 w9 W8.heap.size v' s.l by simpa using HO.out) (fun x hx => by have hz := HB8.out.size; rcases hx with hx | hx <;> first | omega | (have := HH7.out.lt x hx; omega)); have HRF := Lib.hid hrf; have HY9 := Lib.hid (bthen HB8.out HX.out); have HK9 := Lib.hid (HK8.out.call HX.out); clear hrf HO HX x0 f0; have x0 := HK9.out.spc.1; have f0 := HK9.out.frozen 0)
              refine (show ∀ Wa : World, Below w7.heap.size w7 Wa → Bk Wa w7.heap.size 38 (spC { s with O := O', cap := cap' }).toArray → Rf W Wa O' s.l → Code.wp _ _ _ _ Wa from fun Wa ha hk hr => ?_) _ (bs HY9.out (p := ⟨w7.heap.size, 0, none⟩) (Nat.le_refl _) (.slice O' s.l.length cap')) (HK9.out.set 0 (.slice O' s.l.length cap')) ((HRF.out.keep (Keeps.setCell (F := fun x => x = w7.heap.size) (p := ⟨w7.heap.size, 0, none⟩) rfl (.slice O' s.l.length cap')) (fun x hx => .inr hx)).sub (W := W) (fun x hx => .inl hx))
              have HKa := Lib.hid (Keeps.of_below (F := fun x => x = Q) (bthen HB7.out ha))
              have HHa := Lib.hid (HH7.out.call (bd ha))
              have HBa := Lib.hid hk
              have HRa := Lib.hid (hr.keep (Keeps.refl (fun _ => False) Wa).drew (fun x hx => hx.elim))
              have la := hk.lt
              have hk7 : (k : Int) < 7 := by omega
              clear ha hk hr x0 f0 z0 HY9 HK9 HRF HB8 HK8 HT8 HR8
              go_wp2_with fail
              refine wp_region_held_drew (S := fun w' => Keeps (fun x => x = Q) Wa w') (by kernel_rfl) (Keeps.refl _ _).drew (fun hHeld => ?_)
              refine wpAnyH_take (i := 0) (oi := ⟨_, _, _, _, _, _⟩) (v := ?vc0) rfl (by kernel_rfl) (by kernel_rfl) (by kernel_rfl) (fun _ _ _ h => h) (Or.inl ⟨by rfl, ?hyc0⟩) hHeld ?restc0
              case hyc0 => (intro w' hSw; go_simp; (try rw [if_pos hk7]); try with_reducible rfl)
              try simp only [Act.put, List.setIfInBounds_toArray, List.set_cons_zero, List.set_cons_succ]
              refine wpAnyH_take (i := 1) (oi := ⟨_, _, _, _, _, _⟩) (v := ?vc1) rfl (by kernel_rfl) (by kernel_rfl) (by kernel_rfl) (fun _ _ _ h => h) (Or.inl ⟨by rfl, ?hyc1⟩) hHeld ?restc1
              case hyc1 => (intro w' hSw; go_simp; (try rw [if_pos hk7]); try with_reducible rfl)
              try simp only [Act.put, List.setIfInBounds_toArray, List.set_cons_zero, List.set_cons_succ]
              refine wpAnyH_take (i := 2) (oi := ⟨_, _, _, _, _, _⟩) (v := .agg (spC { s with O := O', cap := cap' }).toArray) rfl (by kernel_rfl) (by kernel_rfl) (by kernel_rfl) (fun _ _ _ h => h) (yieldsIf_load_mid (by rfl) 38 _ rfl w7.heap.size 0 rfl (spC { s with O := O', cap := cap' }) _ (fun w' hSw => (HBa.out.keep hSw (by omega)).range) Try.underlying38 rfl spInfo) hHeld ?_
              try simp only [Act.put, List.setIfInBounds_toArray, List.set_cons_zero, List.set_cons_succ]
              refine wpAnyH_take (i := 3) (oi := ⟨_, _, _, _, _, _⟩) (v := ?vc3) rfl (by kernel_rfl) (by kernel_rfl) (by kernel_rfl) (fun _ _ _ h => h) (Or.inl ⟨by rfl, ?hyc3⟩) hHeld ?restc3
              case hyc3 => (intro w' hSw; go_simp; (try rw [if_pos hk7]); try with_reducible rfl)
              try simp only [Act.put, List.setIfInBounds_toArray, List.set_cons_zero, List.set_cons_succ]
              refine wpAnyH_take (i := 4) (oi := ⟨_, _, _, _, _, _⟩) (v := ?vc4) rfl (by kernel_rfl) (by kernel_rfl) (by kernel_rfl) (fun _ _ _ h => h) (Or.inl ⟨by rfl, ?hyc4⟩) hHeld ?restc4
              case hyc4 => (intro w' hSw; go_simp; (try rw [if_pos hk7]); try with_reducible rfl)
              try simp only [Act.put, List.setIfInBounds_toArray, List.set_cons_zero, List.set_cons_succ]
              refine wpAnyH_take (i := 5) (oi := ⟨_, _, _, _, _, _⟩) (v := ?vc5) rfl (by kernel_rfl) (by kernel_rfl) (by kernel_rfl) (fun _ _ _ h => h) (Or.inl ⟨by rfl, ?hyc5⟩) hHeld ?restc5
              case hyc5 => (intro w' hSw; go_simp; (try rw [if_pos hk7]); try with_reducible rfl)
              try simp only [Act.put, List.setIfInBounds_toArray, List.set_cons_zero, List.set_cons_succ]
              refine wpAnyH_ready (rs := [6]) (by kernel_rfl) (by simp) ?_
              refine AllReadyH.cons (o := ⟨_, _, _, _, _, _⟩) rfl (fun K hK => ?_) AllReadyH.nil
              refine wp_store_mid 38 _ _ rfl Q (109 + k * 5) (spC { s with O := O', cap := cap' }).toArray rfl rfl (rthere_sub HHa.out.room (by simp [spC_len]; omega)) spInfo (all_oneCell_toArray (spC_one _)) ?_
              simp only [List.toList_toArray]
              have hB2 := kcells hHeld rfl (spC { s with O := O', cap := cap' }) (109 + k * 5)
              clear hHeld
              refine hK.out _ _ hB2 (fun hHeld => ?_)
              clear hB2 hK K
              try simp only [Act.put, List.setIfInBounds_toArray, List.set_cons_zero, List.set_cons_succ]
              refine wpAnyH_done (by kernel_rfl) ?_ _
              go_wp2_with fail
              go_ret
              exact ⟨⟨_, rfl⟩, ⟨_, HHa.out.putSp (n := k) (by omega) _ ⟨HRa.out, hc', HCK.out⟩⟩, kkeep HKa.out hHeld⟩
          · have h4' : s.age < 0 := by omega
            rw [h1] at x1
            rw [h2] at x2
            clear h1 h2 h4
            go_wp2_with fail
            go_ret
            exact ⟨⟨_, rfl⟩, ⟨_, HH2.out⟩, Keeps.of_below HB2.out⟩
        · have h3' : s.asid < 0 := by omega
          rw [h1] at x1
          rw [h2] at x2
          clear h1 h2 h3
          go_wp2_with fail
          go_ret
          exact ⟨⟨_, rfl⟩, ⟨_, HH2.out⟩, Keeps.of_below HB2.out⟩
      · have h2' : (s.img != T.img) = true := by simpa using h2
        rw [h1] at x1
        clear h1 h2
        go_wp2_with fail
        go_ret
        exact ⟨⟨_, rfl⟩, ⟨_, HH2.out⟩, Keeps.of_below HB2.out⟩
    · have h1' : (s.thr != T.thr) = true := by simpa using h1
      clear h1
      go_wp2_with fail
      go_ret
      exact ⟨⟨_, rfl⟩, ⟨_, HH2.out⟩, Keeps.of_below HB2.out⟩
  · obtain rfl := hE4 h0
    clear hE hE4 h0
    go_wp2_with fail
    go_ret
    exact ⟨⟨_, rfl⟩, ⟨_, HH2.out⟩, Keeps.of_below HB2.out⟩
end Go.Proofs.Ytgfogbifbpadoaa
