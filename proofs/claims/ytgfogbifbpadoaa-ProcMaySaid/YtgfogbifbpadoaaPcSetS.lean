/-
  A house's SetSpace.
-/
import Derived.Test.YtgfogbifbpadoaaPcSet
namespace Go.Proofs.Ytgfogbifbpadoaa
open Go.RowKit Go.Maps
set_option linter.unusedVariables false
set_option linter.unusedSimpArgs false
variable {w : World} {W : Nat → Prop} {P M K : Nat} {H : Hs}
/-- May the space old become s? -/
def spMay (old s : Spc) : Bool := (s.thr == old.thr) && ((s.img == old.img) && (decide (0 ≤ s.asid) && (decide (0 ≤ s.age) && chk s.l)))
def ssE (H : Hs) (n : Int) (s : Spc) : Int := if sthereB H n then (if spMay (H.sp n.toNat) s then 0 else 2) else 4
def SsT (w w' : World) (W : Nat → Prop) (P M K : Nat) (H : Hs) (n : Int) (s : Spc) (e : Ending) : Prop :=
  e = .returned (.int .i64 (ssE H n s)) ∧ (ssE H n s ≠ 0 → Went w w' W P M K H) ∧ (ssE H n s = 0 → ∃ O cap, Went w w' W P M K (H.setSp n.toNat { s with O := O, cap := cap }))
theorem SsT.no {w' : World} {n E : Int} {s : Spc} (hE : ssE H n s = E) (h0 : E ≠ 0) (hw : Went w w' W P M K H) : SsT w w' W P M K H n s (.returned (.int .i64 E)) := by
  subst hE
  exact ⟨rfl, fun _ => hw, fun h => absurd h h0⟩
theorem SsT.yes {w' : World} {k : Nat} {s : Spc} {O : Option Addr} {cap : Nat} (hE : ssE H k s = 0) (hw : Went w w' W P M K (H.setSp k { s with O := O, cap := cap })) : SsT w w' W P M K H k s (.returned (.int .i64 0)) :=
  ⟨by rw [hE], fun h => absurd hE h, fun _ => ⟨O, cap, by rw [Int.toNat_natCast]; exact hw⟩⟩
set_option maxRecDepth 100000 in
set_option maxHeartbeats 8000000 in
theorem pcSetSpace_any (n : Int) (s : Spc) (hn : I64 n) (hs : s.Given w) (h : Hm w W P M K H) :
    Calls Try.prog 24 #[.pointer (some ⟨P, 0, none⟩), .int .i64 n, .agg (spC s).toArray] w fun e w' => SsT w w' W P M K H n s e := by
  have HB0 := Lib.hid (ba (Below.refl w.heap.size w) (.cells (spC s).toArray 38))
  have HT0 := Lib.hid (Bk.new w 38 (spC s).toArray)
  have HH0 := Lib.hid h
  have HH := Lib.hid (h.call HB0.out)
  have HN := Lib.hid hn
  have HG := Lib.hid hs
  have hcap := hs.cap
  have ha0 := hs.asid.1
  have ha1 := hs.asid.2
  have hg0 := hs.age.1
  have hg1 := hs.age.2
  have hlP := h.lt P h.WP
  have hlM := h.lt M h.WM
  clear h hn hs
  rcases hth : sthereB H n with _ | _
  · have HE := Lib.hid (show ssE H n s = 4 by simp [ssE, hth])
    have HV := Lib.hid hth
    clear hth
    go_enter Try.func24, Try.ntmps24
    go_wp2_with fail
    refine (pcSpaceThere_any n HN.out HH.out).mono ?_
    rintro e w1 ⟨rfl, rfl⟩
    rw [HV.out]
    go_wp2_with fail
    go_ret
    exact SsT.no HE.out (by decide) (Went.same HH0.out HB0.out)
  obtain ⟨k, rfl, k1, k6, -⟩ := sthereB_some hth
  have HV := Lib.hid hth
  have HE := Lib.hid (show ssE H k s = if spMay (H.sp k) s then 0 else 2 by simp [ssE, hth])
  clear hth
  have hkz := (Bk.new (w.alloc (.cells (spC s).toArray 38)) 38 #[.slice none 0 0, .int .i64 0, .int .i64 0, .int .i64 0, .int .i64 0])
  rw [World.size_alloc] at hkz
  have HKz := Lib.hid hkz
  clear hkz
  by_cases h1 : s.thr = (H.sp k).thr
  · by_cases h2 : s.img = (H.sp k).img
    · by_cases h3 : 0 ≤ s.asid
      · by_cases h4 : 0 ≤ s.age
        · rcases h5 : chk s.l with _ | _
          · have HCV := Lib.hid (show ckV s.l = 2 by simp [ckV, h5])
            have HE' := Lib.hid (show ssE H k s = 2 by rw [HE.out, if_neg (by simp [spMay, h5])])
            go_enter Try.func24, Try.ntmps24
            go_wp2_with fail
            refine (pcSpaceThere_any k HN.out HH.out).mono ?_
            rintro e w1 ⟨rfl, rfl⟩
            rw [HV.out]
            go_upto_region 6 with (first | refine get_sp rfl _ rfl HH.out (n := k) (by omega) rfl ?_ | refine box_sp rfl _ _ rfl _ (H.sp k) _ rfl rfl HKz.out rfl ?_)
            refine (show ∀ W6 : World, Below (w.alloc (.cells (spC s).toArray 38)).heap.size (w.alloc (.cells (spC s).toArray 38)) W6 → Bk W6 (w.heap.size + 1) 38 (spC (H.sp k)).toArray → Code.wp _ _ _ _ W6 from fun W6 hb6 hk6 => ?_) _ (brow (ba (Below.refl _ _) _) (by rw [World.size_alloc]; exact Nat.le_refl _) _) (HKz.out.row _)
            have HB6 := Lib.hid (bthen HB0.out hb6)
            have HH6 := Lib.hid (HH.out.call hb6)
            have HT6 := Lib.hid (HT0.out.call hb6)
            have HK6 := Lib.hid hk6
            clear hb6 hk6 HKz HT0
            obtain ⟨x0, x1, x2, x3, x4⟩ := HT6.out.spc
            obtain ⟨-, y1, y2, -, -⟩ := HK6.out.spc
            rw [h1] at x1
            rw [h2] at x2
            clear h1 h2 h5
            go_wp2_with fail
            refine (spCheck_any s.O s.l.length s.cap s.l _ (HG.out.row.call HB6.out) rfl hcap HG.out.wf).mono ?_
            rintro e w7 ⟨rfl, hb7⟩
            rw [HCV.out]
            have HB7 := Lib.hid (bthen HB6.out hb7)
            clear hb7
            go_wp2_with fail
            go_ret
            exact SsT.no HE'.out (by decide) (Went.same HH0.out HB7.out)
          · have HCV := Lib.hid (show ckV s.l = 0 by simp [ckV, h5])
            have HCK := Lib.hid h5
            have h8 := (chk_parts h5).1
            have HE' := Lib.hid (show ssE H k s = 0 by rw [HE.out, if_pos (by simp [spMay, h1, h2, h3, h4, h5])])
            go_enter Try.func24, Try.ntmps24
            go_wp2_with fail
            refine (pcSpaceThere_any k HN.out HH.out).mono ?_
            rintro e w1 ⟨rfl, rfl⟩
            rw [HV.out]
            go_upto_region 6 with (first | refine get_sp rfl _ rfl HH.out (n := k) (by omega) rfl ?_ | refine box_sp rfl _ _ rfl _ (H.sp k) _ rfl rfl HKz.out rfl ?_)
            refine (show ∀ W6 : World, Below (w.alloc (.cells (spC s).toArray 38)).heap.size (w.alloc (.cells (spC s).toArray 38)) W6 → Bk W6 (w.heap.size + 1) 38 (spC (H.sp k)).toArray → Code.wp _ _ _ _ W6 from fun W6 hb6 hk6 => ?_) _ (brow (ba (Below.refl _ _) _) (by rw [World.size_alloc]; exact Nat.le_refl _) _) (HKz.out.row _)
            have HB6 := Lib.hid (bthen HB0.out hb6)
            have HH6 := Lib.hid (HH.out.call hb6)
            have HT6 := Lib.hid (HT0.out.call hb6)
            have HK6 := Lib.hid hk6
            clear hb6 hk6 HKz HT0
            obtain ⟨x0, x1, x2, x3, x4⟩ := HT6.out.spc
            obtain ⟨-, y1, y2, -, -⟩ := HK6.out.spc
            rw [h1] at x1
            rw [h2] at x2
            clear h1 h2 h5
            go_wp2_with fail
            refine (spCheck_any s.O s.l.length s.cap s.l _ (HG.out.row.call HB6.out) rfl hcap HG.out.wf).mono ?_
            rintro e w7 ⟨rfl, hb7⟩
            rw [HCV.out]
            have HB7 := Lib.hid (bthen HB6.out hb7)
            have HT7 := Lib.hid (HT6.out.call hb7)
            have HH7 := Lib.hid (HH6.out.call hb7)
            have HR7 := Lib.hid (HG.out.row.call HB7.out)
            clear hb7 x0 x1 x2 x3 x4 y1 y2
            obtain ⟨x0, -⟩ := HT7.out.spc
            go_wp2_with fail
            refine (srclone_any s.O s.l.length s.cap s.l _ HR7.out rfl hcap (by omega)).mono ?_
            rintro e w8 ⟨v, rfl, ho, hb8⟩
            obtain ⟨O', cap', rfl, hc', hrf⟩ := rf_of_ow (W := fun x => W x ∨ x = w.heap.size) ho (fun x hx => by have h1 := HT7.out.lt; rcases hx with hx | hx <;> first | omega | exact HH7.out.lt x hx)
            have HT7b := Lib.hid (HT7.out.call hb8)
            have HH7b := Lib.hid (HH7.out.call hb8)
            have HB7b := Lib.hid (bthen HB7.out hb8)
            have HT8c := Lib.hid (show Bk (w8.setCell ⟨w.heap.size, 0, none⟩ (.slice O' s.l.length cap')) w.heap.size 38 (spC { s with O := O', cap := cap' }).toArray from HT7b.out.set 0 _)
            have HB8c := Lib.hid (bs HB7b.out (p := ⟨w.heap.size, 0, none⟩) (Nat.le_refl _) (.slice O' s.l.length cap'))
            have HRF := Lib.hid ((hrf.keep (Keeps.setCell (F := fun x => x = w.heap.size) (p := ⟨w.heap.size, 0, none⟩) rfl (.slice O' s.l.length cap')) (fun x hx => .inr hx)).sub (W := W) (fun x hx => .inl hx))
            clear ho hb8 x0
            have f0 := HT7b.out.frozen 0
            have x0 := HT7b.out.spc.1
            go_upto_region 9 with fail
            refine (show ∀ W8 : World, Below w.heap.size w W8 → Bk W8 w.heap.size 38 (spC { s with O := O', cap := cap' }).toArray → Rf W W8 O' s.l → Code.wp _ _ _ _ W8 from fun W8 hb8 hk8 hr8 => ?_) _ HB8c.out HT8c.out HRF.out
            have HT8 := Lib.hid hk8
            have HH8d := Lib.hid (HH0.out.call (bd hb8))
            have HK8 := Lib.hid (Keeps.of_below (F := PM P M) hb8)
            have HRF8 := Lib.hid (hr8.keep (Keeps.refl (fun _ => False) W8).drew (fun x hx => hx.elim))
            have l8 := hk8.lt
            have hk7 : (k : Int) < 7 := by omega
            clear hb8 hk8 hr8 x0 f0 HT8c HRF HB8c HT7 HT7b HH7 HH7b HB7 HB7b HR7 hrf
            go_wp2_with fail
            refine wp_region_held_drew (S := fun w' => Keeps (PM P M) W8 w') (by kernel_rfl) (Keeps.refl _ _).drew (fun hHeld => ?_)
            refine wpAnyH_take (i := 0) (oi := ⟨_, _, _, _, _, _⟩) (v := ?vc0) rfl (by kernel_rfl) (by kernel_rfl) (by kernel_rfl) (fun _ _ _ h => h) (Or.inl ⟨by rfl, ?hyc0⟩) hHeld ?restc0
            case hyc0 => (intro w' hSw; go_simp; (try rw [if_pos hk7]); try with_reducible rfl)
            try simp only [Act.put, List.setIfInBounds_toArray, List.set_cons_zero, List.set_cons_succ]
            refine wpAnyH_take (i := 1) (oi := ⟨_, _, _, _, _, _⟩) (v := ?vc1) rfl (by kernel_rfl) (by kernel_rfl) (by kernel_rfl) (fun _ _ _ h => h) (Or.inl ⟨by rfl, ?hyc1⟩) hHeld ?restc1
            case hyc1 => (intro w' hSw; go_simp; (try rw [if_pos hk7]); try with_reducible rfl)
            try simp only [Act.put, List.setIfInBounds_toArray, List.set_cons_zero, List.set_cons_succ]
            refine wpAnyH_take (i := 2) (oi := ⟨_, _, _, _, _, _⟩) (v := .agg (spC { s with O := O', cap := cap' }).toArray) rfl (by kernel_rfl) (by kernel_rfl) (by kernel_rfl) (fun _ _ _ h => h) (yieldsIf_load_mid (by rfl) 38 _ rfl w.heap.size 0 rfl (spC { s with O := O', cap := cap' }) _ (fun w' hSw => (HT8.out.keep hSw (fun hf => hf.elim (fun e => by omega) (fun e => by omega))).range) Try.underlying38 rfl spInfo) hHeld ?_
            try simp only [Act.put, List.setIfInBounds_toArray, List.set_cons_zero, List.set_cons_succ]
            refine wpAnyH_take (i := 3) (oi := ⟨_, _, _, _, _, _⟩) (v := ?vc3) rfl (by kernel_rfl) (by kernel_rfl) (by kernel_rfl) (fun _ _ _ h => h) (Or.inl ⟨by rfl, ?hyc3⟩) hHeld ?restc3
            case hyc3 => (intro w' hSw; go_simp; (try rw [if_pos hk7]); try with_reducible rfl)
            try simp only [Act.put, List.setIfInBounds_toArray, List.set_cons_zero, List.set_cons_succ]
            refine wpAnyH_take (i := 4) (oi := ⟨_, _, _, _, _, _⟩) (v := ?vc4) rfl (by kernel_rfl) (by kernel_rfl) (by kernel_rfl) (fun _ _ _ h => h) (Or.inl ⟨by rfl, ?hyc4⟩) hHeld ?restc4
            case hyc4 => (intro w' hSw; go_simp; (try rw [if_pos hk7]); try with_reducible rfl)
            try simp only [Act.put, List.setIfInBounds_toArray, List.set_cons_zero, List.set_cons_succ]
            refine wpAnyH_take (i := 5) (oi := ⟨_, _, _, _, _, _⟩) (v := ?vc5) rfl (by kernel_rfl) (by kernel_rfl) (by kernel_rfl) (fun _ _ _ h => h) (Or.inl ⟨by rfl, ?hyc5⟩) hHeld ?restc5
            case hyc5 => (intro w' hSw; go_simp; (try rw [if_pos hk7]); try with_reducible rfl)
            try simp only [Act.put, List.setIfInBounds_toArray, List.set_cons_zero, List.set_cons_succ]
            refine wpAnyH_ready (rs := [6]) (by kernel_rfl) (by simp) ?_
            refine AllReadyH.cons (o := ⟨_, _, _, _, _, _⟩) rfl (fun K hK => ?_) AllReadyH.nil
            refine wp_store_mid 38 _ _ rfl P (109 + k * 5) (spC { s with O := O', cap := cap' }).toArray rfl rfl (there_sub HH8d.out.room (by simp [spC_len]; omega)) spInfo (all_oneCell_toArray (spC_one _)) ?_
            simp only [List.toList_toArray]
            have hB2 := kcells hHeld (.inl rfl) (spC { s with O := O', cap := cap' }) (109 + k * 5)
            clear hHeld
            refine hK.out _ _ hB2 (fun hHeld => ?_)
            clear hB2 hK K
            try simp only [Act.put, List.setIfInBounds_toArray, List.set_cons_zero, List.set_cons_succ]
            refine wpAnyH_done (by kernel_rfl) ?_ _
            go_wp2_with fail
            go_ret
            exact SsT.yes HE'.out ⟨HH8d.out.putSp (by omega) _ ⟨HRF8.out, hc', HCK.out⟩, kkeep HK8.out hHeld⟩
        · have h4' : s.age < 0 := by omega
          have HE' := Lib.hid (show ssE H k s = 2 by rw [HE.out, if_neg (by simp [spMay, h4])])
          go_enter Try.func24, Try.ntmps24
          go_wp2_with fail
          refine (pcSpaceThere_any k HN.out HH.out).mono ?_
          rintro e w1 ⟨rfl, rfl⟩
          rw [HV.out]
          go_upto_region 6 with (first | refine get_sp rfl _ rfl HH.out (n := k) (by omega) rfl ?_ | refine box_sp rfl _ _ rfl _ (H.sp k) _ rfl rfl HKz.out rfl ?_)
          refine (show ∀ W6 : World, Below (w.alloc (.cells (spC s).toArray 38)).heap.size (w.alloc (.cells (spC s).toArray 38)) W6 → Bk W6 (w.heap.size + 1) 38 (spC (H.sp k)).toArray → Code.wp _ _ _ _ W6 from fun W6 hb6 hk6 => ?_) _ (brow (ba (Below.refl _ _) _) (by rw [World.size_alloc]; exact Nat.le_refl _) _) (HKz.out.row _)
          have HB6 := Lib.hid (bthen HB0.out hb6)
          have HH6 := Lib.hid (HH.out.call hb6)
          have HT6 := Lib.hid (HT0.out.call hb6)
          have HK6 := Lib.hid hk6
          clear hb6 hk6 HKz HT0
          obtain ⟨x0, x1, x2, x3, x4⟩ := HT6.out.spc
          obtain ⟨-, y1, y2, -, -⟩ := HK6.out.spc
          rw [h1] at x1
          rw [h2] at x2
          clear h1 h2
          go_wp2_with fail
          go_ret
          exact SsT.no HE'.out (by decide) (Went.same HH0.out HB6.out)
      · have h3' : s.asid < 0 := by omega
        have HE' := Lib.hid (show ssE H k s = 2 by rw [HE.out, if_neg (by simp [spMay, h3])])
        go_enter Try.func24, Try.ntmps24
        go_wp2_with fail
        refine (pcSpaceThere_any k HN.out HH.out).mono ?_
        rintro e w1 ⟨rfl, rfl⟩
        rw [HV.out]
        go_upto_region 6 with (first | refine get_sp rfl _ rfl HH.out (n := k) (by omega) rfl ?_ | refine box_sp rfl _ _ rfl _ (H.sp k) _ rfl rfl HKz.out rfl ?_)
        refine (show ∀ W6 : World, Below (w.alloc (.cells (spC s).toArray 38)).heap.size (w.alloc (.cells (spC s).toArray 38)) W6 → Bk W6 (w.heap.size + 1) 38 (spC (H.sp k)).toArray → Code.wp _ _ _ _ W6 from fun W6 hb6 hk6 => ?_) _ (brow (ba (Below.refl _ _) _) (by rw [World.size_alloc]; exact Nat.le_refl _) _) (HKz.out.row _)
        have HB6 := Lib.hid (bthen HB0.out hb6)
        have HH6 := Lib.hid (HH.out.call hb6)
        have HT6 := Lib.hid (HT0.out.call hb6)
        have HK6 := Lib.hid hk6
        clear hb6 hk6 HKz HT0
        obtain ⟨x0, x1, x2, x3, x4⟩ := HT6.out.spc
        obtain ⟨-, y1, y2, -, -⟩ := HK6.out.spc
        rw [h1] at x1
        rw [h2] at x2
        clear h1 h2
        go_wp2_with fail
        go_ret
        exact SsT.no HE'.out (by decide) (Went.same HH0.out HB6.out)
    · have h2' : (s.img != (H.sp k).img) = true := by simpa using h2
      have HE' := Lib.hid (show ssE H k s = 2 by rw [HE.out, if_neg (by simp [spMay, h2])])
      go_enter Try.func24, Try.ntmps24
      go_wp2_with fail
      refine (pcSpaceThere_any k HN.out HH.out).mono ?_
      rintro e w1 ⟨rfl, rfl⟩
      rw [HV.out]
      go_upto_region 6 with (first | refine get_sp rfl _ rfl HH.out (n := k) (by omega) rfl ?_ | refine box_sp rfl _ _ rfl _ (H.sp k) _ rfl rfl HKz.out rfl ?_)
      refine (show ∀ W6 : World, Below (w.alloc (.cells (spC s).toArray 38)).heap.size (w.alloc (.cells (spC s).toArray 38)) W6 → Bk W6 (w.heap.size + 1) 38 (spC (H.sp k)).toArray → Code.wp _ _ _ _ W6 from fun W6 hb6 hk6 => ?_) _ (brow (ba (Below.refl _ _) _) (by rw [World.size_alloc]; exact Nat.le_refl _) _) (HKz.out.row _)
      have HB6 := Lib.hid (bthen HB0.out hb6)
      have HH6 := Lib.hid (HH.out.call hb6)
      have HT6 := Lib.hid (HT0.out.call hb6)
      have HK6 := Lib.hid hk6
      clear hb6 hk6 HKz HT0
      obtain ⟨x0, x1, x2, x3, x4⟩ := HT6.out.spc
      obtain ⟨-, y1, y2, -, -⟩ := HK6.out.spc
      rw [h1] at x1
      clear h1 h2
      go_wp2_with fail
      go_ret
      exact SsT.no HE'.out (by decide) (Went.same HH0.out HB6.out)
  · have h1' : (s.thr != (H.sp k).thr) = true := by simpa using h1
    have HE' := Lib.hid (show ssE H k s = 2 by rw [HE.out, if_neg (by simp [spMay, h1])])
    go_enter Try.func24, Try.ntmps24
    go_wp2_with fail
    refine (pcSpaceThere_any k HN.out HH.out).mono ?_
    rintro e w1 ⟨rfl, rfl⟩
    rw [HV.out]
    go_upto_region 6 with (first | refine get_sp rfl _ rfl HH.out (n := k) (by omega) rfl ?_ | refine box_sp rfl _ _ rfl _ (H.sp k) _ rfl rfl HKz.out rfl ?_)
    refine (show ∀ W6 : World, Below (w.alloc (.cells (spC s).toArray 38)).heap.size (w.alloc (.cells (spC s).toArray 38)) W6 → Bk W6 (w.heap.size + 1) 38 (spC (H.sp k)).toArray → Code.wp _ _ _ _ W6 from fun W6 hb6 hk6 => ?_) _ (brow (ba (Below.refl _ _) _) (by rw [World.size_alloc]; exact Nat.le_refl _) _) (HKz.out.row _)
    have HB6 := Lib.hid (bthen HB0.out hb6)
    have HH6 := Lib.hid (HH.out.call hb6)
    have HT6 := Lib.hid (HT0.out.call hb6)
    have HK6 := Lib.hid hk6
    clear hb6 hk6 HKz HT0
    obtain ⟨x0, x1, x2, x3, x4⟩ := HT6.out.spc
    obtain ⟨-, y1, y2, -, -⟩ := HK6.out.spc
    clear h1
    go_wp2_with fail
    go_ret
    exact SsT.no HE'.out (by decide) (Went.same HH0.out HB6.out)
end Go.Proofs.Ytgfogbifbpadoaa
