/-
  A house's SetThread.
-/
import Derived.Test.YtgfogbifbpadoaaPcOpen
import Derived.Test.YtgfogbifbpadoaaPcEnd
namespace Go.Proofs.Ytgfogbifbpadoaa
open Go.RowKit Go.Maps
set_option linter.unusedVariables false
set_option linter.unusedSimpArgs false
variable {w : World} {W : Nat → Prop} {P M K : Nat} {H : Hs}
/-- May the thread old become t? -/
def thMay (old t : Th) : Bool := (t.sp == old.sp) && ((t.core == old.core) && ((t.dead == old.dead) && decide (0 ≤ t.pc)))
def stTE (H : Hs) (n : Int) (t : Th) : Int := if thereB H n then (if thMay (H.th n.toNat) t then 0 else 2) else 4
def stTH (H : Hs) (n : Int) (t : Th) : Hs := if stTE H n t = 0 then H.setTh n.toNat t else H
def StT (w w' : World) (W : Nat → Prop) (P M K : Nat) (H : Hs) (n : Int) (t : Th) (e : Ending) : Prop := e = .returned (.int .i64 (stTE H n t)) ∧ Went w w' W P M K (stTH H n t)
theorem StT.no {w' : World} {n E : Int} {t : Th} (hE : stTE H n t = E) (h0 : E ≠ 0) (hw : Went w w' W P M K H) : StT w w' W P M K H n t (.returned (.int .i64 E)) := by
  subst hE
  exact ⟨rfl, by unfold stTH; rw [if_neg h0]; exact hw⟩
theorem StT.yes {w' : World} {k : Nat} {t : Th} (hE : stTE H k t = 0) (hw : Went w w' W P M K (H.setTh k t)) : StT w w' W P M K H k t (.returned (.int .i64 0)) := by
  refine ⟨by rw [hE], ?_⟩
  unfold stTH
  rw [if_pos hE, Int.toNat_natCast]
  exact hw
set_option maxRecDepth 100000 in
set_option maxHeartbeats 8000000 in
theorem pcSetThread_any (n : Int) (t : Th) (hn : I64 n) (ht : t.wf) (h : Hm w W P M K H) :
    Calls Try.prog 23 #[.pointer (some ⟨P, 0, none⟩), .int .i64 n, .agg (thC t).toArray] w fun e w' => StT w w' W P M K H n t e := by
  have HB0 := Lib.hid (ba (Below.refl w.heap.size w) (.cells (thC t).toArray 36))
  have HT0 := Lib.hid (Bk.new w 36 (thC t).toArray)
  have HH0 := Lib.hid h
  have HH := Lib.hid (h.call HB0.out)
  have HN := Lib.hid hn
  have hpc0 := ht.pc.1
  have hpc1 := ht.pc.2
  have hlP := h.lt P h.WP
  have hlM := h.lt M h.WM
  clear h hn
  rcases hth : thereB H n with _ | _
  · have HE := Lib.hid (show stTE H n t = 4 by simp [stTE, hth])
    have HV := Lib.hid hth
    clear hth
    go_enter Try.func23, Try.ntmps23
    go_wp2_with fail
    refine (pcThere_any n HN.out HH.out).mono ?_
    rintro e w1 ⟨rfl, rfl⟩
    rw [HV.out]
    go_wp2_with fail
    go_ret
    exact StT.no HE.out (by decide) (Went.same HH0.out HB0.out)
  obtain ⟨k, rfl, k1, k8, -⟩ := thereB_some hth
  have HV := Lib.hid hth
  have HE := Lib.hid (show stTE H k t = if thMay (H.th k) t then 0 else 2 by simp [stTE, hth])
  clear hth
  have hkz := (Bk.new (w.alloc (.cells (thC t).toArray 36)) 36 #[.int .i64 0, .int .u64 0, .int .u64 0, .int .u64 0, .int .u64 0, .int .u64 0, .int .u64 0, .int .u64 0, .int .u64 0, .int .i64 0, .int .i64 0, .bool false])
  rw [World.size_alloc] at hkz
  have HKz := Lib.hid hkz
  clear hkz
  by_cases h1 : t.sp = (H.th k).sp
  · by_cases h2 : t.core = (H.th k).core
    · by_cases h3 : t.dead = (H.th k).dead
      · by_cases h4 : 0 ≤ t.pc
        · have HE' := Lib.hid (show stTE H k t = 0 by rw [HE.out, if_pos (by simp [thMay, h1, h2, h3, h4])])
          go_enter Try.func23, Try.ntmps23
          go_wp2_with fail
          refine (pcThere_any k HN.out HH.out).mono ?_
          rintro e w1 ⟨rfl, rfl⟩
          rw [HV.out]
          go_upto_region 6 with (first | refine get_th rfl _ rfl HH.out (n := k) (by omega) rfl ?_ | refine box_th rfl _ _ rfl _ (H.th k) _ rfl rfl HKz.out rfl ?_)
          refine (show ∀ W6 : World, Below (w.alloc (.cells (thC t).toArray 36)).heap.size (w.alloc (.cells (thC t).toArray 36)) W6 → Bk W6 (w.heap.size + 1) 36 (thC (H.th k)).toArray → Code.wp _ _ _ _ W6 from fun W6 hb6 hk6 => ?_) _ (brow (ba (Below.refl _ _) _) (by rw [World.size_alloc]; exact Nat.le_refl _) _) (HKz.out.row _)
          have HB6 := Lib.hid (bthen HB0.out hb6)
          have HH6 := Lib.hid (HH.out.call hb6)
          have HT6 := Lib.hid (HT0.out.call hb6)
          have HK6 := Lib.hid hk6
          clear hb6 hk6 HKz HT0
          obtain ⟨x0, -, -, -, -, -, -, -, -, x9, x10, x11⟩ := HT6.out.th
          obtain ⟨y0, -, -, -, -, -, -, -, -, y9, y10, y11⟩ := HK6.out.th
          rw [h1] at x0
          rw [h2] at x10
          rw [h3] at x11
          clear h1 h2 h3
          have HH6d := Lib.hid (HH6.out.call (bd (Below.refl W6.heap.size W6)))
          have l6 := HT6.out.lt
          have hk9 : (k : Int) < 9 := by omega
          go_upto_region 8 with fail
          go_wp2_with fail
          refine wp_region_held_drew (S := fun w' => Keeps (PM P M) W6 w') (by kernel_rfl) (Keeps.refl _ _).drew (fun hHeld => ?_)
          refine wpAnyH_take (i := 0) (oi := ⟨_, _, _, _, _, _⟩) (v := ?vc0) rfl (by kernel_rfl) (by kernel_rfl) (by kernel_rfl) (fun _ _ _ h => h) (Or.inl ⟨by rfl, ?hyc0⟩) hHeld ?restc0
          case hyc0 => (intro w' hSw; go_simp; (try rw [if_pos hk9]); try with_reducible rfl)
          try simp only [Act.put, List.setIfInBounds_toArray, List.set_cons_zero, List.set_cons_succ]
          refine wpAnyH_take (i := 1) (oi := ⟨_, _, _, _, _, _⟩) (v := ?vc1) rfl (by kernel_rfl) (by kernel_rfl) (by kernel_rfl) (fun _ _ _ h => h) (Or.inl ⟨by rfl, ?hyc1⟩) hHeld ?restc1
          case hyc1 => (intro w' hSw; go_simp; (try rw [if_pos hk9]); try with_reducible rfl)
          try simp only [Act.put, List.setIfInBounds_toArray, List.set_cons_zero, List.set_cons_succ]
          refine wpAnyH_take (i := 2) (oi := ⟨_, _, _, _, _, _⟩) (v := .agg (thC t).toArray) rfl (by kernel_rfl) (by kernel_rfl) (by kernel_rfl) (fun _ _ _ h => h) (yieldsIf_load_mid (by rfl) 36 _ rfl w.heap.size 0 rfl (thC t) _ (fun w' hSw => (HT6.out.keep hSw (fun hf => hf.elim (fun e => by omega) (fun e => by omega))).range) Try.underlying36 rfl thInfo) hHeld ?_
          try simp only [Act.put, List.setIfInBounds_toArray, List.set_cons_zero, List.set_cons_succ]
          refine wpAnyH_take (i := 3) (oi := ⟨_, _, _, _, _, _⟩) (v := ?vc3) rfl (by kernel_rfl) (by kernel_rfl) (by kernel_rfl) (fun _ _ _ h => h) (Or.inl ⟨by rfl, ?hyc3⟩) hHeld ?restc3
          case hyc3 => (intro w' hSw; go_simp; (try rw [if_pos hk9]); try with_reducible rfl)
          try simp only [Act.put, List.setIfInBounds_toArray, List.set_cons_zero, List.set_cons_succ]
          refine wpAnyH_take (i := 4) (oi := ⟨_, _, _, _, _, _⟩) (v := ?vc4) rfl (by kernel_rfl) (by kernel_rfl) (by kernel_rfl) (fun _ _ _ h => h) (Or.inl ⟨by rfl, ?hyc4⟩) hHeld ?restc4
          case hyc4 => (intro w' hSw; go_simp; (try rw [if_pos hk9]); try with_reducible rfl)
          try simp only [Act.put, List.setIfInBounds_toArray, List.set_cons_zero, List.set_cons_succ]
          refine wpAnyH_take (i := 5) (oi := ⟨_, _, _, _, _, _⟩) (v := ?vc5) rfl (by kernel_rfl) (by kernel_rfl) (by kernel_rfl) (fun _ _ _ h => h) (Or.inl ⟨by rfl, ?hyc5⟩) hHeld ?restc5
          case hyc5 => (intro w' hSw; go_simp; (try rw [if_pos hk9]); try with_reducible rfl)
          try simp only [Act.put, List.setIfInBounds_toArray, List.set_cons_zero, List.set_cons_succ]
          refine wpAnyH_ready (rs := [6]) (by kernel_rfl) (by simp) ?_
          refine AllReadyH.cons (o := ⟨_, _, _, _, _, _⟩) rfl (fun K hK => ?_) AllReadyH.nil
          refine wp_store_mid 36 _ _ rfl P (1 + k * 12) (thC t).toArray rfl rfl (there_sub HH6d.out.room (by simp [thC_len]; omega)) thInfo (all_oneCell_toArray (thC_one _)) ?_
          simp only [List.toList_toArray]
          have hB2 := kcells hHeld (.inl rfl) (thC t) (1 + k * 12)
          clear hHeld
          refine hK.out _ _ hB2 (fun hHeld => ?_)
          clear hB2 hK K
          try simp only [Act.put, List.setIfInBounds_toArray, List.set_cons_zero, List.set_cons_succ]
          refine wpAnyH_done (by kernel_rfl) ?_ _
          go_wp2_with fail
          go_ret
          exact StT.yes HE'.out ⟨HH6d.out.putTh (by omega) _, kkeep (Keeps.of_below HB6.out) hHeld⟩
        · have h4' : t.pc < 0 := by omega
          have HE' := Lib.hid (show stTE H k t = 2 by rw [HE.out, if_neg (by simp [thMay, h4])])
          go_enter Try.func23, Try.ntmps23
          go_wp2_with fail
          refine (pcThere_any k HN.out HH.out).mono ?_
          rintro e w1 ⟨rfl, rfl⟩
          rw [HV.out]
          go_upto_region 6 with (first | refine get_th rfl _ rfl HH.out (n := k) (by omega) rfl ?_ | refine box_th rfl _ _ rfl _ (H.th k) _ rfl rfl HKz.out rfl ?_)
          refine (show ∀ W6 : World, Below (w.alloc (.cells (thC t).toArray 36)).heap.size (w.alloc (.cells (thC t).toArray 36)) W6 → Bk W6 (w.heap.size + 1) 36 (thC (H.th k)).toArray → Code.wp _ _ _ _ W6 from fun W6 hb6 hk6 => ?_) _ (brow (ba (Below.refl _ _) _) (by rw [World.size_alloc]; exact Nat.le_refl _) _) (HKz.out.row _)
          have HB6 := Lib.hid (bthen HB0.out hb6)
          have HH6 := Lib.hid (HH.out.call hb6)
          have HT6 := Lib.hid (HT0.out.call hb6)
          have HK6 := Lib.hid hk6
          clear hb6 hk6 HKz HT0
          obtain ⟨x0, -, -, -, -, -, -, -, -, x9, x10, x11⟩ := HT6.out.th
          obtain ⟨y0, -, -, -, -, -, -, -, -, y9, y10, y11⟩ := HK6.out.th
          rw [h1] at x0
          rw [h2] at x10
          rw [h3] at x11
          clear h1 h2 h3
          go_wp2_with fail
          go_ret
          exact StT.no HE'.out (by decide) (Went.same HH0.out HB6.out)
      · have h3' : (t.dead != (H.th k).dead) = true := by simpa using h3
        have HE' := Lib.hid (show stTE H k t = 2 by rw [HE.out, if_neg (by simp [thMay, h3])])
        go_enter Try.func23, Try.ntmps23
        go_wp2_with fail
        refine (pcThere_any k HN.out HH.out).mono ?_
        rintro e w1 ⟨rfl, rfl⟩
        rw [HV.out]
        go_upto_region 6 with (first | refine get_th rfl _ rfl HH.out (n := k) (by omega) rfl ?_ | refine box_th rfl _ _ rfl _ (H.th k) _ rfl rfl HKz.out rfl ?_)
        refine (show ∀ W6 : World, Below (w.alloc (.cells (thC t).toArray 36)).heap.size (w.alloc (.cells (thC t).toArray 36)) W6 → Bk W6 (w.heap.size + 1) 36 (thC (H.th k)).toArray → Code.wp _ _ _ _ W6 from fun W6 hb6 hk6 => ?_) _ (brow (ba (Below.refl _ _) _) (by rw [World.size_alloc]; exact Nat.le_refl _) _) (HKz.out.row _)
        have HB6 := Lib.hid (bthen HB0.out hb6)
        have HH6 := Lib.hid (HH.out.call hb6)
        have HT6 := Lib.hid (HT0.out.call hb6)
        have HK6 := Lib.hid hk6
        clear hb6 hk6 HKz HT0
        obtain ⟨x0, -, -, -, -, -, -, -, -, x9, x10, x11⟩ := HT6.out.th
        obtain ⟨y0, -, -, -, -, -, -, -, -, y9, y10, y11⟩ := HK6.out.th
        rw [h1] at x0
        rw [h2] at x10
        rw [show (H.th k).dead = !t.dead from by revert h3; cases t.dead <;> cases (H.th k).dead <;> simp] at y11
        clear h1 h2 h3 h3'
        generalize t.dead = bb at x11 y11
        rcases bb with _ | _
        all_goals
          go_wp2_with fail
          go_ret
          exact StT.no HE'.out (by decide) (Went.same HH0.out HB6.out)
    · have h2' : (t.core != (H.th k).core) = true := by simpa using h2
      have HE' := Lib.hid (show stTE H k t = 2 by rw [HE.out, if_neg (by simp [thMay, h2])])
      go_enter Try.func23, Try.ntmps23
      go_wp2_with fail
      refine (pcThere_any k HN.out HH.out).mono ?_
      rintro e w1 ⟨rfl, rfl⟩
      rw [HV.out]
      go_upto_region 6 with (first | refine get_th rfl _ rfl HH.out (n := k) (by omega) rfl ?_ | refine box_th rfl _ _ rfl _ (H.th k) _ rfl rfl HKz.out rfl ?_)
      refine (show ∀ W6 : World, Below (w.alloc (.cells (thC t).toArray 36)).heap.size (w.alloc (.cells (thC t).toArray 36)) W6 → Bk W6 (w.heap.size + 1) 36 (thC (H.th k)).toArray → Code.wp _ _ _ _ W6 from fun W6 hb6 hk6 => ?_) _ (brow (ba (Below.refl _ _) _) (by rw [World.size_alloc]; exact Nat.le_refl _) _) (HKz.out.row _)
      have HB6 := Lib.hid (bthen HB0.out hb6)
      have HH6 := Lib.hid (HH.out.call hb6)
      have HT6 := Lib.hid (HT0.out.call hb6)
      have HK6 := Lib.hid hk6
      clear hb6 hk6 HKz HT0
      obtain ⟨x0, -, -, -, -, -, -, -, -, x9, x10, x11⟩ := HT6.out.th
      obtain ⟨y0, -, -, -, -, -, -, -, -, y9, y10, y11⟩ := HK6.out.th
      rw [h1] at x0
      clear h1 h2
      go_wp2_with fail
      go_ret
      exact StT.no HE'.out (by decide) (Went.same HH0.out HB6.out)
  · have h1' : (t.sp != (H.th k).sp) = true := by simpa using h1
    have HE' := Lib.hid (show stTE H k t = 2 by rw [HE.out, if_neg (by simp [thMay, h1])])
    go_enter Try.func23, Try.ntmps23
    go_wp2_with fail
    refine (pcThere_any k HN.out HH.out).mono ?_
    rintro e w1 ⟨rfl, rfl⟩
    rw [HV.out]
    go_upto_region 6 with (first | refine get_th rfl _ rfl HH.out (n := k) (by omega) rfl ?_ | refine box_th rfl _ _ rfl _ (H.th k) _ rfl rfl HKz.out rfl ?_)
    refine (show ∀ W6 : World, Below (w.alloc (.cells (thC t).toArray 36)).heap.size (w.alloc (.cells (thC t).toArray 36)) W6 → Bk W6 (w.heap.size + 1) 36 (thC (H.th k)).toArray → Code.wp _ _ _ _ W6 from fun W6 hb6 hk6 => ?_) _ (brow (ba (Below.refl _ _) _) (by rw [World.size_alloc]; exact Nat.le_refl _) _) (HKz.out.row _)
    have HB6 := Lib.hid (bthen HB0.out hb6)
    have HH6 := Lib.hid (HH.out.call hb6)
    have HT6 := Lib.hid (HT0.out.call hb6)
    have HK6 := Lib.hid hk6
    clear hb6 hk6 HKz HT0
    obtain ⟨x0, -, -, -, -, -, -, -, -, x9, x10, x11⟩ := HT6.out.th
    obtain ⟨y0, -, -, -, -, -, -, -, -, y9, y10, y11⟩ := HK6.out.th
    clear h1
    go_wp2_with fail
    go_ret
    exact StT.no HE'.out (by decide) (Went.same HH0.out HB6.out)
end Go.Proofs.Ytgfogbifbpadoaa
