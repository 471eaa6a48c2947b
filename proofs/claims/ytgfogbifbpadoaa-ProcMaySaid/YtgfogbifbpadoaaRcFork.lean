/-
  The document's house: Fork.
-/
import Derived.Test.YtgfogbifbpadoaaRcEnd
namespace Go.Proofs.Ytgfogbifbpadoaa
open Go.RowKit Go.Maps
set_option linter.unusedVariables false
set_option linter.unusedSimpArgs false
variable {w : World} {W : Nat → Prop} {Q : Nat} {R : Rh}
/-- Cells in the middle of a range are written. -/
theorem range_mid {o d : Nat} {cs vs : List Value} (h : w.rangeAt Q o cs) (hd : d + vs.length ≤ cs.length) : (w.setCells Q (o + d) vs).rangeAt Q o (cs.take d ++ (vs ++ cs.drop (d + vs.length))) := by
  intro j u hj
  by_cases h1 : j < d
  · rw [List.getElem?_append_left (by simp; omega), List.getElem?_take_of_lt h1] at hj
    rw [World.cell?_setCells_out Q vs (o + d) w ⟨Q, o + j, none⟩ (fun _ _ => .inl (by show o + j < o + d; omega))]
    exact h j u hj
  · rw [List.getElem?_append_right (by simp; omega)] at hj
    have hl : (cs.take d).length = d := by simp; omega
    rw [hl] at hj
    by_cases h2 : j - d < vs.length
    · rw [List.getElem?_append_left h2] at hj
      have := World.cell?_setCells_in Q vs (o + d) w (fun i hi => by have := World.rangeAt.isSome h (d + i) (by omega); rwa [← Nat.add_assoc] at this) (j - d) h2
      rw [show o + d + (j - d) = o + j by omega] at this
      rw [this, ← hj, List.getElem?_eq_getElem h2]
    · rw [List.getElem?_append_right (by omega), List.getElem?_drop] at hj
      rw [World.cell?_setCells_out Q vs (o + d) w ⟨Q, o + j, none⟩ (fun _ _ => .inr (by show o + d + vs.length ≤ o + j; omega))]
      rw [show d + vs.length + (j - d - vs.length) = j by omega] at hj
      exact h j u hj
def rgL (t : Th) : List Value := [.int .u64 t.r0, .int .u64 t.r1, .int .u64 t.r2, .int .u64 t.r3, .int .u64 t.r4, .int .u64 t.r5, .int .u64 t.r6, .int .u64 t.r7]
theorem rgL_one (t : Th) : ∀ v ∈ rgL t, v.oneCell' = true := by intro v hv; simp [rgL] at hv; rcases hv with h | h | h | h | h | h | h | h <;> subst h <;> rfl
theorem rgInfo : (Try.prog.info? 34).map (·.size) = some 8 := by kernel_rfl
/-- A thread with another one's registers. -/
def Th.regs (t x : Th) : Th := { t with r0 := x.r0, r1 := x.r1, r2 := x.r2, r3 := x.r3, r4 := x.r4, r5 := x.r5, r6 := x.r6, r7 := x.r7 }
theorem Rm.setRegs (h : Rm w W Q R) {n : Nat} (hn : n < 9) (x : Th) : Rm (w.setCells Q (1 + n * 12 + 1) (rgL x)) W Q (R.setTh n ((R.th n).regs x)) := by
  refine h.cells _ _ _ (by omega) (by simp only [rgL, List.length_cons, List.length_nil]; omega) (fun j hj => ?_) (fun j hj => ?_) h.rf (fun j hj => ?_)
  · by_cases e : j = n
    · subst e
      rw [rsetTh_same]
      exact range_mid (d := 1) (vs := rgL x) (h.th j hj) (by simp [rgL, thC_len])
    · rw [rsetTh_other _ _ e]
      exact World.rangeAt_setCells_apart (h.th j hj) _ _ _ (by rw [thC_len]; simp only [rgL, List.length_cons, List.length_nil]; omega)
  · exact World.rangeAt_setCells_apart (h.sp j hj) _ _ _ (by simp only [rgL, List.length_cons, List.length_nil]; omega)
  · by_cases e : j = n
    · subst e; rw [rsetTh_same]; exact h.ok j hj
    · rw [rsetTh_other _ _ e]; exact h.ok j hj
theorem Rm.spc (h : Rm w W Q R) {n : Nat} (hn : n < 7) : w.cell? ⟨Q, 109 + n * 5, none⟩ = some (.slice (R.sp n).O (R.sp n).l.length (R.sp n).cap) ∧ w.cell? ⟨Q, 109 + n * 5 + 1, none⟩ = some (.int .i64 (R.sp n).thr) ∧ w.cell? ⟨Q, 109 + n * 5 + 2, none⟩ = some (.int .i64 (R.sp n).img) ∧ w.cell? ⟨Q, 109 + n * 5 + 3, none⟩ = some (.int .i64 (R.sp n).asid) ∧ w.cell? ⟨Q, 109 + n * 5 + 4, none⟩ = some (.int .i64 (R.sp n).age) :=
  ⟨h.spAt hn 0 _ rfl, h.spAt hn 1 _ rfl, h.spAt hn 2 _ rfl, h.spAt hn 3 _ rfl, h.spAt hn 4 _ rfl⟩
theorem rg_wf_of' {m : List Reg} (h : chk m = true) : ∀ i, i < m.length → (rg m i).wf := fun i hi => by
  have := chain_at m 0 (chk_parts h).2.1 i hi
  exact ⟨⟨by omega, by omega⟩, ⟨by omega, by omega⟩⟩
theorem Bk.regs {w : World} {g : Nat} {T : Th} (h : Bk w g 36 (thC T).toArray) : w.rangeAt g 1 (rgL T) := fun j v hv => by
  rw [h.cell (1 + j)]
  have hj : j < 8 := (List.getElem?_eq_some_iff.1 hv).1
  rw [← hv]
  rcases (show j = 0 ∨ j = 1 ∨ j = 2 ∨ j = 3 ∨ j = 4 ∨ j = 5 ∨ j = 6 ∨ j = 7 by omega) with rfl | rfl | rfl | rfl | rfl | rfl | rfl | rfl <;> rfl
/-- What Fork answers. -/
def N3P (e : Ending) : Prop := ∃ a b c : Int, e = .returned (.tuple #[.int .i64 a, .int .i64 b, .int .i64 c])
set_option maxRecDepth 100000 in
set_option maxHeartbeats 8000000 in
theorem rFork_any (n : Int) (hn : I64 n) (h : Rm w W Q R) :
    Calls Try.prog 27 #[.pointer (some ⟨Q, 0, none⟩), .int .i64 n] w fun e w' => N3P e ∧ RWent w w' W Q := by
  have HH := Lib.hid h
  have HN := Lib.hid hn
  clear h hn
  go_enter Try.func27, Try.ntmps27
  go_wp2_with fail
  refine (rlive_any n HN.out HH.out).mono ?_
  rintro e w1 ⟨⟨b, rfl, hb⟩, rfl⟩
  rcases b with _ | _
  · go_wp2_with fail
    refine bodyPost_ret (results_tmp3 rfl _ _ _) rfl ?_
    exact ⟨⟨_, _, _, rfl⟩, RWent.same HH.out (Below.refl _ _)⟩
  obtain ⟨k, rfl, k1, k8⟩ := hb rfl
  clear hb
  obtain ⟨o1, o2⟩ := HH.out.ok k (by omega)
  obtain ⟨q, hq⟩ := Int.eq_ofNat_of_zero_le o1
  have q6 : q ≤ 6 := by omega
  have HQ := Lib.hid hq
  clear o1 o2 hq
  have HKz := Lib.hid (Bk.new w 36 #[.int .i64 0, .int .u64 0, .int .u64 0, .int .u64 0, .int .u64 0, .int .u64 0, .int .u64 0, .int .u64 0, .int .u64 0, .int .i64 0, .int .i64 0, .bool false])
  go_upto_region 4 with (first | refine rget_th rfl _ rfl HH.out (n := k) (by omega) rfl ?_ | refine box_th rfl _ _ rfl w.heap.size (R.th k) _ rfl rfl HKz.out rfl ?_)
  refine (show ∀ W4 : World, Below w.heap.size w W4 → Bk W4 w.heap.size 36 (thC (R.th k)).toArray → Code.wp _ _ _ _ W4 from fun W4 hb4 hk4 => ?_) _ (brow (ba (Below.refl _ _) _) (Nat.le_refl _) _) (HKz.out.row _)
  have HB4 := Lib.hid hb4
  have HK4 := Lib.hid hk4
  have HH4 := Lib.hid (HH.out.call hb4)
  clear hb4 hk4 HKz
  obtain ⟨z0, -⟩ := HK4.out.th
  rw [HQ.out] at z0
  obtain ⟨x0, x1, x2, x3, x4⟩ := HH4.out.spc (n := q) (by omega)
  have l4 := HK4.out.lt
  have lQ := HH4.out.lt Q HH4.out.WQ
  have hq7 : (q : Int) < 7 := by omega
  go_wp2_with fail
  refine wp_region_held_drew (S := fun w' => Below W4.heap.size W4 w') (by kernel_rfl) (bd (Below.refl _ _)) (fun hHeld => ?_)
  refine wpAnyH_take (i := 0) (oi := ⟨_, _, _, _, _, _⟩) (v := ?va0) rfl (by kernel_rfl) (by kernel_rfl) (by kernel_rfl) (fun _ _ _ h => h) (Or.inl ⟨by rfl, ?hya0⟩) hHeld ?resta0
  case hya0 => (intro w' hSw; go_simp; (try rw [if_pos hq7]); try with_reducible rfl)
  try simp only [Act.put, List.setIfInBounds_toArray, List.set_cons_zero, List.set_cons_succ]
  refine wpAnyH_take (i := 1) (oi := ⟨_, _, _, _, _, _⟩) (v := ?va1) rfl (by kernel_rfl) (by kernel_rfl) (by kernel_rfl) (fun _ _ _ h => h) (Or.inl ⟨by rfl, ?hya1⟩) hHeld ?resta1
  case hya1 => (intro w' hSw; go_simp; (try rw [if_pos hq7]); try with_reducible rfl)
  try simp only [Act.put, List.setIfInBounds_toArray, List.set_cons_zero, List.set_cons_succ]
  refine wpAnyH_take (i := 2) (oi := ⟨_, _, _, _, _, _⟩) (v := ?va2) rfl (by kernel_rfl) (by kernel_rfl) (by kernel_rfl) (fun _ _ _ h => h) (Or.inl ⟨by rfl, ?hya2⟩) hHeld ?resta2
  case hya2 => (intro w' hSw; obtain ⟨hcc, hff⟩ := bcell hSw; go_simp; (try rw [if_pos hq7]); try with_reducible rfl)
  try simp only [Act.put, List.setIfInBounds_toArray, List.set_cons_zero, List.set_cons_succ]
  refine wpAnyH_take (i := 3) (oi := ⟨_, _, _, _, _, _⟩) (v := ?va3) rfl (by kernel_rfl) (by kernel_rfl) (by kernel_rfl) (fun _ _ _ h => h) (Or.inl ⟨by rfl, ?hya3⟩) hHeld ?resta3
  case hya3 => (intro w' hSw; go_simp; (try rw [if_pos hq7]); try with_reducible rfl)
  try simp only [Act.put, List.setIfInBounds_toArray, List.set_cons_zero, List.set_cons_succ]
  refine wpAnyH_take (i := 4) (oi := ⟨_, _, _, _, _, _⟩) (v := ?va4) rfl (by kernel_rfl) (by kernel_rfl) (by kernel_rfl) (fun _ _ _ h => h) (Or.inl ⟨by rfl, ?hya4⟩) hHeld ?resta4
  case hya4 => (intro w' hSw; go_simp; (try rw [if_pos hq7]); try with_reducible rfl)
  try simp only [Act.put, List.setIfInBounds_toArray, List.set_cons_zero, List.set_cons_succ]
  refine wpAnyH_take (i := 5) (oi := ⟨_, _, _, _, _, _⟩) (v := ?va5) rfl (by kernel_rfl) (by kernel_rfl) (by kernel_rfl) (fun _ _ _ h => h) (Or.inl ⟨by rfl, ?hya5⟩) hHeld ?resta5
  case hya5 => (intro w' hSw; go_simp; (try rw [if_pos hq7]); try with_reducible rfl)
  try simp only [Act.put, List.setIfInBounds_toArray, List.set_cons_zero, List.set_cons_succ]
  refine wpAnyH_take (i := 6) (oi := ⟨_, _, _, _, _, _⟩) (v := ?va6) rfl (by kernel_rfl) (by kernel_rfl) (by kernel_rfl) (fun _ _ _ h => h) (Or.inl ⟨by rfl, ?hya6⟩) hHeld ?resta6
  case hya6 => (intro w' hSw; obtain ⟨hcc, hff⟩ := bcell hSw; go_simp; (try rw [if_pos hq7]); try with_reducible rfl)
  try simp only [Act.put, List.setIfInBounds_toArray, List.set_cons_zero, List.set_cons_succ]
  refine wpAnyH_ready (rs := [7]) (by kernel_rfl) (by simp) ?_
  refine AllReadyH.cons (o := ⟨_, _, _, _, _, _⟩) rfl (fun K hK => ?_) AllReadyH.nil
  go_simp
  have hB2 := ba hHeld (.cells #[.slice none 0 0, .int .i64 0, .int .i64 0, .int .i64 0, .int .i64 0] 38)
  clear hHeld
  refine hK.out _ _ hB2 (fun hHeld => ?_)
  clear hB2 hK K
  try simp only [Act.put, List.setIfInBounds_toArray, List.set_cons_zero, List.set_cons_succ]
  refine wpAnyH_ready (rs := [8]) (by kernel_rfl) (by simp) ?_
  refine AllReadyH.cons (o := ⟨_, _, _, _, _, _⟩) rfl (fun K hK => ?_) AllReadyH.nil
  go_simp
  have hB2 := ba (bd (Below.refl W4.heap.size W4)) (.cells (spC (R.sp q)).toArray 38)
  clear hHeld
  refine hK.out _ _ hB2 (fun hHeld => ?_)
  clear hB2 hK K
  try simp only [Act.put, List.setIfInBounds_toArray, List.set_cons_zero, List.set_cons_succ]
  refine wpAnyH_done (by kernel_rfl) ?_ _
  clear hHeld x0 x1 x2 x3 x4 z0
  go_upto_region 5 with fail
  refine (show ∀ W5 : World, Below W4.heap.size W4 W5 → Bk W5 W4.heap.size 38 (spC (R.sp q)).toArray → Code.wp _ _ _ _ W5 from fun W5 hb5 hk5 => ?_) _ (bd (ba (Below.refl _ _) _)) (Bk.new W4 38 (spC (R.sp q)).toArray)
  have HB5 := Lib.hid (bthen HB4.out hb5)
  have HK5 := Lib.hid (HK4.out.call hb5)
  have HH5 := Lib.hid (HH4.out.call hb5)
  obtain ⟨y0, -, y2, -⟩ := hk5.spc
  obtain ⟨z0, z1, z2, z3, z4, z5, z6, z7, z8, z9, -⟩ := HK5.out.th
  have l5 := hk5.lt
  obtain ⟨⟨hrf0, -⟩, hrc, hrk⟩ := HH5.out.rf q (by omega)
  have HR5 := Lib.hid hrf0
  have HRK := Lib.hid hrk
  clear hb5 hk5 hrf0 hrk
  go_wp2_with fail
  refine (rBegin_any (R.sp q).img (R.th k).pc (R.sp q).O (R.sp q).cap (R.sp q).l HH5.out HR5.out hrc (rg_wf_of' HRK.out)).mono ?_
  rintro e w6 ⟨⟨s, t, E, rfl, hE⟩, ⟨⟨R6, hR6⟩, hK6⟩⟩
  have H6 := Lib.hid hR6
  have HK6 := Lib.hid (kkeep (Keeps.of_below (F := fun x => x = Q) HB5.out) hK6)
  have wQ : w.heap.size ≠ Q := by have := HH.out.lt Q HH.out.WQ; omega
  have HT6 := Lib.hid (HK5.out.keep hK6 wQ)
  clear hR6 hK6 y0 y2 z0 z1 z2 z3 z4 z5 z6 z7 z8 z9
  by_cases h0 : E = 0
  · subst h0
    obtain ⟨s1, s6, t1, t8⟩ := hE rfl
    clear hE
    have ht9 : (t : Int) < 9 := by omega
    go_upto_region 8 with fail
    have H6d := Lib.hid (H6.out.call (bd (Below.refl w6.heap.size w6)))
    have l6 := HT6.out.lt
    go_wp2_with fail
    refine wp_region_held_drew (S := fun w' => Keeps (fun x => x = Q) w6 w') (by kernel_rfl) (Keeps.refl _ _).drew (fun hHeld => ?_)
    refine wpAnyH_take (i := 0) (oi := ⟨_, _, _, _, _, _⟩) (v := ?vb0) rfl (by kernel_rfl) (by kernel_rfl) (by kernel_rfl) (fun _ _ _ h => h) (Or.inl ⟨by rfl, ?hyb0⟩) hHeld ?restb0
    case hyb0 => (intro w' hSw; go_simp; (try rw [if_pos ht9]); try with_reducible rfl)
    try simp only [Act.put, List.setIfInBounds_toArray, List.set_cons_zero, List.set_cons_succ]
    refine wpAnyH_take (i := 1) (oi := ⟨_, _, _, _, _, _⟩) (v := ?vb1) rfl (by kernel_rfl) (by kernel_rfl) (by kernel_rfl) (fun _ _ _ h => h) (Or.inl ⟨by rfl, ?hyb1⟩) hHeld ?restb1
    case hyb1 => (intro w' hSw; go_simp; (try rw [if_pos ht9]); try with_reducible rfl)
    try simp only [Act.put, List.setIfInBounds_toArray, List.set_cons_zero, List.set_cons_succ]
    refine wpAnyH_take (i := 2) (oi := ⟨_, _, _, _, _, _⟩) (v := ?vb2) rfl (by kernel_rfl) (by kernel_rfl) (by kernel_rfl) (fun _ _ _ h => h) (Or.inl ⟨by rfl, ?hyb2⟩) hHeld ?restb2
    case hyb2 => (intro w' hSw; go_simp; (try rw [if_pos ht9]); try with_reducible rfl)
    try simp only [Act.put, List.setIfInBounds_toArray, List.set_cons_zero, List.set_cons_succ]
    refine wpAnyH_take (i := 3) (oi := ⟨_, _, _, _, _, _⟩) (v := .agg (rgL (R.th k)).toArray) rfl (by kernel_rfl) (by kernel_rfl) (by kernel_rfl) (fun _ _ _ h => h) (yieldsIf_load_mid (by rfl) 34 _ rfl w.heap.size 1 rfl (rgL (R.th k)) _ (fun w' hSw => (HT6.out.keep hSw wQ).regs) Try.underlying34 rfl rgInfo) hHeld ?_
    try simp only [Act.put, List.setIfInBounds_toArray, List.set_cons_zero, List.set_cons_succ]
    refine wpAnyH_take (i := 4) (oi := ⟨_, _, _, _, _, _⟩) (v := ?vb4) rfl (by kernel_rfl) (by kernel_rfl) (by kernel_rfl) (fun _ _ _ h => h) (Or.inl ⟨by rfl, ?hyb4⟩) hHeld ?restb4
    case hyb4 => (intro w' hSw; go_simp; (try rw [if_pos ht9]); try with_reducible rfl)
    try simp only [Act.put, List.setIfInBounds_toArray, List.set_cons_zero, List.set_cons_succ]
    refine wpAnyH_take (i := 5) (oi := ⟨_, _, _, _, _, _⟩) (v := ?vb5) rfl (by kernel_rfl) (by kernel_rfl) (by kernel_rfl) (fun _ _ _ h => h) (Or.inl ⟨by rfl, ?hyb5⟩) hHeld ?restb5
    case hyb5 => (intro w' hSw; go_simp; (try rw [if_pos ht9]); try with_reducible rfl)
    try simp only [Act.put, List.setIfInBounds_toArray, List.set_cons_zero, List.set_cons_succ]
    refine wpAnyH_take (i := 6) (oi := ⟨_, _, _, _, _, _⟩) (v := ?vb6) rfl (by kernel_rfl) (by kernel_rfl) (by kernel_rfl) (fun _ _ _ h => h) (Or.inl ⟨by rfl, ?hyb6⟩) hHeld ?restb6
    case hyb6 => (intro w' hSw; go_simp; (try rw [if_pos ht9]); try with_reducible rfl)
    try simp only [Act.put, List.setIfInBounds_toArray, List.set_cons_zero, List.set_cons_succ]
    refine wpAnyH_take (i := 7) (oi := ⟨_, _, _, _, _, _⟩) (v := ?vb7) rfl (by kernel_rfl) (by kernel_rfl) (by kernel_rfl) (fun _ _ _ h => h) (Or.inl ⟨by rfl, ?hyb7⟩) hHeld ?restb7
    case hyb7 => (intro w' hSw; go_simp; (try rw [if_pos ht9]); try with_reducible rfl)
    try simp only [Act.put, List.setIfInBounds_toArray, List.set_cons_zero, List.set_cons_succ]
    refine wpAnyH_ready (rs := [8]) (by kernel_rfl) (by simp) ?_
    refine AllReadyH.cons (o := ⟨_, _, _, _, _, _⟩) rfl (fun K hK => ?_) AllReadyH.nil
    refine wp_store_mid 34 _ _ rfl Q (1 + t * 12 + 1) (rgL (R.th k)).toArray rfl rfl (rthere_sub H6d.out.room (by simp [rgL]; omega)) rgInfo (all_oneCell_toArray (rgL_one _)) ?_
    simp only [List.toList_toArray]
    have hB2 := kcells hHeld rfl (rgL (R.th k)) (1 + t * 12 + 1)
    clear hHeld
    refine hK.out _ _ hB2 (fun hHeld => ?_)
    clear hB2 hK K
    try simp only [Act.put, List.setIfInBounds_toArray, List.set_cons_zero, List.set_cons_succ]
    refine wpAnyH_done (by kernel_rfl) ?_ _
    have H7 := Lib.hid (H6d.out.setRegs (n := t) (by omega) (R.th k))
    have HK7 := Lib.hid (kkeep HK6.out hHeld)
    clear hHeld
    generalize hwx : w6.drew.setCells Q (1 + t * 12 + 1) (rgL (R.th k)) = wx at *
    clear hwx
    have c1 := H7.out.thAt (n := t) (by omega) 1 _ rfl
    have f1 := H7.out.cellFree (o := 1 + t * 12 + 1) (by omega)
    go_wp2_with fail
    refine bodyPost_ret (results_tmp3 rfl _ _ _) rfl ?_
    exact ⟨⟨_, _, _, rfl⟩, ⟨_, H7.out.setTh1 (n := t) (k := 1) (by omega) (by omega) (.int .u64 0) { ((R6.setTh t ((R6.th t).regs (R.th k))).th t) with r0 := 0 } rfl (H7.out.ok t (by omega))⟩, kset HK7.out rfl _⟩
  · have h2 : (E != 0) = true := by simpa using h0
    clear h0
    go_wp2_with fail
    refine bodyPost_ret (results_tmp3 rfl _ _ _) rfl ?_
    exact ⟨⟨_, _, _, rfl⟩, ⟨_, H6.out⟩, HK6.out⟩
end Go.Proofs.Ytgfogbifbpadoaa
