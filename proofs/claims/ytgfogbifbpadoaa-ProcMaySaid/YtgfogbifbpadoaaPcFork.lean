/-
  A house's Fork.
-/
import Derived.Test.YtgfogbifbpadoaaPcBegin
import Derived.Deep.DeepCutAuto
namespace Go.Proofs.Ytgfogbifbpadoaa
open Go.RowKit Go.Maps
set_option linter.unusedVariables false
set_option linter.unusedSimpArgs false
variable {w : World} {W : Nat → Prop} {P M K : Nat} {H : Hs}
theorem Bk.th {w : World} {g : Nat} {T : Th} (h : Bk w g 36 (thC T).toArray) : w.cell? ⟨g, 0, none⟩ = some (.int .i64 T.sp) ∧ w.cell? ⟨g, 1, none⟩ = some (.int .u64 T.r0) ∧ w.cell? ⟨g, 2, none⟩ = some (.int .u64 T.r1) ∧ w.cell? ⟨g, 3, none⟩ = some (.int .u64 T.r2) ∧ w.cell? ⟨g, 4, none⟩ = some (.int .u64 T.r3) ∧ w.cell? ⟨g, 5, none⟩ = some (.int .u64 T.r4) ∧ w.cell? ⟨g, 6, none⟩ = some (.int .u64 T.r5) ∧ w.cell? ⟨g, 7, none⟩ = some (.int .u64 T.r6) ∧ w.cell? ⟨g, 8, none⟩ = some (.int .u64 T.r7) ∧ w.cell? ⟨g, 9, none⟩ = some (.int .i64 T.pc) ∧ w.cell? ⟨g, 10, none⟩ = some (.int .i64 T.core) ∧ w.cell? ⟨g, 11, none⟩ = some (.bool T.dead) :=
  ⟨h.cell 0, h.cell 1, h.cell 2, h.cell 3, h.cell 4, h.cell 5, h.cell 6, h.cell 7, h.cell 8, h.cell 9, h.cell 10, h.cell 11⟩
theorem Bk.spc {w : World} {g : Nat} {s : Spc} (h : Bk w g 38 (spC s).toArray) : w.cell? ⟨g, 0, none⟩ = some (.slice s.O s.l.length s.cap) ∧ w.cell? ⟨g, 1, none⟩ = some (.int .i64 s.thr) ∧ w.cell? ⟨g, 2, none⟩ = some (.int .i64 s.img) ∧ w.cell? ⟨g, 3, none⟩ = some (.int .i64 s.asid) ∧ w.cell? ⟨g, 4, none⟩ = some (.int .i64 s.age) :=
  ⟨h.cell 0, h.cell 1, h.cell 2, h.cell 3, h.cell 4⟩
theorem Hm.spc (h : Hm w W P M K H) {n : Nat} (hn : n < 7) : w.cell? ⟨P, 109 + n * 5, none⟩ = some (.slice (H.sp n).O (H.sp n).l.length (H.sp n).cap) ∧ w.cell? ⟨P, 109 + n * 5 + 1, none⟩ = some (.int .i64 (H.sp n).thr) ∧ w.cell? ⟨P, 109 + n * 5 + 2, none⟩ = some (.int .i64 (H.sp n).img) ∧ w.cell? ⟨P, 109 + n * 5 + 3, none⟩ = some (.int .i64 (H.sp n).asid) ∧ w.cell? ⟨P, 109 + n * 5 + 4, none⟩ = some (.int .i64 (H.sp n).age) :=
  ⟨h.spAt hn 0 _ rfl, h.spAt hn 1 _ rfl, h.spAt hn 2 _ rfl, h.spAt hn 3 _ rfl, h.spAt hn 4 _ rfl⟩
theorem kcell {w w1 : World} {P M : Nat} (h : Keeps (PM P M) w w1) : (∀ b o, b < w.heap.size → b ≠ P → b ≠ M → w1.cell? ⟨b, o, none⟩ = w.cell? ⟨b, o, none⟩) ∧ (∀ b o, b < w.heap.size → b ≠ P → b ≠ M → w1.frozen? ⟨b, o, none⟩ = w.frozen? ⟨b, o, none⟩) :=
  ⟨fun b o h1 h2 h3 => World.cell?_of_block (a := ⟨b, o, none⟩) (h.block b h1 (fun hf => hf.elim h2 h3)), fun b o h1 h2 h3 => World.frozen?_of_block (a := ⟨b, o, none⟩) (h.block b h1 (fun hf => hf.elim h2 h3))⟩
theorem Bk.range {w : World} {g : Nat} {t : TypeId} {cs : List Value} (h : Bk w g t cs.toArray) : w.rangeAt g 0 cs := fun j v hv => by
  rw [Nat.zero_add, h.cell j]
  simpa using hv
/-- What Fork answers. -/
def fkE (H : Hs) (n : Int) : Int := if livesB H n then match frS H, frT H with
  | some _, some _ => 0
  | _, _ => 20 else 4
/-- The child. -/
def Th.child (T : Th) (s : Nat) : Th := { T with sp := s, r0 := 0, core := 0, dead := false }
def FkPost (w w' : World) (W : Nat → Prop) (P M K : Nat) (H : Hs) (e : Ending) (n : Int) : Prop :=
  (fkE H n ≠ 0 → e = .returned (.tuple #[.int .i64 0, .int .i64 0, .int .i64 (fkE H n)]) ∧ Went w w' W P M K H) ∧
  (fkE H n = 0 → ∃ (k q s t : Nat) (O : Option Addr) (cap : Nat), n = k ∧ (H.th k).sp = q ∧ frS H = some s ∧ frT H = some t ∧ e = .returned (.tuple #[.int .i64 s, .int .i64 t, .int .i64 0]) ∧ Went w w' W P M K ((H.setSp s ⟨O, cap, (H.sp q).l, 1, (H.sp q).img, 0, 0⟩).setTh t ((H.th k).child s)))
theorem FkPost.no {w' : World} {n E : Int} {e : Ending} (hE : fkE H n = E) (h0 : E ≠ 0) (he : e = .returned (.tuple #[.int .i64 0, .int .i64 0, .int .i64 E])) (h : Went w w' W P M K H) : FkPost w w' W P M K H e n := by
  subst hE
  exact ⟨fun _ => ⟨he, h⟩, fun h' => absurd h' h0⟩
theorem pcFork_nil (n : Int) (w : World) : Calls Try.prog 13 #[.pointer none, .int .i64 n] w fun e w' => e = .returned (.tuple #[.int .i64 0, .int .i64 0, .int .i64 1]) ∧ w = w' := by
  go_enter Try.func13, Try.ntmps13
  go_wp2_with fail
  refine bodyPost_ret (results_tmp3 rfl _ _ _) rfl ?_
  exact ⟨rfl, rfl⟩
/-- All threads name spaces that may be. -/
def SpOk (H : Hs) : Prop := ∀ k, k < 9 → 0 ≤ (H.th k).sp ∧ (H.th k).sp ≤ 6
set_option maxRecDepth 100000 in
set_option maxHeartbeats 8000000 in
theorem pcFork_any (n : Int) (hn : I64 n) (h : Hm w W P M K H) (hso : SpOk H) :
    Calls Try.prog 13 #[.pointer (some ⟨P, 0, none⟩), .int .i64 n] w fun e w' => FkPost w w' W P M K H e n := by
  have HH := Lib.hid h
  have HN := Lib.hid hn
  have HSO := Lib.hid hso
  clear h hn hso
  rcases hlv : livesB H n with _ | _
  · have HE := Lib.hid (show fkE H n = 4 by simp [fkE, hlv])
    have HV := Lib.hid hlv
    clear hlv
    go_enter Try.func13, Try.ntmps13
    go_wp2_with fail
    refine (pcLives_any n HN.out HH.out).mono ?_
    rintro e w1 ⟨rfl, rfl⟩
    rw [HV.out]
    go_wp2_with fail
    refine bodyPost_ret (results_tmp3 rfl _ _ _) rfl ?_
    exact FkPost.no HE.out (by decide) rfl (Went.same HH.out (Below.refl _ _))
  obtain ⟨k, rfl, k1, k8, -, -⟩ := livesB_some hlv
  have HV := Lib.hid hlv
  have HE := Lib.hid (show fkE H k = match frS H, frT H with
    | some _, some _ => 0
    | _, _ => 20 by unfold fkE; rw [if_pos hlv])
  clear hlv
  by_cases hpl : ∃ s t, frS H = some s ∧ frT H = some t
  · obtain ⟨s, t, hs, ht⟩ := hpl
    obtain ⟨s1, s6, -⟩ := frS_lt hs
    obtain ⟨t1, t8, -⟩ := frT_lt ht
    obtain ⟨q, hq⟩ := Int.eq_ofNat_of_zero_le (HSO.out k (by omega)).1
    have q6 : q ≤ 6 := by have := (HSO.out k (by omega)).2; omega
    have HQ := Lib.hid hq
    have HE' := Lib.hid (show fkE H k = 0 by rw [HE.out, hs, ht])
    have HP := Lib.hid (show plcV H = .tuple #[.int .i64 s, .int .i64 t, .bool true] by unfold plcV; rw [hs, ht])
    have HFS := Lib.hid hs
    have HFT := Lib.hid ht
    clear hs ht hq HE
    go_enter Try.func13, Try.ntmps13
    go_wp2_with fail
    refine (pcLives_any k HN.out HH.out).mono ?_
    rintro e w1 ⟨rfl, rfl⟩
    rw [HV.out]
    go_wp2_with fail
    refine (pcPlaces_any HH.out).mono ?_
    rintro e w2 ⟨rfl, rfl⟩
    rw [HP.out]
    have HKz := Lib.hid (Bk.new w 36 #[.int .i64 0, .int .u64 0, .int .u64 0, .int .u64 0, .int .u64 0, .int .u64 0, .int .u64 0, .int .u64 0, .int .u64 0, .int .i64 0, .int .i64 0, .bool false])
    go_upto_region 9 with (first | refine get_th rfl _ rfl HH.out (n := k) (by omega) rfl ?_ | refine box_th rfl _ _ rfl w.heap.size (H.th k) _ rfl rfl HKz.out rfl ?_)
    refine (show ∀ W9 : World, Below w.heap.size w W9 → Bk W9 w.heap.size 36 (thC (H.th k)).toArray → Code.wp _ _ _ _ W9 from fun W9 hb9 hk9 => ?_) _ (brow (ba (Below.refl _ _) _) (Nat.le_refl _) _) (HKz.out.row _)
    have HB9 := Lib.hid hb9
    have HK9 := Lib.hid hk9
    have HH9 := Lib.hid (HH.out.call hb9)
    clear hb9 hk9 HKz
    obtain ⟨z0, -⟩ := HK9.out.th
    rw [HQ.out] at z0
    obtain ⟨x0, x1, x2, x3, x4⟩ := HH9.out.spc (n := q) (by omega)
    have l9 := HK9.out.lt
    have lP := HH9.out.lt P HH9.out.WP
    go_wp2_with fail
    have hq7 : (q : Int) < 7 := by omega
    refine wp_region_held_drew (S := fun w' => Below W9.heap.size W9 w') (by kernel_rfl) (bd (Below.refl _ _)) (fun hHeld => ?_)
    refine wpAnyH_take (i := 0) (oi := ⟨_, _, _, _, _, _⟩) (v := ?va0) rfl (by kernel_rfl) (by kernel_rfl) (by kernel_rfl) (fun _ _ _ h => h) (Or.inl ⟨by rfl, ?hya0⟩) hHeld ?resta0
    case hya0 => (intro w' hSw; go_simp; (try rw [if_pos hq7]); try with_reducible rfl)
    try simp only [Act.put, List.setIfInBounds_toArray, List.set_cons_zero, List.set_cons_succ]
    refine wpAnyH_take (i := 1) (oi := ⟨_, _, _, _, _, _⟩) (v := ?va1) rfl (by kernel_rfl) (by kernel_rfl) (by kernel_rfl) (fun _ _ _ h => h) (Or.inl ⟨by rfl, ?hya1⟩) hHeld ?resta1
    case hya1 => (intro w' hSw; go_simp; (try rw [if_pos hq7]); try with_reducible rfl)
    try simp only [Act.put, List.setIfInBounds_toArray, List.set_cons_zero, List.set_cons_succ]
    refine wpAnyH_take (i := 2) (oi := ⟨_, _, _, _, _, _⟩) (v := ?va2) rfl (by kernel_rfl) (by kernel_rfl) (by kernel_rfl) (fun _ _ _ h => h) (Or.inl ⟨by rfl, ?hya2⟩) hHeld ?resta2
    case hya2 => (intro w' hSw; obtain ⟨hcc, hff⟩ := bcell hSw; go_simp; (try rw [if_pos hq7]); try with_reducible rfl)
    try simp only [Act.put, List.setIfInBounds_toArray, List.set_cons_zero, List.set_cons_succ]
    refine wpAnyH_take (i := 3) (oi := ⟨_, _, _, _, _, _⟩) (v := ?va3) rfl (by kernel_rfl) (by kernel_rfl) (by kernel_rfl) (fun _ _ _ h => h) (Or.inl ⟨by rfl, ?hya3⟩) hHeld ?resta3
    case hya3 => (intro w' hSw; go_simp; (try rw [if_pos hq7]); try with_reducible rfl)
    try simp only [Act.put, List.setIfInBounds_toArray, List.set_cons_zero, List.set_cons_succ]
    refine wpAnyH_take (i := 4) (oi := ⟨_, _, _, _, _, _⟩) (v := ?va4) rfl (by kernel_rfl) (by kernel_rfl) (by kernel_rfl) (fun _ _ _ h => h) (Or.inl ⟨by rfl, ?hya4⟩) hHeld ?resta4
    case hya4 => (intro w' hSw; go_simp; (try rw [if_pos hq7]); try with_reducible rfl)
    try simp only [Act.put, List.setIfInBounds_toArray, List.set_cons_zero, List.set_cons_succ]
    refine wpAnyH_take (i := 5) (oi := ⟨_, _, _, _, _, _⟩) (v := ?va5) rfl (by kernel_rfl) (by kernel_rfl) (by kernel_rfl) (fun _ _ _ h => h) (Or.inl ⟨by rfl, ?hya5⟩) hHeld ?resta5
    case hya5 => (intro w' hSw; go_simp; (try rw [if_pos hq7]); try with_reducible rfl)
    try simp only [Act.put, List.setIfInBounds_toArray, List.set_cons_zero, List.set_cons_succ]
    refine wpAnyH_take (i := 6) (oi := ⟨_, _, _, _, _, _⟩) (v := ?va6) rfl (by kernel_rfl) (by kernel_rfl) (by kernel_rfl) (fun _ _ _ h => h) (Or.inl ⟨by rfl, ?hya6⟩) hHeld ?resta6
    case hya6 => (intro w' hSw; obtain ⟨hcc, hff⟩ := bcell hSw; go_simp; (try rw [if_pos hq7]); try with_reducible rfl)
    try simp only [Act.put, List.setIfInBounds_toArray, List.set_cons_zero, List.set_cons_succ]
    refine wpAnyH_ready (rs := [7]) (by kernel_rfl) (by simp) ?_
    refine AllReadyH.cons (o := ⟨_, _, _, _, _, _⟩) rfl (fun K hK => ?_) AllReadyH.nil
    go_simp
    have hB2 := ba hHeld (.cells #[.slice none 0 0, .int .i64 0, .int .i64 0, .int .i64 0, .int .i64 0] 38)
    clear hHeld
    refine hK.out _ _ hB2 (fun hHeld => ?_)
    clear hB2 hK K
    try simp only [Act.put, List.setIfInBounds_toArray, List.set_cons_zero, List.set_cons_succ]
    refine wpAnyH_ready (rs := [8]) (by kernel_rfl) (by simp) ?_
    refine AllReadyH.cons (o := ⟨_, _, _, _, _, _⟩) rfl (fun K hK => ?_) AllReadyH.nil
    go_simp
    have hB2 := ba (bd (Below.refl W9.heap.size W9)) (.cells (spC (H.sp q)).toArray 38)
    clear hHeld
    refine hK.out _ _ hB2 (fun hHeld => ?_)
    clear hB2 hK K
    try simp only [Act.put, List.setIfInBounds_toArray, List.set_cons_zero, List.set_cons_succ]
    refine wpAnyH_done (by kernel_rfl) ?_ _
    clear hHeld x0 x1 x2 x3 x4 z0
    go_upto_region 10 with fail
    refine (show ∀ W10 : World, Below W9.heap.size W9 W10 → Bk W10 W9.heap.size 38 (spC (H.sp q)).toArray → Code.wp _ _ _ _ W10 from fun W10 hb10 hk10 => ?_) _ (bd (ba (Below.refl _ _) _)) (Bk.new W9 38 (spC (H.sp q)).toArray)
    have HB10 := Lib.hid (bthen HB9.out hb10)
    have HK10 := Lib.hid (HK9.out.call hb10)
    have HS10 := Lib.hid hk10
    have HH10 := Lib.hid (HH9.out.call hb10)
    obtain ⟨y0, -, y2, -⟩ := hk10.spc
    have l10 := hk10.lt
    have nP : W9.heap.size ≠ P := by omega
    have nM : W9.heap.size ≠ M := by have := HH9.out.lt M HH9.out.WM; omega
    have wP : w.heap.size ≠ P := by have := HH.out.lt P HH.out.WP; omega
    have wM : w.heap.size ≠ M := by have := HH.out.lt M HH.out.WM; omega
    obtain ⟨⟨hrf0, -⟩, hrc, hrk⟩ := HH10.out.rf q (by omega)
    have HR10d := Lib.hid (hrf0.call (bd (Below.refl W10.heap.size W10)))
    have HH10d := Lib.hid (HH10.out.call (bd (Below.refl W10.heap.size W10)))
    have HRK := Lib.hid hrk
    have h8 := (chk_parts hrk).1
    clear hb10 hk10 hrf0 hrk
    go_wp2_with fail
    have hs7 : (s : Int) < 7 := by omega
    refine wp_region_held_drew (S := fun w' => Keeps (PM P M) W10 w') (by kernel_rfl) (Keeps.refl _ _).drew (fun hHeld => ?_)
    refine wpAnyH_take (i := 0) (oi := ⟨_, _, _, _, _, _⟩) (v := ?vb0) rfl (by kernel_rfl) (by kernel_rfl) (by kernel_rfl) (fun _ _ _ h => h) (Or.inl ⟨by rfl, ?hyb0⟩) hHeld ?restb0
    case hyb0 => (intro w' hSw; go_simp; (try rw [if_pos hs7]); try with_reducible rfl)
    try simp only [Act.put, List.setIfInBounds_toArray, List.set_cons_zero, List.set_cons_succ]
    refine wpAnyH_take (i := 1) (oi := ⟨_, _, _, _, _, _⟩) (v := ?vb1) rfl (by kernel_rfl) (by kernel_rfl) (by kernel_rfl) (fun _ _ _ h => h) (Or.inl ⟨by rfl, ?hyb1⟩) hHeld ?restb1
    case hyb1 => (intro w' hSw; go_simp; (try rw [if_pos hs7]); try with_reducible rfl)
    try simp only [Act.put, List.setIfInBounds_toArray, List.set_cons_zero, List.set_cons_succ]
    refine wpAnyH_take (i := 2) (oi := ⟨_, _, _, _, _, _⟩) (v := ?vb2) rfl (by kernel_rfl) (by kernel_rfl) (by kernel_rfl) (fun _ _ _ h => h) (Or.inl ⟨by rfl, ?hyb2⟩) hHeld ?restb2
    case hyb2 => (intro w' hSw; go_simp; (try rw [if_pos hs7]); try with_reducible rfl)
    try simp only [Act.put, List.setIfInBounds_toArray, List.set_cons_zero, List.set_cons_succ]
    refine wpAnyH_take (i := 3) (oi := ⟨_, _, _, _, _, _⟩) (v := ?vb3) rfl (by kernel_rfl) (by kernel_rfl) (by kernel_rfl) (fun _ _ _ h => h) (Or.inl ⟨by rfl, ?hyb3⟩) hHeld ?restb3
    case hyb3 => (intro w' hSw; obtain ⟨hcc, hff⟩ := kcell hSw; go_simp; (try rw [if_pos hs7]); try with_reducible rfl)
    try simp only [Act.put, List.setIfInBounds_toArray, List.set_cons_zero, List.set_cons_succ]
    refine wpAnyH_take (i := 5) (oi := ⟨_, _, _, _, _, _⟩) (v := ?vb5) rfl (by kernel_rfl) (by kernel_rfl) (by kernel_rfl) (fun _ _ _ h => h) (Or.inl ⟨by rfl, ?hyb5⟩) hHeld ?restb5
    case hyb5 => (intro w' hSw; go_simp; (try rw [if_pos hs7]); try with_reducible rfl)
    try simp only [Act.put, List.setIfInBounds_toArray, List.set_cons_zero, List.set_cons_succ]
    refine wpAnyH_take (i := 6) (oi := ⟨_, _, _, _, _, _⟩) (v := ?vb6) rfl (by kernel_rfl) (by kernel_rfl) (by kernel_rfl) (fun _ _ _ h => h) (Or.inl ⟨by rfl, ?hyb6⟩) hHeld ?restb6
    case hyb6 => (intro w' hSw; obtain ⟨hcc, hff⟩ := kcell hSw; go_simp; (try rw [if_pos hs7]); try with_reducible rfl)
    try simp only [Act.put, List.setIfInBounds_toArray, List.set_cons_zero, List.set_cons_succ]
    refine wpAnyH_take (i := 8) (oi := ⟨_, _, _, _, _, _⟩) (v := ?vb8) rfl (by kernel_rfl) (by kernel_rfl) (by kernel_rfl) (fun _ _ _ h => h) (Or.inl ⟨by rfl, ?hyb8⟩) hHeld ?restb8
    case hyb8 => (intro w' hSw; go_simp; (try rw [if_pos hs7]); try with_reducible rfl)
    try simp only [Act.put, List.setIfInBounds_toArray, List.set_cons_zero, List.set_cons_succ]
    refine wpAnyH_take (i := 9) (oi := ⟨_, _, _, _, _, _⟩) (v := ?vb9) rfl (by kernel_rfl) (by kernel_rfl) (by kernel_rfl) (fun _ _ _ h => h) (Or.inl ⟨by rfl, ?hyb9⟩) hHeld ?restb9
    case hyb9 => (intro w' hSw; go_simp; (try rw [if_pos hs7]); try with_reducible rfl)
    try simp only [Act.put, List.setIfInBounds_toArray, List.set_cons_zero, List.set_cons_succ]
    refine wpAnyH_ready (rs := [4]) (by kernel_rfl) (by simp) ?_
    refine AllReadyH.cons (o := ⟨_, _, _, _, _, _⟩) rfl (fun K hK => ?_) AllReadyH.nil
    go_simp
    refine (srclone_any (H.sp q).O (H.sp q).l.length (H.sp q).cap (H.sp q).l _ HR10d.out rfl hrc (by omega)).mono ?_
    rintro e wrb1 ⟨v, rfl, ho, hb⟩
    obtain ⟨O', cap', rfl, hc', hrf⟩ := rf_of_ow (W := W) ho (fun x hx => HH10d.out.lt x hx)
    have HHr := Lib.hid (HH10d.out.call hb)
    have HX := Lib.hid (HHr.out.putSp (n := s) (by omega) ⟨O', cap', (H.sp q).l, 1, (H.sp q).img, 0, 0⟩ ⟨hrf, hc', HRK.out⟩)
    clear ho hrf
    go_wp2_with fail
    have hB2 := kthen hHeld hb
    clear hHeld hb
    refine hK.out _ _ hB2 (fun hHeld => ?_)
    clear hB2 hK K
    try simp only [Act.put, List.setIfInBounds_toArray, List.set_cons_zero, List.set_cons_succ]
    refine wpAnyH_take (i := 7) (oi := ⟨_, _, _, _, _, _⟩) (v := ?vb7) rfl (by kernel_rfl) (by kernel_rfl) (by kernel_rfl) (fun _ _ _ h => h) (Or.inl ⟨by rfl, ?hyb7⟩) hHeld ?restb7
    case hyb7 => (intro w' hSw; go_simp; (try rw [if_pos hs7]); try with_reducible rfl)
    try simp only [Act.put, List.setIfInBounds_toArray, List.set_cons_zero, List.set_cons_succ]
    refine wpAnyH_take (i := 10) (oi := ⟨_, _, _, _, _, _⟩) (v := ?vb10) rfl (by kernel_rfl) (by kernel_rfl) (by kernel_rfl) (fun _ _ _ h => h) (Or.inl ⟨by rfl, ?hyb10⟩) hHeld ?restb10
    case hyb10 => (intro w' hSw; go_simp; (try rw [if_pos hs7]); try with_reducible rfl)
    try simp only [Act.put, List.setIfInBounds_toArray, List.set_cons_zero, List.set_cons_succ]
    refine wpAnyH_ready (rs := [11]) (by kernel_rfl) (by simp) ?_
    refine AllReadyH.cons (o := ⟨_, _, _, _, _, _⟩) rfl (fun K hK => ?_) AllReadyH.nil
    refine wp_store_mid 38 _ _ rfl P (109 + s * 5) (spC ⟨O', cap', (H.sp q).l, 1, (H.sp q).img, 0, 0⟩).toArray rfl rfl (there_sub HHr.out.room (by simp [spC_len]; omega)) spInfo (all_oneCell_toArray (spC_one _)) ?_
    simp only [List.toList_toArray]
    have hB2 := kcells hHeld (.inl rfl) (spC ⟨O', cap', (H.sp q).l, 1, (H.sp q).img, 0, 0⟩) (109 + s * 5)
    clear hHeld
    refine hK.out _ _ hB2 (fun hHeld => ?_)
    clear hB2 hK K
    try simp only [Act.put, List.setIfInBounds_toArray, List.set_cons_zero, List.set_cons_succ]
    refine wpAnyH_done (by kernel_rfl) ?_ _
    have HKK := Lib.hid (kkeep (Keeps.of_below (F := PM P M) HB10.out) hHeld)
    have HKx := Lib.hid (HK10.out.keep hHeld (fun hf => hf.elim wP wM))
    clear hHeld
    generalize hwx : wrb1.setCells P (109 + s * 5) (spC ⟨O', cap', (H.sp q).l, 1, (H.sp q).img, 0, 0⟩) = wx at *
    clear hwx
    obtain ⟨z0, z1, z2, z3, z4, z5, z6, z7, z8, z9, -⟩ := HKx.out.th
    have lx := HKx.out.lt
    go_upto_region 13 with fail
    refine (show ∀ W13 : World, Below wx.heap.size wx W13 → Bk W13 wx.heap.size 36 (thC ((H.th k).child s)).toArray → Code.wp _ _ _ _ W13 from fun W13 hb13 hk13 => ?_) _ (ba (Below.refl _ _) _) (Bk.new wx 36 (thC ((H.th k).child s)).toArray)
    have HH13 := Lib.hid (HX.out.call hb13)
    have HK13 := Lib.hid (kthen HKK.out hb13)
    have HH13d := Lib.hid (HH13.out.call (bd (Below.refl W13.heap.size W13)))
    clear z0 z1 z2 z3 z4 z5 z6 z7 z8 z9
    have l13 := hk13.lt
    have xP : wx.heap.size ≠ P := by have := HX.out.lt P HX.out.WP; omega
    have xM : wx.heap.size ≠ M := by have := HX.out.lt M HX.out.WM; omega
    have HB13 := Lib.hid hk13
    clear hb13 hk13
    go_wp2_with fail
    have ht9 : (t : Int) < 9 := by omega
    refine wp_region_held_drew (S := fun w' => Keeps (PM P M) W13 w') (by kernel_rfl) (Keeps.refl _ _).drew (fun hHeld => ?_)
    refine wpAnyH_take (i := 0) (oi := ⟨_, _, _, _, _, _⟩) (v := ?vc0) rfl (by kernel_rfl) (by kernel_rfl) (by kernel_rfl) (fun _ _ _ h => h) (Or.inl ⟨by rfl, ?hyc0⟩) hHeld ?restc0
    case hyc0 => (intro w' hSw; go_simp; (try rw [if_pos ht9]); try with_reducible rfl)
    try simp only [Act.put, List.setIfInBounds_toArray, List.set_cons_zero, List.set_cons_succ]
    refine wpAnyH_take (i := 1) (oi := ⟨_, _, _, _, _, _⟩) (v := ?vc1) rfl (by kernel_rfl) (by kernel_rfl) (by kernel_rfl) (fun _ _ _ h => h) (Or.inl ⟨by rfl, ?hyc1⟩) hHeld ?restc1
    case hyc1 => (intro w' hSw; go_simp; (try rw [if_pos ht9]); try with_reducible rfl)
    try simp only [Act.put, List.setIfInBounds_toArray, List.set_cons_zero, List.set_cons_succ]
    refine wpAnyH_take (i := 2) (oi := ⟨_, _, _, _, _, _⟩) (v := .agg (thC ((H.th k).child s)).toArray) rfl (by kernel_rfl) (by kernel_rfl) (by kernel_rfl) (fun _ _ _ h => h) (yieldsIf_load_mid (by rfl) 36 _ rfl wx.heap.size 0 rfl (thC ((H.th k).child s)) _ (fun w' hSw => (HB13.out.keep hSw (fun hf => hf.elim xP xM)).range) Try.underlying36 rfl thInfo) hHeld ?_
    try simp only [Act.put, List.setIfInBounds_toArray, List.set_cons_zero, List.set_cons_succ]
    refine wpAnyH_take (i := 3) (oi := ⟨_, _, _, _, _, _⟩) (v := ?vc3) rfl (by kernel_rfl) (by kernel_rfl) (by kernel_rfl) (fun _ _ _ h => h) (Or.inl ⟨by rfl, ?hyc3⟩) hHeld ?restc3
    case hyc3 => (intro w' hSw; go_simp; (try rw [if_pos ht9]); try with_reducible rfl)
    try simp only [Act.put, List.setIfInBounds_toArray, List.set_cons_zero, List.set_cons_succ]
    refine wpAnyH_take (i := 4) (oi := ⟨_, _, _, _, _, _⟩) (v := ?vc4) rfl (by kernel_rfl) (by kernel_rfl) (by kernel_rfl) (fun _ _ _ h => h) (Or.inl ⟨by rfl, ?hyc4⟩) hHeld ?restc4
    case hyc4 => (intro w' hSw; go_simp; (try rw [if_pos ht9]); try with_reducible rfl)
    try simp only [Act.put, List.setIfInBounds_toArray, List.set_cons_zero, List.set_cons_succ]
    refine wpAnyH_take (i := 5) (oi := ⟨_, _, _, _, _, _⟩) (v := ?vc5) rfl (by kernel_rfl) (by kernel_rfl) (by kernel_rfl) (fun _ _ _ h => h) (Or.inl ⟨by rfl, ?hyc5⟩) hHeld ?restc5
    case hyc5 => (intro w' hSw; go_simp; (try rw [if_pos ht9]); try with_reducible rfl)
    try simp only [Act.put, List.setIfInBounds_toArray, List.set_cons_zero, List.set_cons_succ]
    refine wpAnyH_ready (rs := [6]) (by kernel_rfl) (by simp) ?_
    refine AllReadyH.cons (o := ⟨_, _, _, _, _, _⟩) rfl (fun K hK => ?_) AllReadyH.nil
    refine wp_store_mid 36 _ _ rfl P (1 + t * 12) (thC ((H.th k).child s)).toArray rfl rfl (there_sub HH13d.out.room (by simp [thC_len]; omega)) thInfo (all_oneCell_toArray (thC_one _)) ?_
    simp only [List.toList_toArray]
    have hB2 := kcells hHeld (.inl rfl) (thC ((H.th k).child s)) (1 + t * 12)
    clear hHeld
    refine hK.out _ _ hB2 (fun hHeld => ?_)
    clear hB2 hK K
    try simp only [Act.put, List.setIfInBounds_toArray, List.set_cons_zero, List.set_cons_succ]
    refine wpAnyH_done (by kernel_rfl) ?_ _
    go_wp2_with fail
    refine bodyPost_ret (results_tmp3 rfl _ _ _) rfl ?_
    exact ⟨fun h0 => absurd HE'.out h0, fun _ => ⟨k, q, s, t, O', cap', rfl, HQ.out, HFS.out, HFT.out, rfl, HH13d.out.putTh (by omega) _, kkeep HK13.out hHeld⟩⟩
  · have HE' := Lib.hid (show fkE H k = 20 by
      rw [HE.out]
      cases hs : frS H with
      | none => rfl
      | some s =>
        cases ht : frT H with
        | none => rfl
        | some t => exact absurd ⟨s, t, hs, ht⟩ hpl)
    have HP := Lib.hid (show plcV H = .tuple #[.int .i64 0, .int .i64 0, .bool false] by
      unfold plcV
      cases hs : frS H with
      | none => rfl
      | some s =>
        cases ht : frT H with
        | none => rfl
        | some t => exact absurd ⟨s, t, hs, ht⟩ hpl)
    clear hpl HE
    go_enter Try.func13, Try.ntmps13
    go_wp2_with fail
    refine (pcLives_any k HN.out HH.out).mono ?_
    rintro e w1 ⟨rfl, rfl⟩
    rw [HV.out]
    go_wp2_with fail
    refine (pcPlaces_any HH.out).mono ?_
    rintro e w2 ⟨rfl, rfl⟩
    rw [HP.out]
    go_wp2_with fail
    refine bodyPost_ret (results_tmp3 rfl _ _ _) rfl ?_
    exact FkPost.no HE'.out (by decide) rfl (Went.same HH.out (Below.refl _ _))
end Go.Proofs.Ytgfogbifbpadoaa
