/-
  The law FramesCount of layer 15: the walk.
-/
import Derived.Test.YtokmcelmodoeoaaDoorFrLeast
import Derived.Deep.DeepCutAuto
import Derived.Deep.CutBlock
namespace Go.Proofs.YtokmcelmodoeoaaDoor
open Go.RowKit
set_option linter.unusedVariables false
set_option linter.unusedSimpArgs false
theorem count_short (n : Int) (O : Option Addr) (len cap : Nat) (w : World) (hG : G w) (h : n < 1 ∨ 64 < n) : Calls Tryd.prog 3 #[.int .i64 n, .slice O len cap] w fun e w' => e = .returned (.bool true) ∧ Below w.heap.size w w' := by
  have HG := Lib.hid hG
  have HH := Lib.hid h
  clear hG h
  go_enter Tryd.func3, Tryd.ntmps3
  go_wp2_with fail
  refine (gnew_no n _ HH.out).mono ?_
  rintro e w1 ⟨rfl, rfl⟩
  go_wp2_with fail
  refine (wakes15_any _ HG.out).mono ?_
  rintro e w1 ⟨rfl, hb⟩
  go_wp2_with fail
  go_ret
  exact ⟨rfl, hb⟩
theorem count_long (n : Nat) (O : Option Addr) (len cap : Nat) (w : World) (hG : G w) (h1 : 1 ≤ n) (h2 : n ≤ 64) (hl : 200 < len) : Calls Tryd.prog 3 #[.int .i64 n, .slice O len cap] w fun e w' => e = .returned (.bool true) ∧ Below w.heap.size w w' := by
  have HG := Lib.hid hG
  clear hG
  go_enter Tryd.func3, Tryd.ntmps3
  go_wp2_with fail
  refine (gnew n _ h1 h2).mono ?_
  rintro e w1 ⟨rfl, -, hb⟩
  have HB := Lib.hid hb
  clear hb
  go_wp2_with fail
  refine (wakes15_any _ (HG.out.call HB.out)).mono ?_
  rintro e w2 ⟨rfl, hb⟩
  go_wp2_with fail
  go_ret
  exact ⟨rfl, bthen HB.out hb⟩
/-- The 64 cells of the law's own counts. -/
def hasC (ct : Nat → Int) : Array Value := Array.ofFn (n := 64) fun i => Value.int .i64 (ct i.val)
theorem hasC_at (ct : Nat → Int) {i : Nat} (hi : i < 64) : (hasC ct)[i]? = some (.int .i64 (ct i)) := by simp [hasC, hi]
theorem hasC_set (ct : Nat → Int) {i : Nat} (hi : i < 64) (v : Int) : (hasC ct).setIfInBounds i (.int .i64 v) = hasC (upd ct i v) := by
  apply Array.ext_getElem?
  intro j
  rw [Array.getElem?_setIfInBounds]
  by_cases e : i = j
  · subst e
    simp [hasC, hi, upd]
  · rw [if_neg e]
    have e' : ¬ j = i := fun h => e h.symm
    by_cases hj : j < 64
    · simp [hasC, upd, e', hj]
    · simp [hasC, hj]
theorem zeroHas : ∀ W : World, (zeroValue 28).run Tryd.prog W = .ok (.agg (hasC (fun _ => 0))) W := fun _ => by kernel_rfl
/-- What holds at the loop's head: the law's own counts are the pool's. -/
def CnRel (w0 : World) (p q n len : Nat) (i : Value) (w : World) : Prop :=
  ∃ (k : Nat) (ct : Nat → Int), i = .int .i64 k ∧ k ≤ len ∧ Good w p n ct ∧ Bk w q 28 (hasC ct) ∧ Below w0.heap.size w0 w ∧ ∀ j, ct j ≤ k + 1
/-- How many of the first frames have a count. -/
def hv (ct : Nat → Int) : Nat → Nat := cnt (fun i => decide (0 < ct i))
theorem hv_succ (ct : Nat → Int) (t : Nat) : hv ct (t + 1) = hv ct t + if decide (0 < ct t) = true then 1 else 0 := rfl
theorem cnt_out (p : Nat → Bool) (n : Nat) (h : ∀ i, n ≤ i → p i = false) : ∀ m, n ≤ m → cnt p m = cnt p n
  | 0, hm => by rw [show n = 0 by omega]
  | m + 1, hm => by
    by_cases e : n = m + 1
    · rw [e]
    · have := cnt_out p n h m (by omega)
      rw [cnt, this, h m (by omega)]
      simp
theorem cnt_both (n : Nat) (ct : Nat → Int) (h : ∀ i, 0 ≤ ct i) : ∀ m, m ≤ n → cnt (frP n ct) m + hv ct m = m
  | 0, _ => rfl
  | m + 1, hm => by
    have ih := cnt_both n ct h m (by omega)
    have h0 := h m
    rw [hv_succ, cnt]
    have hmn : m < n := by omega
    by_cases e : ct m = 0
    · simp [frP, e, hmn]; omega
    · have h1 : 0 < ct m := by omega
      simp [frP, e, h1]; omega
theorem free_eq (n : Nat) (ct : Nat → Int) (h2 : n ≤ 64) (h : ∀ i, 0 ≤ ct i) : cnt (frP n ct) 64 + hv ct n = n := by
  rw [cnt_out (frP n ct) n (fun i hi => by simp [frP]; omega) 64 h2]
  exact cnt_both n ct h n (Nat.le_refl _)
theorem gcount_q (p n f : Nat) (ct : Nat → Int) (w : World) (h : Good w p n ct) (hf : f < n) : Calls Tryd.prog 12 #[.pointer (some ⟨p, 0, none⟩), .int .i64 f] w fun e w' => e = .returned (.int .i64 (ct f)) ∧ w' = w := (gcount p n f ct w h hf).mono fun _ _ h => ⟨h.1, h.2.symm⟩
theorem Good.heap {w w' : World} {p n : Nat} {ct : Nat → Int} (h : Good w p n ct) (e : w'.heap = w.heap) : Good w' p n ct := ⟨by have := h.pool; unfold Pl Bk at *; rw [e]; exact this, h.n1, h.n64, h.bd⟩
/-- What holds at the inner loop's head. -/
def CnIn (w0 : World) (p q n : Nat) (ct : Nat → Int) (s j : Value) (w : World) : Prop :=
  ∃ t : Nat, t ≤ n ∧ j = .int .i64 t ∧ s = .int .i64 (hv ct t : Nat) ∧ Good w p n ct ∧ Bk w q 28 (hasC ct) ∧ Below w0.heap.size w0 w
/-- What the switch leaves. -/
def CnCut (w0 : World) (p q n k : Nat) (w : World) : Prop :=
  ∃ ct : Nat → Int, Good w p n ct ∧ Bk w q 28 (hasC ct) ∧ Below w0.heap.size w0 w ∧ ∀ j, ct j ≤ k + 2
theorem upd_le {ct : Nat → Int} {i : Nat} {v : Int} {m : Int} (h : ∀ j, ct j ≤ m) (hv : v ≤ m) : ∀ j, upd ct i v j ≤ m := fun j => by
  unfold upd
  split
  · exact hv
  · exact h j
set_option maxRecDepth 100000 in
set_option maxHeartbeats 2000000 in
theorem count_few (n : Nat) (O : Option Addr) (len cap : Nat) (xs ys : Nat → Int) (w : World) (hG : G w) (h1 : 1 ≤ n) (h2 : n ≤ 64) (hl : len ≤ 200) (hc : len ≤ cap) (hI : PairsK .i64 .i64 w O len xs ys) : Calls Tryd.prog 3 #[.int .i64 n, .slice O len cap] w fun e w' => e = .returned (.bool true) ∧ Below w.heap.size w w' := by
  have hz := zeroHas
  have HG := Lib.hid hG
  have HI := Lib.hid hI
  clear hG hI
  go_enter Tryd.func3, Tryd.ntmps3
  go_wp2_with fail
  refine (gnew n _ h1 h2).mono ?_
  rintro e w1 ⟨rfl, hg, hb⟩
  have hpq : w.heap.size < w1.heap.size := hg.pool.lt
  have HB := Lib.hid hb
  have HP := Lib.hid hg
  clear hb hg
  have hz0 : (hasC fun _ => 0)[0]? = some (.int .i64 0) := hasC_at _ (by omega)
  have E := Lib.hid (hasC_set (fun _ => 0) (i := 0) (by omega) 1)
  go_wp2_with fail
  go_loopw [32] (fun i wr => CnRel w w.heap.size w1.heap.size n len i wr) (fun i _ => len - (intOf i).toNat)
  case atStart =>
    rw [E.out]
    refine ⟨0, _, rfl, by omega, HP.out.call (ba (Below.refl _ _) _), Bk.new w1 28 _, ba HB.out _, fun j => ?_⟩
    unfold upd
    split <;> simp
  case round =>
    clear HP HB E hz0 hz
    obtain ⟨k, ct, rfl, hk, hP, hQ, hB, hj⟩ := hrel
    by_cases hlt : k < len
    · obtain ⟨b, off, rfl, hcell⟩ := (HI.out.call hB) (by omega)
      obtain ⟨cx, cy⟩ := hcell k hlt
      rw [← Nat.add_assoc] at cy
      have HP := Lib.hid hP
      have HB := Lib.hid hB
      have HQ := Lib.hid hQ
      have HJ := Lib.hid hj
      have lb : b < wr.heap.size := World.block_lt_of_cell? wr ⟨b, off + k * 2, none⟩ cx
      clear hcell hP hB hQ hj
      generalize ey : ys k = f at *
      clear ey
      generalize ex : xs k = kd at *
      clear ex
      go_upto_block 2 with fail
      have hP := HP.out.call (ba (Below.refl wr.heap.size wr) (.cells #[.int .i64 kd, .int .i64 f] 30))
      have hQ := HQ.out.call (ba (Below.refl wr.heap.size wr) (.cells #[.int .i64 kd, .int .i64 f] 30))
      have hB := ba HB.out (.cells #[.int .i64 kd, .int .i64 f] 30)
      have hX := Arr.new wr #[.int .i64 kd, .int .i64 f] 30
      have hqX : w1.heap.size < wr.heap.size := HQ.out.lt
      clear HP HQ HB lb cx cy
      generalize wr.alloc (.cells #[.int .i64 kd, .int .i64 f] 30) = wt at *
      generalize wr.heap.size = X at *
      have cy : wt.cell? ⟨X, 1, none⟩ = some (.int .i64 f) := hX.cell 1 _ rfl
      have HP := Lib.hid hP
      have HQ := Lib.hid hQ
      have HB := Lib.hid hB
      have HX := Lib.hid hX
      clear hP hQ hB hX
      go_cut [] (fun wx => CnCut w w.heap.size w1.heap.size n k wx)
      case first =>
        by_cases k0 : kd = 0
        · subst k0
          rcases least_or ct n with ⟨m, m1, m2, m3⟩ | hf
          · have M2 := Lib.hid m2
            have M3 := Lib.hid m3
            clear m2 m3
            go_wp2_with fail
            refine (gtake w.heap.size n m ct _ (HG.out.call HB.out) HP.out m1 M2.out M3.out).mono ?_
            rintro e w2 ⟨rfl, hP2, hK⟩
            have hQ2 := Bk.keep HQ.out hK (by omega)
            have hB2 := hK.below HB.out (fun x hx => by omega)
            have cc : w2.cell? ⟨w1.heap.size, m, none⟩ = some (.int .i64 0) := ((hQ2.cell m).trans (hasC_at ct (by omega))).trans (by rw [M2.out])
            have cf : w2.frozen? ⟨w1.heap.size, m, none⟩ = false := hQ2.frozen m
            have HP2 := Lib.hid hP2
            have HQ2 := Lib.hid hQ2
            have HB2 := Lib.hid hB2
            clear hP2 hK hQ2 hB2 cy HP HQ HB HX
            go_wp2_with fail
            go_meet
            case rel =>
              have h := HQ2.out.set m (.int .i64 1)
              rw [hasC_set ct (by omega)] at h
              exact ⟨_, HP2.out.keep (Keeps.setCell (F := fun y => y = w1.heap.size) (p := ⟨w1.heap.size, m, none⟩) rfl _) (by omega), h, bs HB2.out (by show _ ≤ w1.heap.size; omega) _, upd_le (fun j => by have := HJ.out j; omega) (by omega)⟩
          · have HF := Lib.hid hf
            clear hf
            go_wp2_with fail
            refine (gtake_full w.heap.size n ct _ HP.out HF.out).mono ?_
            rintro e w2 ⟨rfl, rfl⟩
            go_wp2_with fail
            go_meet
            case rel => exact ⟨ct, HP.out, HQ.out, HB.out, fun j => by have := HJ.out j; omega⟩
        · have g0 : (kd == 0) = false := beq_eq_false_iff_ne.2 k0
          clear k0
          by_cases k1 : kd = 1
          · subst k1
            clear g0
            by_cases ht : tkC n ct f 0 = 0
            · obtain ⟨t1, t2, t3⟩ := tkC_zero ht
              clear ht
              obtain ⟨j, rfl⟩ := Int.eq_ofNat_of_zero_le (show 0 ≤ f by omega)
              rw [Int.toNat_natCast] at t3
              have hbd := HP.out.bd j
              have hjj := HJ.out j
              have n0 : (ct j == 0) = false := beq_eq_false_iff_ne.2 t3
              have N3 := Lib.hid t3
              clear t3
              go_wp2_with fail
              refine (gshare w.heap.size n j ct _ HP.out (by omega) (by have := N3.out; omega) (by omega)).mono ?_
              rintro e w2 ⟨rfl, hP2, hK⟩
              have hQ2 := Bk.keep HQ.out hK (by omega)
              have hB2 := hK.below HB.out (fun x hx => by omega)
              have cx2 : w2.cell? ⟨X, 1, none⟩ = some (.int .i64 j) := (hK.cell HX.out.lt (by omega) 1).trans cy
              have cc : w2.cell? ⟨w1.heap.size, j, none⟩ = some (.int .i64 (ct j)) := (hQ2.cell j).trans (hasC_at ct (by omega))
              have cf : w2.frozen? ⟨w1.heap.size, j, none⟩ = false := hQ2.frozen j
              have HP2 := Lib.hid hP2
              have HQ2 := Lib.hid hQ2
              have HB2 := Lib.hid hB2
              clear hP2 hK hQ2 hB2 cy HP HQ HB HX
              go_wp2_with fail
              go_meet
              case rel =>
                have h := HQ2.out.set j (.int .i64 (ct j + 1))
                rw [hasC_set ct (by omega)] at h
                exact ⟨_, HP2.out.keep (Keeps.setCell (F := fun y => y = w1.heap.size) (p := ⟨w1.heap.size, j, none⟩) rfl _) (by omega), h, bs HB2.out (by show _ ≤ w1.heap.size; omega) _, upd_le (fun j => by have := HJ.out j; omega) (by omega)⟩
            · have n0 : (tkC n ct f 0 == 0) = false := beq_eq_false_iff_ne.2 ht
              have N3 := Lib.hid ht
              clear ht
              have HS := Lib.hid (gshare_no w.heap.size n f _ ct _ HP.out rfl N3.out)
              generalize tkC n ct f 0 = c at *
              go_wp2_with fail
              refine HS.out.mono ?_
              rintro e w2 ⟨rfl, rfl⟩
              go_wp2_with fail
              go_meet
              case rel => exact ⟨ct, HP.out, HQ.out, HB.out, fun j => by have := HJ.out j; omega⟩
          · have g1 : (kd == 1) = false := beq_eq_false_iff_ne.2 k1
            clear k1
            by_cases k2 : kd = 2
            · subst k2
              clear g0 g1
              by_cases ht : tkC n ct f 1 = 0
              · obtain ⟨t1, t2, t3⟩ := tkC_zero ht
                clear ht
                obtain ⟨j, rfl⟩ := Int.eq_ofNat_of_zero_le (show 0 ≤ f by omega)
                rw [Int.toNat_natCast] at t3
                have hbd := HP.out.bd j
                have hjj := HJ.out j
                by_cases h1c : ct j = 1
                · have N1 := Lib.hid h1c
                  clear h1c t3
                  go_wp2_with fail
                  refine (gdrop_last w.heap.size n j ct _ HP.out (by omega) (by omega) N1.out).mono ?_
                  rintro e w2 ⟨rfl, hP2, hK⟩
                  have hQ2 := Bk.keep HQ.out hK (by omega)
                  have hB2 := hK.below HB.out (fun x hx => by omega)
                  have cx2 : w2.cell? ⟨X, 1, none⟩ = some (.int .i64 j) := (hK.cell HX.out.lt (by omega) 1).trans cy
                  have cc : w2.cell? ⟨w1.heap.size, j, none⟩ = some (.int .i64 1) := ((hQ2.cell j).trans (hasC_at ct (by omega))).trans (by rw [N1.out])
                  have cf : w2.frozen? ⟨w1.heap.size, j, none⟩ = false := hQ2.frozen j
                  have hne : X ≠ w1.heap.size := by omega
                  have HP2 := Lib.hid hP2
                  have HQ2 := Lib.hid hQ2
                  have HB2 := Lib.hid hB2
                  clear hP2 hK hQ2 hB2 cy HP HQ HB HX
                  go_wp2_with fail
                  go_meet
                  case rel =>
                    have h := HQ2.out.set j (.int .i64 0)
                    rw [hasC_set ct (by omega)] at h
                    exact ⟨_, HP2.out.keep (Keeps.setCell (F := fun y => y = w1.heap.size) (p := ⟨w1.heap.size, j, none⟩) rfl _) (by omega), h, bs HB2.out (by show _ ≤ w1.heap.size; omega) _, upd_le (fun j => by have := HJ.out j; omega) (by omega)⟩
                · have n0 : (ct j == 0) = false := beq_eq_false_iff_ne.2 t3
                  have n1 : (ct j - 1 == 0) = false := beq_eq_false_iff_ne.2 (by omega)
                  have hgt : 1 < ct j := by omega
                  clear h1c t3
                  go_wp2_with fail
                  refine (gdrop_some w.heap.size n j ct _ HP.out (by omega) (by omega) (by omega)).mono ?_
                  rintro e w2 ⟨rfl, hP2, hK⟩
                  have hQ2 := Bk.keep HQ.out hK (by omega)
                  have hB2 := hK.below HB.out (fun x hx => by omega)
                  have cx2 : w2.cell? ⟨X, 1, none⟩ = some (.int .i64 j) := (hK.cell HX.out.lt (by omega) 1).trans cy
                  have cc : w2.cell? ⟨w1.heap.size, j, none⟩ = some (.int .i64 (ct j)) := (hQ2.cell j).trans (hasC_at ct (by omega))
                  have cf : w2.frozen? ⟨w1.heap.size, j, none⟩ = false := hQ2.frozen j
                  have hne : X ≠ w1.heap.size := by omega
                  have HP2 := Lib.hid hP2
                  have HQ2 := Lib.hid hQ2
                  have HB2 := Lib.hid hB2
                  clear hP2 hK hQ2 hB2 cy HP HQ HB HX
                  go_wp2_with fail
                  go_meet
                  case rel =>
                    have h := HQ2.out.set j (.int .i64 (ct j - 1))
                    rw [hasC_set ct (by omega)] at h
                    exact ⟨_, HP2.out.keep (Keeps.setCell (F := fun y => y = w1.heap.size) (p := ⟨w1.heap.size, j, none⟩) rfl _) (by omega), h, bs HB2.out (by show _ ≤ w1.heap.size; omega) _, upd_le (fun j => by have := HJ.out j; omega) (by omega)⟩
              · have n0 : (tkC n ct f 1 == 0) = false := beq_eq_false_iff_ne.2 ht
                have N3 := Lib.hid ht
                clear ht
                have HS := Lib.hid (gdrop_no w.heap.size n f _ ct _ HP.out rfl N3.out)
                generalize tkC n ct f 1 = c at *
                go_wp2_with fail
                refine HS.out.mono ?_
                rintro e w2 ⟨rfl, rfl⟩
                go_wp2_with fail
                go_meet
                case rel => exact ⟨ct, HP.out, HQ.out, HB.out, fun j => by have := HJ.out j; omega⟩
            · have g2 : (kd == 2) = false := beq_eq_false_iff_ne.2 k2
              clear k2
              go_wp2_with fail
              go_meet
              case rel => exact ⟨ct, HP.out, HQ.out, HB.out, fun j => by have := HJ.out j; omega⟩
      case rest =>
        clear HP HQ HB HX cy HJ ct
        obtain ⟨ct, hP, hQ, hB, hj⟩ := hcut
        have HP := Lib.hid hP
        have HQ := Lib.hid hQ
        have HB := Lib.hid hB
        have HJ := Lib.hid hj
        clear hP hQ hB hj
        go_wp2_with fail
        obtain ⟨wo, rfl⟩ : ∃ wo : World, wo = wr := ⟨_, rfl⟩
        go_loopw [14, 132] (fun s j wr => CnIn w w.heap.size w1.heap.size n ct s j wr) (fun _ j _ => (n - intOf j).toNat)
        case atStart => exact ⟨0, by omega, rfl, rfl, HP.out, HQ.out, HB.out⟩
        case round =>
          clear HP HQ HB
          obtain ⟨t, ht, rfl, rfl, hP, hQ, hB⟩ := hrel
          have HP := Lib.hid hP
          have HQ := Lib.hid hQ
          have HB := Lib.hid hB
          clear hP hQ hB
          have hs1 := cnt_le (fun i => decide (0 < ct i)) t
          change hv ct t ≤ t at hs1
          by_cases htn : t < n
          · have cc : wr.cell? ⟨w1.heap.size, t, none⟩ = some (.int .i64 (ct t)) := (HQ.out.cell t).trans (hasC_at ct (by omega))
            have HS := Lib.hid (hv_succ ct t)
            by_cases hpos : 0 < ct t
            all_goals
              go_wp2_with fail
              go_quiet ((go_at_call 12; exact Calls.quiet_of_same (gcount_q w.heap.size n t ct _ (HP.out.heap rfl) htn)))
              go_wp2_with fail
              go_roundw
              case rel => exact ⟨t + 1, by omega, by go_num, by rw [HS.out]; first | (rw [if_pos (by simp only [decide_eq_true_eq]; omega)]; go_num) | (rw [if_neg (by simp only [decide_eq_true_eq]; omega)]; rfl), HP.out.heap rfl, HQ.out, ⟨HB.out.os, HB.out.tape, HB.out.output, HB.out.size, HB.out.block⟩⟩
              case measure => simp [intOf]; omega
          · have et : t = n := by omega
            subst et
            have HF := Lib.hid (gfree w.heap.size t ct _ HP.out)
            have hfe := free_eq t ct h2 (fun i => (HP.out.bd i).1)
            generalize cnt (frP t ct) 64 = v at *
            go_wp2_with fail
            refine HF.out.mono ?_
            rintro e wd ⟨rfl, rfl⟩
            go_wp2_with fail
            go_roundw
            case rel => exact ⟨k + 1, _, by go_num, by omega, HP.out, HQ.out, HB.out, fun j => by have := HJ.out j; omega⟩
            case measure => simp [intOf]; omega
    · have ek : k = len := by omega
      subst ek
      have HP := Lib.hid hP
      have HB := Lib.hid hB
      clear hP hB hQ hj
      go_wp2_with fail
      refine (wakes15_any _ (HG.out.call HB.out)).mono ?_
      rintro e w2 ⟨rfl, hb⟩
      go_wp2_with fail
      go_ret
      exact ⟨rfl, bthen HB.out hb⟩
theorem count_any (n : Int) (O : Option Addr) (len cap : Nat) (xs ys : Nat → Int) (w : World) (hG : G w) (hc : len ≤ cap) (hI : PairsK .i64 .i64 w O len xs ys) : Calls Tryd.prog 3 #[.int .i64 n, .slice O len cap] w fun e w' => e = .returned (.bool true) ∧ Below w.heap.size w w' := by
  by_cases h : n < 1 ∨ 64 < n
  · exact count_short n O len cap w hG h
  · obtain ⟨m, rfl⟩ := Int.eq_ofNat_of_zero_le (show 0 ≤ n by omega)
    by_cases hl : 200 < len
    · exact count_long m O len cap w hG (by omega) (by omega) hl
    · exact count_few m O len cap xs ys w hG (by omega) (by omega) (by omega) hc hI
end Go.Proofs.YtokmcelmodoeoaaDoor
