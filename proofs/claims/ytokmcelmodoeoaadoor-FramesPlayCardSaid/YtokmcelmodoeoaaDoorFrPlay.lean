/-
  The law FramesPlay of layer 15: the walk.
-/
import Derived.Test.YtokmcelmodoeoaaDoorFrRef
import Derived.Deep.RegionHeld3
namespace Go.Proofs.YtokmcelmodoeoaaDoor
open Go.RowKit
set_option linter.unusedVariables false
set_option linter.unusedSimpArgs false
theorem play_long (n : Int) (O : Option Addr) (len cap : Nat) (w : World) (hG : G w) (hl : 200 < len) : Calls Tryd.prog 4 #[.int .i64 n, .slice O len cap] w fun e w' => e = .returned (.bool true) ∧ Below w.heap.size w w' := by
  have HG := Lib.hid hG
  clear hG
  go_enter Tryd.func4, Tryd.ntmps4
  go_wp2_with fail
  refine (wakes15_any _ HG.out).mono ?_
  rintro e w1 ⟨rfl, hb⟩
  go_wp2_with fail
  go_ret
  exact ⟨rfl, hb⟩
theorem play_short (n : Int) (O : Option Addr) (len cap : Nat) (w : World) (hG : G w) (hl : len ≤ 200) (h : n < 1 ∨ 64 < n) : Calls Tryd.prog 4 #[.int .i64 n, .slice O len cap] w fun e w' => e = .returned (.bool true) ∧ Below w.heap.size w w' := by
  have HG := Lib.hid hG
  have HH := Lib.hid h
  clear hG h
  go_enter Tryd.func4, Tryd.ntmps4
  go_wp2_with fail
  refine (gnew_no n _ HH.out).mono ?_
  rintro e w1 ⟨rfl, rfl⟩
  go_wp2_with fail
  refine (rpnew_no n _ HH.out).mono ?_
  rintro e w1 ⟨rfl, rfl⟩
  go_wp2_with fail
  refine (wakes15_any _ HG.out).mono ?_
  rintro e w1 ⟨rfl, hb⟩
  go_wp2_with fail
  go_ret
  exact ⟨rfl, hb⟩
/-- Both pools, side by side. -/
structure Two (w0 : World) (P Q g n cap : Nat) (ct : Nat → Int) (w : World) : Prop where
  good : Good w P n ct
  ref : Rp w Q g n cap ct
  below : Below w0.heap.size w0 w
  pP : w0.heap.size ≤ P
  pQ : w0.heap.size ≤ Q
  pg : w0.heap.size ≤ g
  nQ : P ≠ Q
  ng : P ≠ g
theorem Rp.heap {w w' : World} {q g n cap : Nat} {ct : Nat → Int} (h : Rp w q g n cap ct) (e : w'.heap = w.heap) : Rp w' q g n cap ct := by
  have cell : ∀ a, w'.cell? a = w.cell? a := fun a => World.cell?_of_block (by rw [e])
  have fro : ∀ a, w'.frozen? a = w.frozen? a := fun a => World.frozen?_of_block (by rw [e])
  exact ⟨⟨by rw [e]; exact h.head.1, fun i v hi => (cell _).trans (h.head.2.1 i v hi), fun i hi => (fro _).trans (h.head.2.2 i hi)⟩, ⟨by rw [e]; exact h.row.1, fun i v hi => (cell _).trans (h.row.2.1 i v hi), fun i hi => (fro _).trans (h.row.2.2 i hi)⟩, h.ne, h.hc, h.n64⟩
theorem Two.heap {w0 w w' : World} {P Q g n cap : Nat} {ct : Nat → Int} (h : Two w0 P Q g n cap ct w) (e : w'.heap = w.heap) (hb : Below w0.heap.size w0 w') : Two w0 P Q g n cap ct w' :=
  ⟨h.good.heap e, h.ref.heap e, hb, h.pP, h.pQ, h.pg, h.nQ, h.ng⟩
theorem Two.call {w0 w w' : World} {P Q g n cap : Nat} {ct : Nat → Int} (h : Two w0 P Q g n cap ct w) (hb : Below w.heap.size w w') : Two w0 P Q g n cap ct w' :=
  ⟨h.good.call hb, h.ref.call hb, bthen h.below hb, h.pP, h.pQ, h.pg, h.nQ, h.ng⟩
/-- The one's step, then the other's. -/
theorem Two.step {w0 w w1 w2 : World} {P Q g n cap : Nat} {ct ct' : Nat → Int} (h : Two w0 P Q g n cap ct w) (h1 : Good w1 P n ct') (k1 : Keeps (fun y => y = P) w w1) (h2 : Rp w2 Q g n cap ct') (k2 : Keeps (fun y => y = g) w1 w2) : Two w0 P Q g n cap ct' w2 :=
  ⟨h1.keep k2 h.ng, h2, k2.below (k1.below h.below (fun x hx => by have := h.pP; omega)) (fun x hx => by have := h.pg; omega), h.pP, h.pQ, h.pg, h.nQ, h.ng⟩
theorem Two.mid {w0 w w1 : World} {P Q g n cap : Nat} {ct : Nat → Int} (h : Two w0 P Q g n cap ct w) (k1 : Keeps (fun y => y = P) w w1) : Rp w1 Q g n cap ct :=
  h.ref.keep k1 (fun e => h.nQ e.symm) (fun e => h.ng e.symm)
theorem Two.step' {w0 w w1 w2 : World} {P Q g n cap : Nat} {ct ct' : Nat → Int} (h : Two w0 P Q g n cap ct w) (h1 : Rp w1 Q g n cap ct') (k1 : Keeps (fun y => y = g) w w1) (h2 : Good w2 P n ct') (k2 : Keeps (fun y => y = P) w1 w2) : Two w0 P Q g n cap ct' w2 :=
  ⟨h2, h1.keep k2 (fun e => h.nQ e.symm) (fun e => h.ng e.symm), k2.below (k1.below h.below (fun x hx => by have := h.pg; omega)) (fun x hx => by have := h.pP; omega), h.pP, h.pQ, h.pg, h.nQ, h.ng⟩
theorem Two.mid' {w0 w w1 : World} {P Q g n cap : Nat} {ct : Nat → Int} (h : Two w0 P Q g n cap ct w) (k1 : Keeps (fun y => y = g) w w1) : Good w1 P n ct :=
  h.good.keep k1 h.ng
/-- What holds at the loop's head. -/
def PlRel (w0 : World) (n len : Nat) (p r i : Value) (w : World) : Prop :=
  ∃ (k P Q g cap : Nat) (ct : Nat → Int), p = .pointer (some ⟨P, 0, none⟩) ∧ r = .pointer (some ⟨Q, 0, none⟩) ∧ i = .int .i64 k ∧ k ≤ len ∧ Two w0 P Q g n cap ct w ∧ ∀ j, ct j ≤ k + 1
/-- What the switch leaves. -/
def PlCut (w0 : World) (n k X : Nat) (f : Int) (p r : Value) (w : World) : Prop :=
  ∃ (P Q g cap : Nat) (ct : Nat → Int), p = .pointer (some ⟨P, 0, none⟩) ∧ r = .pointer (some ⟨Q, 0, none⟩) ∧ Two w0 P Q g n cap ct w ∧ w.cell? ⟨X, 1, none⟩ = some (.int .i64 f) ∧ ∀ j, ct j ≤ k + 2
theorem gcount_qa (p n : Nat) (f : Int) (ct : Nat → Int) (w : World) (h : Good w p n ct) : Calls Tryd.prog 12 #[.pointer (some ⟨p, 0, none⟩), .int .i64 f] w fun e w' => e = .returned (.int .i64 (cntC n ct f)) ∧ w' = w := (gcount_any p n f ct w h).mono fun _ _ h => ⟨h.1, h.2.symm⟩
theorem gfree_q (p n : Nat) (ct : Nat → Int) (w : World) (h : Good w p n ct) : Calls Tryd.prog 13 #[.pointer (some ⟨p, 0, none⟩)] w fun e w' => e = .returned (.int .i64 (cnt (frP n ct) 64 : Nat)) ∧ w' = w := (gfree p n ct w h).mono fun _ _ h => ⟨h.1, h.2.symm⟩
theorem rpcount_q (q g n cap : Nat) (f : Int) (ct : Nat → Int) (w : World) (h : Rp w q g n cap ct) : Calls Tryd.prog 20 #[.pointer (some ⟨q, 0, none⟩), .int .i64 f] w fun e w' => e = .returned (.int .i64 (cntC n ct f)) ∧ w' = w := (rpcount q g n cap f ct w h).mono fun _ _ h => ⟨h.1, h.2.symm⟩
theorem rpfree_q (q g n cap : Nat) (ct : Nat → Int) (w : World) (h : Rp w q g n cap ct) : Calls Tryd.prog 21 #[.pointer (some ⟨q, 0, none⟩)] w fun e w' => e = .returned (.int .i64 (cnt (frP n ct) 64 : Nat)) ∧ w' = w := (rpfree q g n cap ct w h).mono fun _ _ h => ⟨h.1, h.2.symm⟩
theorem gshare_nq (p n : Nat) (f c : Int) (ct : Nat → Int) (w : World) (h : Good w p n ct) (hc : tkC n ct f 0 = c) (h0 : c ≠ 0) : Calls Tryd.prog 10 #[.pointer (some ⟨p, 0, none⟩), .int .i64 f] w fun e w' => e = .returned (.int .i64 c) ∧ w' = w := (gshare_no p n f c ct w h hc h0).mono fun _ _ h => ⟨h.1, h.2.symm⟩
theorem rpshare_nq (q g n cap : Nat) (f c : Int) (ct : Nat → Int) (w : World) (h : Rp w q g n cap ct) (hc : tkC n ct f 0 = c) (h0 : c ≠ 0) : Calls Tryd.prog 16 #[.pointer (some ⟨q, 0, none⟩), .int .i64 f] w fun e w' => e = .returned (.int .i64 c) ∧ w' = w := (rpshare_no q g n cap f c ct w h hc h0).mono fun _ _ h => ⟨h.1, h.2.symm⟩
set_option maxRecDepth 100000 in
set_option maxHeartbeats 4000000 in
theorem play_few (n : Nat) (O : Option Addr) (len cap : Nat) (xs ys : Nat → Int) (w : World) (hG : G w) (h1 : 1 ≤ n) (h2 : n ≤ 64) (hl : len ≤ 200) (hc : len ≤ cap) (hI : PairsK .i64 .i64 w O len xs ys) : Calls Tryd.prog 4 #[.int .i64 n, .slice O len cap] w fun e w' => e = .returned (.bool true) ∧ Below w.heap.size w w' := by
  have HG := Lib.hid hG
  have HI := Lib.hid hI
  clear hG hI
  go_enter Tryd.func4, Tryd.ntmps4
  go_wp2_with fail
  refine (gnew n _ h1 h2).mono ?_
  rintro e w1 ⟨rfl, hg, hb⟩
  have hpq : w.heap.size < w1.heap.size := hg.pool.lt
  have HB := Lib.hid hb
  have HP := Lib.hid hg
  clear hb hg
  go_wp2_with fail
  refine (rpnew_yes n _ h1 h2).mono ?_
  rintro e w2 ⟨q0, g0, cap0, rfl, hr, hb, hq0, hg0⟩
  have HT := Lib.hid (show Two w w.heap.size q0 g0 n cap0 (upd (fun _ => 0) 0 1) w2 from ⟨HP.out.call hb, hr, bthen HB.out hb, Nat.le_refl _, by omega, by omega, by omega, by omega⟩)
  clear HB HP hr hb
  go_wp2_with fail
  go_loopw [5, 7, 49] (fun p r i wr => PlRel w n len p r i wr) (fun _ _ i _ => len - (intOf i).toNat)
  case atStart =>
    refine ⟨0, _, _, _, _, _, rfl, rfl, rfl, by omega, HT.out, fun j => ?_⟩
    unfold upd
    split <;> simp
  case round =>
    clear HT hq0 hg0
    obtain ⟨k, P, Q, g, cap2, ct, rfl, rfl, rfl, hk, hT, hj⟩ := hrel
    by_cases hlt : k < len
    · obtain ⟨b, off, rfl, hcell⟩ := (HI.out.call hT.below) (by omega)
      obtain ⟨cx, cy⟩ := hcell k hlt
      rw [← Nat.add_assoc] at cy
      have lb : b < wr.heap.size := World.block_lt_of_cell? wr ⟨b, off + k * 2, none⟩ cx
      have lP : P < wr.heap.size := hT.good.pool.lt
      have lQ : Q < wr.heap.size := hT.ref.head.lt
      have lg : g < wr.heap.size := hT.ref.row.lt
      have HT := Lib.hid hT
      have HJ := Lib.hid hj
      clear hcell hT hj
      generalize ey : ys k = f at *
      clear ey
      generalize ex : xs k = kd at *
      clear ex
      go_upto_block 2 with fail
      have hT := HT.out.call (ba (Below.refl wr.heap.size wr) (.cells #[.int .i64 kd, .int .i64 f] 30))
      have hX := Arr.new wr #[.int .i64 kd, .int .i64 f] 30
      clear HT lb cx cy
      generalize wr.alloc (.cells #[.int .i64 kd, .int .i64 f] 30) = wt at *
      generalize wr.heap.size = X at *
      have cy : wt.cell? ⟨X, 1, none⟩ = some (.int .i64 f) := hX.cell 1 _ rfl
      have HT := Lib.hid hT
      have HX := Lib.hid hX
      clear hT hX
      go_cut [5, 7] (fun p r wx => PlCut w n k X f p r wx)
      case first =>
        by_cases k0 : kd = 0
        · subst k0
          rcases least_or ct n with ⟨m, m1, m2, m3⟩ | hf
          · have M2 := Lib.hid m2
            have M3 := Lib.hid m3
            clear m2 m3
            go_wp2_with fail
            refine (gtake P n m ct _ (HG.out.call HT.out.below) HT.out.good m1 M2.out M3.out).mono ?_
            rintro e w2 ⟨rfl, hP2, hK2⟩
            have HP2 := Lib.hid hP2
            have HK2 := Lib.hid hK2
            have cy2 : w2.cell? ⟨X, 1, none⟩ = some (.int .i64 f) := (hK2.cell HX.out.lt (by omega) 1).trans cy
            clear hP2 hK2 cy
            go_wp2_with fail
            refine (rptake Q g n cap2 m ct _ (HT.out.mid HK2.out) m1 M2.out M3.out).mono ?_
            rintro e w3 ⟨rfl, hP3, hK3⟩
            have HP3 := Lib.hid hP3
            have HK3 := Lib.hid hK3
            have HY := Lib.hid ((hK3.cell (Nat.lt_of_lt_of_le HX.out.lt HK2.out.size) (by omega) 1).trans cy2)
            clear hP3 hK3 cy2
            go_wp2_with fail
            go_meet
            case rel => exact ⟨P, Q, g, cap2, _, rfl, rfl, HT.out.step HP2.out HK2.out HP3.out HK3.out, HY.out, upd_le (fun j => by have := HJ.out j; omega) (by omega)⟩
          · have HF := Lib.hid hf
            clear hf
            go_wp2_with fail
            refine (gtake_full P n ct _ HT.out.good HF.out).mono ?_
            rintro e w2 ⟨rfl, rfl⟩
            go_wp2_with fail
            refine (rptake_full Q g n cap2 ct _ HT.out.ref HF.out).mono ?_
            rintro e w2 ⟨rfl, rfl⟩
            have HY := Lib.hid cy
            clear cy
            go_wp2_with fail
            go_meet
            case rel => exact ⟨P, Q, g, cap2, ct, rfl, rfl, HT.out, HY.out, fun j => by have := HJ.out j; omega⟩
        · have g0 : (kd == 0) = false := beq_eq_false_iff_ne.2 k0
          clear k0
          by_cases k1 : kd = 1
          · subst k1
            clear g0
            by_cases ht : tkC n ct f 0 = 0
            · obtain ⟨t1, t2, t3⟩ := tkC_zero ht
              clear ht
              obtain ⟨j, rfl⟩ := Int.eq_ofNat_of_zero_le (show 0 ≤ f by omega)
              rw [Int.toNat_natCast] at t3
              have hbd := HT.out.good.bd j
              have hjj := HJ.out j
              have hpos : 0 < ct j := by omega
              have hjn : j < n := by omega
              clear t3 t1 t2
              have hXs : X < wt.heap.size := HX.out.lt
              go_wp2_with fail
              go_region_held3 (fun w' => w'.cell? ⟨X, 1, none⟩ = some (.int .i64 j)) (first | assumption | go_keep)
                (first
                  | (go_at_call 10; refine (gshare P n j ct _ (by first | exact (HT.out.good.heap rfl) | exact (HT.out.mid' (w1 := wb) ⟨HKb.out.os, HKb.out.tape, HKb.out.output, HKb.out.size, HKb.out.block⟩)) hjn hpos (by omega)).mono ?_; rintro e wa ⟨rfl, hP2, hK2⟩; have cya : wa.cell? ⟨X, 1, none⟩ = some (.int .i64 j) := (by first | exact (hK2.cell hXs (by omega) 1).trans cy | exact (hK2.cell hXb (by omega) 1).trans cyb); have hXa : X < wa.heap.size := World.block_lt_of_cell? _ _ cya; have HPa := Lib.hid hP2; have HKa := Lib.hid hK2; clear hP2 hK2)
                  | (go_at_call 16; refine (rpshare_yes Q g n cap2 j ct _ (by first | exact (HT.out.ref.heap rfl) | exact (HT.out.mid (w1 := wa) ⟨HKa.out.os, HKa.out.tape, HKa.out.output, HKa.out.size, HKa.out.block⟩)) hjn hpos (by omega)).mono ?_; rintro e wb ⟨rfl, hP3, hK3⟩; have cyb : wb.cell? ⟨X, 1, none⟩ = some (.int .i64 j) := (by first | exact (hK3.cell hXs (by omega) 1).trans cy | exact (hK3.cell hXa (by omega) 1).trans cya); have hXb : X < wb.heap.size := World.block_lt_of_cell? _ _ cyb; have HPb := Lib.hid hP3; have HKb := Lib.hid hK3; clear hP3 hK3))
              · have HY := Lib.hid cyb
                clear cyb cya cy
                go_wp2_with fail
                go_meet
                case rel => exact ⟨P, Q, g, cap2, _, rfl, rfl, HT.out.step HPa.out ⟨HKa.out.os, HKa.out.tape, HKa.out.output, HKa.out.size, HKa.out.block⟩ HPb.out HKb.out, HY.out, upd_le (fun j => by have := HJ.out j; omega) (by omega)⟩
            · have N3 := Lib.hid ht
              clear ht
              have bn := bne_self_i (tkC n ct f 0)
              go_wp2_with fail
              go_quiet (first | (go_at_call 10; exact Calls.quiet_of_same (gshare_nq P n f _ ct _ (HT.out.good.heap rfl) rfl N3.out)) | (go_at_call 16; exact Calls.quiet_of_same (rpshare_nq Q g n cap2 f _ ct _ (HT.out.ref.heap rfl) rfl N3.out)))
              have HY := Lib.hid cy
              clear cy
              go_wp2_with fail
              go_meet
              case rel => exact ⟨P, Q, g, cap2, ct, rfl, rfl, HT.out.heap rfl ⟨HT.out.below.os, HT.out.below.tape, HT.out.below.output, HT.out.below.size, HT.out.below.block⟩, HY.out, fun j => by have := HJ.out j; omega⟩
          · have g1 : (kd == 1) = false := beq_eq_false_iff_ne.2 k1
            clear k1
            by_cases k2 : kd = 2
            · subst k2
              clear g0 g1
              by_cases ht : tkC n ct f 1 = 0
              · obtain ⟨t1, t2, t3⟩ := tkC_zero ht
                clear ht
                obtain ⟨j, rfl⟩ := Int.eq_ofNat_of_zero_le (show 0 ≤ f by omega)
                rw [Int.toNat_natCast] at t3
                have hbd := HT.out.good.bd j
                have hjj := HJ.out j
                have hj1 : 1 ≤ j := by omega
                have hjn : j < n := by omega
                by_cases h1c : ct j = 1
                · have N1 := Lib.hid h1c
                  clear h1c t3 t1 t2
                  go_wp2_with fail
                  refine (gdrop_last P n j ct _ HT.out.good hj1 hjn N1.out).mono ?_
                  rintro e w2 ⟨rfl, hP2, hK2⟩
                  have HP2 := Lib.hid hP2
                  have HK2 := Lib.hid hK2
                  have cy2 : w2.cell? ⟨X, 1, none⟩ = some (.int .i64 j) := (hK2.cell HX.out.lt (by omega) 1).trans cy
                  clear hP2 hK2 cy
                  go_wp2_with fail
                  refine (rpdrop_yes Q g n cap2 j 1 true ct _ (HT.out.mid HK2.out) hj1 hjn N1.out (by omega) (by omega) rfl).mono ?_
                  rintro e w3 ⟨rfl, hP3, hK3⟩
                  have HP3 := Lib.hid hP3
                  have HK3 := Lib.hid hK3
                  have HY := Lib.hid ((hK3.cell (Nat.lt_of_lt_of_le HX.out.lt HK2.out.size) (by omega) 1).trans cy2)
                  clear hP3 hK3 cy2
                  go_wp2_with fail
                  go_meet
                  case rel => exact ⟨P, Q, g, cap2, _, rfl, rfl, HT.out.step HP2.out HK2.out HP3.out HK3.out, HY.out, upd_le (fun j => by have := HJ.out j; omega) (by omega)⟩
                · have hgt : 1 < ct j := by omega
                  have N1 := Lib.hid (show (ct j - 1 == 0) = false from beq_eq_false_iff_ne.2 (by omega))
                  clear h1c t3 t1 t2
                  go_wp2_with fail
                  refine (gdrop_some P n j ct _ HT.out.good hj1 hjn hgt).mono ?_
                  rintro e w2 ⟨rfl, hP2, hK2⟩
                  have HP2 := Lib.hid hP2
                  have HK2 := Lib.hid hK2
                  have cy2 : w2.cell? ⟨X, 1, none⟩ = some (.int .i64 j) := (hK2.cell HX.out.lt (by omega) 1).trans cy
                  clear hP2 hK2 cy
                  go_wp2_with fail
                  refine (rpdrop_yes Q g n cap2 j (ct j) false ct _ (HT.out.mid HK2.out) hj1 hjn rfl (by omega) (by omega) N1.out).mono ?_
                  rintro e w3 ⟨rfl, hP3, hK3⟩
                  have HP3 := Lib.hid hP3
                  have HK3 := Lib.hid hK3
                  have HY := Lib.hid ((hK3.cell (Nat.lt_of_lt_of_le HX.out.lt HK2.out.size) (by omega) 1).trans cy2)
                  clear hP3 hK3 cy2
                  go_wp2_with fail
                  go_meet
                  case rel => exact ⟨P, Q, g, cap2, _, rfl, rfl, HT.out.step HP2.out HK2.out HP3.out HK3.out, HY.out, upd_le (fun j => by have := HJ.out j; omega) (by omega)⟩
              · have N3 := Lib.hid ht
                clear ht
                have HS := Lib.hid (gdrop_no P n f _ ct _ HT.out.good rfl N3.out)
                have HS2 := Lib.hid (rpdrop_no Q g n cap2 f _ ct _ HT.out.ref rfl N3.out)
                generalize tkC n ct f 1 = c at *
                go_wp2_with fail
                refine HS.out.mono ?_
                rintro e w2 ⟨rfl, rfl⟩
                go_wp2_with fail
                refine HS2.out.mono ?_
                rintro e w2 ⟨rfl, rfl⟩
                have HY := Lib.hid cy
                clear cy
                go_wp2_with fail
                go_meet
                case rel => exact ⟨P, Q, g, cap2, ct, rfl, rfl, HT.out, HY.out, fun j => by have := HJ.out j; omega⟩
            · have g2 : (kd == 2) = false := beq_eq_false_iff_ne.2 k2
              clear k2
              by_cases k3 : kd = 3
              · subst k3
                clear g0 g1 g2
                have hPl : P < wt.heap.size := HT.out.good.pool.lt
                go_wp2_with fail
                refine (gcopy P n ct _ HT.out.good).mono ?_
                rintro e w2 ⟨rfl, hP2, hb2⟩
                have HP2 := Lib.hid hP2
                have HT2 := Lib.hid (HT.out.call hb2)
                have cy2 : w2.cell? ⟨X, 1, none⟩ = some (.int .i64 f) := (hb2.cell (p := ⟨X, 1, none⟩) HX.out.lt).trans cy
                have hP2l : wt.heap.size < w2.heap.size := hP2.pool.lt
                clear hP2 hb2 cy
                go_wp2_with fail
                refine (rpcopy Q g n cap2 ct _ HT2.out.ref h1).mono ?_
                rintro e w3 ⟨q3, g3, cap3, rfl, hR3, hb3, q3w, g3w⟩
                have HR3 := Lib.hid hR3
                have HP3 := Lib.hid (HP2.out.call hb3)
                have HT3 := Lib.hid (HT2.out.call hb3)
                have cy3 : w3.cell? ⟨X, 1, none⟩ = some (.int .i64 f) := (hb3.cell (p := ⟨X, 1, none⟩) (by show X < _; have := HX.out.lt; omega)).trans cy2
                have hX3 : X < w3.heap.size := by have := HX.out.lt; have := hb3.size; omega
                clear hR3 hb3 cy2
                rcases least_or ct n with ⟨m, m1, m2, m3⟩ | hf
                · have M2 := Lib.hid m2
                  have M3 := Lib.hid m3
                  clear m2 m3
                  go_wp2_with fail
                  refine (gtake P n m ct _ (HG.out.call HT3.out.below) HT3.out.good m1 M2.out M3.out).mono ?_
                  rintro e w4 ⟨rfl, hP4, hK4⟩
                  have HK4 := Lib.hid hK4
                  have HY := Lib.hid ((hK4.cell hX3 (by omega) 1).trans cy3)
                  clear hP4 hK4 cy3
                  go_wp2_with fail
                  go_meet
                  case rel => exact ⟨wt.heap.size, q3, g3, cap3, ct, rfl, rfl, ⟨HP3.out.keep HK4.out (by omega), HR3.out.keep HK4.out (by omega) (by omega), HK4.out.below HT3.out.below (fun x hx => by have := HT.out.pP; omega), by have := HT.out.pP; omega, by have := HT.out.pP; omega, by have := HT.out.pP; omega, by omega, by omega⟩, HY.out, fun j => by have := HJ.out j; omega⟩
                · have HF := Lib.hid hf
                  clear hf
                  go_wp2_with fail
                  refine (gtake_full P n ct _ HT3.out.good HF.out).mono ?_
                  rintro e w4 ⟨rfl, rfl⟩
                  have HY := Lib.hid cy3
                  clear cy3
                  go_wp2_with fail
                  go_meet
                  case rel => exact ⟨wt.heap.size, q3, g3, cap3, ct, rfl, rfl, ⟨HP3.out, HR3.out, HT3.out.below, by have := HT.out.pP; omega, by have := HT.out.pP; omega, by have := HT.out.pP; omega, by omega, by omega⟩, HY.out, fun j => by have := HJ.out j; omega⟩
              · have g3 : (kd == 3) = false := beq_eq_false_iff_ne.2 k3
                clear k3
                have HY := Lib.hid cy
                clear cy
                go_wp2_with fail
                go_meet
                case rel => exact ⟨P, Q, g, cap2, ct, rfl, rfl, HT.out, HY.out, fun j => by have := HJ.out j; omega⟩
      case rest =>
        clear HT HX cy HJ ct lP lQ lg
        obtain ⟨P, Q, g, cap2, ct, rfl, rfl, hT, cy, hj⟩ := hcut
        have HT := Lib.hid hT
        have HJ := Lib.hid hj
        clear hT hj
        have bn := bne_self_i (cntC n ct f)
        have bn2 := bne_self_i ((cnt (frP n ct) 64 : Nat) : Int)
        go_wp2_with fail
        go_quiet (first | (go_at_call 12; exact Calls.quiet_of_same (gcount_qa P n f ct _ (HT.out.good.heap rfl))) | (go_at_call 20; exact Calls.quiet_of_same (rpcount_q Q g n cap2 f ct _ (HT.out.ref.heap rfl))) | (go_at_call 13; exact Calls.quiet_of_same (gfree_q P n ct _ (HT.out.good.heap rfl))) | (go_at_call 21; exact Calls.quiet_of_same (rpfree_q Q g n cap2 ct _ (HT.out.ref.heap rfl))))
        go_wp2_with fail
        go_roundw
        case rel => exact ⟨k + 1, P, Q, g, cap2, ct, rfl, rfl, by go_num, by omega, HT.out.heap rfl ⟨HT.out.below.os, HT.out.below.tape, HT.out.below.output, HT.out.below.size, HT.out.below.block⟩, fun j => by have := HJ.out j; omega⟩
        case measure => simp [intOf]; omega
    · have ek : k = len := by omega
      subst ek
      have HT := Lib.hid hT
      clear hT hj
      go_wp2_with fail
      refine (wakes15_any _ (HG.out.call HT.out.below)).mono ?_
      rintro e w3 ⟨rfl, hb⟩
      go_wp2_with fail
      go_ret
      exact ⟨rfl, bthen HT.out.below hb⟩
theorem play_any (n : Int) (O : Option Addr) (len cap : Nat) (xs ys : Nat → Int) (w : World) (hG : G w) (hc : len ≤ cap) (hI : PairsK .i64 .i64 w O len xs ys) : Calls Tryd.prog 4 #[.int .i64 n, .slice O len cap] w fun e w' => e = .returned (.bool true) ∧ Below w.heap.size w w' := by
  by_cases hl : 200 < len
  · exact play_long n O len cap w hG hl
  · by_cases h : n < 1 ∨ 64 < n
    · exact play_short n O len cap w hG (by omega) h
    · obtain ⟨m, rfl⟩ := Int.eq_ofNat_of_zero_le (show 0 ≤ n by omega)
      exact play_few m O len cap xs ys w hG (by omega) (by omega) (by omega) hc hI
end Go.Proofs.YtokmcelmodoeoaaDoor
