/-
  The law MemBlocks of layer 8: the walk.
-/
import Derived.Test.YtlhbofgcgfbchaaMemWords
import Derived.Test.YtlhbofgcgfbchaaOpenInts
namespace Go.Proofs.Ytlhbofgcgfbchaa
open Go.RowKit Go.Maps
set_option linter.unusedVariables false
set_option linter.unusedSimpArgs false

theorem IntsK.call {k : IntKind} {w w' : World} {O : Option Addr} {len : Nat} {zs : Nat → Int} (h : IntsK k w O len zs) (hb : Below w.heap.size w w') : IntsK k w' O len zs := fun hl => by
  obtain ⟨b, off, e, hc⟩ := h hl
  exact ⟨b, off, e, fun i hi => (hb.cell (p := ⟨b, off + i, none⟩) (World.block_lt_of_cell? w ⟨b, off + i, none⟩ (hc i hi))).trans (hc i hi)⟩
theorem cpy_to (c : Nat → Nat → Int) (f t : Nat) : cpy c f t t = c f := by simp [cpy]
theorem cpy_from (c : Nat → Nat → Int) (f t : Nat) : cpy c f t f = c f := by
  unfold cpy
  split
  · rfl
  · rfl
theorem clr_at (c : Nat → Nat → Int) (t : Nat) : clr c t t = fun _ => 0 := by simp [clr]
theorem clr_other (c : Nat → Nat → Int) {f t : Nat} (h : f ≠ t) : clr c t f = c f := by simp [clr, h]
theorem upd2_row (c : Nat → Nat → Int) {f i g : Nat} (v : Int) (h : g ≠ f) : upd2 c f i v g = c g := by simp [upd2, h]
theorem eight (x : Int) : ∃ f : Nat, (wrap64 (x.tmod 8 + 8)).tmod 8 = f ∧ f ≤ 7 := by
  obtain ⟨h1, h2⟩ := norm_mod x 8 (by omega) (by omega)
  exact ⟨((wrap64 (x.tmod 8 + 8)).tmod 8).toNat, by omega, by omega⟩
/-- A memory of 8 frames made since w0. -/
structure Eight (w0 w : World) (p : Nat) (c : Nat → Nat → Int) (F : Nat → Prop) (k : Nat) : Prop where
  mem : MemS w p 8 c F k
  hF : ∀ y, F y → w0.heap.size ≤ y
  below : Below w0.heap.size w0 w
section
variable {w0 w w' : World} {p k k' : Nat} {c c' : Nat → Nat → Int} {F F' : Nat → Prop}
theorem Eight.call (h : Eight w0 w p c F k) (hb : Below w.heap.size w w') : Eight w0 w' p c F k := ⟨h.mem.call hb, h.hF, bthen h.below hb⟩
theorem Eight.one (h : Eight w0 w p c F k) (m1 : MemS w' p 8 c' F' k') (m3 : Keeps F w w') (m4 : ∀ x, F' x → F x ∨ w.heap.size ≤ x) : Eight w0 w' p c' F' k' := ⟨m1, grow h.hF h.below m4, m3.below h.below h.hF⟩
end
/-- A row of words that lies apart from a memory. -/
structure Held (w : World) (v : Value) (xs : List (Int × Int)) (F : Nat → Prop) : Prop where
  row : ∃ B, Cw w B v xs
  off : ∀ g, v.ownBlock = some g → g < w.heap.size ∧ ¬ F g
theorem Held.call {w w' : World} {v : Value} {xs : List (Int × Int)} {F : Nat → Prop} (h : Held w v xs F) (hb : Below w.heap.size w w') : Held w' v xs F := ⟨h.row.imp fun _ r => r.call hb, fun g hg => ⟨Nat.lt_of_lt_of_le (h.off g hg).1 hb.size, (h.off g hg).2⟩⟩
theorem Held.one {w w' : World} {v : Value} {xs : List (Int × Int)} {F F' : Nat → Prop} (h : Held w v xs F) (m3 : Keeps F w w') (m4 : ∀ x, F' x → F x ∨ w.heap.size ≤ x) : Held w' v xs F' :=
  ⟨h.row.imp fun _ r => r.keep m3 (fun g hg => (h.off g hg).2), fun g hg => ⟨Nat.lt_of_lt_of_le (h.off g hg).1 m3.size, fun hf => (m4 g hf).elim (h.off g hg).2 (fun hle => by have := (h.off g hg).1; omega)⟩⟩
theorem Held.new {w w' : World} {v : Value} {xs : List (Int × Int)} {F : Nat → Prop} (h : Cw w' w.heap.size v xs) (hF : ∀ y, F y → y < w.heap.size) : Held w' v xs F := ⟨⟨_, h⟩, fun g hg => ⟨(h.lt g hg).2, fun hf => by have := hF g hf; have := (h.lt g hg).1; omega⟩⟩
/-- The loop's head. -/
def BkRel (w0 : World) (p len : Nat) (i : Value) (w : World) : Prop := ∃ (k kk : Nat) (c : Nat → Nat → Int) (F : Nat → Prop), i = .int .i64 k ∧ k ≤ len ∧ kk ≤ k ∧ Eight w0 w p c F kk
set_option maxRecDepth 100000 in
set_option maxHeartbeats 8000000 in
theorem memBlocks_A (from_ to wd0 vl : Int) (fr : Nat) (w : World) (O : Option Addr) (len cap : Nat) (zs : Nat → Int) (hl : len ≤ 60) (hI : IntsK .u64 w O len zs) (hz : ∀ i, i < len → U64 (zs i)) (hc : len ≤ cap) (huw : U64 wd0) (hfrom : (wrap64 (from_.tmod 8 + 8)).tmod 8 = (fr : Int)) (h7 : fr ≤ 7) (hto : (wrap64 (to.tmod 8 + 8)).tmod 8 = ((fr : Nat) : Int)) :
    Calls Try.prog 4 #[.slice O len cap, .int .i64 from_, .int .i64 to, .int .u64 wd0, .int .u64 vl] w fun e w' => e = .returned (.bool true) ∧ Below w.heap.size w w' := by
  have HI := Lib.hid hI
  have HZ := Lib.hid hz
  have HUW := Lib.hid huw
  have w0' := huw.1
  clear hI hz huw
  go_enter Try.func4, Try.ntmps4
  go_wp2_with fail
  refine (new_yes 8 _ (by omega) (by omega)).mono ?_
  rintro e w1 ⟨p, F, rfl, hM, hB, hF⟩
  have HE := Lib.hid (show Eight w w1 p (fun _ _ => 0) F 0 from ⟨hM, hF, hB⟩)
  clear hM hB hF
  go_wp2_with fail
  go_loopw [13] (fun i wr => BkRel w p len i wr) (fun i _ => len - (intOf i).toNat)
  case atStart => exact ⟨0, 0, _, F, rfl, by omega, by omega, HE.out⟩
  case round =>
    clear HE
    obtain ⟨k, kk, c, F, rfl, hk, hkk, hE⟩ := hrel
    by_cases hlt : k < len
    · obtain ⟨b, off, rfl, hcell⟩ := (HI.out.call hE.below) (by omega)
      have cz := hcell k hlt
      have hzk := HZ.out k hlt
      have z0 := hzk.1
      obtain ⟨f, i, x1, x2, x3⟩ := word_nat (x := zs k % 4096) ⟨by omega, by omega⟩
      have X1 := Lib.hid x1
      have X2 := Lib.hid x2
      have hf8 : f < 8 := by omega
      have HE := Lib.hid hE
      clear hcell hzk x1 x2 hE
      go_wp2_with fail
      refine (write_yes p 8 kk f i (zs k % 4096) _ c F _ HE.out.mem (by omega) (by omega) ⟨by omega, by omega⟩ X1.out X2.out hf8).mono ?_
      rintro e w2 ⟨rfl, F2, k2, m1, m2, m3, m4, m5⟩
      have HE2 := Lib.hid (HE.out.one m1 m3 m4)
      clear m1 m3 m4 m5 HE
      go_wp2_with fail
      go_roundw
      case rel => exact ⟨k + 1, k2, _, F2, by go_num, by omega, by omega, HE2.out⟩
      case measure => simp [intOf]; omega
    · go_wp2_with fail
      refine (words_yes p 8 _ fr _ _ _ hE.mem (by omega)).mono ?_
      rintro e wa ⟨was, rfl, hw, hb⟩
      have hH := Held.new hw hE.mem.all
      replace hE := hE.call hb
      clear hw hb
      go_wp2_with fail
      refine (reach_copy p 8 kk fr fr 0 0 _ F _ hE.mem (by omega) (by omega) (by omega) (by omega)).mono ?_
      rintro e wb ⟨rfl, F2, k2, m1, m2, m3, m4, m5⟩
      replace hE := hE.one m1 m3 m4
      replace hH := hH.one m3 m4
      clear m1 m3 m4 m5
      go_wp2_with fail
      refine (words_yes p 8 _ fr _ _ _ hE.mem (by omega)).mono ?_
      rintro e wc ⟨v1, rfl, hw, hb⟩
      have hNew := Held.new hw hE.mem.all
      replace hE := hE.call hb
      replace hH := hH.call hb
      clear hw hb
      obtain ⟨B1, hc1⟩ := hNew.row
      obtain ⟨B2, hc2⟩ := hH.row
      rw [cpy_to] at hc1
      go_wp2_with fail
      refine (same_yes _ _ _ B1 B2 _ hc1 hc2).mono ?_
      rintro e wd ⟨rfl, hb⟩
      replace hE := hE.call hb
      replace hH := hH.call hb
      clear hb hc1 hc2 hNew
      go_wp2_with fail
      refine (words_yes p 8 _ fr _ _ _ hE.mem (by omega)).mono ?_
      rintro e we ⟨v2, rfl, hw, hb⟩
      have hNew := Held.new hw hE.mem.all
      replace hE := hE.call hb
      replace hH := hH.call hb
      clear hw hb
      obtain ⟨B1, hc1⟩ := hNew.row
      obtain ⟨B2, hc2⟩ := hH.row
      rw [cpy_from] at hc1
      go_wp2_with fail
      refine (same_yes _ _ _ B1 B2 _ hc1 hc2).mono ?_
      rintro e wf ⟨rfl, hb⟩
      replace hE := hE.call hb
      replace hH := hH.call hb
      clear hb hc1 hc2 hNew
      go_wp2_with fail
      have xj : ∃ j : Nat, wd0 % 512 = j ∧ j < 512 := ⟨(wd0 % 512).toNat, by omega, by omega⟩
      obtain ⟨j, hj, hj2⟩ := xj
      have HJ := Lib.hid hj
      refine (write_yes p 8 k2 fr j ((fr : Int) * 512 + wd0 % 512) vl _ F2 _ hE.mem (by omega) (by omega) ⟨by omega, by omega⟩ (by omega) (by omega) (by omega)).mono ?_
      rintro e wg ⟨rfl, F3, k3, m1, m2', m3, m4, m5⟩
      replace hE := hE.one m1 m3 m4
      replace hH := hH.one m3 m4
      clear m1 m3 m4 m5 hj
      go_wp2_with fail
      refine (reach_zero p 8 k3 fr 0 0 0 _ F3 _ hE.mem (by omega) (by omega)).mono ?_
      rintro e wj ⟨rfl, F4, k4, m1, m2'', m3, m4, m5⟩
      replace hE := hE.one m1 m3 m4
      clear m1 m3 m4 m5 hH
      go_wp2_with fail
      refine (words_yes p 8 _ fr _ _ _ hE.mem (by omega)).mono ?_
      rintro e wk ⟨v4, rfl, hw, hb⟩
      replace hE := hE.call hb
      rw [clr_at, nzTo_zero 512 (fun _ _ => rfl)] at hw
      obtain ⟨O4, cap4, rfl, -, -, -⟩ := hw.form
      clear hw hb
      go_wp2_with fail
      refine (wakes8_any _).mono ?_
      rintro e wm ⟨rfl, hb⟩
      have HF := Lib.hid (bthen hE.below hb)
      clear hb hE
      go_wp2_with fail
      go_ret
      exact ⟨rfl, HF.out⟩
set_option maxRecDepth 100000 in
set_option maxHeartbeats 8000000 in
theorem memBlocks_B (from_ to wd0 vl : Int) (fr t : Nat) (w : World) (O : Option Addr) (len cap : Nat) (zs : Nat → Int) (hl : len ≤ 60) (hI : IntsK .u64 w O len zs) (hz : ∀ i, i < len → U64 (zs i)) (hc : len ≤ cap) (huw : U64 wd0) (hfrom : (wrap64 (from_.tmod 8 + 8)).tmod 8 = (fr : Int)) (h7 : fr ≤ 7) (hto : (wrap64 (to.tmod 8 + 8)).tmod 8 = ((t : Nat) : Int)) (t7 : t ≤ 7) (hft : fr ≠ t) (hvl : vl = 0) :
    Calls Try.prog 4 #[.slice O len cap, .int .i64 from_, .int .i64 to, .int .u64 wd0, .int .u64 vl] w fun e w' => e = .returned (.bool true) ∧ Below w.heap.size w w' := by
  have HI := Lib.hid hI
  have HZ := Lib.hid hz
  have b1 : ((fr : Int) == (t : Int)) = false := beq_eq_false_iff_ne.2 (by omega)
  have b2 : ((fr : Int) != (t : Int)) = true := by rw [bne_iff_ne]; omega
  have b3 : (fr == t) = false := beq_eq_false_iff_ne.2 hft
  have b4 : (fr != t) = true := by rw [bne_iff_ne]; exact hft
  have v0 : (vl == 0) = true := by simpa using hvl
  have HVL := Lib.hid hvl
  clear hvl
  have HUW := Lib.hid huw
  have w0' := huw.1
  clear hI hz huw
  go_enter Try.func4, Try.ntmps4
  go_wp2_with fail
  refine (new_yes 8 _ (by omega) (by omega)).mono ?_
  rintro e w1 ⟨p, F, rfl, hM, hB, hF⟩
  have HE := Lib.hid (show Eight w w1 p (fun _ _ => 0) F 0 from ⟨hM, hF, hB⟩)
  clear hM hB hF
  go_wp2_with fail
  go_loopw [13] (fun i wr => BkRel w p len i wr) (fun i _ => len - (intOf i).toNat)
  case atStart => exact ⟨0, 0, _, F, rfl, by omega, by omega, HE.out⟩
  case round =>
    clear HE
    obtain ⟨k, kk, c, F, rfl, hk, hkk, hE⟩ := hrel
    by_cases hlt : k < len
    · obtain ⟨b, off, rfl, hcell⟩ := (HI.out.call hE.below) (by omega)
      have cz := hcell k hlt
      have hzk := HZ.out k hlt
      have z0 := hzk.1
      obtain ⟨f, i, x1, x2, x3⟩ := word_nat (x := zs k % 4096) ⟨by omega, by omega⟩
      have X1 := Lib.hid x1
      have X2 := Lib.hid x2
      have hf8 : f < 8 := by omega
      have HE := Lib.hid hE
      clear hcell hzk x1 x2 hE
      go_wp2_with fail
      refine (write_yes p 8 kk f i (zs k % 4096) _ c F _ HE.out.mem (by omega) (by omega) ⟨by omega, by omega⟩ X1.out X2.out hf8).mono ?_
      rintro e w2 ⟨rfl, F2, k2, m1, m2, m3, m4, m5⟩
      have HE2 := Lib.hid (HE.out.one m1 m3 m4)
      clear m1 m3 m4 m5 HE
      go_wp2_with fail
      go_roundw
      case rel => exact ⟨k + 1, k2, _, F2, by go_num, by omega, by omega, HE2.out⟩
      case measure => simp [intOf]; omega
    · go_wp2_with fail
      refine (words_yes p 8 _ fr _ _ _ hE.mem (by omega)).mono ?_
      rintro e wa ⟨was, rfl, hw, hb⟩
      have hH := Held.new hw hE.mem.all
      replace hE := hE.call hb
      clear hw hb
      go_wp2_with fail
      refine (reach_copy p 8 kk fr t 0 0 _ F _ hE.mem (by omega) (by omega) (by omega) (by omega)).mono ?_
      rintro e wb ⟨rfl, F2, k2, m1, m2, m3, m4, m5⟩
      replace hE := hE.one m1 m3 m4
      replace hH := hH.one m3 m4
      clear m1 m3 m4 m5
      go_wp2_with fail
      refine (words_yes p 8 _ t _ _ _ hE.mem (by omega)).mono ?_
      rintro e wc ⟨v1, rfl, hw, hb⟩
      have hNew := Held.new hw hE.mem.all
      replace hE := hE.call hb
      replace hH := hH.call hb
      clear hw hb
      obtain ⟨B1, hc1⟩ := hNew.row
      obtain ⟨B2, hc2⟩ := hH.row
      rw [cpy_to] at hc1
      go_wp2_with fail
      refine (same_yes _ _ _ B1 B2 _ hc1 hc2).mono ?_
      rintro e wd ⟨rfl, hb⟩
      replace hE := hE.call hb
      replace hH := hH.call hb
      clear hb hc1 hc2 hNew
      go_wp2_with fail
      refine (words_yes p 8 _ fr _ _ _ hE.mem (by omega)).mono ?_
      rintro e we ⟨v2, rfl, hw, hb⟩
      have hNew := Held.new hw hE.mem.all
      replace hE := hE.call hb
      replace hH := hH.call hb
      clear hw hb
      obtain ⟨B1, hc1⟩ := hNew.row
      obtain ⟨B2, hc2⟩ := hH.row
      rw [cpy_from] at hc1
      go_wp2_with fail
      refine (same_yes _ _ _ B1 B2 _ hc1 hc2).mono ?_
      rintro e wf ⟨rfl, hb⟩
      replace hE := hE.call hb
      replace hH := hH.call hb
      clear hb hc1 hc2 hNew
      go_wp2_with fail
      have xj : ∃ j : Nat, wd0 % 512 = j ∧ j < 512 := ⟨(wd0 % 512).toNat, by omega, by omega⟩
      obtain ⟨j, hj, hj2⟩ := xj
      have HJ := Lib.hid hj
      refine (write_yes p 8 k2 fr j ((fr : Int) * 512 + wd0 % 512) vl _ F2 _ hE.mem (by omega) (by omega) ⟨by omega, by omega⟩ (by omega) (by omega) (by omega)).mono ?_
      rintro e wg ⟨rfl, F3, k3, m1, m2', m3, m4, m5⟩
      replace hE := hE.one m1 m3 m4
      replace hH := hH.one m3 m4
      clear m1 m3 m4 m5 hj
      go_wp2_with fail
      refine (words_yes p 8 _ t _ _ _ hE.mem (by omega)).mono ?_
      rintro e wh ⟨v3, rfl, hw, hb⟩
      have hNew := Held.new hw hE.mem.all
      replace hE := hE.call hb
      replace hH := hH.call hb
      clear hw hb
      obtain ⟨B1, hc1⟩ := hNew.row
      obtain ⟨B2, hc2⟩ := hH.row
      rw [upd2_row _ _ (fun h => hft h.symm), cpy_to] at hc1
      go_wp2_with fail
      refine (same_yes _ _ _ B1 B2 _ hc1 hc2).mono ?_
      rintro e wi ⟨rfl, hb⟩
      replace hE := hE.call hb
      replace hH := hH.call hb
      clear hb hc1 hc2 hNew
      go_wp2_with fail
      refine (reach_zero p 8 k3 t 0 0 0 _ F3 _ hE.mem (by omega) (by omega)).mono ?_
      rintro e wj ⟨rfl, F4, k4, m1, m2'', m3, m4, m5⟩
      replace hE := hE.one m1 m3 m4
      clear m1 m3 m4 m5 hH
      go_wp2_with fail
      refine (words_yes p 8 _ t _ _ _ hE.mem (by omega)).mono ?_
      rintro e wk ⟨v4, rfl, hw, hb⟩
      replace hE := hE.call hb
      rw [clr_at, nzTo_zero 512 (fun _ _ => rfl)] at hw
      obtain ⟨O4, cap4, rfl, -, -, -⟩ := hw.form
      clear hw hb
      go_wp2_with fail
      refine (wakes8_any _).mono ?_
      rintro e wm ⟨rfl, hb⟩
      have HF := Lib.hid (bthen hE.below hb)
      clear hb hE
      go_wp2_with fail
      go_ret
      exact ⟨rfl, HF.out⟩
set_option maxRecDepth 100000 in
set_option maxHeartbeats 8000000 in
theorem memBlocks_C (from_ to wd0 vl : Int) (fr t : Nat) (w : World) (O : Option Addr) (len cap : Nat) (zs : Nat → Int) (hl : len ≤ 60) (hI : IntsK .u64 w O len zs) (hz : ∀ i, i < len → U64 (zs i)) (hc : len ≤ cap) (huw : U64 wd0) (hfrom : (wrap64 (from_.tmod 8 + 8)).tmod 8 = (fr : Int)) (h7 : fr ≤ 7) (hto : (wrap64 (to.tmod 8 + 8)).tmod 8 = ((t : Nat) : Int)) (t7 : t ≤ 7) (hft : fr ≠ t) (hvl : vl ≠ 0) :
    Calls Try.prog 4 #[.slice O len cap, .int .i64 from_, .int .i64 to, .int .u64 wd0, .int .u64 vl] w fun e w' => e = .returned (.bool true) ∧ Below w.heap.size w w' := by
  have HI := Lib.hid hI
  have HZ := Lib.hid hz
  have b1 : ((fr : Int) == (t : Int)) = false := beq_eq_false_iff_ne.2 (by omega)
  have b2 : ((fr : Int) != (t : Int)) = true := by rw [bne_iff_ne]; omega
  have b3 : (fr == t) = false := beq_eq_false_iff_ne.2 hft
  have b4 : (fr != t) = true := by rw [bne_iff_ne]; exact hft
  have v0 : (vl == 0) = false := by simpa using hvl
  have HVL := Lib.hid hvl
  clear hvl
  have HUW := Lib.hid huw
  have w0' := huw.1
  clear hI hz huw
  go_enter Try.func4, Try.ntmps4
  go_wp2_with fail
  refine (new_yes 8 _ (by omega) (by omega)).mono ?_
  rintro e w1 ⟨p, F, rfl, hM, hB, hF⟩
  have HE := Lib.hid (show Eight w w1 p (fun _ _ => 0) F 0 from ⟨hM, hF, hB⟩)
  clear hM hB hF
  go_wp2_with fail
  go_loopw [13] (fun i wr => BkRel w p len i wr) (fun i _ => len - (intOf i).toNat)
  case atStart => exact ⟨0, 0, _, F, rfl, by omega, by omega, HE.out⟩
  case round =>
    clear HE
    obtain ⟨k, kk, c, F, rfl, hk, hkk, hE⟩ := hrel
    by_cases hlt : k < len
    · obtain ⟨b, off, rfl, hcell⟩ := (HI.out.call hE.below) (by omega)
      have cz := hcell k hlt
      have hzk := HZ.out k hlt
      have z0 := hzk.1
      obtain ⟨f, i, x1, x2, x3⟩ := word_nat (x := zs k % 4096) ⟨by omega, by omega⟩
      have X1 := Lib.hid x1
      have X2 := Lib.hid x2
      have hf8 : f < 8 := by omega
      have HE := Lib.hid hE
      clear hcell hzk x1 x2 hE
      go_wp2_with fail
      refine (write_yes p 8 kk f i (zs k % 4096) _ c F _ HE.out.mem (by omega) (by omega) ⟨by omega, by omega⟩ X1.out X2.out hf8).mono ?_
      rintro e w2 ⟨rfl, F2, k2, m1, m2, m3, m4, m5⟩
      have HE2 := Lib.hid (HE.out.one m1 m3 m4)
      clear m1 m3 m4 m5 HE
      go_wp2_with fail
      go_roundw
      case rel => exact ⟨k + 1, k2, _, F2, by go_num, by omega, by omega, HE2.out⟩
      case measure => simp [intOf]; omega
    · go_wp2_with fail
      refine (words_yes p 8 _ fr _ _ _ hE.mem (by omega)).mono ?_
      rintro e wa ⟨was, rfl, hw, hb⟩
      have hH := Held.new hw hE.mem.all
      replace hE := hE.call hb
      clear hw hb
      go_wp2_with fail
      refine (reach_copy p 8 kk fr t 0 0 _ F _ hE.mem (by omega) (by omega) (by omega) (by omega)).mono ?_
      rintro e wb ⟨rfl, F2, k2, m1, m2, m3, m4, m5⟩
      replace hE := hE.one m1 m3 m4
      replace hH := hH.one m3 m4
      clear m1 m3 m4 m5
      go_wp2_with fail
      refine (words_yes p 8 _ t _ _ _ hE.mem (by omega)).mono ?_
      rintro e wc ⟨v1, rfl, hw, hb⟩
      have hNew := Held.new hw hE.mem.all
      replace hE := hE.call hb
      replace hH := hH.call hb
      clear hw hb
      obtain ⟨B1, hc1⟩ := hNew.row
      obtain ⟨B2, hc2⟩ := hH.row
      rw [cpy_to] at hc1
      go_wp2_with fail
      refine (same_yes _ _ _ B1 B2 _ hc1 hc2).mono ?_
      rintro e wd ⟨rfl, hb⟩
      replace hE := hE.call hb
      replace hH := hH.call hb
      clear hb hc1 hc2 hNew
      go_wp2_with fail
      refine (words_yes p 8 _ fr _ _ _ hE.mem (by omega)).mono ?_
      rintro e we ⟨v2, rfl, hw, hb⟩
      have hNew := Held.new hw hE.mem.all
      replace hE := hE.call hb
      replace hH := hH.call hb
      clear hw hb
      obtain ⟨B1, hc1⟩ := hNew.row
      obtain ⟨B2, hc2⟩ := hH.row
      rw [cpy_from] at hc1
      go_wp2_with fail
      refine (same_yes _ _ _ B1 B2 _ hc1 hc2).mono ?_
      rintro e wf ⟨rfl, hb⟩
      replace hE := hE.call hb
      replace hH := hH.call hb
      clear hb hc1 hc2 hNew
      go_wp2_with fail
      have xj : ∃ j : Nat, wd0 % 512 = j ∧ j < 512 := ⟨(wd0 % 512).toNat, by omega, by omega⟩
      obtain ⟨j, hj, hj2⟩ := xj
      have HJ := Lib.hid hj
      refine (write_yes p 8 k2 fr j ((fr : Int) * 512 + wd0 % 512) vl _ F2 _ hE.mem (by omega) (by omega) ⟨by omega, by omega⟩ (by omega) (by omega) (by omega)).mono ?_
      rintro e wg ⟨rfl, F3, k3, m1, m2', m3, m4, m5⟩
      replace hE := hE.one m1 m3 m4
      replace hH := hH.one m3 m4
      clear m1 m3 m4 m5 hj
      go_wp2_with fail
      refine (words_yes p 8 _ t _ _ _ hE.mem (by omega)).mono ?_
      rintro e wh ⟨v3, rfl, hw, hb⟩
      have hNew := Held.new hw hE.mem.all
      replace hE := hE.call hb
      replace hH := hH.call hb
      clear hw hb
      obtain ⟨B1, hc1⟩ := hNew.row
      obtain ⟨B2, hc2⟩ := hH.row
      rw [upd2_row _ _ (fun h => hft h.symm), cpy_to] at hc1
      go_wp2_with fail
      refine (same_yes _ _ _ B1 B2 _ hc1 hc2).mono ?_
      rintro e wi ⟨rfl, hb⟩
      replace hE := hE.call hb
      replace hH := hH.call hb
      clear hb hc1 hc2 hNew
      go_wp2_with fail
      refine (reach_zero p 8 k3 t 0 0 0 _ F3 _ hE.mem (by omega) (by omega)).mono ?_
      rintro e wj ⟨rfl, F4, k4, m1, m2'', m3, m4, m5⟩
      replace hE := hE.one m1 m3 m4
      clear m1 m3 m4 m5 hH
      go_wp2_with fail
      refine (words_yes p 8 _ t _ _ _ hE.mem (by omega)).mono ?_
      rintro e wk ⟨v4, rfl, hw, hb⟩
      replace hE := hE.call hb
      rw [clr_at, nzTo_zero 512 (fun _ _ => rfl)] at hw
      obtain ⟨O4, cap4, rfl, -, -, -⟩ := hw.form
      clear hw hb
      go_wp2_with fail
      refine (words_yes p 8 _ fr _ _ _ hE.mem (by omega)).mono ?_
      rintro e wl ⟨v5, rfl, hw, hb⟩
      replace hE := hE.call hb
      rw [clr_other _ hft] at hw
      have hpos : 0 < (nzTo (upd2 (cpy c fr t) fr j vl fr) 512).length := nzTo_some (i := j) (by rw [upd2_same]; exact HVL.out) 512 hj2
      obtain ⟨O5, cap5, rfl, q1, q2, -⟩ := hw.form
      generalize (nzTo (upd2 (cpy c fr t) fr j vl fr) 512).length = ln at *
      unfold maxLen at q2
      clear hw hb
      go_wp2_with fail
      refine (wakes8_any _).mono ?_
      rintro e wm ⟨rfl, hb⟩
      have HF := Lib.hid (bthen hE.below hb)
      clear hb hE
      go_wp2_with fail
      go_ret
      exact ⟨rfl, HF.out⟩
theorem memBlocks_any (from_ to wd0 vl : Int) (w : World) (O : Option Addr) (len cap : Nat) (zs : Nat → Int) (hI : IntsK .u64 w O len zs) (hz : ∀ i, i < len → U64 (zs i)) (hc : len ≤ cap) (hm : len ≤ maxLen) (huw : U64 wd0) :
    Calls Try.prog 4 #[.slice O len cap, .int .i64 from_, .int .i64 to, .int .u64 wd0, .int .u64 vl] w fun e w' => e = .returned (.bool true) ∧ Below w.heap.size w w' := by
  by_cases hl : len ≤ 60
  · obtain ⟨fr, h1, h7⟩ := eight from_
    obtain ⟨t, h2, t7⟩ := eight to
    by_cases hft : fr = t
    · subst hft
      exact memBlocks_A from_ to wd0 vl fr w O len cap zs hl hI hz hc huw h1 h7 h2
    · by_cases hv : vl = 0
      · exact memBlocks_B from_ to wd0 vl fr t w O len cap zs hl hI hz hc huw h1 h7 h2 t7 hft hv
      · exact memBlocks_C from_ to wd0 vl fr t w O len cap zs hl hI hz hc huw h1 h7 h2 t7 hft hv
  · have h2 : 60 < len := by omega
    unfold maxLen at hm
    clear hl hI hz
    go_enter Try.func4, Try.ntmps4
    go_wp2_with fail
    refine (wakes8_any _).mono ?_
    rintro e wz ⟨rfl, hb⟩
    go_wp2_with fail
    go_ret
    exact ⟨rfl, hb⟩
end Go.Proofs.Ytlhbofgcgfbchaa
