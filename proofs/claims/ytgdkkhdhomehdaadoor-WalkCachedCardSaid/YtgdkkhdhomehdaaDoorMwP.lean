/-
  The laws' own small memory of layer 12.
  A Read is itself; a walk is itself; entries compared.
  What the document says of the small memory of layer 12.
-/
import Derived.Test.YtgdkkhdhomehdaaDoorMwO
import Derived.Test.YtgdkkhdhomehdaaDoorMwF
import Derived.Test.YtgdkkhdhomehdaaDoorMwL2
import Derived.Test.YtgdkkhdhomehdaaDoorMwL
import Derived.Laws.StructEq
namespace Go.Proofs.YtgdkkhdhomehdaaDoor
section
open Go.RowKit Go.Maps
set_option linter.unusedVariables false
set_option linter.unusedSimpArgs false
def w9 : Int := wordV 9 false false true true
def c12 : Nat → Nat → Int := upd2 (upd2 (upd2 (upd2 (fun _ _ => 0) 1 0 8195) 2 0 12291) 3 0 16387) 4 0 w9
def Made12 (w : World) (e : Ending) (w' : World) : Prop :=
  ∃ p F k, e = .returned (.tuple #[.pointer (some ⟨p, 0, none⟩), .bool true]) ∧ MemS w' p 16 c12 F k ∧ Below w.heap.size w w' ∧ ∀ x, F x → w.heap.size ≤ x
set_option maxRecDepth 100000 in
set_option maxHeartbeats 4000000 in
theorem made_any (w : World) : Calls Tryd.prog 30 #[] w (Made12 w) := by
  go_enter Tryd.func30, Tryd.ntmps30
  go_wp2_with fail
  refine (new_yes 16 _ (by omega) (by omega)).mono ?_
  rintro e w1 ⟨p, F, rfl, hM, hB, hF⟩
  have HM := Lib.hid hM
  have HB := Lib.hid hB
  have HF := Lib.hid hF
  clear hM hB hF
  go_wp2_with fail
  refine wp_loop_rounds 4 ?_
  rw [rounds_succ]
  go_wp2_with fail
  refine (write_yes p 16 0 1 0 512 8195 _ F _ HM.out (by omega) (by omega) ⟨by omega, by omega⟩ (by decide) (by decide) (by omega)).mono ?_
  rintro e w2 ⟨rfl, F2, k2, m1, m2, m3, m4, m5⟩
  have HM2 := Lib.hid m1
  have HB2 := Lib.hid (m3.below HB.out HF.out)
  have HF2 := Lib.hid (grow HF.out HB.out m4)
  clear m1 m3 m4 m5 HM HB HF
  have hk2 : k2 ≤ 1 := by omega
  clear m2
  go_wp2_with fail
  rw [rounds_succ]
  go_wp2_with fail
  refine (write_yes p 16 k2 2 0 1024 12291 _ F2 _ HM2.out (by omega) (by omega) ⟨by omega, by omega⟩ (by decide) (by decide) (by omega)).mono ?_
  rintro e w3 ⟨rfl, F3, k3, m1, m2, m3, m4, m5⟩
  have HM3 := Lib.hid m1
  have HB3 := Lib.hid (m3.below HB2.out HF2.out)
  have HF3 := Lib.hid (grow HF2.out HB2.out m4)
  clear m1 m3 m4 m5 HM2 HB2 HF2
  have hk3 : k3 ≤ 2 := by omega
  clear m2 hk2
  go_wp2_with fail
  rw [rounds_succ]
  go_wp2_with fail
  refine (write_yes p 16 k3 3 0 1536 16387 _ F3 _ HM3.out (by omega) (by omega) ⟨by omega, by omega⟩ (by decide) (by decide) (by omega)).mono ?_
  rintro e w4 ⟨rfl, F4, k4, m1, m2, m3, m4, m5⟩
  have HM4 := Lib.hid m1
  have HB4 := Lib.hid (m3.below HB3.out HF3.out)
  have HF4 := Lib.hid (grow HF3.out HB3.out m4)
  clear m1 m3 m4 m5 HM3 HB3 HF3
  have hk4 : k4 ≤ 3 := by omega
  clear m2 hk3
  go_wp2_with fail
  rw [rounds_succ]
  go_wp2_with fail
  refine (r3Encode_page 9 false false true true _ (by omega) (by omega)).mono ?_
  rintro e we ⟨rfl, hb⟩
  have HMe := Lib.hid (HM4.out.call hb)
  have HBe := Lib.hid (bthen HB4.out hb)
  clear hb
  rw [show wordV 9 false false true true = w9 from rfl]
  go_wp2_with fail
  refine (write_yes p 16 k4 4 0 2048 w9 _ F4 _ HMe.out (by omega) (by omega) ⟨by omega, by omega⟩ (by decide) (by decide) (by omega)).mono ?_
  rintro e w5 ⟨rfl, F5, k5, m1, m2, m3, m4, m5⟩
  have HM5 := Lib.hid m1
  have HB5 := Lib.hid (m3.below HBe.out HF4.out)
  have HF5 := Lib.hid (grow HF4.out HBe.out m4)
  clear m1 m2 m3 m4 m5 HMe HBe HF4 HM4 HB4
  go_wp2_with fail
  go_ret2
  exact ⟨p, F5, k5, rfl, HM5.out, HB5.out, HF5.out⟩
end
section
open Go.RowKit
set_option linter.unusedVariables false
set_option linter.unusedSimpArgs false
set_option maxHeartbeats 2000000 in
theorem eq_walk (x : Wk) (W : World) : (binOp .eql 26 (.agg #[.bool x.on, .int .i64 x.a, .int .u64 x.p, .int .i8 x.l, .int .i64 x.f]) (.agg #[.bool x.on, .int .i64 x.a, .int .u64 x.p, .int .i8 x.l, .int .i64 x.f])).run Tryd.prog W = .ok (.bool true) W := by
  go_simp
set_option maxHeartbeats 2000000 in
theorem eq_tlb (a p f a' p' f' : Int) (ro ro' : Bool) (W : World) : (binOp .eql 38 (.agg #[.int .i64 a, .int .u64 p, .int .i64 f, .bool ro]) (.agg #[.int .i64 a', .int .u64 p', .int .i64 f', .bool ro'])).run Tryd.prog W = .ok (.bool ((a == a') && ((p == p') && ((f == f') && (ro == ro'))))) W := by
  rcases h1 : (a == a') with _ | _
  · go_simp
  rcases h2 : (p == p') with _ | _
  · go_simp
  rcases h3 : (f == f') with _ | _
  · go_simp
  rcases h4 : (ro == ro') with _ | _
  · go_simp
  go_simp
set_option maxRecDepth 100000 in
set_option maxHeartbeats 4000000 in
theorem eq_read (r : Rd) (W : World) : (binOp .eql 42 (.agg (encR r)) (.agg (encR r))).run Tryd.prog W = .ok (.bool true) W := by
  unfold encR
  go_simp
end
section
open Go.RowKit Go.Maps
set_option linter.unusedVariables false
set_option linter.unusedSimpArgs false
theorem ck_nil4 : Ck mayS plS 4 ([] : List Sb) := ⟨by simp, fun i x hi => by simp at hi⟩
theorem bg_1 : BgOk 1 5 0 [] := ⟨by omega, ⟨rfl, by simp, by simp, by simp, by simp, by simp, by simp, by simp⟩, ck_nil4⟩
theorem bg_5 : BgOk 5 5 0 [] := ⟨by omega, ⟨rfl, by simp, by simp, by simp, by simp, by simp, by simp, by simp⟩, ck_nil4⟩
def rA : Rd := ⟨zW, false, zS, true, ⟨5, 0, 9, false⟩, false, 0, 0, true, w9 + 1024⟩
def rB : Rd := ⟨zW, false, zS, false, zT, true, 0, 0, false, 0⟩
theorem fin_1 : fin 16 c12 4 ⟨true, 5, 0, 0, 1⟩ = some (rA, 4) := by kernel_rfl
theorem fin_5 : fin 16 c12 4 ⟨true, 5, 0, 0, 5⟩ = some (rB, 1) := by kernel_rfl
theorem all_1 : allR 16 c12 1 5 0 = (rA, 4, 0) := all_some bg_1 fin_1
theorem all_5 : allR 16 c12 5 5 0 = (rB, 1, 0) := all_some bg_5 fin_5
theorem upd2_u64 {c : Nat → Nat → Int} (h : ∀ f i, U64 (c f i)) (a b : Nat) {v : Int} (hv : U64 v) : ∀ f i, U64 (upd2 c a b v f i) := by
  intro f i
  unfold upd2 upd
  split
  · show U64 (if i = b then v else c a i)
    split
    · exact hv
    · exact h a i
  · exact h f i
theorem zero_u64 : ∀ f i : Nat, U64 ((fun _ _ => 0 : Nat → Nat → Int) f i) := fun _ _ => show U64 0 from ⟨by decide, by decide⟩
theorem c12_u64 : ∀ f i, U64 (c12 f i) := by
  have h9 : U64 w9 := by unfold w9 wordV bI; exact ⟨by decide, by decide⟩
  have a1 : U64 8195 := ⟨by decide, by decide⟩
  have a2 : U64 12291 := ⟨by decide, by decide⟩
  have a3 : U64 16387 := ⟨by decide, by decide⟩
  exact upd2_u64 (upd2_u64 (upd2_u64 (upd2_u64 zero_u64 1 0 a1) 2 0 a2) 3 0 a3) 4 0 h9
def sC : Sb := ⟨5, 3, 0, 4⟩
theorem ck_c : Ck mayS plS 4 [sC] := ck_iff.2 ⟨by simp, fun x hx => by simp at hx; subst hx; decide, by unfold Apart; simp⟩
theorem bg_c : BgOk 1 5 0 [sC] := ⟨by omega, ⟨rfl, by simp, by simp, by simp, by simp, by simp, by simp, by simp⟩, ck_c⟩
theorem best_c : bestO [sC] 5 0 = some sC := by unfold bestO; rw [if_pos ck_c]; rfl
theorem bgV_c : bgV 1 5 0 [sC] = ⟨true, 5, 0, 3, 4⟩ ∧ bgE 1 5 0 [sC] = 0 := by
  rcases bg_cases 1 5 0 [sC] with ⟨-, h1, h2⟩ | ⟨h, -⟩
  · rw [h1, bgW_some best_c]; exact ⟨rfl, h2⟩
  · exact absurd bg_c h
theorem begin_c (W : World) : Calls Tryd.prog 11 #[.int .i64 1, .int .i64 5, .int .u64 0, .slice (some ⟨W.heap.size, 0, none⟩) 1 1] (W.alloc (.cells #[.int .i64 5, .int .i8 3, .int .u64 0, .int .i64 4] 36))
    fun e w' => e = .returned (.tuple #[.agg #[.bool true, .int .i64 5, .int .u64 0, .int .i8 3, .int .i64 4], .int .i64 0]) ∧ Below (W.alloc (.cells #[.int .i64 5, .int .i8 3, .int .u64 0, .int .i64 4] 36)).heap.size (W.alloc (.cells #[.int .i64 5, .int .i8 3, .int .u64 0, .int .i64 4] 36)) w' := by
  have hK := Bk.new W 36 #[.int .i64 5, .int .i8 3, .int .u64 0, .int .i64 4]
  have h := begin_any 1 5 0 (some ⟨W.heap.size, 0, none⟩) 1 [sC] (W.alloc (.cells #[.int .i64 5, .int .i8 3, .int .u64 0, .int .i64 4] 36)) (fun h0 => ⟨W.heap.size, 0, rfl, fun i x hx j u hu => by
    have hi : i = 0 := by
      have := (List.getElem?_eq_some_iff.1 hx).1
      simpa using this
    subst hi
    simp at hx
    subst hx
    rw [show 0 + 0 * 4 + j = j by omega, hK.cell j]
    simpa [encS, sC] using hu⟩) (by simp)
  rw [bgV_c.1, bgV_c.2] at h
  exact h
set_option maxRecDepth 100000 in
set_option maxHeartbeats 4000000 in
theorem wakes12_any (w : World) (hG : G w) : Calls Tryd.prog 10 #[] w fun e w' => e = .returned (.bool true) ∧ Below w.heap.size w w' := by
  have HG := Lib.hid hG
  clear hG
  go_enter Tryd.func10, Tryd.ntmps10
  go_wp2_with fail
  refine (made_any _).mono ?_
  rintro e w1 ⟨p, F, k, rfl, hM, hB, hF⟩
  have HM := Lib.hid hM
  have HB := Lib.hid hB
  clear hM hB hF
  go_wp2_with fail
  refine (wall_any p k 1 5 0 c12 F _ HM.out c12_u64 (HG.out.call HB.out) ⟨by omega, by omega⟩).mono ?_
  rintro e w2 ⟨rfl, hb⟩
  rw [all_1]
  simp only [allV, rdV]
  have HM2 := Lib.hid ((HM.out.call hb).call (brow (ba (Below.refl _ _) (.cells (encR zR) 42)) (Nat.le_refl _) (encR rA)))
  have HB2 := Lib.hid (bthen (bthen HB.out hb) (brow (ba (Below.refl _ _) (.cells (encR zR) 42)) (Nat.le_refl _) (encR rA)))
  have HN2 := Lib.hid (Bk.new w2 42 (encR zR))
  have HT2 := Lib.hid (HN2.out.row (encR rA))
  clear hb HM HB
  go_upto_region 5 with (refine put_read rfl _ _ rfl w2.heap.size rA _ rfl rfl HN2.out rfl ?_)
  refine (show ∀ W : World, MemS W p 16 c12 F k → Below w.heap.size w W → Bk W w2.heap.size 42 (encR rA) → Code.wp _ _ _ _ W from fun W hM hB hT => ?_) _ HM2.out HB2.out HT2.out
  clear HM2 HB2 HN2 HT2
  have HM := Lib.hid hM
  have HB := Lib.hid hB
  have HT := Lib.hid hT
  clear hM hB hT
  go_wp2_with fail
  refine (wall_any p k 5 5 0 c12 F _ HM.out c12_u64 (HG.out.call HB.out) ⟨by omega, by omega⟩).mono ?_
  rintro e w3 ⟨rfl, hb⟩
  rw [all_5]
  simp only [allV, rdV]
  have HB3 := Lib.hid (bthen (bthen HB.out hb) (brow (ba (Below.refl _ _) (.cells (encR zR) 42)) (Nat.le_refl _) (encR rB)))
  have HN3 := Lib.hid (Bk.new w3 42 (encR zR))
  have HT3 := Lib.hid (HN3.out.row (encR rB))
  have HA3 := Lib.hid ((HT.out.call hb).call (brow (ba (Below.refl _ _) (.cells (encR zR) 42)) (Nat.le_refl _) (encR rB)))
  clear hb HM HB HT
  go_upto_region 6 with (refine put_read rfl _ _ rfl w3.heap.size rB _ rfl rfl HN3.out rfl ?_)
  refine (show ∀ W : World, Below w.heap.size w W → Bk W w2.heap.size 42 (encR rA) → Bk W w3.heap.size 42 (encR rB) → Code.wp _ _ _ _ W from fun W hB hA hT => ?_) _ HB3.out HA3.out HT3.out
  clear HB3 HN3 HT3 HA3
  have HB := Lib.hid hB
  have HA := Lib.hid hA
  have HT := Lib.hid hT
  clear hB hA hT
  go_wp2_with fail
  refine (begin_c _).mono ?_
  rintro e w4 ⟨rfl, hb⟩
  have HB4 := Lib.hid (bthen (ba HB.out _) hb)
  have hA := (HA.out.call (ba (Below.refl _ _) _)).call hb
  have hT := (HT.out.call (ba (Below.refl _ _) _)).call hb
  have a10 : w4.cell? ⟨w2.heap.size, 10, none⟩ = some (.bool true) := hA.cell 10
  have a11 : w4.cell? ⟨w2.heap.size, 11, none⟩ = some (.int .i64 5) := hA.cell 11
  have a12 : w4.cell? ⟨w2.heap.size, 12, none⟩ = some (.int .u64 0) := hA.cell 12
  have a13 : w4.cell? ⟨w2.heap.size, 13, none⟩ = some (.int .i64 9) := hA.cell 13
  have a14 : w4.cell? ⟨w2.heap.size, 14, none⟩ = some (.bool false) := hA.cell 14
  have a18 : w4.cell? ⟨w2.heap.size, 18, none⟩ = some (.bool true) := hA.cell 18
  have b15 : w4.cell? ⟨w3.heap.size, 15, none⟩ = some (.bool true) := hT.cell 15
  have b17 : w4.cell? ⟨w3.heap.size, 17, none⟩ = some (.int .i8 0) := hT.cell 17
  have la := hA.lt
  have lb := hT.lt
  clear hb hA hT HB HA HT
  go_wp2_with fail
  go_ret
  exact ⟨rfl, ba HB4.out _⟩
end
end Go.Proofs.YtgdkkhdhomehdaaDoor
