/-
  ShareRows: the walk.
-/
import Derived.Test.YtaikkdlphfmgiaaDoorShRowsD
import Derived.Test.YtaikkdlphfmgiaaDoorShWakes
import Derived.Test.YtaikkdlphfmgiaaDoorShRowsT
import Derived.Test.YtaikkdlphfmgiaaDoorShRowsB
namespace Go.Proofs.YtaikkdlphfmgiaaDoor
open Go.RowKit
set_option linter.unusedVariables false
set_option linter.unusedSimpArgs false
theorem sameW_at (q : Nat) {xs : List (Int × Int)} (hq : xs.length = q) (O1 O2 : Option Addr) (p1 p2 : Nat) (w : World) (h1 : RK encW 2 w O1 xs) (h2 : RK encW 2 w O2 xs) (l1 : xs.length ≤ p1) (l2 : xs.length ≤ p2) (h8 : xs.length ≤ 1000) :
    Calls Tryd.prog 20 #[.slice O1 q p1, .slice O2 q p2] w fun e w' => e = .returned (.bool true) ∧ Below w.heap.size w w' := by
  subst hq
  exact sameW_yes O1 O2 p1 p2 xs w h1 h2 l1 l2 h8
theorem ints_at (q : Nat) {xs : List Int} (hq : xs.length = q) (O1 O2 : Option Addr) (p1 p2 : Nat) (w : World) (h1 : RK encI 1 w O1 xs) (h2 : RK encI 1 w O2 xs) (l1 : xs.length ≤ p1) (l2 : xs.length ≤ p2) (h8 : xs.length ≤ 1000) :
    Calls Tryd.prog 25 #[.slice O1 q p1, .slice O2 q p2] w fun e w' => e = .returned (.bool true) ∧ Below w.heap.size w w' := by
  subst hq
  exact ints_yes O1 O2 p1 p2 xs w h1 h2 l1 l2 h8
theorem beq_self_j (i : Int) : (i == i) = true := by simp
set_option maxRecDepth 100000 in
set_option maxHeartbeats 16000000 in
theorem rows_few (O : Option Addr) (cap : Nat) (first count k f t : Int) (xs : List Mp) (w : World) (hG : G w) (hI : RK encM 4 w O xs) (hcap : xs.length ≤ cap) (h100 : xs.length ≤ 100) (wx : ∀ (i : Nat) (x : Mp), xs[i]? = some x → U64 x.p) (wf : U64 first) (wc : count < 9223372036854775808) :
    Calls Tryd.prog 6 #[.slice O xs.length cap, .int .u64 first, .int .i64 count, .agg #[.int .i8 k, .int .i8 f], .int .i64 t] w fun e w' => e = .returned (.bool true) ∧ Below w.heap.size w w' := by
  have HBa := Lib.hid (ba (Below.refl w.heap.size w) (.cells #[.int .i8 k, .int .i8 f] 27))
  have HA := Lib.hid (Arr.new w #[.int .i8 k, .int .i8 f] 27)
  have HG := Lib.hid (hG.call HBa.out)
  have HI := Lib.hid (hI.call HBa.out)
  have HW := Lib.hid wx
  have h8 : xs.length ≤ 1000 := by omega
  have L3 := Lib.hid (show (xs.filter (fun y : Mp => inP first count y.p)).length ≤ 1000 from Nat.le_trans (List.length_filter_le _ _) h8)
  have L6 := Lib.hid (show (xs.filter (fun y : Mp => !y.ro)).length ≤ 1000 from Nat.le_trans (List.length_filter_le _ _) h8)
  have L9 := Lib.hid (show ((xs.filter (fun y : Mp => !y.ro)).map (fun y : Mp => (y.w, lfV y.f))).length ≤ 1000 from by rw [List.length_map]; exact L6.out)
  have L12 := Lib.hid (show (xs.map (fun y : Mp => (y.w, (0 : Int)))).length ≤ 1000 from by rw [List.length_map]; exact h8)
  have L15 := Lib.hid (show (xs.map (fun y : Mp => y.f)).length ≤ 1000 from by rw [List.length_map]; exact h8)
  clear hG hI wx
  go_enter Tryd.func6, Tryd.ntmps6
  go_upto_region 3 with fail
  generalize w.alloc (.cells #[.int .i8 k, .int .i8 f] 27) = W at *
  generalize hX : w.heap.size = X at *
  have HX := Lib.hid hX
  clear hX
  have HB0 := Lib.hid (Below.refl W.heap.size W)
  have c0 : W.cell? ⟨X, 0, none⟩ = some (.int .i8 k) := HA.out.cell 0 _ rfl
  have c1 : W.cell? ⟨X, 1, none⟩ = some (.int .i8 f) := HA.out.cell 1 _ rfl
  have lX := HA.out.lt
  have s4 := beq_self_j (rmV k t)
  have HK := Lib.hid (show ∀ w', Below W.heap.size W w' → (Below W.heap.size W w' ∧ w'.cell? ⟨X, 0, none⟩ = some (.int .i8 k) ∧ w'.cell? ⟨X, 1, none⟩ = some (.int .i8 f)) from fun w' hb => ⟨hb, (hb.cell (p := ⟨X, 0, none⟩) lX).trans c0, (hb.cell (p := ⟨X, 1, none⟩) lX).trans c1⟩)
  go_region_held3 (fun w' => Below W.heap.size W w' ∧ w'.cell? ⟨X, 0, none⟩ = some (.int .i8 k) ∧ w'.cell? ⟨X, 1, none⟩ = some (.int .i8 f))
    (first | exact HK.out _ HB18.out | exact HK.out _ HB17.out | exact HK.out _ HB16.out | exact HK.out _ HB15.out | exact HK.out _ HB14.out | exact HK.out _ HB13.out | exact HK.out _ HB12.out | exact HK.out _ HB11.out | exact HK.out _ HB10.out | exact HK.out _ HB9.out | exact HK.out _ HB8.out | exact HK.out _ HB7.out | exact HK.out _ HB6.out | exact HK.out _ HB5.out | exact HK.out _ HB4.out | exact HK.out _ HB3.out | exact HK.out _ HB2.out | exact HK.out _ HB1.out | exact HK.out _ HB0.out.drew)
    (first
      | (go_at_call 7; refine (wakes20_any _ (HG.out.call HB17.out)).mono ?_; rintro e w18 ⟨rfl, hb18⟩; have HB18 := Lib.hid (show Below W.heap.size W w18 from bthen HB17.out hb18))
      | (go_at_call 14; refine (r20Room_any k f t _).mono ?_; rintro e w17 ⟨rfl, hb17⟩; have HB17 := Lib.hid (show Below W.heap.size W w17 from bthen HB16.out hb17))
      | (go_at_call 13; refine (shRoom_any k f t _).mono ?_; rintro e w16 ⟨rfl, hb16⟩; have HB16 := Lib.hid (show Below W.heap.size W w16 from bthen HB15.out hb16))
      | (go_at_call 25; refine (ints_at xs.length (xs := (xs.map (fun y : Mp => y.f))) (by simp) O13 O14 p13 p14  _ (R13'.out.call (Below.refl _ _)) R14.out l13 l14 L15.out).mono ?_; rintro e w15 ⟨rfl, hb15⟩; have HB15 := Lib.hid (show Below W.heap.size W w15 from bthen HB14.out hb15))
      | (go_at_call 27; refine (r20Frames_any O cap xs _ (HI.out.call HB13.out) hcap h8).mono ?_; rintro e w14 ⟨v14, rfl, hO14, hb14⟩; obtain ⟨O14, p14, rfl, l14, m14, r14⟩ := hO14.form encI_len; have HB14 := Lib.hid (show Below W.heap.size W w14 from bthen HB13.out hb14); have R14 := Lib.hid r14; have R13' := Lib.hid (R13.out.call hb14); clear hO14 r14)
      | (go_at_call 26; refine (shFrames_any O cap xs _ (HI.out.call HB12.out) hcap h8).mono ?_; rintro e w13 ⟨v13, rfl, hO13, hb13⟩; obtain ⟨O13, p13, rfl, l13, m13, r13⟩ := hO13.form encI_len; have HB13 := Lib.hid (show Below W.heap.size W w13 from bthen HB12.out hb13); have R13 := Lib.hid r13; clear hO13 r13)
      | (go_at_call 20; refine (sameW_at xs.length (xs := (xs.map (fun y : Mp => (y.w, (0 : Int))))) (by simp) O10 O11 p10 p11  _ (R10'.out.call (Below.refl _ _)) R11.out l10 l11 L12.out).mono ?_; rintro e w12 ⟨rfl, hb12⟩; have HB12 := Lib.hid (show Below W.heap.size W w12 from bthen HB11.out hb12))
      | (go_at_call 24; refine (r20Clear_any O cap xs _ (HI.out.call HB10.out) hcap h8).mono ?_; rintro e w11 ⟨v11, rfl, hO11, hb11⟩; obtain ⟨O11, p11, rfl, l11, m11, r11⟩ := hO11.form encW_len; have HB11 := Lib.hid (show Below W.heap.size W w11 from bthen HB10.out hb11); have R11 := Lib.hid r11; have R10' := Lib.hid (R10.out.call hb11); clear hO11 r11)
      | (go_at_call 23; refine (shClear_any O cap xs _ (HI.out.call HB9.out) hcap h8).mono ?_; rintro e w10 ⟨v10, rfl, hO10, hb10⟩; obtain ⟨O10, p10, rfl, l10, m10, r10⟩ := hO10.form encW_len; have HB10 := Lib.hid (show Below W.heap.size W w10 from bthen HB9.out hb10); have R10 := Lib.hid r10; clear hO10 r10)
      | (go_at_call 20; refine (sameW_at (xs.filter (fun y : Mp => !y.ro)).length (xs := ((xs.filter (fun y : Mp => !y.ro)).map (fun y : Mp => (y.w, lfV y.f)))) (by simp) O7 O8 p7 p8  _ (R7'.out.call (Below.refl _ _)) R8.out l7 l8 L9.out).mono ?_; rintro e w9 ⟨rfl, hb9⟩; have HB9 := Lib.hid (show Below W.heap.size W w9 from bthen HB8.out hb9))
      | (go_at_call 22; refine (r20Close_any O cap xs _ (HI.out.call HB7.out) hcap h8).mono ?_; rintro e w8 ⟨v8, rfl, hO8, hb8⟩; obtain ⟨O8, p8, rfl, l8, m8, r8⟩ := hO8.form encW_len; have HB8 := Lib.hid (show Below W.heap.size W w8 from bthen HB7.out hb8); have R8 := Lib.hid r8; have R7' := Lib.hid (R7.out.call hb8); clear hO8 r8)
      | (go_at_call 21; refine (shClose_any O cap xs _ (HI.out.call HB6.out) hcap h8 (HG.out.call HB6.out)).mono ?_; rintro e w7 ⟨v7, rfl, hO7, hb7⟩; obtain ⟨O7, p7, rfl, l7, m7, r7⟩ := hO7.form encW_len; have HB7 := Lib.hid (show Below W.heap.size W w7 from bthen HB6.out hb7); have R7 := Lib.hid r7; clear hO7 r7)
      | (go_at_call 15; refine (sameM_yes O4 O5 p4 p5 (xs.filter (fun y : Mp => !y.ro)) _ (R4'.out.call (Below.refl _ _)) R5.out l4 l5 L6.out).mono ?_; rintro e w6 ⟨rfl, hb6⟩; have HB6 := Lib.hid (show Below W.heap.size W w6 from bthen HB5.out hb6))
      | (go_at_call 19; refine (r20Open_any O cap xs _ (HI.out.call HB4.out) hcap h8).mono ?_; rintro e w5 ⟨v5, rfl, hO5, hb5⟩; obtain ⟨O5, p5, rfl, l5, m5, r5⟩ := hO5.form encM_len; have HB5 := Lib.hid (show Below W.heap.size W w5 from bthen HB4.out hb5); have R5 := Lib.hid r5; have R4' := Lib.hid (R4.out.call hb5); clear hO5 r5)
      | (go_at_call 18; refine (shOpen_any O cap xs _ (HI.out.call HB3.out) hcap h8).mono ?_; rintro e w4 ⟨v4, rfl, hO4, hb4⟩; obtain ⟨O4, p4, rfl, l4, m4, r4⟩ := hO4.form encM_len; have HB4 := Lib.hid (show Below W.heap.size W w4 from bthen HB3.out hb4); have R4 := Lib.hid r4; clear hO4 r4)
      | (go_at_call 15; refine (sameM_yes O1 O2 p1 p2 (xs.filter (fun y : Mp => inP first count y.p)) _ (R1'.out.call (Below.refl _ _)) R2.out l1 l2 L3.out).mono ?_; rintro e w3 ⟨rfl, hb3⟩; have HB3 := Lib.hid (show Below W.heap.size W w3 from bthen HB2.out hb3))
      | (go_at_call 17; refine (r20Part_any first count O cap xs _ (HI.out.call HB1.out) hcap h8 HW.out wf wc).mono ?_; rintro e w2 ⟨v2, rfl, hO2, hb2⟩; obtain ⟨O2, p2, rfl, l2, m2, r2⟩ := hO2.form encM_len; have HB2 := Lib.hid (show Below W.heap.size W w2 from bthen HB1.out hb2); have R2 := Lib.hid r2; have R1' := Lib.hid (R1.out.call hb2); clear hO2 r2)
      | (go_at_call 16; refine (shPart_any first count O cap xs _ (HI.out.call HB0.out.drew) hcap h8 HW.out wf wc).mono ?_; rintro e w1 ⟨v1, rfl, hO1, hb1⟩; obtain ⟨O1, p1, rfl, l1, m1, r1⟩ := hO1.form encM_len; have HB1 := Lib.hid (show Below W.heap.size W w1 from bthen HB0.out.drew hb1); have R1 := Lib.hid r1; clear hO1 r1))
  all_goals
    go_wp2_with fail
    go_ret
    refine ⟨rfl, ?_⟩
    (try rw [HX.out])
    exact HBa.out.trans (HB18.out.mono (by have := HBa.out.size; omega))
theorem rows_long (O : Option Addr) (cap : Nat) (first count k f t : Int) (len : Nat) (w : World) (hG : G w) (h100 : 100 < len) :
    Calls Tryd.prog 6 #[.slice O len cap, .int .u64 first, .int .i64 count, .agg #[.int .i8 k, .int .i8 f], .int .i64 t] w fun e w' => e = .returned (.bool true) ∧ Below w.heap.size w w' := by
  have HBa := Lib.hid (ba (Below.refl w.heap.size w) (.cells #[.int .i8 k, .int .i8 f] 27))
  have HG := Lib.hid (hG.call HBa.out)
  clear hG
  go_enter Tryd.func6, Tryd.ntmps6
  go_wp2_with fail
  refine (wakes20_any _ HG.out).mono ?_
  rintro e w1 ⟨rfl, hb⟩
  have HB := Lib.hid (bthen HBa.out hb)
  clear hb
  go_wp2_with fail
  go_ret
  exact ⟨rfl, HB.out⟩
theorem rows_any (O : Option Addr) (cap : Nat) (first count k f t : Int) (xs : List Mp) (w : World) (hG : G w) (hI : RK encM 4 w O xs) (hcap : xs.length ≤ cap) (wx : ∀ (i : Nat) (x : Mp), xs[i]? = some x → U64 x.p) (wf : U64 first) (wc : count < 9223372036854775808) :
    Calls Tryd.prog 6 #[.slice O xs.length cap, .int .u64 first, .int .i64 count, .agg #[.int .i8 k, .int .i8 f], .int .i64 t] w fun e w' => e = .returned (.bool true) ∧ Below w.heap.size w w' := by
  by_cases h : 100 < xs.length
  · exact rows_long O cap first count k f t xs.length w hG h
  · exact rows_few O cap first count k f t xs w hG hI hcap (by omega) wx wf wc
end Go.Proofs.YtaikkdlphfmgiaaDoor
