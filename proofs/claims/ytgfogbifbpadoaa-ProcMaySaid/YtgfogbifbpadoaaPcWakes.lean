/-
  What the document says of a space that forks; no house has nobody.
-/
import Derived.Test.YtgfogbifbpadoaaPcNew
namespace Go.Proofs.Ytgfogbifbpadoaa
open Go.RowKit Go.Maps
set_option linter.unusedVariables false
set_option linter.unusedSimpArgs false
theorem kb {P M : Nat} {w0 w w' : World} (h : Keeps (PM P M) w w') (h0 : Below w0.heap.size w0 w) (hP : w0.heap.size ≤ P) (hM : w0.heap.size ≤ M) : Below w0.heap.size w0 w' := h.below h0 (fun x hx => by rcases hx with rfl | rfl <;> assumption)
def wkH2 (O : Option Addr) (cap : Nat) : Hs := ((Hs.z 2).setSp 1 ⟨O, cap, [], 1, 0, 0, 0⟩).setTh 1 (Th.of 1 0)
def wkH3 (O : Option Addr) (cap : Nat) (O' : Option Addr) (cap' : Nat) : Hs := ((wkH2 O cap).setSp 2 ⟨O', cap', ((wkH2 O cap).sp 1).l, 1, ((wkH2 O cap).sp 1).img, 0, 0⟩).setTh 2 (((wkH2 O cap).th 1).child 2)
def wkH5 (O : Option Addr) (cap : Nat) (O' : Option Addr) (cap' : Nat) : Hs := rnH (rnH (wkH3 O cap O' cap') 2 1) 1 1
theorem bdx {x a b : Int} (v : Int) (h : x = v) (h0 : a ≤ v) (h1 : v ≤ b) : a ≤ x ∧ x ≤ b := by subst h; exact ⟨h0, h1⟩
theorem bdy {x a b : Int} (v : Int) (h : x = v) (h0 : a ≤ v) (h1 : v < b) : a ≤ x ∧ x < b := by subst h; exact ⟨h0, h1⟩
theorem seven (p : Nat → Prop) (h0 : p 0) (h1 : p 1) (h2 : p 2) (h3 : p 3) (h4 : p 4) (h5 : p 5) (h6 : p 6) : ∀ n, n < 7 → p n := fun n hn => by
  rcases (show n = 0 ∨ n = 1 ∨ n = 2 ∨ n = 3 ∨ n = 4 ∨ n = 5 ∨ n = 6 by omega) with rfl | rfl | rfl | rfl | rfl | rfl | rfl <;> assumption
set_option maxRecDepth 100000 in
set_option maxHeartbeats 8000000 in
theorem wakes22_any (w : World) : Calls Try.prog 8 #[] w fun e w' => e = .returned (.bool true) ∧ Below w.heap.size w w' := by
  go_enter Try.func8, Try.ntmps8
  go_wp2_with fail
  refine (pcNew_yes 2 w (by omega) (by omega)).mono ?_
  rintro e w1 ⟨P, M, rfl, hH, hP, hM, hB⟩
  have HP := Lib.hid hP
  have HM := Lib.hid hM
  have HH1 := Lib.hid hH
  have HB1 := Lib.hid hB
  clear hP hM hH hB
  go_wp2_with fail
  refine (pcBegin_any 0 0 none 0 [] ⟨by omega, by omega⟩ ⟨by omega, by omega⟩ HH1.out (fun h0 => by simp at h0) (Nat.le_refl _) (fun i hi => by simp at hi)).mono ?_
  rintro e w2 ⟨-, hy⟩
  obtain ⟨s, t, O, cap, hs, ht, rfl, hH, hK⟩ := hy rfl
  obtain rfl : s = 1 := by have h : frS (Hs.z 2) = some 1 := rfl; rw [h] at hs; cases hs; rfl
  obtain rfl : t = 1 := by have h : frT (Hs.z 2) = some 1 := rfl; rw [h] at ht; cases ht; rfl
  have HB2 := Lib.hid (kb hK HB1.out HP.out HM.out)
  have HH2 := Lib.hid hH
  clear hs ht hH hK hy HH1 HB1
  go_wp2_with fail
  refine (pcFork_any 1 ⟨by omega, by omega⟩ HH2.out ?_).mono ?_
  · intro k hk
    show 0 ≤ (if k = 1 then Th.of 1 0 else Th.z).sp ∧ (if k = 1 then Th.of 1 0 else Th.z).sp ≤ 6
    split <;> decide
  rintro e w3 ⟨-, hy⟩
  obtain ⟨k, q, s, t, O', cap', hk, hq, hs, ht, rfl, hH, hK⟩ := hy rfl
  obtain rfl : k = 1 := by omega
  obtain rfl : q = 1 := by
    have h : (((Hs.z 2).setSp 1 ⟨O, cap, [], 1, 0, 0, 0⟩).setTh 1 (Th.of 1 0)).th 1 = Th.of 1 0 := rfl
    rw [h] at hq
    have h2 : (Th.of 1 0).sp = 1 := rfl
    omega
  obtain rfl : s = 2 := by have h : frS (((Hs.z 2).setSp 1 ⟨O, cap, [], 1, 0, 0, 0⟩).setTh 1 (Th.of 1 0)) = some 2 := rfl; rw [h] at hs; cases hs; rfl
  obtain rfl : t = 2 := by have h : frT (((Hs.z 2).setSp 1 ⟨O, cap, [], 1, 0, 0, 0⟩).setTh 1 (Th.of 1 0)) = some 2 := rfl; rw [h] at ht; cases ht; rfl
  have HB3 := Lib.hid (kb hK HB2.out HP.out HM.out)
  have HH3 := Lib.hid hH
  clear hs ht hH hK hy HH2 HB2 hk hq
  go_wp2_with fail
  replace HH3 := Lib.hid (show Hm w3 (PM P M) P M 0 (wkH3 O cap O' cap') from HH3.out)
  refine (pcRun_any 2 1 ⟨by omega, by omega⟩ ⟨by omega, by omega⟩ HH3.out (by omega)).mono ?_
  rintro e w4 ⟨rfl, hH, hK⟩
  have HB4 := Lib.hid (kb hK HB3.out HP.out HM.out)
  have HH4 := Lib.hid hH
  clear hH hK HH3 HB3
  rw [show rnE (wkH3 O cap O' cap') 2 1 = 0 from rfl]
  go_wp2_with fail
  refine (pcRun_any 1 1 ⟨by omega, by omega⟩ ⟨by omega, by omega⟩ HH4.out (by omega)).mono ?_
  rintro e w5 ⟨rfl, hH, hK⟩
  have HB5 := Lib.hid (kb hK HB4.out HP.out HM.out)
  have HH5 := Lib.hid (show Hm w5 (PM P M) P M 2 (wkH5 O cap O' cap') from hH)
  clear hH hK HH4 HB4
  rw [show rnE (rnH (wkH3 O cap O' cap') 2 1) 1 1 = 240 from rfl]
  go_wp2_with fail
  refine (pcEnd_any 2 ⟨by omega, by omega⟩ HH5.out (nine _ (bdx 0 rfl (by decide) (by decide)) (bdx 1 rfl (by decide) (by decide)) (bdx 2 rfl (by decide) (by decide)) (bdx 0 rfl (by decide) (by decide)) (bdx 0 rfl (by decide) (by decide)) (bdx 0 rfl (by decide) (by decide)) (bdx 0 rfl (by decide) (by decide)) (bdx 0 rfl (by decide) (by decide)) (bdx 0 rfl (by decide) (by decide)))
    (seven _ (bdx 0 rfl (by decide) (by decide)) (bdx 1 rfl (by decide) (by decide)) (bdx 1 rfl (by decide) (by decide)) (bdx 0 rfl (by decide) (by decide)) (bdx 0 rfl (by decide) (by decide)) (bdx 0 rfl (by decide) (by decide)) (bdx 0 rfl (by decide) (by decide)))
    (nine _ (bdy 0 rfl (by decide) (by decide)) (bdy 0 rfl (by decide) (by decide)) (bdy 1 rfl (by decide) (by decide)) (bdy 0 rfl (by decide) (by decide)) (bdy 0 rfl (by decide) (by decide)) (bdy 0 rfl (by decide) (by decide)) (bdy 0 rfl (by decide) (by decide)) (bdy 0 rfl (by decide) (by decide)) (bdy 0 rfl (by decide) (by decide)))).mono ?_
  rintro e w6 ⟨he, hH, hK⟩
  replace he : e = .returned (.tuple #[.bool true, .int .i64 0]) := he
  subst he
  have HB6 := Lib.hid (kb hK HB5.out HP.out HM.out)
  have HH6 := Lib.hid (show Hm w6 (PM P M) P M 2 (enH (wkH5 O cap O' cap') 2) from hH)
  clear hH hK HH5 HB5
  go_wp2_with fail
  refine (pcSpace_any 2 ⟨by omega, by omega⟩ HH6.out).mono ?_
  rw [show sthereB (enH (wkH5 O cap O' cap') 2) 2 = false from rfl, if_neg (by decide), if_neg (by decide)]
  rintro e w7 ⟨s', rfl, -, -, -, hb⟩
  have HB7 := Lib.hid (bthen HB6.out hb)
  clear hb HB6 HH6
  have HK7 := Lib.hid (Bk.new w7 38 #[.slice none 0 0, .int .i64 0, .int .i64 0, .int .i64 0, .int .i64 0])
  simp only [spV]
  go_wp2_with (refine box_sp rfl _ _ rfl w7.heap.size s' _ rfl rfl HK7.out rfl ?_)
  go_ret
  exact ⟨rfl, brow (ba HB7.out _) HB7.out.size _⟩
end Go.Proofs.Ytgfogbifbpadoaa
