/-
  The law CastAlone of layer 13: the walk.
-/
import Derived.Test.YtokmcelmodoeoaaCsAll
import Derived.Test.YtokmcelmodoeoaaCsOpen
import Derived.Deep.LoopGhost
namespace Go.Proofs.Ytokmcelmodoeoaa
open Go.RowKit
set_option linter.unusedVariables false
set_option linter.unusedSimpArgs false
def acP (x : Ac) : Pr := ⟨x.c, x.k, x.a, x.p⟩
/-- The rows when all was sent. -/
def sendAll (n : Nat) (l : List Ac) : Nat → List Pr := l.foldl (fun r x => sndR n r (acP x)) noRows
theorem sendAll_snoc (n : Nat) (l : List Ac) (m : Nat) (x : Ac) (h : l[m]? = some x) : sendAll n (l.take (m + 1)) = sndR n (sendAll n (l.take m)) (acP x) := by
  unfold sendAll
  rw [List.take_add_one, h, Option.toList_some, List.foldl_append]
  rfl
/-- Nine numbers. -/
def nineI (f : Nat → Int) : Array Value := #[.int .i64 (f 0), .int .i64 (f 1), .int .i64 (f 2), .int .i64 (f 3), .int .i64 (f 4), .int .i64 (f 5), .int .i64 (f 6), .int .i64 (f 7), .int .i64 (f 8)]
def updI (f : Nat → Int) (k : Nat) (v : Int) : Nat → Int := fun i => if i = k then v else f i
theorem lt9 {k : Nat} (h : k < 9) : k = 0 ∨ k = 1 ∨ k = 2 ∨ k = 3 ∨ k = 4 ∨ k = 5 ∨ k = 6 ∨ k = 7 ∨ k = 8 := by omega
theorem nineI_at (f : Nat → Int) {k : Nat} (hk : k < 9) : (nineI f)[k]? = some (.int .i64 (f k)) := by
  rcases lt9 hk with rfl | rfl | rfl | rfl | rfl | rfl | rfl | rfl | rfl <;> rfl
theorem nineI_set (f : Nat → Int) {k : Nat} (hk : k < 9) (v : Int) : (nineI f).setIfInBounds k (.int .i64 v) = nineI (updI f k v) := by
  rcases lt9 hk with rfl | rfl | rfl | rfl | rfl | rfl | rfl | rfl | rfl <;> simp [nineI, updI]
/-- What waits behind an acknowledgement. -/
theorem waits_ack (n : Nat) (rows : Nat → List Pr) (c : Int) (k : Nat) (hk : k < n) :
    (waitsN n (ackR n rows c) ((k : Int) + 1) : Int) = (waitsN n rows ((k : Int) + 1) : Int) - (if (k : Int) + 1 = c ∧ firE n rows c = 0 then 1 else 0) := by
  have hh : hasB n ((k : Int) + 1) = true := by rw [hasB_iff]; omega
  have e0 : ((k : Int) + 1 - 1).toNat = k := by omega
  simp only [waitsN, hh, if_true, e0]
  unfold ackR
  by_cases hf : firE n rows c = 0
  · simp only [hf, if_true, and_true]
    by_cases hc : (k : Int) + 1 = c
    · rw [if_pos hc, ← hc, e0, upR_same]
      have hf2 : (rows k).length ≠ 0 := by
        intro h0
        rw [← hc] at hf
        simp [firE, hh, e0, h0] at hf
      rw [List.length_tail]; omega
    · rw [if_neg hc]
      have : k ≠ (c - 1).toNat := by
        intro e
        have hb : hasB n c = true := by
          rcases hh2 : hasB n c with _ | _
          · simp [firE, hh2] at hf
          · rfl
        rw [hasB_iff] at hb
        omega
      rw [upR_other _ _ this]; omega
  · simp [hf]
theorem fire_iff (n : Nat) (rows : Nat → List Pr) (c : Int) : firE n rows c = 0 ↔ hasB n c = true ∧ 0 < waitsN n rows c := by
  unfold firE waitsN
  rcases hasB n c with _ | _
  · simp
  · simp only [if_true, true_and]
    by_cases h0 : (rows (c - 1).toNat).length = 0
    · rw [if_pos h0]; omega
    · rw [if_neg h0]; omega
set_option maxRecDepth 100000 in
set_option maxHeartbeats 4000000 in
theorem alone_any (O : Option Addr) (cap : Nat) (l : List Ac) (n c : Int) (w : World) (hI : RK encA 5 w O l) (hwf : ∀ x ∈ l, x.wf) (hc : l.length ≤ cap) :
    Calls Try.prog 4 #[.int .i64 n, .slice O l.length cap, .int .i64 c] w fun e w' => e = .returned (.bool true) ∧ Below w.heap.size w w' := by
  have HI := Lib.hid hI
  have HW := Lib.hid hwf
  clear hI hwf
  by_cases hn : 1 ≤ n ∧ n ≤ 8
  · obtain ⟨n, rfl⟩ := Int.eq_ofNat_of_zero_le (show 0 ≤ n by omega)
    have hn1 : 1 ≤ n := by omega
    have hn8 : n ≤ 8 := by omega
    clear hn
    by_cases h100 : l.length ≤ 100
    · go_enter Try.func4, Try.ntmps4
      go_wp2_with fail
      refine (ct_new n w w (Below.refl _ _) hn1 hn8).mono ?_
      rintro e w1 ⟨rfl, h1, hb1⟩
      go_wp2_with fail
      generalize w.heap.size = b at *
      have H1 := Lib.hid h1
      clear h1 hb1
      go_loopw [32] (fun i wr => ∃ m : Nat, i = .int .i64 m ∧ m ≤ l.length ∧ Ct w (fun _ => False) wr b n (sendAll n (l.take m))) (fun i _ => l.length - (intOf i).toNat)
      case atStart => exact ⟨0, rfl, by omega, H1.out⟩
      case round =>
        obtain ⟨m, rfl, hm, hC⟩ := hrel
        have HC := Lib.hid hC
        clear hC
        by_cases hlt : m < l.length
        · obtain ⟨x, hx⟩ : ∃ x, l[m]? = some x := ⟨_, List.getElem?_eq_getElem hlt⟩
          obtain ⟨ba0, off, rfl, hcell⟩ := (HI.out.call HC.out.below) (by omega)
          have hc2 := hcell m x hx
          have q0 := hc2 0 _ rfl
          have q1 := hc2 1 _ rfl
          have q2 := hc2 2 _ rfl
          have q3 := hc2 3 _ rfl
          have q4 := hc2 4 _ rfl
          rw [Nat.add_zero] at q0
          have hxp : 0 ≤ (acP x).p := (u64_wf (HW.out x (List.mem_of_getElem? hx)).2.2.2.2).1
          have HX := Lib.hid (sendAll_snoc n l m x hx)
          have HP := Lib.hid hxp
          clear hc2 hcell hx hxp
          go_wp2_with fail
          refine (ct_send (HC.out.alloc _) (acP x) HP.out).mono ?_
          rintro e w2 ⟨rfl, h2, -⟩
          go_wp2_with fail
          go_roundw
          case rel => exact ⟨m + 1, by go_num, by omega, by rw [HX.out]; exact h2⟩
          case measure => simp [intOf]; omega
        · obtain rfl : m = l.length := by omega
          have hC := HC.out
          rw [List.take_length] at hC
          have HC1 := Lib.hid hC
          clear hC HC
          go_upto_region 10 with fail
          refine (show ∀ W : World, Bk W wr.heap.size 46 (nineI fun _ => 0) → Ct w (fun g => False ∨ g = wr.heap.size) W b n (sendAll n l) → Code.wp _ _ _ _ W from fun W hA hC => ?_) _ (Bk.new _ _ _) (HC1.out.lay _)
          have hbA : w.heap.size ≤ wr.heap.size := HC1.out.below.size
          generalize wr.heap.size = A at *
          generalize sendAll n l = R at *
          have HA := Lib.hid hA
          have HC := Lib.hid hC
          clear hA hC HC1
          go_wp2_with fail
          go_loopw [12] (fun i wr => ∃ k : Nat, i = .int .i64 k ∧ 1 ≤ k ∧ k ≤ n + 1 ∧ Bk wr A 46 (nineI (fun j => if 1 ≤ j ∧ j < k then (waitsN n R j : Nat) else 0)) ∧ Ct w (fun g => False ∨ g = A) wr b n R) (fun i _ => n + 1 - (intOf i).toNat)
          case atStart => exact ⟨1, rfl, by omega, by omega, by
            have e : (fun j : Nat => if 1 ≤ j ∧ j < 1 then ((waitsN n R j : Nat) : Int) else 0) = fun _ => 0 := by
              funext j; rw [if_neg (by omega)]
            rw [e]; exact HA.out, HC.out⟩
          case round =>
            obtain ⟨k, rfl, hk1, hk, hA2, hC2⟩ := hrel
            have HA2 := Lib.hid hA2
            have HC2 := Lib.hid hC2
            clear hA2 hC2
            by_cases hlt : k ≤ n
            · have c1 : wr.cell? ⟨A, k, none⟩ = some (.int .i64 (if 1 ≤ k ∧ k < k then (waitsN n R k : Nat) else 0)) := (HA2.out.cell k).trans (nineI_at _ (by omega))
              have f1 : wr.frozen? ⟨A, k, none⟩ = false := HA2.out.frozen k
              go_wp2_with (go_at_call 9; refine (ct_waits HC2.out _).mono ?_; rintro e w3 ⟨rfl, rfl⟩)
              go_roundw
              case rel => exact ⟨k + 1, by go_num, by omega, by omega, by
                have := HA2.out.set k (.int .i64 (waitsN n R k : Nat))
                rw [nineI_set _ (by omega)] at this
                have e : updI (fun j : Nat => if 1 ≤ j ∧ j < k then ((waitsN n R j : Nat) : Int) else 0) k (waitsN n R k : Nat) = fun j : Nat => if 1 ≤ j ∧ j < k + 1 then ((waitsN n R j : Nat) : Int) else 0 := by
                  funext j
                  simp only [updI]
                  by_cases e1 : j = k
                  · subst e1; rw [if_pos rfl, if_pos (by omega)]
                  · rw [if_neg e1]
                    by_cases e2 : 1 ≤ j ∧ j < k
                    · rw [if_pos e2, if_pos (by omega)]
                    · rw [if_neg e2, if_neg (by omega)]
                rw [e] at this
                exact this, HC2.out.put (Keeps.setCell (F := fun y => y = A) (p := ⟨A, k, none⟩) rfl _) (fun g hg => ⟨Or.inr hg, by rw [hg]; exact hbA⟩)⟩
              case measure => simp [intOf]; omega
            · obtain rfl : k = n + 1 := by omega
              have hA3 : Bk wr A 46 (nineI (fun j : Nat => if 1 ≤ j ∧ j < n + 1 then ((waitsN n R j : Nat) : Int) else 0)) := HA2.out
              have HA3 := Lib.hid hA3
              clear hA3 HA2
              go_wp2_with fail
              refine (ct_ack HC2.out c).mono ?_
              rintro e w4 ⟨rfl, h4, hk4⟩
              have HA4 := Lib.hid (HA3.out.keep hk4 (fun h => h (Or.inr rfl)))
              clear HA3 hk4
              go_upto_region 15 with fail
              have hfi := fire_iff n R c
              have hwa := fun k hk => waits_ack n R c k hk
              have hsh := HC2.out.short
              have hw16 : ∀ z : Int, waitsN n R z ≤ 16 := fun z => by
                unfold waitsN
                by_cases hz : hasB n z = true
                · rw [if_pos hz]
                  have := (hasB_iff _ _).1 hz
                  exact hsh _ (by omega)
                · rw [if_neg hz]; omega
              generalize firE n R c = E at *
              refine (show ∀ W : World, Bk W A 46 (nineI (fun j : Nat => if 1 ≤ j ∧ j < n + 1 then ((waitsN n R j : Nat) : Int) else 0)) → Ct w (fun g => False ∨ g = A) W b n (ackR n R c) → Code.wp _ _ _ _ W from fun W hA hC => ?_) _ (HA4.out.call (ba (Below.refl _ _) _)) (h4.alloc _)
              clear h4 HA4 HC2
              have HA := Lib.hid hA
              have HC := Lib.hid hC
              have HFI := Lib.hid hfi
              have HWA := Lib.hid hwa
              have HW16 := Lib.hid hw16
              clear hA hC hfi hwa hw16 hsh
              go_wp2_with fail
              go_loop [15] (fun i => ∃ k : Nat, i = .int .i64 k ∧ 1 ≤ k ∧ k ≤ n + 1) (fun i => n + 1 - (intOf i).toNat)
              case atStart => exact ⟨1, rfl, by omega, by omega⟩
              case round =>
                obtain ⟨k, rfl, hk1, hk⟩ := hrel
                by_cases hlt : k ≤ n
                · have c1 : W.cell? ⟨A, k, none⟩ = some (.int .i64 (waitsN n R k : Nat)) := by
                    have := (HA.out.cell k).trans (nineI_at _ (by omega))
                    rw [if_pos (by omega)] at this
                    exact this
                  have hw := HWA.out (k - 1) (by omega)
                  rw [show (((k - 1 : Nat) : Int) + 1) = (k : Int) by omega] at hw
                  have h16 := HW16.out k
                  have HWW := Lib.hid hw
                  clear hw
                  by_cases hkc : (k : Int) = c
                  · by_cases hE : E = 0
                    · have HW2 := Lib.hid (show (waitsN n (ackR n R c) (k : Int) : Int) = (waitsN n R (k : Int) : Int) - 1 by rw [HWW.out, if_pos ⟨hkc, hE⟩])
                      clear HWW
                      subst hkc
                      subst hE
                      go_wp2_with (go_at_call 9; refine (ct_waits HC.out _).mono ?_; rintro e w3 ⟨rfl, rfl⟩; rw [HW2.out])
                      go_round
                      case rel => exact ⟨k + 1, by go_num, by omega, by omega⟩
                      case measure => simp [intOf]; omega
                    · have HW2 := Lib.hid (show (waitsN n (ackR n R c) (k : Int) : Int) = (waitsN n R (k : Int) : Int) by rw [HWW.out, if_neg (fun h => hE h.2)]; omega)
                      clear HWW
                      subst hkc
                      have hE1 : (E == 0) = false := by simpa using hE
                      go_wp2_with (go_at_call 9; refine (ct_waits HC.out _).mono ?_; rintro e w3 ⟨rfl, rfl⟩; rw [HW2.out])
                      go_round
                      case rel => exact ⟨k + 1, by go_num, by omega, by omega⟩
                      case measure => simp [intOf]; omega
                  · have HW2 := Lib.hid (show (waitsN n (ackR n R c) (k : Int) : Int) = (waitsN n R (k : Int) : Int) by rw [HWW.out, if_neg (fun h => hkc h.1)]; omega)
                    clear HWW
                    go_wp2_with (go_at_call 9; refine (ct_waits HC.out _).mono ?_; rintro e w3 ⟨rfl, rfl⟩; rw [HW2.out])
                    go_round
                    case rel => exact ⟨k + 1, by go_num, by omega, by omega⟩
                    case measure => simp [intOf]; omega
                · obtain rfl : k = n + 1 := by omega
                  have hcell : ∀ k : Nat, 1 ≤ k → k ≤ n → W.cell? ⟨A, k, none⟩ = some (.int .i64 (waitsN n R k : Nat)) := fun k h1 h2 => by
                    have := (HA.out.cell k).trans (nineI_at _ (by omega))
                    rw [if_pos (by omega)] at this
                    exact this
                  have HCL := Lib.hid hcell
                  clear hcell
                  by_cases hb1 : 1 ≤ c
                  · by_cases hb2 : c ≤ n
                    · obtain ⟨j, rfl⟩ := Int.eq_ofNat_of_zero_le (show 0 ≤ c by omega)
                      have c1 := HCL.out j (by omega) (by omega)
                      have hh : hasB n (j : Int) = true := (hasB_iff _ _).2 ⟨hb1, hb2⟩
                      have hfi := HFI.out
                      rw [hh] at hfi
                      simp only [true_and] at hfi
                      by_cases hE : E = 0
                      · have hw0 : (0 : Int) < (waitsN n R (j : Int) : Nat) := by have := hfi.1 hE; omega
                        go_wp2_with (go_at_call 7; refine (wakes13_any _).mono ?_; rintro e w5 ⟨rfl, hb5⟩)
                        go_ret
                        exact ⟨rfl, bthen HC.out.below hb5⟩
                      · have hw0 : ¬ ((0 : Int) < (waitsN n R (j : Int) : Nat)) := fun h => hE (hfi.2 (by omega))
                        have hE1 : (E == 0) = false := by simpa using hE
                        go_wp2_with (go_at_call 7; refine (wakes13_any _).mono ?_; rintro e w5 ⟨rfl, hb5⟩)
                        go_ret
                        exact ⟨rfl, bthen HC.out.below hb5⟩
                    · have hE : ¬ E = 0 := fun h => hb2 ((hasB_iff _ _).1 (HFI.out.1 h).1).2
                      have hE1 : (E == 0) = false := by simpa using hE
                      go_wp2_with (go_at_call 7; refine (wakes13_any _).mono ?_; rintro e w5 ⟨rfl, hb5⟩)
                      go_ret
                      exact ⟨rfl, bthen HC.out.below hb5⟩
                  · have hE : ¬ E = 0 := fun h => hb1 ((hasB_iff _ _).1 (HFI.out.1 h).1).1
                    have hE1 : (E == 0) = false := by simpa using hE
                    go_wp2_with (go_at_call 7; refine (wakes13_any _).mono ?_; rintro e w5 ⟨rfl, hb5⟩)
                    go_ret
                    exact ⟨rfl, bthen HC.out.below hb5⟩
    · go_enter Try.func4, Try.ntmps4
      go_wp2_with fail
      refine (ct_new n w w (Below.refl _ _) hn1 hn8).mono ?_
      rintro e w1 ⟨rfl, h1, hb1⟩
      go_wp2_with (go_at_call 7; refine (wakes13_any _).mono ?_; rintro e w5 ⟨rfl, hb5⟩)
      go_ret
      exact ⟨rfl, bthen h1.below hb5⟩
  · go_enter Try.func4, Try.ntmps4
    go_wp2_with (first
      | (go_at_call 6; refine (cnew_no n w (by omega)).mono ?_; rintro e w1 ⟨rfl, rfl⟩)
      | (go_at_call 7; refine (wakes13_any _).mono ?_; rintro e w5 ⟨rfl, hb5⟩)
      | go_in)
    go_ret
    exact ⟨rfl, hb5⟩
end Go.Proofs.Ytokmcelmodoeoaa
