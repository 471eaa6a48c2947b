/-
  Package tlb's without (S).
-/
import Derived.Test.YtencifnopfianaaTlCheckS
import Derived.Test.YtencifnopfianaaTlRows
import Derived.Deep.QuietTactic
import Derived.Deep.RegionHeld
import Derived.Deep.RegionHeld3
namespace Go.Proofs.Ytencifnopfianaa
open Go.RowKit
set_option linter.unusedVariables false
set_option linter.unusedSimpArgs false
set_option maxRecDepth 100000 in
set_option maxHeartbeats 4000000 in
theorem withoutS_any (O : Option Addr) (cap : Nat) (xs : List Sb) (k : Int) (w : World) (hI : RK encS 4 w O xs) (hcap : xs.length ≤ cap) (hm : cap ≤ maxLen) :
    Calls Try.prog 54 #[.agg #[.int .i64 4, .func (.func 62) #[] #[], .func (.func 63) #[] #[]], .slice O xs.length cap, .int .i64 k] w fun e w' => ∃ v, e = .returned (.tuple #[v, .int .i64 (witE mayS plS 4 xs k)]) ∧ Ow encS 4 44 w' w.heap.size v (witL mayS plS 4 xs k) ∧ Below w.heap.size w w' := by
  unfold maxLen at hm
  have HB0 := Lib.hid (ba (Below.refl w.heap.size w) (.cells #[.int .i64 4, .func (.func 62) #[] #[], .func (.func 63) #[] #[]] 73))
  have HI := Lib.hid (hI.call HB0.out)
  clear hI
  obtain ⟨i0, hi, hz0, hz1, hz2⟩ := sbInfo
  go_enter Try.func54, Try.ntmps54
  go_wp2_with fail
  generalize w.alloc (.cells #[.int .i64 4, .func (.func 62) #[] #[], .func (.func 63) #[] #[]] 73) = W0 at *
  refine (checkS_any O cap xs _ HI.out hcap).mono ?_
  rintro e Wc ⟨rfl, hb⟩
  have HBc := Lib.hid (bthen HB0.out hb)
  have HIc := Lib.hid (HI.out.call hb)
  clear hb HB0 HI
  rcases ckE_cases mayS plS 4 xs with ⟨hk, h2⟩ | ⟨hk, h2⟩
  · rw [h2]
    have HKK := Lib.hid hk
    have h8 := hk.1
    clear h2 hk
    by_cases hr : 0 ≤ k ∧ k < xs.length
    · have HE1 := Lib.hid (show witL mayS plS 4 xs k = xs.take k.toNat ++ xs.drop (k.toNat + 1) from if_pos ⟨HKK.out, hr⟩)
      have HE2 := Lib.hid (show witE mayS plS 4 xs k = 0 from by unfold witE; rw [if_pos HKK.out, if_pos hr])
      obtain ⟨n, rfl⟩ : ∃ n : Nat, k = n := ⟨k.toNat, by omega⟩
      rw [Int.toNat_natCast] at HE1
      have hn : n < xs.length := by omega
      clear hr HKK
      obtain ⟨b, off, hO, -⟩ := HIc.out (by omega)
      subst hO
      obtain ⟨len, hlen⟩ : ∃ len, len = xs.length := ⟨_, rfl⟩
      rw [← hlen] at hcap h8 hn ⊢
      have HL := Lib.hid hlen
      clear hlen
      have i0' : (0 : Int) ≤ (n : Int) := by omega
      have i1 : (n : Int) ≤ (cap : Int) := by omega
      have i2 : (n : Int) < (len : Int) := by omega
      have i3 : ¬ (len : Int) ≤ (n : Int) := by omega
      have hmk := fun w' => run_make (P := Try.prog) w' 41 44 i0 _ Try.underlying41 hi hz0 .i64 .i64 0 len (by omega) (by omega) (by rw [hz2]; omega) (by omega)
      go_wp2_with fail
      go_region_held3 (fun w' => Below Wc.heap.size Wc w')
        (first | exact (Below.refl _ Wc).drew | exact hBz | exact ba (Below.refl _ Wc).drew _)
        ((refine step_app (enc := encS) (by rfl) _ _ 41 (by rfl) Wc.heap.size 44 i0 _ 32 Try.underlying41 hi hz0 hz1 hz2 rfl (by decide) encS_len encS_one _ [] (by rfl) (World.ownsRow_made Wc.drew _ len (Nat.le_refl _) (by unfold maxLen; omega) (by rw [size_madeCells])) (xs.take n) _ _ _ (by rfl) (by rw [List.length_take, ← HL.out]; omega) ((HIc.out.take n).call (ba (Below.refl _ Wc).drew _)) (by simp; omega) (by decide) Wc (ba (Below.refl _ Wc).drew _) (Nat.le_refl _) ?_; intro vz wz hOz hBz))
      all_goals
        rw [List.nil_append] at hOz
        have HO8 := Lib.hid hOz
        have HB8 := Lib.hid (show Below Wc.heap.size Wc wz from hBz)
        clear hOz hBz hmk
        have i4 : (n : Int) + 1 ≤ (len : Int) := by omega
        by_cases hc1 : cap = n + 1
        · have hl1 : len = n + 1 := by omega
          subst hc1 hl1
          go_wp2_with (at_builtin; refine wp_app (enc := encS) rfl _ _ 41 rfl Wc.heap.size 44 i0 _ 32 Try.underlying41 hi hz0 hz1 hz2 rfl (by decide) encS_len encS_one _ (xs.take n) rfl HO8.out (xs.drop (n + 1)) (some ⟨b, off, none⟩) _ _ rfl ?c1 (fun h0 => by rw [List.length_drop, ← HL.out] at h0; omega) ?c2 (by decide) Wc HB8.out (Nat.le_refl _) ?_)
          case c1 => have := HL.out; rw [List.length_drop]; omega
          case c2 => have := HL.out; rw [List.length_take]; omega
          intro v9 w9 hO9 hB9
          have HO9 := Lib.hid hO9
          have HB9 := Lib.hid hB9
          clear hO9 hB9
          go_wp2_with fail
          go_ret2
          exact ⟨_, by rw [HE2.out]; rfl, by rw [HE1.out]; exact HO9.out.low HBc.out.size, bthen HBc.out HB9.out⟩
        · have i5 : ¬ (cap : Int) = (n : Int) + 1 := by omega
          have i6 : ¬ cap - (n + 1) = 0 := by omega
          go_wp2_with (at_builtin; refine wp_app (enc := encS) rfl _ _ 41 rfl Wc.heap.size 44 i0 _ 32 Try.underlying41 hi hz0 hz1 hz2 rfl (by decide) encS_len encS_one _ (xs.take n) rfl HO8.out (xs.drop (n + 1)) (some ⟨b, off + (n + 1) * 4, none⟩) _ _ rfl ?e1 ((HIc.out.call HB8.out).dropn (n + 1)) ?e2 (by decide) Wc HB8.out (Nat.le_refl _) ?_)
          case e1 => have := HL.out; rw [List.length_drop]; omega
          case e2 => have := HL.out; rw [List.length_take]; omega
          intro v9 w9 hO9 hB9
          have HO9 := Lib.hid hO9
          have HB9 := Lib.hid hB9
          clear hO9 hB9
          go_wp2_with fail
          go_ret2
          exact ⟨_, by rw [HE2.out]; rfl, by rw [HE1.out]; exact HO9.out.low HBc.out.size, bthen HBc.out HB9.out⟩
    · have HE1 := Lib.hid (show witL mayS plS 4 xs k = [] from if_neg (fun h => hr h.2))
      have HE2 := Lib.hid (show witE mayS plS 4 xs k = 4 from by unfold witE; rw [if_pos HKK.out, if_neg hr])
      clear HKK
      obtain ⟨len, hlen⟩ : ∃ len, len = xs.length := ⟨_, rfl⟩
      rw [← hlen] at hr hcap h8 ⊢
      clear hlen
      rcases (show k < 0 ∨ (0 ≤ k ∧ (len : Int) ≤ k) by omega) with h | ⟨h0, h⟩
      all_goals
        clear hr
        go_wp2_with fail
        go_ret2
        exact ⟨_, by rw [HE2.out]; rfl, by rw [HE1.out]; exact Ow.nil _ _ _, HBc.out⟩
  · have HE1 := Lib.hid (show witL mayS plS 4 xs k = [] from if_neg (fun h => hk h.1))
    have HE2 := Lib.hid (show witE mayS plS 4 xs k = 2 from if_neg hk)
    rw [h2]
    clear hk h2
    go_wp2_with fail
    go_ret2
    exact ⟨_, by rw [HE2.out]; rfl, by rw [HE1.out]; exact Ow.nil _ _ _, HBc.out⟩
end Go.Proofs.Ytencifnopfianaa
