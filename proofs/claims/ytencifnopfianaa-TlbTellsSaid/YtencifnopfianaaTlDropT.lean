/-
  Package tlb's drop (T).
-/
import Derived.Test.YtencifnopfianaaTlCheckT
import Derived.Deep.QuietTactic
import Derived.Deep.RegionHeld
namespace Go.Proofs.Ytencifnopfianaa
open Go.RowKit
set_option linter.unusedVariables false
set_option linter.unusedSimpArgs false
set_option maxRecDepth 100000 in
set_option maxHeartbeats 4000000 in
theorem dropT_any (O : Option Addr) (cap : Nat) (xs : List Tb) (tk ta tp : Int) (C : Nat) (w : World) (hI : RK encT 4 w O xs) (hcap : xs.length ≤ cap) (hC : TCaught w C tk ta tp) :
    Calls Try.prog 35 #[.agg #[.int .i64 8, .func (.func 57) #[] #[], .func (.func 59) #[] #[]], .slice O xs.length cap, .func (.func 36) #[] #[.pointer (some ⟨C, 0, none⟩)]] w fun e w' => ∃ v, e = .returned v ∧ Ow encT 4 25 w' w.heap.size v (drpL mayT plT 8 xs (fun y : Tb => hitB tk ta tp y.a y.p)) ∧ Below w.heap.size w w' := by
  have HB0 := Lib.hid (ba (Below.refl w.heap.size w) (.cells #[.int .i64 8, .func (.func 57) #[] #[], .func (.func 59) #[] #[]] 61))
  have HI := Lib.hid (hI.call HB0.out)
  have HC := Lib.hid (hC.call HB0.out)
  clear hI hC
  obtain ⟨i0, hi, hz0, hz1, hz2⟩ := tbInfo
  go_enter Try.func35, Try.ntmps35
  go_wp2_with fail
  generalize w.alloc (.cells #[.int .i64 8, .func (.func 57) #[] #[], .func (.func 59) #[] #[]] 61) = W0 at *
  refine (checkT_any O cap xs _ HI.out hcap).mono ?_
  rintro e Wc ⟨rfl, hb⟩
  have HBc := Lib.hid (bthen HB0.out hb)
  have HIc := Lib.hid (HI.out.call hb)
  have HCc := Lib.hid (HC.out.call hb)
  clear hb HB0 HI HC
  rcases ckE_cases mayT plT 8 xs with ⟨hk, h2⟩ | ⟨hk, h2⟩
  · have HE := Lib.hid (show drpL mayT plT 8 xs (fun y : Tb => hitB tk ta tp y.a y.p) = xs.filter (fun y : Tb => !(hitB tk ta tp y.a y.p)) from if_pos hk)
    have h8 := hk.1
    rw [h2]
    clear hk h2
    obtain ⟨len, hlen⟩ : ∃ len, len = xs.length := ⟨_, rfl⟩
    rw [← hlen] at hcap h8 ⊢
    have HL := Lib.hid hlen
    clear hlen
    go_wp2_with fail
    go_loopw [7, 16] (fun v i wr => ∃ j : Nat, i = .int .i64 j ∧ j ≤ len ∧ Ow encT 4 25 wr Wc.heap.size v ((xs.take j).filter (fun y : Tb => !(hitB tk ta tp y.a y.p))) ∧ Below Wc.heap.size Wc wr) (fun _ i _ => len - (intOf i).toNat)
    case atStart => exact ⟨0, rfl, by omega, Ow.nil _ _ _, Below.refl _ _⟩
    case round =>
      obtain ⟨j, rfl, hj, hO, hB⟩ := hrel
      by_cases hlt : j < len
      · obtain ⟨b, off, rfl, hcell⟩ := (HIc.out.call hB) (by have := HL.out; omega)
        obtain ⟨x, hx⟩ : ∃ x, xs[j]? = some x := ⟨xs[j]'(by have := HL.out; omega), List.getElem?_eq_getElem _⟩
        obtain ⟨c0, c1, c2, c3⟩ := tb_cells hx hcell
        have HT := Lib.hid (take_filter_succ (fun y : Tb => !(hitB tk ta tp y.a y.p)) xs j x hx)
        have HQ := Lib.hid (take_filter_len (fun y : Tb => !(hitB tk ta tp y.a y.p)) xs j)
        have HO := Lib.hid hO
        have HB := Lib.hid hB
        clear hcell hB hO hx
        go_wp2_with fail
        have HA1 := Lib.hid (Arr.new wr #[.int .i64 x.a, .int .u64 x.p, .int .i64 x.f, .bool x.ro] 25)
        have HO1 := Lib.hid (Ow.call HO.out (ba (Below.refl _ _) (.cells #[.int .i64 x.a, .int .u64 x.p, .int .i64 x.f, .bool x.ro] 25)))
        have HB1 := Lib.hid (ba HB.out (.cells #[.int .i64 x.a, .int .u64 x.p, .int .i64 x.f, .bool x.ro] 25))
        clear c0 c1 c2 c3 HO HB
        generalize wr.heap.size = X at *
        generalize wr.alloc (.cells #[.int .i64 x.a, .int .u64 x.p, .int .i64 x.f, .bool x.ro] 25) = W1 at *
        refine (hitT_any x tk ta tp C _ (HCc.out.call HB1.out)).mono ?_
        rintro e w1 ⟨rfl, hb1⟩
        have HA2 := Lib.hid (HA1.out.call hb1)
        have HO2 := Lib.hid (HO1.out.call hb1)
        have HB2 := Lib.hid (bthen HB1.out hb1)
        clear HA1 HO1 HB1 hb1
        rcases hq : (hitB tk ta tp x.a x.p) with _ | _
        · have HT2 := Lib.hid (show (xs.take (j + 1)).filter (fun y : Tb => !(hitB tk ta tp y.a y.p)) = (xs.take j).filter (fun y : Tb => !(hitB tk ta tp y.a y.p)) ++ [x] from HT.out.trans (if_pos (by rw [hq]; rfl)))
          clear HT
          (try rw [hq])
          clear hq
          have k0 := HA2.out.cell 0 _ rfl
          have k1 := HA2.out.cell 1 _ rfl
          have k2 := HA2.out.cell 2 _ rfl
          have k3 := HA2.out.cell 3 _ rfl
          have HO9 := Lib.hid (Ow.call HO2.out (ba (Below.refl _ _) (.cells #[.int .i64 x.a, .int .u64 x.p, .int .i64 x.f, .bool x.ro] 25)))
          have HB9 := Lib.hid (ba HB2.out (.cells #[.int .i64 x.a, .int .u64 x.p, .int .i64 x.f, .bool x.ro] 25))
          have HN9 := Lib.hid (Arr.new w1 #[.int .i64 x.a, .int .u64 x.p, .int .i64 x.f, .bool x.ro] 25)
          go_wp2_with (at_builtin; refine wp_snoc (enc := encT) rfl _ _ 22 rfl Wc.heap.size 25 i0 _ 32 Try.underlying22 hi hz0 hz1 hz2 rfl (by decide) encT_len _ _ rfl HO9.out x w1.heap.size rfl ?c1 ?c2 ?c3 (by decide) Wc HB9.out (Nat.le_refl _) ?_)
          case c1 => first | exact fun q u hu => HN9.out.cell q u hu | exact fun q u hu => hu
          case c2 => intro u hu; simp [encT] at hu; rcases hu with rfl | rfl | rfl | rfl <;> rfl
          case c3 => have := HQ.out; have := HL.out; omega
          intro v9 w9 hO9 hB9
          have HO8 := Lib.hid hO9
          have HB8 := Lib.hid hB9
          clear hO9 hB9
          go_wp2_with fail
          go_roundw
          case rel => exact ⟨j + 1, by go_num, by omega, by rw [HT2.out]; exact HO8.out, HB8.out⟩
          case measure => simp [intOf]; omega
        · have HT2 := Lib.hid (show (xs.take (j + 1)).filter (fun y : Tb => !(hitB tk ta tp y.a y.p)) = (xs.take j).filter (fun y : Tb => !(hitB tk ta tp y.a y.p)) from HT.out.trans (if_neg (by rw [hq]; simp)))
          clear HT
          (try rw [hq])
          clear hq
          go_wp2_with fail
          go_roundw
          case rel => exact ⟨j + 1, by go_num, by omega, by rw [HT2.out]; exact HO2.out, HB2.out⟩
          case measure => simp [intOf]; omega
      · have HE2 := Lib.hid (show (xs.take j).filter (fun y : Tb => !(hitB tk ta tp y.a y.p)) = xs.filter (fun y : Tb => !(hitB tk ta tp y.a y.p)) from by rw [List.take_of_length_le (by have := HL.out; omega)])
        have HO := Lib.hid hO
        have HB := Lib.hid hB
        clear hO hB
        go_wp2_with fail
        go_ret
        exact ⟨_, rfl, by rw [HE.out, ← HE2.out]; exact HO.out.low HBc.out.size, bthen HBc.out HB.out⟩
  · have HE := Lib.hid (show drpL mayT plT 8 xs (fun y : Tb => hitB tk ta tp y.a y.p) = [] from if_neg hk)
    rw [h2]
    clear hk h2
    go_wp2_with fail
    go_ret
    exact ⟨_, rfl, by rw [HE.out]; exact Ow.nil _ _ _, HBc.out⟩
end Go.Proofs.Ytencifnopfianaa
