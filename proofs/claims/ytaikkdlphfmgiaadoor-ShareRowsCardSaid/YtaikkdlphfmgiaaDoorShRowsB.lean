/-
  Layer 20's rows: items that are let be; what is told of each.
-/
import Derived.Test.YtaikkdlphfmgiaaDoorShRowsA
namespace Go.Proofs.YtaikkdlphfmgiaaDoor
open Go.RowKit
set_option linter.unusedVariables false
set_option linter.unusedSimpArgs false
set_option maxRecDepth 100000 in
set_option maxHeartbeats 4000000 in
theorem those_open (O : Option Addr) (cap : Nat) (xs : List Mp) (w : World) (hI : RK encM 4 w O xs) (hcap : xs.length ≤ cap) (h8 : xs.length ≤ 1000) :
    Calls Tryd.prog 35 #[.slice O xs.length cap, .func (.func 37) #[] #[]] w fun e w' => ∃ v, e = .returned v ∧ Ow encM 4 61 w' w.heap.size v (xs.filter (fun y : Mp => !y.ro)) ∧ Below w.heap.size w w' := by
  have HI := Lib.hid hI
  obtain ⟨i0, hi, hz0, hz1, hz2⟩ := mpInfo
  obtain ⟨len, hlen⟩ : ∃ len, len = xs.length := ⟨_, rfl⟩
  rw [← hlen] at hcap h8 ⊢
  have HL := Lib.hid hlen
  clear hI hlen
  go_enter Tryd.func35, Tryd.ntmps35
  go_wp2_with fail
  go_loopw [5, 10] (fun v i wr => ∃ j : Nat, i = .int .i64 j ∧ j ≤ len ∧ Ow encM 4 61 wr w.heap.size v ((xs.take j).filter (fun y : Mp => !y.ro)) ∧ Below w.heap.size w wr) (fun _ i _ => len - (intOf i).toNat)
  case atStart => exact ⟨0, rfl, by omega, Ow.nil _ _ _, Below.refl _ _⟩
  case round =>
    obtain ⟨j, rfl, hj, hO, hB⟩ := hrel
    by_cases hlt : j < len
    · obtain ⟨b, off, rfl, hcell⟩ := (HI.out.call hB) (by have := HL.out; omega)
      obtain ⟨x, hx⟩ : ∃ x, xs[j]? = some x := ⟨xs[j]'(by have := HL.out; omega), List.getElem?_eq_getElem _⟩
      obtain ⟨c0, c1, c2, c3⟩ := mp_cells hx hcell
      have HT := Lib.hid (take_filter_succ (fun y : Mp => !y.ro) xs j x hx)
      have HQ := Lib.hid (take_filter_len (fun y : Mp => !y.ro) xs j)
      have HO := Lib.hid hO
      have HB := Lib.hid hB
      clear hcell hB hO hx
      go_wp2_with fail
      have HA1 := Lib.hid (Arr.new wr #[.int .u64 x.p, .int .i64 x.f, .bool x.ro, .int .u64 x.w] 61)
      have HO1 := Lib.hid (Ow.call HO.out (ba (Below.refl _ _) (.cells #[.int .u64 x.p, .int .i64 x.f, .bool x.ro, .int .u64 x.w] 61)))
      have HB1 := Lib.hid (ba HB.out (.cells #[.int .u64 x.p, .int .i64 x.f, .bool x.ro, .int .u64 x.w] 61))
      clear c0 c1 c2 c3 HO HB
      generalize wr.heap.size = X at *
      generalize wr.alloc (.cells #[.int .u64 x.p, .int .i64 x.f, .bool x.ro, .int .u64 x.w] 61) = W1 at *
      refine (shIsOpen_any x _).mono ?_
      rintro e w1 ⟨rfl, hb1⟩
      have HA2 := Lib.hid (HA1.out.call hb1)
      have HO2 := Lib.hid (HO1.out.call hb1)
      have HB2 := Lib.hid (bthen HB1.out hb1)
      clear HA1 HO1 HB1 hb1
      rcases hq : ((fun y : Mp => !y.ro) x) with _ | _
      · have HT2 := Lib.hid (show (xs.take (j + 1)).filter (fun y : Mp => !y.ro) = (xs.take j).filter (fun y : Mp => !y.ro) from HT.out.trans (if_neg (fun h => Bool.noConfusion (hq.symm.trans h))))
        simp only at hq
        clear HT
        (try rw [hq])
        go_wp2_with fail
        go_roundw
        case rel => exact ⟨j + 1, by go_num, by omega, by rw [HT2.out]; exact HO2.out, HB2.out⟩
        case measure => simp [intOf]; omega
      · have HT2 := Lib.hid (show (xs.take (j + 1)).filter (fun y : Mp => !y.ro) = (xs.take j).filter (fun y : Mp => !y.ro) ++ [x] from HT.out.trans (if_pos hq))
        simp only at hq
        clear HT
        (try rw [hq])
        have k0 := HA2.out.cell 0 _ rfl
        have k1 := HA2.out.cell 1 _ rfl
        have k2 := HA2.out.cell 2 _ rfl
        have k3 := HA2.out.cell 3 _ rfl
        have HO9 := Lib.hid (Ow.call HO2.out (ba (Below.refl _ _) (.cells #[.int .u64 x.p, .int .i64 x.f, .bool x.ro, .int .u64 x.w] 61)))
        have HB9 := Lib.hid (ba HB2.out (.cells #[.int .u64 x.p, .int .i64 x.f, .bool x.ro, .int .u64 x.w] 61))
        have HN9 := Lib.hid (Arr.new w1 #[.int .u64 x.p, .int .i64 x.f, .bool x.ro, .int .u64 x.w] 61)
        go_wp2_with (at_builtin; refine wp_snoc (enc := encM) rfl _ _ 41 rfl w.heap.size 61 i0 _ 32 Tryd.underlying41 hi hz0 hz1 hz2 rfl (by decide) encM_len _ _ rfl HO9.out x w1.heap.size rfl ?c1 ?c2 ?c3 (by decide) w HB9.out (Nat.le_refl _) ?_)
        case c1 => first | exact fun q u hu => HN9.out.cell q u hu | exact fun q u hu => hu
        case c2 => intro u hu; simp [encM] at hu; rcases hu with rfl | rfl | rfl | rfl <;> rfl
        case c3 => have := HQ.out; have := HL.out; omega
        intro v9 w9 hO9 hB9
        have HO8 := Lib.hid hO9
        have HB8 := Lib.hid hB9
        clear hO9 hB9
        go_wp2_with fail
        go_roundw
        case rel => exact ⟨j + 1, by go_num, by omega, by rw [HT2.out]; exact HO8.out, HB8.out⟩
        case measure => simp [intOf]; omega
    · have e : j = len := by omega
      have HE := Lib.hid (show (xs.take j).filter (fun y : Mp => !y.ro) = xs.filter (fun y : Mp => !y.ro) from by rw [List.take_of_length_le (by have := HL.out; (try rw [List.length_map]); omega)])
      have HO := Lib.hid hO
      have HB := Lib.hid hB
      clear hO hB
      go_wp2_with fail
      go_ret
      exact ⟨_, rfl, by rw [← HE.out]; exact HO.out, HB.out⟩
set_option maxRecDepth 100000 in
set_option maxHeartbeats 4000000 in
theorem those_part (first count : Int) (C F : Nat) (O : Option Addr) (cap : Nat) (xs : List Mp) (w : World) (hI : RK encM 4 w O xs) (hcap : xs.length ≤ cap) (h8 : xs.length ≤ 1000) (hC : PCaught w C F first count) (wx : ∀ (i : Nat) (x : Mp), xs[i]? = some x → U64 x.p) (wf : U64 first) (wc : count < 9223372036854775808) :
    Calls Tryd.prog 35 #[.slice O xs.length cap, .func (.func 36) #[] #[.pointer (some ⟨C, 0, none⟩), .pointer (some ⟨F, 0, none⟩)]] w fun e w' => ∃ v, e = .returned v ∧ Ow encM 4 61 w' w.heap.size v (xs.filter (fun y : Mp => inP first count y.p)) ∧ Below w.heap.size w w' := by
  have HI := Lib.hid hI
  obtain ⟨i0, hi, hz0, hz1, hz2⟩ := mpInfo
  obtain ⟨len, hlen⟩ : ∃ len, len = xs.length := ⟨_, rfl⟩
  rw [← hlen] at hcap h8 ⊢
  have HL := Lib.hid hlen
  clear hI hlen
  have HC := Lib.hid hC
  have HW := Lib.hid wx
  clear hC wx
  go_enter Tryd.func35, Tryd.ntmps35
  go_wp2_with fail
  go_loopw [5, 10] (fun v i wr => ∃ j : Nat, i = .int .i64 j ∧ j ≤ len ∧ Ow encM 4 61 wr w.heap.size v ((xs.take j).filter (fun y : Mp => inP first count y.p)) ∧ Below w.heap.size w wr) (fun _ i _ => len - (intOf i).toNat)
  case atStart => exact ⟨0, rfl, by omega, Ow.nil _ _ _, Below.refl _ _⟩
  case round =>
    obtain ⟨j, rfl, hj, hO, hB⟩ := hrel
    by_cases hlt : j < len
    · obtain ⟨b, off, rfl, hcell⟩ := (HI.out.call hB) (by have := HL.out; omega)
      obtain ⟨x, hx⟩ : ∃ x, xs[j]? = some x := ⟨xs[j]'(by have := HL.out; omega), List.getElem?_eq_getElem _⟩
      obtain ⟨c0, c1, c2, c3⟩ := mp_cells hx hcell
      have HT := Lib.hid (take_filter_succ (fun y : Mp => inP first count y.p) xs j x hx)
      have HQ := Lib.hid (take_filter_len (fun y : Mp => inP first count y.p) xs j)
      have HO := Lib.hid hO
      have HB := Lib.hid hB
      have HX := Lib.hid (HW.out j x hx)
      clear hcell hB hO hx
      go_wp2_with fail
      have HA1 := Lib.hid (Arr.new wr #[.int .u64 x.p, .int .i64 x.f, .bool x.ro, .int .u64 x.w] 61)
      have HO1 := Lib.hid (Ow.call HO.out (ba (Below.refl _ _) (.cells #[.int .u64 x.p, .int .i64 x.f, .bool x.ro, .int .u64 x.w] 61)))
      have HB1 := Lib.hid (ba HB.out (.cells #[.int .u64 x.p, .int .i64 x.f, .bool x.ro, .int .u64 x.w] 61))
      clear c0 c1 c2 c3 HO HB
      generalize wr.heap.size = X at *
      generalize wr.alloc (.cells #[.int .u64 x.p, .int .i64 x.f, .bool x.ro, .int .u64 x.w] 61) = W1 at *
      refine (shPart1_any x first count C F _ (HC.out.call HB1.out) HX.out wf wc).mono ?_
      rintro e w1 ⟨rfl, hb1⟩
      have HA2 := Lib.hid (HA1.out.call hb1)
      have HO2 := Lib.hid (HO1.out.call hb1)
      have HB2 := Lib.hid (bthen HB1.out hb1)
      clear HA1 HO1 HB1 hb1
      rcases hq : ((fun y : Mp => inP first count y.p) x) with _ | _
      · have HT2 := Lib.hid (show (xs.take (j + 1)).filter (fun y : Mp => inP first count y.p) = (xs.take j).filter (fun y : Mp => inP first count y.p) from HT.out.trans (if_neg (fun h => Bool.noConfusion (hq.symm.trans h))))
        simp only at hq
        clear HT
        (try rw [hq])
        go_wp2_with fail
        go_roundw
        case rel => exact ⟨j + 1, by go_num, by omega, by rw [HT2.out]; exact HO2.out, HB2.out⟩
        case measure => simp [intOf]; omega
      · have HT2 := Lib.hid (show (xs.take (j + 1)).filter (fun y : Mp => inP first count y.p) = (xs.take j).filter (fun y : Mp => inP first count y.p) ++ [x] from HT.out.trans (if_pos hq))
        simp only at hq
        clear HT
        (try rw [hq])
        have k0 := HA2.out.cell 0 _ rfl
        have k1 := HA2.out.cell 1 _ rfl
        have k2 := HA2.out.cell 2 _ rfl
        have k3 := HA2.out.cell 3 _ rfl
        have HO9 := Lib.hid (Ow.call HO2.out (ba (Below.refl _ _) (.cells #[.int .u64 x.p, .int .i64 x.f, .bool x.ro, .int .u64 x.w] 61)))
        have HB9 := Lib.hid (ba HB2.out (.cells #[.int .u64 x.p, .int .i64 x.f, .bool x.ro, .int .u64 x.w] 61))
        have HN9 := Lib.hid (Arr.new w1 #[.int .u64 x.p, .int .i64 x.f, .bool x.ro, .int .u64 x.w] 61)
        go_wp2_with (at_builtin; refine wp_snoc (enc := encM) rfl _ _ 41 rfl w.heap.size 61 i0 _ 32 Tryd.underlying41 hi hz0 hz1 hz2 rfl (by decide) encM_len _ _ rfl HO9.out x w1.heap.size rfl ?c1 ?c2 ?c3 (by decide) w HB9.out (Nat.le_refl _) ?_)
        case c1 => first | exact fun q u hu => HN9.out.cell q u hu | exact fun q u hu => hu
        case c2 => intro u hu; simp [encM] at hu; rcases hu with rfl | rfl | rfl | rfl <;> rfl
        case c3 => have := HQ.out; have := HL.out; omega
        intro v9 w9 hO9 hB9
        have HO8 := Lib.hid hO9
        have HB8 := Lib.hid hB9
        clear hO9 hB9
        go_wp2_with fail
        go_roundw
        case rel => exact ⟨j + 1, by go_num, by omega, by rw [HT2.out]; exact HO8.out, HB8.out⟩
        case measure => simp [intOf]; omega
    · have e : j = len := by omega
      have HE := Lib.hid (show (xs.take j).filter (fun y : Mp => inP first count y.p) = xs.filter (fun y : Mp => inP first count y.p) from by rw [List.take_of_length_le (by have := HL.out; (try rw [List.length_map]); omega)])
      have HO := Lib.hid hO
      have HB := Lib.hid hB
      clear hO hB
      go_wp2_with fail
      go_ret
      exact ⟨_, rfl, by rw [← HE.out]; exact HO.out, HB.out⟩
end Go.Proofs.YtaikkdlphfmgiaaDoor
