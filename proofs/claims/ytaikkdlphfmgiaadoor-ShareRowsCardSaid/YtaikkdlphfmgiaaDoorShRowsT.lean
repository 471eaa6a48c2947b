/-
  Layer 20's rows: what is told of each.
-/
import Derived.Test.YtaikkdlphfmgiaaDoorShRowsL
namespace Go.Proofs.YtaikkdlphfmgiaaDoor
open Go.RowKit
set_option linter.unusedVariables false
set_option linter.unusedSimpArgs false
set_option maxRecDepth 100000 in
set_option maxHeartbeats 4000000 in
theorem told_close (O : Option Addr) (cap : Nat) (xs : List Mp) (w : World) (hI : RK encM 4 w O xs) (hcap : xs.length ≤ cap) (h8 : xs.length ≤ 1000) (hG : G w) :
    Calls Tryd.prog 38 #[.slice O xs.length cap, .func (.func 39) #[] #[]] w fun e w' => ∃ v, e = .returned v ∧ Ow encW 2 65 w' w.heap.size v (xs.map (fun y : Mp => (y.w, lfV y.f))) ∧ Below w.heap.size w w' := by
  have HI := Lib.hid hI
  obtain ⟨i0, hi, hz0, hz1, hz2⟩ := wrInfo
  obtain ⟨len, hlen⟩ : ∃ len, len = xs.length := ⟨_, rfl⟩
  rw [← hlen] at hcap h8 ⊢
  have HL := Lib.hid hlen
  clear hI hlen
  have HG := Lib.hid hG
  clear hG
  go_enter Tryd.func38, Tryd.ntmps38
  go_wp2_with fail
  go_loopw [5, 10] (fun v i wr => ∃ j : Nat, i = .int .i64 j ∧ j ≤ len ∧ Ow encW 2 65 wr w.heap.size v ((xs.map (fun y : Mp => (y.w, lfV y.f))).take j) ∧ Below w.heap.size w wr) (fun _ i _ => len - (intOf i).toNat)
  case atStart => exact ⟨0, rfl, by omega, Ow.nil _ _ _, Below.refl _ _⟩
  case round =>
    obtain ⟨j, rfl, hj, hO, hB⟩ := hrel
    by_cases hlt : j < len
    · obtain ⟨b, off, rfl, hcell⟩ := (HI.out.call hB) (by have := HL.out; omega)
      obtain ⟨x, hx⟩ : ∃ x, xs[j]? = some x := ⟨xs[j]'(by have := HL.out; omega), List.getElem?_eq_getElem _⟩
      obtain ⟨c0, c1, c2, c3⟩ := mp_cells hx hcell
      have HT := Lib.hid (take_map_succ (fun y : Mp => (y.w, lfV y.f)) xs j x hx)
      have HO := Lib.hid hO
      have HB := Lib.hid hB
      clear hcell hB hO hx
      go_wp2_with fail
      have HO1 := Lib.hid (Ow.call HO.out (ba (Below.refl _ _) (.cells #[.int .u64 x.p, .int .i64 x.f, .bool x.ro, .int .u64 x.w] 61)))
      have HB1 := Lib.hid (ba HB.out (.cells #[.int .u64 x.p, .int .i64 x.f, .bool x.ro, .int .u64 x.w] 61))
      clear c0 c1 c2 c3 HO HB
      generalize wr.heap.size = X at *
      generalize wr.alloc (.cells #[.int .u64 x.p, .int .i64 x.f, .bool x.ro, .int .u64 x.w] 61) = W1 at *
      refine (shClose1_any x _ (HG.out.call HB1.out)).mono ?_
      rintro e w1 ⟨rfl, hb1⟩
      have HO2 := Lib.hid (HO1.out.call hb1)
      have HB2 := Lib.hid (bthen HB1.out hb1)
      clear HO1 HB1 hb1
      have HO9 := Lib.hid (Ow.call HO2.out (ba (Below.refl _ _) (.cells #[.int .u64 x.w, .int .u64 (lfV x.f)] 65)))
      have HB9 := Lib.hid (ba HB2.out (.cells #[.int .u64 x.w, .int .u64 (lfV x.f)] 65))
      have HN9 := Lib.hid (Arr.new w1 #[.int .u64 x.w, .int .u64 (lfV x.f)] 65)
      go_wp2_with (at_builtin; refine wp_snoc (enc := encW) rfl _ _ 46 rfl w.heap.size 65 i0 _ 16 Tryd.underlying46 hi hz0 hz1 hz2 rfl (by decide) encW_len _ _ rfl HO9.out (x.w, lfV x.f) w1.heap.size rfl ?c1 ?c2 ?c3 (by decide) w HB9.out (Nat.le_refl _) ?_)
      case c1 => first | exact fun q u hu => HN9.out.cell q u hu | exact fun q u hu => hu
      case c2 => intro u hu; simp [encW] at hu; rcases hu with rfl | rfl <;> rfl
      case c3 => have := HL.out; simp; omega
      intro v9 w9 hO9 hB9
      have HO8 := Lib.hid hO9
      have HB8 := Lib.hid hB9
      clear hO9 hB9
      go_wp2_with fail
      go_roundw
      case rel => exact ⟨j + 1, by go_num, by omega, by rw [HT.out]; exact HO8.out, HB8.out⟩
      case measure => simp [intOf]; omega
    · have e : j = len := by omega
      have HE := Lib.hid (show (xs.map (fun y : Mp => (y.w, lfV y.f))).take j = xs.map (fun y : Mp => (y.w, lfV y.f)) from by rw [List.take_of_length_le (by have := HL.out; (try rw [List.length_map]); omega)])
      have HO := Lib.hid hO
      have HB := Lib.hid hB
      clear hO hB
      go_wp2_with fail
      go_ret
      exact ⟨_, rfl, by rw [← HE.out]; exact HO.out, HB.out⟩
set_option maxRecDepth 100000 in
set_option maxHeartbeats 4000000 in
theorem told_clear (O : Option Addr) (cap : Nat) (xs : List Mp) (w : World) (hI : RK encM 4 w O xs) (hcap : xs.length ≤ cap) (h8 : xs.length ≤ 1000) :
    Calls Tryd.prog 38 #[.slice O xs.length cap, .func (.func 41) #[] #[]] w fun e w' => ∃ v, e = .returned v ∧ Ow encW 2 65 w' w.heap.size v (xs.map (fun y : Mp => (y.w, (0 : Int)))) ∧ Below w.heap.size w w' := by
  have HI := Lib.hid hI
  obtain ⟨i0, hi, hz0, hz1, hz2⟩ := wrInfo
  obtain ⟨len, hlen⟩ : ∃ len, len = xs.length := ⟨_, rfl⟩
  rw [← hlen] at hcap h8 ⊢
  have HL := Lib.hid hlen
  clear hI hlen
  go_enter Tryd.func38, Tryd.ntmps38
  go_wp2_with fail
  go_loopw [5, 10] (fun v i wr => ∃ j : Nat, i = .int .i64 j ∧ j ≤ len ∧ Ow encW 2 65 wr w.heap.size v ((xs.map (fun y : Mp => (y.w, (0 : Int)))).take j) ∧ Below w.heap.size w wr) (fun _ i _ => len - (intOf i).toNat)
  case atStart => exact ⟨0, rfl, by omega, Ow.nil _ _ _, Below.refl _ _⟩
  case round =>
    obtain ⟨j, rfl, hj, hO, hB⟩ := hrel
    by_cases hlt : j < len
    · obtain ⟨b, off, rfl, hcell⟩ := (HI.out.call hB) (by have := HL.out; omega)
      obtain ⟨x, hx⟩ : ∃ x, xs[j]? = some x := ⟨xs[j]'(by have := HL.out; omega), List.getElem?_eq_getElem _⟩
      obtain ⟨c0, c1, c2, c3⟩ := mp_cells hx hcell
      have HT := Lib.hid (take_map_succ (fun y : Mp => (y.w, (0 : Int))) xs j x hx)
      have HO := Lib.hid hO
      have HB := Lib.hid hB
      clear hcell hB hO hx
      go_wp2_with fail
      have HO1 := Lib.hid (Ow.call HO.out (ba (Below.refl _ _) (.cells #[.int .u64 x.p, .int .i64 x.f, .bool x.ro, .int .u64 x.w] 61)))
      have HB1 := Lib.hid (ba HB.out (.cells #[.int .u64 x.p, .int .i64 x.f, .bool x.ro, .int .u64 x.w] 61))
      clear c0 c1 c2 c3 HO HB
      generalize wr.heap.size = X at *
      generalize wr.alloc (.cells #[.int .u64 x.p, .int .i64 x.f, .bool x.ro, .int .u64 x.w] 61) = W1 at *
      refine (shClear1_any x _).mono ?_
      rintro e w1 ⟨rfl, hb1⟩
      have HO2 := Lib.hid (HO1.out.call hb1)
      have HB2 := Lib.hid (bthen HB1.out hb1)
      clear HO1 HB1 hb1
      have HO9 := Lib.hid (Ow.call HO2.out (ba (Below.refl _ _) (.cells #[.int .u64 x.w, .int .u64 0] 65)))
      have HB9 := Lib.hid (ba HB2.out (.cells #[.int .u64 x.w, .int .u64 0] 65))
      have HN9 := Lib.hid (Arr.new w1 #[.int .u64 x.w, .int .u64 0] 65)
      go_wp2_with (at_builtin; refine wp_snoc (enc := encW) rfl _ _ 46 rfl w.heap.size 65 i0 _ 16 Tryd.underlying46 hi hz0 hz1 hz2 rfl (by decide) encW_len _ _ rfl HO9.out (x.w, (0 : Int)) w1.heap.size rfl ?c1 ?c2 ?c3 (by decide) w HB9.out (Nat.le_refl _) ?_)
      case c1 => first | exact fun q u hu => HN9.out.cell q u hu | exact fun q u hu => hu
      case c2 => intro u hu; simp [encW] at hu; rcases hu with rfl | rfl <;> rfl
      case c3 => have := HL.out; simp; omega
      intro v9 w9 hO9 hB9
      have HO8 := Lib.hid hO9
      have HB8 := Lib.hid hB9
      clear hO9 hB9
      go_wp2_with fail
      go_roundw
      case rel => exact ⟨j + 1, by go_num, by omega, by rw [HT.out]; exact HO8.out, HB8.out⟩
      case measure => simp [intOf]; omega
    · have e : j = len := by omega
      have HE := Lib.hid (show (xs.map (fun y : Mp => (y.w, (0 : Int)))).take j = xs.map (fun y : Mp => (y.w, (0 : Int))) from by rw [List.take_of_length_le (by have := HL.out; (try rw [List.length_map]); omega)])
      have HO := Lib.hid hO
      have HB := Lib.hid hB
      clear hO hB
      go_wp2_with fail
      go_ret
      exact ⟨_, rfl, by rw [← HE.out]; exact HO.out, HB.out⟩
set_option maxRecDepth 100000 in
set_option maxHeartbeats 4000000 in
theorem told_frames (O : Option Addr) (cap : Nat) (xs : List Mp) (w : World) (hI : RK encM 4 w O xs) (hcap : xs.length ≤ cap) (h8 : xs.length ≤ 1000) :
    Calls Tryd.prog 42 #[.slice O xs.length cap, .func (.func 43) #[] #[]] w fun e w' => ∃ v, e = .returned v ∧ Ow encI 1 3 w' w.heap.size v (xs.map (fun y : Mp => y.f)) ∧ Below w.heap.size w w' := by
  have HI := Lib.hid hI
  obtain ⟨i0, hi, hz0, hz1, hz2⟩ := inInfo
  obtain ⟨len, hlen⟩ : ∃ len, len = xs.length := ⟨_, rfl⟩
  rw [← hlen] at hcap h8 ⊢
  have HL := Lib.hid hlen
  clear hI hlen
  go_enter Tryd.func42, Tryd.ntmps42
  go_wp2_with fail
  go_loopw [5, 10] (fun v i wr => ∃ j : Nat, i = .int .i64 j ∧ j ≤ len ∧ Ow encI 1 3 wr w.heap.size v ((xs.map (fun y : Mp => y.f)).take j) ∧ Below w.heap.size w wr) (fun _ i _ => len - (intOf i).toNat)
  case atStart => exact ⟨0, rfl, by omega, Ow.nil _ _ _, Below.refl _ _⟩
  case round =>
    obtain ⟨j, rfl, hj, hO, hB⟩ := hrel
    by_cases hlt : j < len
    · obtain ⟨b, off, rfl, hcell⟩ := (HI.out.call hB) (by have := HL.out; omega)
      obtain ⟨x, hx⟩ : ∃ x, xs[j]? = some x := ⟨xs[j]'(by have := HL.out; omega), List.getElem?_eq_getElem _⟩
      obtain ⟨c0, c1, c2, c3⟩ := mp_cells hx hcell
      have HT := Lib.hid (take_map_succ (fun y : Mp => y.f) xs j x hx)
      have HO := Lib.hid hO
      have HB := Lib.hid hB
      clear hcell hB hO hx
      go_wp2_with fail
      have HO1 := Lib.hid (Ow.call HO.out (ba (Below.refl _ _) (.cells #[.int .u64 x.p, .int .i64 x.f, .bool x.ro, .int .u64 x.w] 61)))
      have HB1 := Lib.hid (ba HB.out (.cells #[.int .u64 x.p, .int .i64 x.f, .bool x.ro, .int .u64 x.w] 61))
      clear c0 c1 c2 c3 HO HB
      generalize wr.heap.size = X at *
      generalize wr.alloc (.cells #[.int .u64 x.p, .int .i64 x.f, .bool x.ro, .int .u64 x.w] 61) = W1 at *
      refine (shFrames1_any x _).mono ?_
      rintro e w1 ⟨rfl, hb1⟩
      have HO2 := Lib.hid (HO1.out.call hb1)
      have HB2 := Lib.hid (bthen HB1.out hb1)
      clear HO1 HB1 hb1
      have HO9 := Lib.hid (Ow.call HO2.out (ba (Below.refl _ _) (.cells #[.int .i64 x.f] 3)))
      have HB9 := Lib.hid (ba HB2.out (.cells #[.int .i64 x.f] 3))
      have HN9 := Lib.hid (Arr.new w1 #[.int .i64 x.f] 3)
      go_wp2_with (at_builtin; refine wp_snoc (enc := encI) rfl _ _ 49 rfl w.heap.size 3 i0 _ 8 Tryd.underlying49 hi hz0 hz1 hz2 rfl (by decide) encI_len _ _ rfl HO9.out x.f w1.heap.size rfl ?c1 ?c2 ?c3 (by decide) w HB9.out (Nat.le_refl _) ?_)
      case c1 => first | exact fun q u hu => HN9.out.cell q u hu | exact fun q u hu => hu
      case c2 => intro u hu; simp [encI] at hu; subst hu; rfl
      case c3 => have := HL.out; simp; omega
      intro v9 w9 hO9 hB9
      have HO8 := Lib.hid hO9
      have HB8 := Lib.hid hB9
      clear hO9 hB9
      go_wp2_with fail
      go_roundw
      case rel => exact ⟨j + 1, by go_num, by omega, by rw [HT.out]; exact HO8.out, HB8.out⟩
      case measure => simp [intOf]; omega
    · have e : j = len := by omega
      have HE := Lib.hid (show (xs.map (fun y : Mp => y.f)).take j = xs.map (fun y : Mp => y.f) from by rw [List.take_of_length_le (by have := HL.out; (try rw [List.length_map]); omega)])
      have HO := Lib.hid hO
      have HB := Lib.hid hB
      clear hO hB
      go_wp2_with fail
      go_ret
      exact ⟨_, rfl, by rw [← HE.out]; exact HO.out, HB.out⟩
end Go.Proofs.YtaikkdlphfmgiaaDoor
