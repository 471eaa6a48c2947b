/-
  The document's rows of mappings; rows held against each other.
-/
import Derived.Test.YtaikkdlphfmgiaaDoorShRowsA
import Derived.Deep.QuietTactic
import Derived.Deep.RegionHeld3
namespace Go.Proofs.YtaikkdlphfmgiaaDoor
open Go.RowKit
set_option linter.unusedVariables false
set_option linter.unusedSimpArgs false
set_option maxRecDepth 100000 in
set_option maxHeartbeats 4000000 in
theorem r20Open_any (O : Option Addr) (cap : Nat) (xs : List Mp) (w : World) (hI : RK encM 4 w O xs) (hcap : xs.length ≤ cap) (h8 : xs.length ≤ 1000) :
    Calls Tryd.prog 19 #[.slice O xs.length cap] w fun e w' => ∃ v, e = .returned v ∧ Ow encM 4 61 w' w.heap.size v (xs.filter (fun y : Mp => !y.ro)) ∧ Below w.heap.size w w' := by
  have HI := Lib.hid hI
  obtain ⟨i0, hi, hz0, hz1, hz2⟩ := mpInfo
  obtain ⟨len, hlen⟩ : ∃ len, len = xs.length := ⟨_, rfl⟩
  rw [← hlen] at hcap h8 ⊢
  have HL := Lib.hid hlen
  clear hI hlen
  go_enter Tryd.func19, Tryd.ntmps19
  go_wp2_with fail
  go_loopw [3, 4] (fun v i wr => ∃ j : Nat, i = .int .i64 j ∧ j ≤ len ∧ Ow encM 4 61 wr w.heap.size v ((xs.take j).filter (fun y : Mp => !y.ro)) ∧ Below w.heap.size w wr) (fun _ i _ => len - (intOf i).toNat)
  case atStart => exact ⟨0, rfl, by omega, Ow.nil _ _ _, Below.refl _ _⟩
  case round =>
    obtain ⟨j, rfl, hj, hO, hB⟩ := hrel
    by_cases hlt : j < len
    · obtain ⟨b, off, rfl, hcell⟩ := (HI.out.call hB) (by have := HL.out; omega)
      obtain ⟨x, hx⟩ : ∃ x, xs[j]? = some x := ⟨xs[j]'(by have := HL.out; omega), List.getElem?_eq_getElem _⟩
      obtain ⟨c0, c1, c2, c3⟩ := mp_cells hx hcell
      have lb : b < wr.heap.size := World.block_lt_of_cell? wr ⟨b, off + j * 4, none⟩ c0
      have HT := Lib.hid (take_filter_succ (fun y : Mp => !y.ro) xs j x hx)
      have HQ := Lib.hid (take_filter_len (fun y : Mp => !y.ro) xs j)
      have HO := Lib.hid hO
      have HB := Lib.hid hB
      clear hcell hB hO hx
      obtain ⟨xp, xf, xr, xw⟩ := x
      simp only at c0 c1 c2 c3
      rcases xr with _ | _
      · have HO9 := Lib.hid (Ow.call HO.out (ba (Below.refl _ _) (.cells #[.int .u64 xp, .int .i64 xf, .bool false, .int .u64 xw] 61)))
        have HB9 := Lib.hid (ba HB.out (.cells #[.int .u64 xp, .int .i64 xf, .bool false, .int .u64 xw] 61))
        have HN9 := Lib.hid (Arr.new wr #[.int .u64 xp, .int .i64 xf, .bool false, .int .u64 xw] 61)
        go_wp2_with (at_builtin; refine wp_snoc (enc := encM) rfl _ _ 41 rfl w.heap.size 61 i0 _ 32 Tryd.underlying41 hi hz0 hz1 hz2 rfl (by decide) encM_len _ _ rfl HO9.out ⟨xp, xf, false, xw⟩ wr.heap.size rfl ?c1 ?c2 ?c3 (by decide) w HB9.out (Nat.le_refl _) ?_)
        case c1 => first | exact fun q u hu => HN9.out.cell q u hu | exact fun q u hu => hu
        case c2 => intro u hu; simp [encM] at hu; rcases hu with rfl | rfl | rfl | rfl <;> rfl
        case c3 => have := HQ.out; have := HL.out; omega
        intro v9 w9 hO9 hB9
        have HO8 := Lib.hid hO9
        have HB8 := Lib.hid hB9
        clear hO9 hB9
        go_wp2_with fail
        go_roundw
        case rel => exact ⟨j + 1, by go_num, by omega, by rw [HT.out, if_pos (show (!false) = true from rfl)]; exact HO8.out, HB8.out⟩
        case measure => simp [intOf]; omega
      · go_wp2_with fail
        go_roundw
        case rel => exact ⟨j + 1, by go_num, by omega, by rw [HT.out, if_neg (by simp)]; exact HO.out, HB.out⟩
        case measure => simp [intOf]; omega
    · have e : j = len := by omega
      have HE := Lib.hid (show (xs.take j).filter (fun y : Mp => !y.ro) = xs.filter (fun y : Mp => !y.ro) from by rw [List.take_of_length_le (by have := HL.out; (try rw [List.length_map]); omega)])
      have HO := Lib.hid hO
      have HB := Lib.hid hB
      clear hO hB
      go_wp2_with fail
      go_ret
      exact ⟨_, rfl, by rw [← HE.out]; exact HO.out, HB.out⟩
set_option maxRecDepth 100000 in
set_option maxHeartbeats 4000000 in
theorem r20Part_any (first count : Int) (O : Option Addr) (cap : Nat) (xs : List Mp) (w : World) (hI : RK encM 4 w O xs) (hcap : xs.length ≤ cap) (h8 : xs.length ≤ 1000) (wx : ∀ (i : Nat) (x : Mp), xs[i]? = some x → U64 x.p) (wf : U64 first) (wc : count < 9223372036854775808) :
    Calls Tryd.prog 17 #[.slice O xs.length cap, .int .u64 first, .int .i64 count] w fun e w' => ∃ v, e = .returned v ∧ Ow encM 4 61 w' w.heap.size v (xs.filter (fun y : Mp => inP first count y.p)) ∧ Below w.heap.size w w' := by
  have HI := Lib.hid hI
  obtain ⟨i0, hi, hz0, hz1, hz2⟩ := mpInfo
  obtain ⟨len, hlen⟩ : ∃ len, len = xs.length := ⟨_, rfl⟩
  rw [← hlen] at hcap h8 ⊢
  have HL := Lib.hid hlen
  clear hI hlen
  have HW := Lib.hid wx
  clear wx
  obtain ⟨f0, f1⟩ := wf
  go_enter Tryd.func17, Tryd.ntmps17
  go_wp2_with fail
  go_loopw [7, 8] (fun v i wr => ∃ j : Nat, i = .int .i64 j ∧ j ≤ len ∧ Ow encM 4 61 wr w.heap.size v ((xs.take j).filter (fun y : Mp => inP first count y.p)) ∧ Below w.heap.size w wr) (fun _ i _ => len - (intOf i).toNat)
  case atStart => exact ⟨0, rfl, by omega, Ow.nil _ _ _, Below.refl _ _⟩
  case round =>
    obtain ⟨j, rfl, hj, hO, hB⟩ := hrel
    by_cases hlt : j < len
    · obtain ⟨b, off, rfl, hcell⟩ := (HI.out.call hB) (by have := HL.out; omega)
      obtain ⟨x, hx⟩ : ∃ x, xs[j]? = some x := ⟨xs[j]'(by have := HL.out; omega), List.getElem?_eq_getElem _⟩
      obtain ⟨c0, c1, c2, c3⟩ := mp_cells hx hcell
      have lb : b < wr.heap.size := World.block_lt_of_cell? wr ⟨b, off + j * 4, none⟩ c0
      have HT := Lib.hid (take_filter_succ (fun y : Mp => inP first count y.p) xs j x hx)
      have HQ := Lib.hid (take_filter_len (fun y : Mp => inP first count y.p) xs j)
      have HO := Lib.hid hO
      have HB := Lib.hid hB
      have HX := Lib.hid (HW.out j x hx)
      clear hcell hB hO hx
      obtain ⟨xp, xf, xr, xw⟩ := x
      simp only at c0 c1 c2 c3
      have hxp := HX.out
      obtain ⟨p0, p1⟩ := hxp
      simp only at p0 p1
      by_cases a1 : 0 < count
      · by_cases a2 : first ≤ xp
        · by_cases a3 : xp - first < count
          · have HE := Lib.hid (show inP first count xp = true from decide_eq_true ⟨a1, a2, a3⟩)
            have HO9 := Lib.hid (Ow.call HO.out (ba (Below.refl _ _) (.cells #[.int .u64 xp, .int .i64 xf, .bool xr, .int .u64 xw] 61)))
            have HB9 := Lib.hid (ba HB.out (.cells #[.int .u64 xp, .int .i64 xf, .bool xr, .int .u64 xw] 61))
            have HN9 := Lib.hid (Arr.new wr #[.int .u64 xp, .int .i64 xf, .bool xr, .int .u64 xw] 61)
            go_wp2_with (at_builtin; refine wp_snoc (enc := encM) rfl _ _ 41 rfl w.heap.size 61 i0 _ 32 Tryd.underlying41 hi hz0 hz1 hz2 rfl (by decide) encM_len _ _ rfl HO9.out ⟨xp, xf, xr, xw⟩ wr.heap.size rfl ?c1 ?c2 ?c3 (by decide) w HB9.out (Nat.le_refl _) ?_)
            case c1 => first | exact fun q u hu => HN9.out.cell q u hu | exact fun q u hu => hu
            case c2 => intro u hu; simp [encM] at hu; rcases hu with rfl | rfl | rfl | rfl <;> rfl
            case c3 => have := HQ.out; have := HL.out; omega
            intro v9 w9 hO9 hB9
            have HO8 := Lib.hid hO9
            have HB8 := Lib.hid hB9
            clear hO9 hB9
            go_wp2_with fail
            go_roundw
            case rel => exact ⟨j + 1, by go_num, by omega, by rw [HT.out, if_pos HE.out]; exact HO8.out, HB8.out⟩
            case measure => simp [intOf]; omega
          · have HE := Lib.hid (show inP first count xp = false from decide_eq_false (fun h => a3 h.2.2))
            have a3' : count ≤ xp - first := by omega
            have a5 : decide (xp - first < count) = false := decide_eq_false a3
            go_wp2_with fail
            go_roundw
            case rel => exact ⟨j + 1, by go_num, by omega, by rw [HT.out, if_neg (by rw [HE.out]; simp)]; exact HO.out, HB.out⟩
            case measure => simp [intOf]; omega
        · have HE := Lib.hid (show inP first count xp = false from decide_eq_false (fun h => a2 h.2.1))
          have a2' : xp < first := by omega
          clear a2
          go_wp2_with fail
          go_roundw
          case rel => exact ⟨j + 1, by go_num, by omega, by rw [HT.out, if_neg (by rw [HE.out]; simp)]; exact HO.out, HB.out⟩
          case measure => simp [intOf]; omega
      · have HE := Lib.hid (show inP first count xp = false from decide_eq_false (fun h => a1 h.1))
        have a1' : count ≤ 0 := by omega
        clear a1
        go_wp2_with fail
        go_roundw
        case rel => exact ⟨j + 1, by go_num, by omega, by rw [HT.out, if_neg (by rw [HE.out]; simp)]; exact HO.out, HB.out⟩
        case measure => simp [intOf]; omega
    · have e : j = len := by omega
      have HE := Lib.hid (show (xs.take j).filter (fun y : Mp => inP first count y.p) = xs.filter (fun y : Mp => inP first count y.p) from by rw [List.take_of_length_le (by have := HL.out; (try rw [List.length_map]); omega)])
      have HO := Lib.hid hO
      have HB := Lib.hid hB
      clear hO hB
      go_wp2_with fail
      go_ret
      exact ⟨_, rfl, by rw [← HE.out]; exact HO.out, HB.out⟩
set_option maxRecDepth 100000 in
set_option maxHeartbeats 4000000 in
theorem r20Clear_any (O : Option Addr) (cap : Nat) (xs : List Mp) (w : World) (hI : RK encM 4 w O xs) (hcap : xs.length ≤ cap) (h8 : xs.length ≤ 1000) :
    Calls Tryd.prog 24 #[.slice O xs.length cap] w fun e w' => ∃ v, e = .returned v ∧ Ow encW 2 65 w' w.heap.size v (xs.map (fun y : Mp => (y.w, (0 : Int)))) ∧ Below w.heap.size w w' := by
  have HI := Lib.hid hI
  obtain ⟨i0, hi, hz0, hz1, hz2⟩ := wrInfo
  obtain ⟨len, hlen⟩ : ∃ len, len = xs.length := ⟨_, rfl⟩
  rw [← hlen] at hcap h8 ⊢
  have HL := Lib.hid hlen
  clear hI hlen
  go_enter Tryd.func24, Tryd.ntmps24
  go_wp2_with fail
  go_loopw [3, 4] (fun v i wr => ∃ j : Nat, i = .int .i64 j ∧ j ≤ len ∧ Ow encW 2 65 wr w.heap.size v ((xs.map (fun y : Mp => (y.w, (0 : Int)))).take j) ∧ Below w.heap.size w wr) (fun _ i _ => len - (intOf i).toNat)
  case atStart => exact ⟨0, rfl, by omega, Ow.nil _ _ _, Below.refl _ _⟩
  case round =>
    obtain ⟨j, rfl, hj, hO, hB⟩ := hrel
    by_cases hlt : j < len
    · obtain ⟨b, off, rfl, hcell⟩ := (HI.out.call hB) (by have := HL.out; omega)
      obtain ⟨x, hx⟩ : ∃ x, xs[j]? = some x := ⟨xs[j]'(by have := HL.out; omega), List.getElem?_eq_getElem _⟩
      obtain ⟨c0, c1, c2, c3⟩ := mp_cells hx hcell
      have lb : b < wr.heap.size := World.block_lt_of_cell? wr ⟨b, off + j * 4, none⟩ c0
      have HT := Lib.hid (take_map_succ (fun y : Mp => (y.w, (0 : Int))) xs j x hx)
      have HO := Lib.hid hO
      have HB := Lib.hid hB
      clear hcell hB hO hx
      obtain ⟨xp, xf, xr, xw⟩ := x
      simp only at c0 c1 c2 c3
      have HO9 := Lib.hid (Ow.call HO.out (ba (Below.refl _ _) (.cells #[.int .u64 xw, .int .u64 0] 65)))
      have HB9 := Lib.hid (ba HB.out (.cells #[.int .u64 xw, .int .u64 0] 65))
      have HN9 := Lib.hid (Arr.new wr #[.int .u64 xw, .int .u64 0] 65)
      go_wp2_with (at_builtin; refine wp_snoc (enc := encW) rfl _ _ 46 rfl w.heap.size 65 i0 _ 16 Tryd.underlying46 hi hz0 hz1 hz2 rfl (by decide) encW_len _ _ rfl HO9.out (xw, 0) wr.heap.size rfl ?c1 ?c2 ?c3 (by decide) w HB9.out (Nat.le_refl _) ?_)
      case c1 => first | exact fun q u hu => HN9.out.cell q u hu | exact fun q u hu => hu
      case c2 => intro u hu; simp [encW] at hu; rcases hu with rfl | rfl <;> rfl
      case c3 => have := HL.out; simp; omega
      intro v9 w9 hO9 hB9
      have HO8 := Lib.hid hO9
      have HB8 := Lib.hid hB9
      clear hO9 hB9
      go_wp2_with fail
      go_roundw
      case rel => exact ⟨j + 1, by go_num, by omega, by rw [HT.out]; exact HO8.out, HB8.out⟩
      case measure => simp [intOf]; omega
    · have e : j = len := by omega
      have HE := Lib.hid (show (xs.map (fun y : Mp => (y.w, (0 : Int)))).take j = xs.map (fun y : Mp => (y.w, (0 : Int))) from by rw [List.take_of_length_le (by have := HL.out; (try rw [List.length_map]); omega)])
      have HO := Lib.hid hO
      have HB := Lib.hid hB
      clear hO hB
      go_wp2_with fail
      go_ret
      exact ⟨_, rfl, by rw [← HE.out]; exact HO.out, HB.out⟩
set_option maxRecDepth 100000 in
set_option maxHeartbeats 4000000 in
theorem r20Frames_any (O : Option Addr) (cap : Nat) (xs : List Mp) (w : World) (hI : RK encM 4 w O xs) (hcap : xs.length ≤ cap) (h8 : xs.length ≤ 1000) :
    Calls Tryd.prog 27 #[.slice O xs.length cap] w fun e w' => ∃ v, e = .returned v ∧ Ow encI 1 3 w' w.heap.size v (xs.map (fun y : Mp => y.f)) ∧ Below w.heap.size w w' := by
  have HI := Lib.hid hI
  obtain ⟨i0, hi, hz0, hz1, hz2⟩ := inInfo
  obtain ⟨len, hlen⟩ : ∃ len, len = xs.length := ⟨_, rfl⟩
  rw [← hlen] at hcap h8 ⊢
  have HL := Lib.hid hlen
  clear hI hlen
  go_enter Tryd.func27, Tryd.ntmps27
  go_wp2_with fail
  go_loopw [3, 4] (fun v i wr => ∃ j : Nat, i = .int .i64 j ∧ j ≤ len ∧ Ow encI 1 3 wr w.heap.size v ((xs.map (fun y : Mp => y.f)).take j) ∧ Below w.heap.size w wr) (fun _ i _ => len - (intOf i).toNat)
  case atStart => exact ⟨0, rfl, by omega, Ow.nil _ _ _, Below.refl _ _⟩
  case round =>
    obtain ⟨j, rfl, hj, hO, hB⟩ := hrel
    by_cases hlt : j < len
    · obtain ⟨b, off, rfl, hcell⟩ := (HI.out.call hB) (by have := HL.out; omega)
      obtain ⟨x, hx⟩ : ∃ x, xs[j]? = some x := ⟨xs[j]'(by have := HL.out; omega), List.getElem?_eq_getElem _⟩
      obtain ⟨c0, c1, c2, c3⟩ := mp_cells hx hcell
      have lb : b < wr.heap.size := World.block_lt_of_cell? wr ⟨b, off + j * 4, none⟩ c0
      have HT := Lib.hid (take_map_succ (fun y : Mp => y.f) xs j x hx)
      have HO := Lib.hid hO
      have HB := Lib.hid hB
      clear hcell hB hO hx
      obtain ⟨xp, xf, xr, xw⟩ := x
      simp only at c0 c1 c2 c3
      have HO9 := Lib.hid (Ow.call HO.out (ba (Below.refl _ _) (.cells #[.int .i64 xf] 3)))
      have HB9 := Lib.hid (ba HB.out (.cells #[.int .i64 xf] 3))
      have HN9 := Lib.hid (Arr.new wr #[.int .i64 xf] 3)
      go_wp2_with (at_builtin; refine wp_snoc (enc := encI) rfl _ _ 49 rfl w.heap.size 3 i0 _ 8 Tryd.underlying49 hi hz0 hz1 hz2 rfl (by decide) encI_len _ _ rfl HO9.out xf wr.heap.size rfl ?c1 ?c2 ?c3 (by decide) w HB9.out (Nat.le_refl _) ?_)
      case c1 => first | exact fun q u hu => HN9.out.cell q u hu | exact fun q u hu => hu
      case c2 => intro u hu; simp [encI] at hu; subst hu; rfl
      case c3 => have := HL.out; simp; omega
      intro v9 w9 hO9 hB9
      have HO8 := Lib.hid hO9
      have HB8 := Lib.hid hB9
      clear hO9 hB9
      go_wp2_with fail
      go_roundw
      case rel => exact ⟨j + 1, by go_num, by omega, by rw [HT.out]; exact HO8.out, HB8.out⟩
      case measure => simp [intOf]; omega
    · have e : j = len := by omega
      have HE := Lib.hid (show (xs.map (fun y : Mp => y.f)).take j = xs.map (fun y : Mp => y.f) from by rw [List.take_of_length_le (by have := HL.out; (try rw [List.length_map]); omega)])
      have HO := Lib.hid hO
      have HB := Lib.hid hB
      clear hO hB
      go_wp2_with fail
      go_ret
      exact ⟨_, rfl, by rw [← HE.out]; exact HO.out, HB.out⟩
set_option maxRecDepth 100000 in
set_option maxHeartbeats 4000000 in
theorem sameM_yes (O1 O2 : Option Addr) (p1 p2 : Nat) (xs : List Mp) (w : World) (h1 : RK encM 4 w O1 xs) (h2 : RK encM 4 w O2 xs) (l1 : xs.length ≤ p1) (l2 : xs.length ≤ p2) (h8 : xs.length ≤ 1000) :
    Calls Tryd.prog 15 #[.slice O1 xs.length p1, .slice O2 xs.length p2] w fun e w' => e = .returned (.bool true) ∧ Below w.heap.size w w' := by
  have F1 := Lib.hid h1
  have F2 := Lib.hid h2
  obtain ⟨len, hlen⟩ : ∃ len, len = xs.length := ⟨_, rfl⟩
  rw [← hlen] at l1 l2 h8 ⊢
  have HL := Lib.hid hlen
  clear h1 h2 hlen
  go_enter Tryd.func15, Tryd.ntmps15
  go_wp2_with fail
  go_loopw [5] (fun i wr => ∃ k : Nat, i = .int .i64 k ∧ k ≤ len ∧ Below w.heap.size w wr) (fun i _ => len - (intOf i).toNat)
  case atStart => exact ⟨0, rfl, by omega, Below.refl _ _⟩
  case round =>
    obtain ⟨k, rfl, hk, hB⟩ := hrel
    have kc : ∀ (b o : Nat) (u : Value), w.cell? ⟨b, o, none⟩ = some u → wr.cell? ⟨b, o, none⟩ = some u := fun b o u h => (hB.cell (p := ⟨b, o, none⟩) (World.block_lt_of_cell? w ⟨b, o, none⟩ h)).trans h
    by_cases hlt : k < len
    · obtain ⟨g1, o1, rfl, d1⟩ := F1.out (by have := HL.out; omega)
      obtain ⟨g2, o2, rfl, d2⟩ := F2.out (by have := HL.out; omega)
      obtain ⟨x, hx⟩ : ∃ x, xs[k]? = some x := ⟨xs[k]'(by have := HL.out; omega), List.getElem?_eq_getElem _⟩
      have e10 := kc _ _ _ (d1 k x hx 0 _ rfl)
      have e11 := kc _ _ _ (d1 k x hx 1 _ rfl)
      have e12 := kc _ _ _ (d1 k x hx 2 _ rfl)
      have e13 := kc _ _ _ (d1 k x hx 3 _ rfl)
      have e20 := kc _ _ _ (d2 k x hx 0 _ rfl)
      have e21 := kc _ _ _ (d2 k x hx 1 _ rfl)
      have e22 := kc _ _ _ (d2 k x hx 2 _ rfl)
      have e23 := kc _ _ _ (d2 k x hx 3 _ rfl)
      have HB := Lib.hid hB
      clear d1 d2 kc hB hx
      (try simp only [Nat.add_zero, Nat.mul_one] at *)
      go_wp2_with fail
      go_quiet (fail)
      go_wp2_with fail
      go_roundw
      case rel => exact ⟨k + 1, by go_num, by omega, ⟨HB.out.os, HB.out.tape, HB.out.output, HB.out.size, HB.out.block⟩⟩
      case measure => simp [intOf]; omega
    · have HB := Lib.hid hB
      clear hB kc
      go_wp2_with fail
      go_ret
      exact ⟨rfl, HB.out⟩
set_option maxRecDepth 100000 in
set_option maxHeartbeats 4000000 in
theorem sameW_yes (O1 O2 : Option Addr) (p1 p2 : Nat) (xs : List (Int × Int)) (w : World) (h1 : RK encW 2 w O1 xs) (h2 : RK encW 2 w O2 xs) (l1 : xs.length ≤ p1) (l2 : xs.length ≤ p2) (h8 : xs.length ≤ 1000) :
    Calls Tryd.prog 20 #[.slice O1 xs.length p1, .slice O2 xs.length p2] w fun e w' => e = .returned (.bool true) ∧ Below w.heap.size w w' := by
  have F1 := Lib.hid h1
  have F2 := Lib.hid h2
  obtain ⟨len, hlen⟩ : ∃ len, len = xs.length := ⟨_, rfl⟩
  rw [← hlen] at l1 l2 h8 ⊢
  have HL := Lib.hid hlen
  clear h1 h2 hlen
  go_enter Tryd.func20, Tryd.ntmps20
  go_wp2_with fail
  go_loopw [5] (fun i wr => ∃ k : Nat, i = .int .i64 k ∧ k ≤ len ∧ Below w.heap.size w wr) (fun i _ => len - (intOf i).toNat)
  case atStart => exact ⟨0, rfl, by omega, Below.refl _ _⟩
  case round =>
    obtain ⟨k, rfl, hk, hB⟩ := hrel
    have kc : ∀ (b o : Nat) (u : Value), w.cell? ⟨b, o, none⟩ = some u → wr.cell? ⟨b, o, none⟩ = some u := fun b o u h => (hB.cell (p := ⟨b, o, none⟩) (World.block_lt_of_cell? w ⟨b, o, none⟩ h)).trans h
    by_cases hlt : k < len
    · obtain ⟨g1, o1, rfl, d1⟩ := F1.out (by have := HL.out; omega)
      obtain ⟨g2, o2, rfl, d2⟩ := F2.out (by have := HL.out; omega)
      obtain ⟨x, hx⟩ : ∃ x, xs[k]? = some x := ⟨xs[k]'(by have := HL.out; omega), List.getElem?_eq_getElem _⟩
      have e10 := kc _ _ _ (d1 k x hx 0 _ rfl)
      have e11 := kc _ _ _ (d1 k x hx 1 _ rfl)
      have e20 := kc _ _ _ (d2 k x hx 0 _ rfl)
      have e21 := kc _ _ _ (d2 k x hx 1 _ rfl)
      have HB := Lib.hid hB
      clear d1 d2 kc hB hx
      (try simp only [Nat.add_zero, Nat.mul_one] at *)
      go_wp2_with fail
      go_quiet (fail)
      go_wp2_with fail
      go_roundw
      case rel => exact ⟨k + 1, by go_num, by omega, ⟨HB.out.os, HB.out.tape, HB.out.output, HB.out.size, HB.out.block⟩⟩
      case measure => simp [intOf]; omega
    · have HB := Lib.hid hB
      clear hB kc
      go_wp2_with fail
      go_ret
      exact ⟨rfl, HB.out⟩
set_option maxRecDepth 100000 in
set_option maxHeartbeats 4000000 in
theorem ints_yes (O1 O2 : Option Addr) (p1 p2 : Nat) (xs : List Int) (w : World) (h1 : RK encI 1 w O1 xs) (h2 : RK encI 1 w O2 xs) (l1 : xs.length ≤ p1) (l2 : xs.length ≤ p2) (h8 : xs.length ≤ 1000) :
    Calls Tryd.prog 25 #[.slice O1 xs.length p1, .slice O2 xs.length p2] w fun e w' => e = .returned (.bool true) ∧ Below w.heap.size w w' := by
  have F1 := Lib.hid h1
  have F2 := Lib.hid h2
  obtain ⟨len, hlen⟩ : ∃ len, len = xs.length := ⟨_, rfl⟩
  rw [← hlen] at l1 l2 h8 ⊢
  have HL := Lib.hid hlen
  clear h1 h2 hlen
  go_enter Tryd.func25, Tryd.ntmps25
  go_wp2_with fail
  go_loopw [5] (fun i wr => ∃ k : Nat, i = .int .i64 k ∧ k ≤ len ∧ Below w.heap.size w wr) (fun i _ => len - (intOf i).toNat)
  case atStart => exact ⟨0, rfl, by omega, Below.refl _ _⟩
  case round =>
    obtain ⟨k, rfl, hk, hB⟩ := hrel
    have kc : ∀ (b o : Nat) (u : Value), w.cell? ⟨b, o, none⟩ = some u → wr.cell? ⟨b, o, none⟩ = some u := fun b o u h => (hB.cell (p := ⟨b, o, none⟩) (World.block_lt_of_cell? w ⟨b, o, none⟩ h)).trans h
    by_cases hlt : k < len
    · obtain ⟨g1, o1, rfl, d1⟩ := F1.out (by have := HL.out; omega)
      obtain ⟨g2, o2, rfl, d2⟩ := F2.out (by have := HL.out; omega)
      obtain ⟨x, hx⟩ : ∃ x, xs[k]? = some x := ⟨xs[k]'(by have := HL.out; omega), List.getElem?_eq_getElem _⟩
      have e10 := kc _ _ _ (d1 k x hx 0 _ rfl)
      have e20 := kc _ _ _ (d2 k x hx 0 _ rfl)
      have HB := Lib.hid hB
      clear d1 d2 kc hB hx
      (try simp only [Nat.add_zero, Nat.mul_one] at *)
      go_wp2_with fail
      go_quiet (fail)
      go_wp2_with fail
      go_roundw
      case rel => exact ⟨k + 1, by go_num, by omega, ⟨HB.out.os, HB.out.tape, HB.out.output, HB.out.size, HB.out.block⟩⟩
      case measure => simp [intOf]; omega
    · have HB := Lib.hid hB
      clear hB kc
      go_wp2_with fail
      go_ret
      exact ⟨rfl, HB.out⟩
end Go.Proofs.YtaikkdlphfmgiaaDoor
