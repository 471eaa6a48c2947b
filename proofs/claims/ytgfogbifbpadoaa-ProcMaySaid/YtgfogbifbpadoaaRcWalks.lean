/-
  The document's house: its small readers.
-/
import Derived.Test.YtgfogbifbpadoaaRcBase
namespace Go.Proofs.Ytgfogbifbpadoaa
open Go.RowKit Go.Maps
set_option linter.unusedVariables false
set_option linter.unusedSimpArgs false
variable {w : World} {W : Nat → Prop} {Q : Nat} {R : Rh}
theorem rfreeSpace_any (h : Rm w W Q R) : Calls Try.prog 44 #[.pointer (some ⟨Q, 0, none⟩)] w fun e w' => (∃ s : Nat, s ≤ 6 ∧ e = .returned (.int .i64 s)) ∧ w = w' := by
  have HH := Lib.hid h
  clear h
  go_enter Try.func44, Try.ntmps44
  go_wp2_with fail
  go_loop [3] (fun i => ∃ k : Nat, i = .int .i64 k ∧ 1 ≤ k ∧ k ≤ 7) (fun i => 7 - (intOf i).toNat)
  case atStart => exact ⟨1, rfl, by omega, by omega⟩
  case round =>
    obtain ⟨k, rfl, k1, k7⟩ := hrel
    by_cases hk : k ≤ 6
    · obtain ⟨b, hb⟩ := HH.out.hr k (by omega)
      rcases b with _ | _
      · go_wp2_with fail
        go_ret
        exact ⟨⟨k, hk, rfl⟩, rfl⟩
      · go_wp2_with fail
        go_round
        case rel => exact ⟨k + 1, by go_num, by omega, by omega⟩
        case measure => simp [intOf]; omega
    · have hk' : 6 < k := by omega
      go_wp2_with fail
      go_ret
      exact ⟨⟨0, by omega, rfl⟩, rfl⟩
theorem rfreeThread_any (h : Rm w W Q R) : Calls Try.prog 45 #[.pointer (some ⟨Q, 0, none⟩)] w fun e w' => (∃ t : Nat, t ≤ 8 ∧ e = .returned (.int .i64 t)) ∧ w = w' := by
  have HH := Lib.hid h
  clear h
  go_enter Try.func45, Try.ntmps45
  go_wp2_with fail
  go_loop [3] (fun i => ∃ k : Nat, i = .int .i64 k ∧ 1 ≤ k ∧ k ≤ 9) (fun i => 9 - (intOf i).toNat)
  case atStart => exact ⟨1, rfl, by omega, by omega⟩
  case round =>
    obtain ⟨k, rfl, k1, k7⟩ := hrel
    by_cases hk : k ≤ 8
    · have hnum := HH.out.num (n := k) (by omega)
      generalize (R.th k).sp = x at hnum
      rcases hx : (x == 0) with _ | _
      · go_wp2_with fail
        go_round
        case rel => exact ⟨k + 1, by go_num, by omega, by omega⟩
        case measure => simp [intOf]; omega
      · go_wp2_with fail
        go_ret
        exact ⟨⟨k, hk, rfl⟩, rfl⟩
    · have hk' : 8 < k := by omega
      go_wp2_with fail
      go_ret
      exact ⟨⟨0, by omega, rfl⟩, rfl⟩
/-- What live answers. -/
def LvP (n : Int) (e : Ending) : Prop := ∃ b : Bool, e = .returned (.bool b) ∧ (b = true → ∃ k : Nat, n = k ∧ 1 ≤ k ∧ k ≤ 8)
theorem LvP.no (n : Int) : LvP n (.returned (.bool false)) := ⟨false, rfl, fun h => by cases h⟩
theorem LvP.any {k : Nat} (h1 : 1 ≤ k) (h8 : k ≤ 8) (b : Bool) : LvP k (.returned (.bool b)) := ⟨b, rfl, fun _ => ⟨k, rfl, h1, h8⟩⟩
set_option maxRecDepth 100000 in
theorem rlive_any (n : Int) (hn : I64 n) (h : Rm w W Q R) : Calls Try.prog 46 #[.pointer (some ⟨Q, 0, none⟩), .int .i64 n] w fun e w' => LvP n e ∧ w = w' := by
  obtain ⟨n0, n1⟩ := hn
  have HH := Lib.hid h
  clear h
  by_cases a1 : 1 ≤ n
  · by_cases a2 : n ≤ 8
    · obtain ⟨k, rfl⟩ := Int.eq_ofNat_of_zero_le (show 0 ≤ n by omega)
      have hnum := HH.out.num (n := k) (by omega)
      have hd := HH.out.thAt (n := k) (by omega) 11 _ rfl
      generalize (R.th k).sp = x at hnum
      generalize (R.th k).dead = d at hd
      rcases hx : (x != 0) with _ | _ <;> rcases d with _ | _
      all_goals
        go_enter Try.func46, Try.ntmps46
        go_wp2_with fail
        go_ret
        exact ⟨LvP.any (by omega) (by omega) _, rfl⟩
    · have a2' : 8 < n := by omega
      go_enter Try.func46, Try.ntmps46
      go_wp2_with fail
      go_ret
      exact ⟨LvP.no _, rfl⟩
  · have a1' : n < 1 := by omega
    go_enter Try.func46, Try.ntmps46
    go_wp2_with fail
    go_ret
    exact ⟨LvP.no _, rfl⟩
/-- What On answers. -/
def OnP (e : Ending) : Prop := ∃ (t : Nat) (b : Bool), t ≤ 8 ∧ e = .returned (.tuple #[.int .i64 t, .bool b])
set_option maxRecDepth 100000 in
set_option maxHeartbeats 2000000 in
theorem rOn_any (c : Int) (hc : I64 c) (h : Rm w W Q R) : Calls Try.prog 47 #[.pointer (some ⟨Q, 0, none⟩), .int .i64 c] w fun e w' => OnP e ∧ w = w' := by
  obtain ⟨n0, n1⟩ := hc
  have HH := Lib.hid h
  clear h
  go_enter Try.func47, Try.ntmps47
  go_wp2_with fail
  go_loop [6] (fun i => ∃ k : Nat, i = .int .i64 k ∧ 1 ≤ k ∧ k ≤ 9) (fun i => 9 - (intOf i).toNat)
  case atStart => exact ⟨1, rfl, by omega, by omega⟩
  case round =>
    obtain ⟨k, rfl, k1, k7⟩ := hrel
    by_cases hk : k ≤ 8
    · have hcr := HH.out.thAt (n := k) (by omega) 10 _ rfl
      generalize (R.th k).core = x at hcr
      go_wp2_with fail
      refine (rlive_any k ⟨by omega, by omega⟩ HH.out).mono ?_
      rintro e w1 ⟨⟨b, rfl, -⟩, rfl⟩
      rcases b with _ | _
      · go_wp2_with fail
        go_round
        case rel => exact ⟨k + 1, by go_num, by omega, by omega⟩
        case measure => simp [intOf]; omega
      · by_cases h1 : 1 ≤ c
        · rcases hx : (x == c) with _ | _
          · go_wp2_with fail
            go_round
            case rel => exact ⟨k + 1, by go_num, by omega, by omega⟩
            case measure => simp [intOf]; omega
          · go_wp2_with fail
            refine bodyPost_ret (results_tmp2 rfl _ _ _) rfl ?_
            exact ⟨⟨k, true, hk, rfl⟩, rfl⟩
        · have h1' : c < 1 := by omega
          go_wp2_with fail
          go_round
          case rel => exact ⟨k + 1, by go_num, by omega, by omega⟩
          case measure => simp [intOf]; omega
    · have hk' : 8 < k := by omega
      go_wp2_with fail
      refine bodyPost_ret (results_tmp2 rfl _ _ _) rfl ?_
      exact ⟨⟨0, false, by omega, rfl⟩, rfl⟩
/-- What Thread answers. -/
def ThP (R : Rh) (n : Int) (e : Ending) : Prop := ∃ (T : Th) (E : Int), e = .returned (thV T E) ∧ (E = 0 → ∃ k : Nat, n = k ∧ 1 ≤ k ∧ k ≤ 8 ∧ T = R.th k) ∧ (E ≠ 0 → E = 4)
set_option maxRecDepth 100000 in
theorem rThread_any (n : Int) (hn : I64 n) (h : Rm w W Q R) :
    Calls Try.prog 48 #[.pointer (some ⟨Q, 0, none⟩), .int .i64 n] w fun e w' => ThP R n e ∧ Below w.heap.size w w' := by
  obtain ⟨n0, n1⟩ := hn
  have HH0 := Lib.hid h
  clear h
  go_enter Try.func48, Try.ntmps48
  go_upto_region 1 with fail
  refine (show ∀ W1 : World, Below w.heap.size w W1 → Bk W1 w.heap.size 36 (thC Th.z).toArray → Code.wp _ _ _ _ W1 from fun W1 hb1 hk1 => ?_) _ (ba (Below.refl _ _) _) (Bk.new _ _ _)
  have HB := Lib.hid hb1
  have HK := Lib.hid hk1
  have HH := Lib.hid (HH0.out.call hb1)
  have hsz := hb1.size
  clear hb1 hk1 HH0
  by_cases a1 : 1 ≤ n
  · by_cases a2 : n ≤ 8
    · obtain ⟨k, rfl⟩ := Int.eq_ofNat_of_zero_le (show 0 ≤ n by omega)
      have hnum := HH.out.num (n := k) (by omega)
      clear n0 n1 hsz
      generalize (R.th k).sp = x at hnum
      by_cases hx : x = 0
      · subst hx
        go_upto_region 2 with fail
        go_wp2_with (refine box_th rfl _ _ rfl w.heap.size Th.z _ rfl rfl HK.out rfl ?_)
        refine bodyPost_ret (res_th (g := w.heap.size) rfl _ _ (thC Th.z).toArray _ rfl rfl (HK.out.row _) rfl) rfl ?_
        exact ⟨⟨Th.z, 4, rfl, fun h => absurd h (by decide), fun _ => rfl⟩, brow HB.out (Nat.le_refl _) _⟩
      · have hx2 : (x == 0) = false := beq_eq_false_iff_ne.2 hx
        clear hx
        go_upto_region 3 with fail
        go_wp2_with (first | refine rget_th rfl _ rfl HH.out (n := k) (by omega) rfl ?_ | refine box_th rfl _ _ rfl w.heap.size (R.th k) _ rfl rfl HK.out rfl ?_)
        refine bodyPost_ret (res_th (g := w.heap.size) rfl _ _ (thC (R.th k)).toArray _ rfl rfl (HK.out.row _) rfl) rfl ?_
        exact ⟨⟨R.th k, 0, rfl, fun _ => ⟨k, rfl, by omega, by omega, rfl⟩, fun h => absurd rfl h⟩, brow HB.out (Nat.le_refl _) _⟩
    · have a2' : 8 < n := by omega
      clear a2
      go_wp2_with (refine box_th rfl _ _ rfl w.heap.size Th.z _ rfl rfl HK.out rfl ?_)
      refine bodyPost_ret (res_th (g := w.heap.size) rfl _ _ (thC Th.z).toArray _ rfl rfl (HK.out.row _) rfl) rfl ?_
      exact ⟨⟨Th.z, 4, rfl, fun h => absurd h (by decide), fun _ => rfl⟩, brow HB.out (Nat.le_refl _) _⟩
  · have a1' : n < 1 := by omega
    clear a1
    go_wp2_with (refine box_th rfl _ _ rfl w.heap.size Th.z _ rfl rfl HK.out rfl ?_)
    refine bodyPost_ret (res_th (g := w.heap.size) rfl _ _ (thC Th.z).toArray _ rfl rfl (HK.out.row _) rfl) rfl ?_
    exact ⟨⟨Th.z, 4, rfl, fun h => absurd h (by decide), fun _ => rfl⟩, brow HB.out (Nat.le_refl _) _⟩
end Go.Proofs.Ytgfogbifbpadoaa
