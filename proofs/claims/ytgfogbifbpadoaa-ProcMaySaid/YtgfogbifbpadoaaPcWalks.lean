/-
  A house's small readers.
-/
import Derived.Test.YtgfogbifbpadoaaPcBase
namespace Go.Proofs.Ytgfogbifbpadoaa
open Go.RowKit Go.Maps
set_option linter.unusedVariables false
set_option linter.unusedSimpArgs false
variable {w : World} {W : Nat → Prop} {P M K : Nat} {H : Hs}
theorem pcFreeThread_any (k : Nat) (hk : k < 9) (h : Hm w W P M K H) :
    Calls Try.prog 41 #[.pointer (some ⟨P, 0, none⟩), .int .i64 k] w fun e w' => e = .returned (.bool ((H.th k).sp == 0)) ∧ w = w' := by
  have c := h.thAt hk 0 _ rfl
  simp only [Nat.add_zero] at c
  go_enter Try.func41, Try.ntmps41
  go_wp2_with fail
  go_ret
  exact ⟨rfl, rfl⟩
theorem pcFreeSpace_any (k : Nat) (hk : k < 7) (h : Hm w W P M K H) :
    Calls Try.prog 50 #[.pointer (some ⟨P, 0, none⟩), .int .i64 k] w fun e w' => e = .returned (.bool ((H.sp k).thr == 0)) ∧ w = w' := by
  have c := h.spAt hk 1 _ rfl
  go_enter Try.func50, Try.ntmps50
  go_wp2_with fail
  go_ret
  exact ⟨rfl, rfl⟩
/-- Is n a thread? -/
def thereB (H : Hs) (n : Int) : Bool := decide (1 ≤ n) && decide (n ≤ 8) && !((H.th n.toNat).sp == 0)
def livesB (H : Hs) (n : Int) : Bool := thereB H n && !(H.th n.toNat).dead
def sthereB (H : Hs) (n : Int) : Bool := decide (1 ≤ n) && decide (n ≤ 6) && !((H.sp n.toNat).thr == 0)
theorem pcThere_any (n : Int) (hn : I64 n) (h : Hm w W P M K H) :
    Calls Try.prog 34 #[.pointer (some ⟨P, 0, none⟩), .int .i64 n] w fun e w' => e = .returned (.bool (thereB H n)) ∧ w = w' := by
  obtain ⟨n0, n1⟩ := hn
  have HH := Lib.hid h
  clear h
  by_cases a1 : 1 ≤ n
  · by_cases a2 : n ≤ 8
    · obtain ⟨k, rfl⟩ := Int.eq_ofNat_of_zero_le (show 0 ≤ n by omega)
      go_enter Try.func34, Try.ntmps34
      go_wp2_with fail
      refine (pcFreeThread_any k (by omega) HH.out).mono ?_
      rintro e w1 ⟨rfl, rfl⟩
      go_wp2_with fail
      go_ret
      exact ⟨ret_bool (by simp [thereB, a1, a2]), rfl⟩
    · have a2' : 8 < n := by omega
      go_enter Try.func34, Try.ntmps34
      go_wp2_with fail
      go_ret
      exact ⟨ret_bool (by simp [thereB]; intros; omega), rfl⟩
  · have a1' : n < 1 := by omega
    go_enter Try.func34, Try.ntmps34
    go_wp2_with fail
    go_ret
    exact ⟨ret_bool (by simp [thereB]; intros; omega), rfl⟩
theorem pcSpaceThere_any (n : Int) (hn : I64 n) (h : Hm w W P M K H) :
    Calls Try.prog 35 #[.pointer (some ⟨P, 0, none⟩), .int .i64 n] w fun e w' => e = .returned (.bool (sthereB H n)) ∧ w = w' := by
  obtain ⟨n0, n1⟩ := hn
  have HH := Lib.hid h
  clear h
  by_cases a1 : 1 ≤ n
  · by_cases a2 : n ≤ 6
    · obtain ⟨k, rfl⟩ := Int.eq_ofNat_of_zero_le (show 0 ≤ n by omega)
      go_enter Try.func35, Try.ntmps35
      go_wp2_with fail
      refine (pcFreeSpace_any k (by omega) HH.out).mono ?_
      rintro e w1 ⟨rfl, rfl⟩
      go_wp2_with fail
      go_ret
      exact ⟨ret_bool (by simp [sthereB, a1, a2]), rfl⟩
    · have a2' : 6 < n := by omega
      go_enter Try.func35, Try.ntmps35
      go_wp2_with fail
      go_ret
      exact ⟨ret_bool (by simp [sthereB]; intros; omega), rfl⟩
  · have a1' : n < 1 := by omega
    go_enter Try.func35, Try.ntmps35
    go_wp2_with fail
    go_ret
    exact ⟨ret_bool (by simp [sthereB]; intros; omega), rfl⟩
theorem thereB_some {H : Hs} {n : Int} (h : thereB H n = true) : ∃ k : Nat, n = k ∧ 1 ≤ k ∧ k ≤ 8 ∧ (H.th k).sp ≠ 0 := by
  simp only [thereB, Bool.and_eq_true, decide_eq_true_eq, Bool.not_eq_true', beq_eq_false_iff_ne] at h
  exact ⟨n.toNat, by omega, by omega, by omega, h.2⟩
theorem sthereB_some {H : Hs} {n : Int} (h : sthereB H n = true) : ∃ k : Nat, n = k ∧ 1 ≤ k ∧ k ≤ 6 ∧ (H.sp k).thr ≠ 0 := by
  simp only [sthereB, Bool.and_eq_true, decide_eq_true_eq, Bool.not_eq_true', beq_eq_false_iff_ne] at h
  exact ⟨n.toNat, by omega, by omega, by omega, h.2⟩
theorem pcLives_any (n : Int) (hn : I64 n) (h : Hm w W P M K H) :
    Calls Try.prog 37 #[.pointer (some ⟨P, 0, none⟩), .int .i64 n] w fun e w' => e = .returned (.bool (livesB H n)) ∧ w = w' := by
  have HH := Lib.hid h
  have HN := Lib.hid hn
  clear h hn
  rcases ht : thereB H n with _ | _
  · have HT := Lib.hid ht
    clear ht
    go_enter Try.func37, Try.ntmps37
    go_wp2_with fail
    refine (pcThere_any n HN.out HH.out).mono ?_
    rintro e w1 ⟨rfl, rfl⟩
    rw [HT.out]
    go_wp2_with fail
    go_ret
    exact ⟨ret_bool (by simp [livesB, HT.out]), rfl⟩
  · obtain ⟨k, rfl, k1, k8, -⟩ := thereB_some ht
    have HT := Lib.hid ht
    clear ht
    have c := HH.out.thAt (n := k) (by omega) 11 _ rfl
    go_enter Try.func37, Try.ntmps37
    go_wp2_with fail
    refine (pcThere_any k HN.out HH.out).mono ?_
    rintro e w1 ⟨rfl, rfl⟩
    rw [HT.out]
    go_wp2_with fail
    go_ret
    exact ⟨ret_bool (by simp [livesB, HT.out]), rfl⟩
theorem livesB_some {H : Hs} {n : Int} (h : livesB H n = true) : ∃ k : Nat, n = k ∧ 1 ≤ k ∧ k ≤ 8 ∧ (H.th k).sp ≠ 0 ∧ (H.th k).dead = false := by
  simp only [livesB, Bool.and_eq_true, Bool.not_eq_true'] at h
  obtain ⟨k, rfl, h1, h2, h3⟩ := thereB_some h.1
  exact ⟨k, rfl, h1, h2, h3, by simpa using h.2⟩
/-- The least number from 1 to m of which q holds. -/
def lstF (q : Nat → Bool) : Nat → Nat → Option Nat
  | _, 0 => none
  | n, f + 1 => if q n then some n else lstF q (n + 1) f
def lst (q : Nat → Bool) (m : Nat) : Option Nat := lstF q 1 m
theorem lstF_some {q : Nat → Bool} : ∀ {f n k : Nat}, lstF q n f = some k → n ≤ k ∧ k < n + f ∧ q k = true ∧ ∀ j, n ≤ j → j < k → q j = false
  | 0, _, _, h => by cases h
  | f + 1, n, k, h => by
    unfold lstF at h
    split at h
    · rename_i hq
      cases h
      exact ⟨by omega, by omega, hq, fun j h1 h2 => by omega⟩
    · rename_i hq
      obtain ⟨h1, h2, h3, h4⟩ := lstF_some h
      refine ⟨by omega, by omega, h3, fun j j1 j2 => ?_⟩
      by_cases e : j = n
      · subst e; simpa using hq
      · exact h4 j (by omega) j2
theorem lstF_none {q : Nat → Bool} : ∀ {f n : Nat}, lstF q n f = none → ∀ j, n ≤ j → j < n + f → q j = false
  | 0, _, _, _, _, _ => by omega
  | f + 1, n, h, j, h1, h2 => by
    unfold lstF at h
    split at h
    · cases h
    · rename_i hq
      by_cases e : j = n
      · subst e; simpa using hq
      · exact lstF_none h j (by omega) (by omega)
theorem lst_some {q : Nat → Bool} {m k : Nat} (h : lst q m = some k) : 1 ≤ k ∧ k ≤ m ∧ q k = true ∧ ∀ j, 1 ≤ j → j < k → q j = false := by
  obtain ⟨h1, h2, h3, h4⟩ := lstF_some h
  exact ⟨h1, by omega, h3, h4⟩
theorem lst_none {q : Nat → Bool} {m : Nat} (h : lst q m = none) : ∀ j, 1 ≤ j → j ≤ m → q j = false := fun j h1 h2 => lstF_none h j h1 (by omega)
def lstV : Option Nat → Value
  | none => .tuple #[.int .i64 0, .bool false]
  | some k => .tuple #[.int .i64 k, .bool true]
set_option maxHeartbeats 400000 in
theorem pcLeast_any (m fid : Nat) (r : Value) (q : Nat → Bool) (w : World) (hm : m ≤ 8)
    (hen : ∀ (a : Value) (w : World), (callFunc fid #[r, a]).run Try.prog w = .ok (.enter fid #[r, a]) w)
    (hq : ∀ k : Nat, 1 ≤ k → k ≤ m → Calls Try.prog fid #[r, .int .i64 k] w fun e w' => e = .returned (.bool (q k)) ∧ w = w') :
    Calls Try.prog 40 #[.int .i64 m, .func (.func fid) #[r] #[]] w fun e w' => e = .returned (lstV (lst q m)) ∧ w = w' := by
  have HQ := Lib.hid hq
  clear hq
  go_enter Try.func40, Try.ntmps40
  go_wp2_with fail
  go_loop [6] (fun i => ∃ k : Nat, i = .int .i64 k ∧ 1 ≤ k ∧ k ≤ m + 1 ∧ lst q m = lstF q k (m + 1 - k)) (fun i => m + 1 - (intOf i).toNat)
  case atStart => exact ⟨1, rfl, by omega, by omega, by simp [lst]⟩
  case round =>
    obtain ⟨k, rfl, k1, k2, hl⟩ := hrel
    have HL := Lib.hid hl
    clear hl
    by_cases hk : k ≤ m
    · have HS := Lib.hid (show lstF q k (m + 1 - k) = if q k then some k else lstF q (k + 1) (m + 1 - (k + 1)) by
        rw [show m + 1 - k = (m + 1 - (k + 1)) + 1 by omega, lstF])
      go_wp2_with fail
      refine (HQ.out k k1 hk).mono ?_
      rintro e w1 ⟨rfl, rfl⟩
      rcases hqk : q k with _ | _
      · have HS' := Lib.hid (show lst q m = lstF q (k + 1) (m + 1 - (k + 1)) by rw [HL.out, HS.out, hqk]; rfl)
        clear hqk HS
        go_wp2_with fail
        go_round
        case rel => exact ⟨k + 1, by go_num, by omega, by omega, HS'.out⟩
        case measure => simp [intOf]; omega
      · have HS' := Lib.hid (show lst q m = some k by rw [HL.out, HS.out, hqk]; rfl)
        clear hqk HS
        go_wp2_with fail
        refine bodyPost_ret (results_tmp2 rfl _ _ _) rfl ?_
        exact ⟨by rw [HS'.out]; rfl, rfl⟩
    · have HS' := Lib.hid (show lst q m = none by rw [HL.out, show m + 1 - k = 0 by omega]; rfl)
      have hk' : m < k := by omega
      go_wp2_with fail
      refine bodyPost_ret (results_tmp2 rfl _ _ _) rfl ?_
      exact ⟨by rw [HS'.out]; rfl, rfl⟩
/-- The least free space and thread. -/
def frS (H : Hs) : Option Nat := lst (fun k => (H.sp k).thr == 0) 6
def frT (H : Hs) : Option Nat := lst (fun k => (H.th k).sp == 0) 8
theorem least_space (h : Hm w W P M K H) : Calls Try.prog 40 #[.int .i64 6, .func (.func 50) #[.pointer (some ⟨P, 0, none⟩)] #[]] w fun e w' => e = .returned (lstV (frS H)) ∧ w = w' :=
  pcLeast_any 6 50 _ _ w (by omega) (fun a w => by go_simp) (fun k k1 k2 => pcFreeSpace_any k (by omega) h)
theorem least_thread (h : Hm w W P M K H) : Calls Try.prog 40 #[.int .i64 8, .func (.func 41) #[.pointer (some ⟨P, 0, none⟩)] #[]] w fun e w' => e = .returned (lstV (frT H)) ∧ w = w' :=
  pcLeast_any 8 41 _ _ w (by omega) (fun a w => by go_simp) (fun k k1 k2 => pcFreeThread_any k (by omega) h)
def plcV (H : Hs) : Value :=
  match frS H, frT H with
  | some s, some t => .tuple #[.int .i64 s, .int .i64 t, .bool true]
  | _, _ => .tuple #[.int .i64 0, .int .i64 0, .bool false]
theorem pcPlaces_any (h : Hm w W P M K H) : Calls Try.prog 38 #[.pointer (some ⟨P, 0, none⟩)] w fun e w' => e = .returned (plcV H) ∧ w = w' := by
  have HH := Lib.hid h
  clear h
  unfold plcV
  rcases hs : frS H with _ | s
  · have HS := Lib.hid hs
    clear hs
    go_enter Try.func38, Try.ntmps38
    go_wp2_with fail
    refine (least_space HH.out).mono ?_
    rintro e w1 ⟨rfl, rfl⟩
    rw [HS.out]
    simp only [lstV]
    go_wp2_with fail
    refine bodyPost_ret (results_tmp3 rfl _ _ _) rfl ?_
    exact ⟨rfl, rfl⟩
  · have HS := Lib.hid hs
    clear hs
    rcases ht : frT H with _ | t
    all_goals
      have HT := Lib.hid ht
      clear ht
      go_enter Try.func38, Try.ntmps38
      go_wp2_with fail
      refine (least_space HH.out).mono ?_
      rintro e w1 ⟨rfl, rfl⟩
      rw [HS.out]
      simp only [lstV]
      go_wp2_with fail
      refine (least_thread HH.out).mono ?_
      rintro e w1 ⟨rfl, rfl⟩
      rw [HT.out]
      simp only [lstV]
      go_wp2_with fail
      refine bodyPost_ret (results_tmp3 rfl _ _ _) rfl ?_
      exact ⟨rfl, rfl⟩
end Go.Proofs.Ytgfogbifbpadoaa
