/-
  A pool of frames that is well: what each call answers, in terms of the counts alone.
-/
import Derived.Test.YtokmcelmodoeoaaDoorFrCount
namespace Go.Proofs.YtokmcelmodoeoaaDoor
open Go.RowKit
set_option linter.unusedVariables false
set_option linter.unusedSimpArgs false

/-- Which frames are free. -/
def frP (n : Nat) (ct : Nat → Int) : Nat → Bool := fun i => decide (i < n) && (ct i == 0)
/-- A pool of n frames with these counts. -/
structure Good (w : World) (p n : Nat) (ct : Nat → Int) : Prop where
  pool : Pl w p n ct (mk (frP n ct) 64 : Nat)
  n1 : 1 ≤ n
  n64 : n ≤ 64
  bd : ∀ i, 0 ≤ ct i ∧ ct i ≤ 1048576
theorem mk_good (p : Nat → Bool) : U64 (mk p 64 : Nat) := ⟨by omega, by have := mk_u64 p; omega⟩
theorem fr0_mk : ∀ n : Fin 64, fr0 (n.val + 1) = (mk (fun i => decide (i < n.val + 1) && (i != 0)) 64 : Nat) := by decide +kernel
theorem fr0_eq (n : Nat) (h1 : 1 ≤ n) (h2 : n ≤ 64) : fr0 n = (mk (frP n (upd (fun _ => 0) 0 1)) 64 : Nat) := by
  have h := fr0_mk ⟨n - 1, by omega⟩
  simp only [show n - 1 + 1 = n by omega] at h
  have e : mk (fun i => decide (i < n) && (i != 0)) 64 = mk (frP n (upd (fun _ => 0) 0 1)) 64 := by
    refine mk_congr 64 (fun i _ => ?_)
    unfold frP upd
    by_cases e : i = 0
    · subst e; simp
    · simp [e]
  rw [h, e]
theorem Good.keep {w w' : World} {p n : Nat} {ct : Nat → Int} {F : Nat → Prop} (h : Good w p n ct) (hk : Keeps F w w') (hF : ¬ F p) : Good w' p n ct := ⟨Bk.keep h.pool hk hF, h.n1, h.n64, h.bd⟩
theorem Good.call {w w' : World} {p n : Nat} {ct : Nat → Int} (h : Good w p n ct) (hb : Below w.heap.size w w') : Good w' p n ct := ⟨Bk.call h.pool hb, h.n1, h.n64, h.bd⟩
theorem gnew (n : Nat) (w : World) (h1 : 1 ≤ n) (h2 : n ≤ 64) : Calls Tryd.prog 7 #[.int .i64 n] w fun e w' => e = .returned (.tuple #[.pointer (some ⟨w.heap.size, 0, none⟩), .int .i64 0]) ∧ Good w' w.heap.size n (upd (fun _ => 0) 0 1) ∧ Below w.heap.size w w' := by
  refine (pnew_yes n w h1 h2).mono ?_
  rintro e w' ⟨he, hP, hb⟩
  rw [fr0_eq n h1 h2] at hP
  refine ⟨he, ⟨hP, h1, h2, fun i => ?_⟩, hb⟩
  unfold upd
  split <;> simp
theorem gnew_no (n : Int) (w : World) (h : n < 1 ∨ 64 < n) : Calls Tryd.prog 7 #[.int .i64 n] w fun e w' => e = .returned (.tuple #[.pointer none, .int .i64 2]) ∧ w = w' := by
  rcases h with h | h
  · go_enter Tryd.func7, Tryd.ntmps7
    go_wp2_with fail
    go_ret2
    exact ⟨rfl, rfl⟩
  · have h' : ¬ n < 1 := by omega
    go_enter Tryd.func7, Tryd.ntmps7
    go_wp2_with fail
    go_ret2
    exact ⟨rfl, rfl⟩
theorem frP_take {n : Nat} {ct : Nat → Int} {k : Nat} : (fun i => frP n ct i && !decide (i = k)) = frP n (upd ct k 1) := by
  funext i
  unfold frP upd
  by_cases e : i = k
  · subst e; simp
  · simp [e]
theorem frP_drop {n : Nat} {ct : Nat → Int} {k : Nat} (hk : k < n) : (fun i => frP n ct i || decide (i = k)) = frP n (upd ct k 0) := by
  funext i
  unfold frP upd
  by_cases e : i = k
  · subst e; simp [hk]
  · simp [e]
theorem frP_same {n : Nat} {ct : Nat → Int} {k : Nat} {v : Int} (h0 : ct k ≠ 0) (hv : v ≠ 0) : frP n (upd ct k v) = frP n ct := by
  funext i
  unfold frP upd
  by_cases e : i = k
  · subst e
    have a : (v == 0) = false := by simpa using hv
    have b : (ct i == 0) = false := by simpa using h0
    simp [a, b]
  · simp [e]
theorem gtake (p n k : Nat) (ct : Nat → Int) (w : World) (hG : G w) (h : Good w p n ct) (hk : k < n) (h0 : ct k = 0) (hl : ∀ i, i < k → ct i ≠ 0) : Calls Tryd.prog 9 #[.pointer (some ⟨p, 0, none⟩)] w fun e w' => e = .returned (.tuple #[.int .i64 k, .int .i64 0]) ∧ Good w' p n (upd ct k 1) ∧ Keeps (fun y => y = p) w w' := by
  have hn := h.n64
  have hp : frP n ct k = true := by simp [frP, hk, h0]
  have hm : ∀ i, i < k → frP n ct i = false := fun i hi => by simp [frP, hl i hi]
  refine (ptake_yes p n k ct _ w hG h.pool (mk_good _) (by have := mk_ne_zero 64 (show k < 64 by omega) hp; omega) (tz_mk _ (by omega) hp hm)).mono ?_
  rintro e w' ⟨he, hP, hk'⟩
  rw [clr_mk _ (by omega), frP_take] at hP
  refine ⟨he, ⟨hP, h.n1, hn, fun i => ?_⟩, hk'⟩
  unfold upd
  split
  · omega
  · exact h.bd i
theorem gtake_full (p n : Nat) (ct : Nat → Int) (w : World) (h : Good w p n ct) (hl : ∀ i, i < n → ct i ≠ 0) : Calls Tryd.prog 9 #[.pointer (some ⟨p, 0, none⟩)] w fun e w' => e = .returned (.tuple #[.int .i64 0, .int .i64 20]) ∧ w = w' := by
  have hz : mk (frP n ct) 64 = 0 := mk_zero 64 (fun i _ => by
    unfold frP
    by_cases hi : i < n
    · simp [hl i hi]
    · simp [hi])
  have hP := h.pool
  rw [hz] at hP
  exact ptake_full p n ct w hP
theorem gfree (p n : Nat) (ct : Nat → Int) (w : World) (h : Good w p n ct) : Calls Tryd.prog 13 #[.pointer (some ⟨p, 0, none⟩)] w fun e w' => e = .returned (.int .i64 (cnt (frP n ct) 64 : Nat)) ∧ w = w' := by
  have := pfree_any p n ct _ w h.pool (mk_good _)
  rw [pc_mk] at this
  exact this
theorem gdrop_some (p n f : Nat) (ct : Nat → Int) (w : World) (h : Good w p n ct) (hf1 : 1 ≤ f) (hf : f < n) (h0 : 1 < ct f) : Calls Tryd.prog 11 #[.pointer (some ⟨p, 0, none⟩), .int .i64 f] w fun e w' => e = .returned (.tuple #[.bool false, .int .i64 0]) ∧ Good w' p n (upd ct f (ct f - 1)) ∧ Keeps (fun y => y = p) w w' := by
  refine (pdrop_some p n f ct _ w h.pool h.n64 hf1 hf h0 (h.bd f).2).mono ?_
  rintro e w' ⟨he, hP, hk⟩
  rw [← frP_same (n := n) (ct := ct) (k := f) (v := ct f - 1) (by omega) (by omega)] at hP
  refine ⟨he, ⟨hP, h.n1, h.n64, fun i => ?_⟩, hk⟩
  have := h.bd f
  unfold upd
  split
  · omega
  · exact h.bd i
theorem gdrop_last (p n f : Nat) (ct : Nat → Int) (w : World) (h : Good w p n ct) (hf1 : 1 ≤ f) (hf : f < n) (h0 : ct f = 1) : Calls Tryd.prog 11 #[.pointer (some ⟨p, 0, none⟩), .int .i64 f] w fun e w' => e = .returned (.tuple #[.bool true, .int .i64 0]) ∧ Good w' p n (upd ct f 0) ∧ Keeps (fun y => y = p) w w' := by
  have hn := h.n64
  refine (pdrop_last p n f ct _ w h.pool (mk_good _) h.n64 hf1 hf h0).mono ?_
  rintro e w' ⟨he, hP, hk⟩
  rw [set_mk _ (by omega), frP_drop hf] at hP
  refine ⟨he, ⟨hP, h.n1, h.n64, fun i => ?_⟩, hk⟩
  unfold upd
  split
  · omega
  · exact h.bd i
theorem gshare (p n f : Nat) (ct : Nat → Int) (w : World) (h : Good w p n ct) (hf : f < n) (h0 : 0 < ct f) (h1 : ct f < 1048576) : Calls Tryd.prog 10 #[.pointer (some ⟨p, 0, none⟩), .int .i64 f] w fun e w' => e = .returned (.int .i64 0) ∧ Good w' p n (upd ct f (ct f + 1)) ∧ Keeps (fun y => y = p) w w' := by
  refine (pshare_yes p n f ct _ w h.pool h.n64 hf h0 h1).mono ?_
  rintro e w' ⟨he, hP, hk⟩
  rw [← frP_same (n := n) (ct := ct) (k := f) (v := ct f + 1) (by omega) (by omega)] at hP
  refine ⟨he, ⟨hP, h.n1, h.n64, fun i => ?_⟩, hk⟩
  unfold upd
  split
  · omega
  · exact h.bd i
/-- What taken answers. -/
def tkC (n : Nat) (ct : Nat → Int) (f l : Int) : Int := if f < l ∨ (n : Int) ≤ f then 2 else if ct f.toNat = 0 then 4 else 0
theorem gtaken (p n : Nat) (ct : Nat → Int) (f l : Int) (w : World) (h : Good w p n ct) (hl : 0 ≤ l) : Calls Tryd.prog 23 #[.pointer (some ⟨p, 0, none⟩), .int .i64 f, .int .i64 l] w fun e w' => e = .returned (.int .i64 (tkC n ct f l)) ∧ w = w' := by
  by_cases hc : f < l ∨ (n : Int) ≤ f
  · rw [show tkC n ct f l = 2 by simp [tkC, hc]]
    exact ptaken_out p n ct _ f l w h.pool (by omega)
  · obtain ⟨k, rfl⟩ := Int.eq_ofNat_of_zero_le (show 0 ≤ f by omega)
    have hin := fun b hb => ptaken_in p n k ct _ l b w h.pool h.n64 (by omega) (by omega) hb
    unfold tkC
    rw [if_neg hc, Int.toNat_natCast]
    rcases hb : (ct k == 0) with _ | _
    · rw [if_neg (by simpa using hb)]; exact hin false hb
    · rw [if_pos (by simpa using hb)]; exact hin true hb
set_option maxHeartbeats 400000 in
theorem gcount (p n f : Nat) (ct : Nat → Int) (w : World) (h : Good w p n ct) (hf : f < n) : Calls Tryd.prog 12 #[.pointer (some ⟨p, 0, none⟩), .int .i64 f] w fun e w' => e = .returned (.int .i64 (ct f)) ∧ w = w' := by
  have hn := h.n64
  have c1 : w.cell? ⟨p, 1 + f, none⟩ = some (.int .i64 (ct f)) := (h.pool.cell (1 + f)).trans (poolC_ct _ _ _ (by omega))
  have HT := Lib.hid (gtaken p n ct f 0 w h (by omega))
  have ht : tkC n ct f 0 = if ct f = 0 then 4 else 0 := by
    unfold tkC
    rw [if_neg (by omega), Int.toNat_natCast]
  rw [ht] at HT
  clear h ht
  by_cases h0 : ct f = 0
  · rw [if_pos h0] at HT
    have H0 := Lib.hid h0
    clear h0
    go_enter Tryd.func12, Tryd.ntmps12
    go_wp2_with fail
    refine HT.out.mono ?_
    rintro e w1 ⟨rfl, rfl⟩
    go_wp2_with fail
    go_ret
    exact ⟨by rw [H0.out]; rfl, rfl⟩
  · rw [if_neg h0] at HT
    clear h0
    go_enter Tryd.func12, Tryd.ntmps12
    go_wp2_with fail
    refine HT.out.mono ?_
    rintro e w1 ⟨rfl, rfl⟩
    go_wp2_with fail
    go_ret
    exact ⟨rfl, rfl⟩
end Go.Proofs.YtokmcelmodoeoaaDoor
