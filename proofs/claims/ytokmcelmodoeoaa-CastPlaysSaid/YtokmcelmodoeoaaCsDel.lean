/-
  slices.Delete at a row's head.
-/
import Derived.Test.YtokmcelmodoeoaaCsWalks
import Derived.Deep.RegionLaw
namespace Go.Proofs.Ytokmcelmodoeoaa
open Go.RowKit
set_option linter.unusedVariables false
set_option linter.unusedSimpArgs false
theorem run_clear_one {P : Program} (w : World) (t e ty : TypeId) (z : Value) (cs : List Value) (ht : P.underlying t = some (.slice e)) (hv : ∀ w, (zeroValue e).run P w = .ok z w) (hz : z.cells.toList = cs) (h0 : 0 < cs.length) (h1 : ∀ u ∈ cs, u.oneCell' = true) (b o c : Nat)
    (hc : ∀ j, j < cs.length → (w.cell? ⟨b, o + j, none⟩).isSome = true) (hf : ∀ j, j < cs.length → w.frozen? ⟨b, o + j, none⟩ = false) :
    (Builtin.clear_ #[t] ty #[.slice (some ⟨b, o, none⟩) 1 c]).run P w = .ok (.tuple #[]) (w.setCells b o cs) := by
  have hs : z.cells.size = cs.length := by rw [← hz]; simp
  have hzc : (Builtin.zeroCells z.cells 1).toList = cs := by
    rw [← hz]
    unfold Builtin.zeroCells
    apply List.ext_getElem
    · simp
    · intro i h1 h2
      simp at h1 h2
      simp [Nat.mod_eq_of_lt h2, getElem!_pos, h2]
  have hst := run_storeCells_cells (P := P) b o cs 0 w (by simpa using hc) (by simpa using hf) h1
  simp only [Nat.add_zero] at hst
  simp [Builtin.clear_, run_underlying ht, hv, hzc, hst]
theorem pairInfo : (Try.prog.info? 66).map (fun i => (i.zero, i.size, i.bytes)) = some (some (.agg #[.int .i64 0, .int .i8 0, .int .i64 0, .int .u64 0]), 4, 32) := by kernel_rfl
def zPs : List Value := [.int .i64 0, .int .i8 0, .int .i64 0, .int .u64 0]
theorem zPs_len : zPs.length = 4 := rfl
theorem zPs_one : ∀ u ∈ zPs, u.oneCell' = true := by
  intro u hu
  simp [zPs] at hu
  rcases hu with rfl | rfl | rfl | rfl <;> rfl
theorem flatP_one (xs : List Pr) : ∀ u ∈ flat encP xs, u.oneCell' = true := flat_one encP_one xs
/-- A row of which the head was taken. -/
theorem ow_cut {w : World} {g cap : Nat} {x : Pr} {xs : List Pr} (hO : Ow encP 4 66 w 0 (.slice (some ⟨g, 0, none⟩) (xs.length + 1) cap) (x :: xs)) :
    Ow encP 4 66 ((w.setCells g 0 (flat encP xs)).setCells g (xs.length * 4) zPs) 0 (.slice (some ⟨g, 0, none⟩) xs.length cap) xs := by
  have hfl := flat_len encP_len xs
  rcases hO.2 with ⟨h', _⟩ | ⟨g', cap', cur, h', _, hg, c1, c2, c3, c4⟩
  · simp at h'
  · simp only [Value.slice.injEq, Option.some.injEq, Addr.mk.injEq, and_true, true_and] at h'
    obtain ⟨rfl, h2, rfl⟩ := h'
    have hb : Bk w g 66 cur := hg
    have hb2 := Bk.setAll zPs (xs.length * 4) _ _ (Bk.setAll (flat encP xs) 0 _ _ hb)
    simp only [List.length_cons] at c1
    refine ⟨hfl, Or.inr ⟨g, cap, _, rfl, Nat.zero_le _, hb2, by omega, c2, by rw [putAll_size, putAll_size]; exact c3, ?_⟩⟩
    apply List.ext_getElem?
    intro j
    by_cases hj : j < xs.length * 4
    · have hjc : j < cur.size := by
        rw [c3]
        have : (xs.length + 1) * 4 ≤ cap * 4 := Nat.mul_le_mul_right _ c1
        omega
      rw [List.getElem?_take_of_lt hj, Array.getElem?_toList, putAll_get _ _ _ _ (by rw [putAll_size]; exact hjc), if_neg (by omega), putAll_get _ _ _ _ hjc, if_pos (by omega)]
      rfl
    · rw [List.getElem?_eq_none (by simp; omega), List.getElem?_eq_none (by omega)]
set_option maxRecDepth 100000 in
set_option maxHeartbeats 1000000 in
theorem cdelete_any (g cap : Nat) (x : Pr) (xs : List Pr) (w : World) (hO : Ow encP 4 66 w 0 (.slice (some ⟨g, 0, none⟩) (xs.length + 1) cap) (x :: xs)) (hcap : xs.length + 1 ≤ cap) (hm : cap ≤ maxLen) :
    Calls Try.prog 24 #[.slice (some ⟨g, 0, none⟩) (xs.length + 1) cap, .int .i64 0, .int .i64 1] w fun e w' => e = .returned (.slice (some ⟨g, 0, none⟩) xs.length cap) ∧ Ow encP 4 66 w' 0 (.slice (some ⟨g, 0, none⟩) xs.length cap) xs ∧ Keeps (fun y => y = g) w w' := by
  obtain ⟨i0, hi, hz0, hz1, hz2⟩ := info_parts pairInfo
  have hfl := flat_len encP_len xs
  have hcl := World.ownsRow.cells hO (g := g) rfl
  have ad : ∀ o j, (⟨g, o, none⟩ : Addr).add j = ⟨g, o + j, none⟩ := fun o j => by unfold Addr.add; split <;> simp_all
  have hrd : ∀ j, j < (xs.length + 1) * 4 → (w.cell? ⟨g, j, none⟩).isSome = true := fun j hj => by
    have := hcl j _ (List.getElem?_eq_getElem (by have := hO.1; simp only [List.length_cons] at this; omega))
    rw [ad, Nat.zero_add] at this
    rw [this]; rfl
  have hfz : ∀ j, w.frozen? ⟨g, j, none⟩ = false := fun j => hO.frozen4 j
  obtain ⟨AD, hA, hsrc⟩ : ∃ AD : Addr, (if cap = 1 then some (⟨g, 0, none⟩ : Addr) else some ⟨g, 4, none⟩) = some AD ∧ Hid (∀ t u, (flat encP xs)[t]? = some u → w.drew.cell? (AD.add t) = some u) := by
    by_cases h : cap = 1
    · refine ⟨⟨g, 0, none⟩, by simp [h], Lib.hid fun t u hu => ?_⟩
      have h0 : xs = [] := List.eq_nil_of_length_eq_zero (by omega)
      subst h0
      simp [flat] at hu
    · refine ⟨⟨g, 4, none⟩, by simp [h], Lib.hid fun t u hu => ?_⟩
      have hh := hcl (4 + t) u (by
        show (flat encP (x :: xs))[4 + t]? = some u
        rw [show flat encP (x :: xs) = encP x ++ flat encP xs from rfl, List.getElem?_append_right (by rw [encP_len]; omega), encP_len, Nat.add_sub_cancel_left]
        exact hu)
      rw [ad, Nat.zero_add] at hh
      rw [ad]
      exact hh
  have HO := Lib.hid hO
  have HR := Lib.hid hrd
  have HZ := Lib.hid hfz
  have HL := Lib.hid hfl
  have s1 : Hid ((flat encP xs).length = xs.length * 4) := Lib.hid hfl
  have s2 : Hid (∀ u ∈ flat encP xs, u.oneCell' = true) := Lib.hid (flatP_one xs)
  have s3 : Hid (∀ t, t < (flat encP xs).length → (w.drew.cell? ⟨g, 0 + 0 * 4 + t, none⟩).isSome = true ∧ w.drew.frozen? ⟨g, 0 + 0 * 4 + t, none⟩ = false) := Lib.hid fun t ht => by
    rw [show 0 + 0 * 4 + t = t by omega]
    exact ⟨hrd t (by omega), hfz t⟩
  obtain ⟨W1, hW1⟩ : ∃ W1, W1 = w.drew.setCells g (0 + 0 * 4) (flat encP xs) := ⟨_, rfl⟩
  have hW : Hid (W1 = w.drew.setCells g (0 + 0 * 4) (flat encP xs)) := Lib.hid hW1
  have hB1 : ∃ cur', Bk W1 g 66 cur' ∧ cur'.size = cap * 4 := by
    rcases hO.2 with ⟨h', _⟩ | ⟨g', cap', cur, h', _, hg, c1, c2, c3, c4⟩
    · simp at h'
    · simp only [Value.slice.injEq, Option.some.injEq, Addr.mk.injEq, and_true, true_and] at h'
      obtain ⟨rfl, h2, rfl⟩ := h'
      exact ⟨_, by rw [hW1]; exact Bk.setAll (flat encP xs) _ _ _ (show Bk w.drew g 66 cur from hg), by rw [putAll_size]; exact c3⟩
  obtain ⟨cur', hB1, hcs⟩ := hB1
  have zvp : ∀ w, (zeroValue 66).run Try.prog w = .ok (.agg #[.int .i64 0, .int .i8 0, .int .i64 0, .int .u64 0]) w := Try.zeroValue66
  have hclr : ∀ ty, (Builtin.clear_ #[58] ty #[.slice (some ⟨g, xs.length * 4, none⟩) 1 (cap - xs.length)]).run Try.prog W1 = .ok (.tuple #[]) (W1.setCells g (xs.length * 4) zPs) := fun ty =>
    run_clear_one W1 _ 66 ty _ zPs Try.underlying58 zvp rfl (by rw [zPs_len]; omega) zPs_one g (xs.length * 4) _ (fun j hj => by
        rw [hB1.cell, Array.getElem?_eq_getElem (by
          rw [hcs]
          rw [zPs_len] at hj
          have : (xs.length + 1) * 4 ≤ cap * 4 := Nat.mul_le_mul_right _ hcap
          omega)]
        rfl) (fun j hj => hB1.frozen _)
  clear hO hrd hfz hcl ad hfl hB1 hW1 hcs zvp
  have hne : cap ≠ xs.length := by omega
  have hle1 : (1 : Int) ≤ (xs.length : Int) + 1 := by omega
  go_enter Try.func24, Try.ntmps24
  go_wp2_with fail
  go_region_law (refine step_append_room rfl (.tmp 22) (.tmp 25) 58 rfl 66 i0 4 Try.underlying58 hi hz1 g 0 0 cap (by simp [Act.eval, Act.put]) AD xs.length (cap - 1) (flat encP xs) (by simp [Act.eval, Act.put]) s1.out hsrc.out s2.out (by omega) s3.out ?_; rw [← hW.out])
  go_wp2_with fail
  go_ret
  rw [hW.out]
  refine ⟨rfl, ow_cut (w := w.drew) HO.out, ?_⟩
  exact ((Keeps.refl (fun y => y = g) w).drew.trans (Keeps.setAll (F := fun y => y = g) rfl _ _ _) (fun x hx => Or.inl hx)).trans (Keeps.setAll (F := fun y => y = g) rfl _ _ _) (fun x hx => Or.inl hx)
end Go.Proofs.Ytokmcelmodoeoaa
