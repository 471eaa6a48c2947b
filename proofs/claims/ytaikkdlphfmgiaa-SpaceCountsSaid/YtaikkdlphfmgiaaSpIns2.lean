/-
  slices.Insert of one region, its three roads together.
-/
import Derived.Test.YtaikkdlphfmgiaaSpIns
namespace Go.Proofs.Ytaikkdlphfmgiaa
open Go.RowKit
set_option linter.unusedVariables false
set_option linter.unusedSimpArgs false
def insAt (l : List Reg) (i : Nat) (r : Reg) : List Reg := l.take i ++ r :: l.drop i
theorem insAt_len (l : List Reg) (i : Nat) (r : Reg) (h : i ≤ l.length) : (insAt l i r).length = l.length + 1 := by
  simp only [insAt, List.length_append, List.length_cons, List.length_take, List.length_drop]
  omega
theorem ins_flat (l : List Reg) (i : Nat) (r : Reg) (hi : i ≤ l.length) (j : Nat) :
    (flat encG (insAt l i r))[j]? = if i * 3 + 3 ≤ j then (flat encG l)[j - 3]? else if i * 3 ≤ j then (encG r)[j - i * 3]? else (flat encG l)[j]? := by
  have e : flat encG (insAt l i r) = flat encG (l.take i) ++ (encG r ++ flat encG (l.drop i)) := by
    unfold insAt
    rw [flat_app]
    rfl
  have e2 : flat encG l = flat encG (l.take i) ++ flat encG (l.drop i) := by rw [← flat_app, List.take_append_drop]
  have hl : (flat encG (l.take i)).length = i * 3 := by rw [flat_len encG_len, List.length_take]; congr 1; omega
  rw [e, e2]
  by_cases h1 : i * 3 + 3 ≤ j
  · rw [if_pos h1, List.getElem?_append_right (by omega), List.getElem?_append_right (by rw [encG_len]; omega), List.getElem?_append_right (by omega), hl, encG_len]
    congr 1
    omega
  · rw [if_neg h1]
    by_cases h2 : i * 3 ≤ j
    · rw [if_pos h2, List.getElem?_append_right (by omega), List.getElem?_append_left (by rw [encG_len]; omega), hl]
    · rw [if_neg h2, List.getElem?_append_left (by omega), List.getElem?_append_left (by omega)]
/-- A row of the call's own, known by its cells. -/
theorem ow_cells {w : World} {B g c : Nat} {ys : List Reg} {cur : Array Value} (hb : Bk w g 25 cur) (hB : B ≤ g) (hc : cur.size = c * 3) (hle : ys.length ≤ c) (hm : c ≤ maxLen) (h : ∀ j, j < ys.length * 3 → cur[j]? = (flat encG ys)[j]?) :
    Ow encG 3 25 w B (.slice (some ⟨g, 0, none⟩) ys.length c) ys := by
  have hfl := flat_len encG_len ys
  refine ⟨hfl, Or.inr ⟨g, c, cur, rfl, hB, hb, hle, hm, hc, ?_⟩⟩
  apply List.ext_getElem?
  intro j
  by_cases hj : j < ys.length * 3
  · rw [List.getElem?_take_of_lt hj, Array.getElem?_toList]
    exact h j hj
  · rw [List.getElem?_eq_none (by simp; omega), List.getElem?_eq_none (by omega)]
set_option maxHeartbeats 4000000 in
set_option maxRecDepth 100000 in
theorem insert_any (w0 w : World) (l : List Reg) (i gr : Nat) (r : Reg) (v : Value) (hO : Ow encG 3 25 w w0.heap.size v l) (hB : Below w0.heap.size w0 w) (hi : i ≤ l.length) (h8 : l.length ≤ 100) (hr : Bk w gr 25 #[.int .u64 r.f, .int .i64 r.c, .bool r.w]) (hne : ∀ g, v.ownBlock = some g → gr ≠ g) :
    Calls Try.prog 28 #[v, .int .i64 i, .slice (some ⟨gr, 0, none⟩) 1 1] w fun e w' => ∃ v', e = .returned v' ∧ Ow encG 3 25 w' w0.heap.size v' (insAt l i r) ∧ Below w0.heap.size w0 w' := by
  by_cases hend : i = l.length
  · obtain ⟨i0, hi0, hz0, hz1, hz2⟩ := info_parts infoReg5
    obtain ⟨O, cap, rfl, hc1, hc2, -⟩ := hO.form encG_len
    have HE := Lib.hid (show insAt l i r = l ++ [r] by unfold insAt; rw [hend, List.take_length, List.drop_length])
    subst hend
    have HO := Lib.hid hO
    have HB := Lib.hid hB
    have HRK := Lib.hid (show RK encG 3 w (some ⟨gr, 0, none⟩) [r] from Rg.rk (ys := [r]) hr)
    clear hO hB hr hne
    go_enter Try.func28, Try.ntmps28
    go_wp2_with (at_builtin; refine wp_app (enc := encG) (k := 3) rfl _ _ 22 rfl w0.heap.size 25 i0 _ 24 Try.underlying22 hi0 hz0 hz1 hz2 rfl (by decide) encG_len encG_one _ l rfl HO.out [r] _ 1 1 rfl rfl HRK.out (by omega) (by decide) w0 HB.out (Nat.le_refl _) ?_; intro v' w' o1 o2; have HO2 := Lib.hid o1; have HB2 := Lib.hid o2; clear o1 o2)
    all_goals
      go_ret
      exact ⟨_, rfl, by rw [HE.out]; exact HO2.out, HB2.out⟩
  · have hi' : i < l.length := by omega
    obtain ⟨g, cap, rfl, hg0, hgw, hc1, hc2⟩ := hO.head (by omega)
    have hcl := World.ownsRow.cells hO (g := g) rfl
    have ad : ∀ o j, (⟨g, o, none⟩ : Addr).add j = ⟨g, o + j, none⟩ := fun o j => by unfold Addr.add; split <;> simp_all
    have hfl : ∀ j u, (flat encG l)[j]? = some u → w.cell? ⟨g, j, none⟩ = some u := fun j u hj => by
      have := hcl j u hj
      rw [ad, Nat.zero_add] at this
      exact this
    have hflen := flat_len encG_len l
    have hne' : gr ≠ g := hne g rfl
    rcases hO.2 with ⟨h', _⟩ | ⟨g', cap', cur, h', _, hg, c1, c2, c3, c4⟩
    · simp at h'
    simp only [Value.slice.injEq, Option.some.injEq, Addr.mk.injEq, and_true, true_and] at h'
    obtain ⟨rfl, rfl⟩ := h'
    have hb : Bk w g 25 cur := hg
    have hcf : ∀ j, j < l.length * 3 → cur[j]? = (flat encG l)[j]? := fun j hj => by
      rw [← c4, List.getElem?_take_of_lt (by omega), Array.getElem?_toList]
    by_cases hroom : l.length + 1 ≤ cap
    · refine (insert_shift g cap gr i l r cur w hb c3 hfl hi' hroom hc2 hr hne').mono ?_
      rintro e w' ⟨rfl, rfl⟩
      have hb2 := Bk.setAll (encG r) (i * 3) _ _ (Bk.setAll (flat encG (l.drop i)) ((i + 1) * 3) _ _ (show Bk w.drew g 25 cur from hb))
      have hdl : (flat encG (l.drop i)).length = (l.length - i) * 3 := by rw [flat_len encG_len, List.length_drop]
      have hlen := insAt_len l i r hi
      have h3 : (l.length + 1) * 3 ≤ cap * 3 := Nat.mul_le_mul_right _ hroom
      refine ⟨_, rfl, ?_, ?_⟩
      · rw [← hlen]
        refine ow_cells hb2 hg0 (by rw [putAll_size, putAll_size]; exact c3) (by omega) hc2 (fun j hj => ?_)
        rw [ins_flat l i r hi, putAll_get _ _ _ _ (by rw [putAll_size]; omega), putAll_get _ _ _ _ (by omega), encG_len, hdl]
        by_cases h1 : i * 3 + 3 ≤ j
        · rw [if_neg (by omega), if_pos (by omega), if_pos h1, flat_drop3]
          congr 1
          omega
        · rw [if_neg h1]
          by_cases h2 : i * 3 ≤ j
          · rw [if_pos (by omega), if_pos h2]
          · rw [if_neg (by omega), if_neg (by omega), if_neg h2]
            exact hcf j (by omega)
      · refine Keeps.below (F := fun y => y = g) ?_ hB (fun x hx => by rw [hx]; exact hg0)
        exact ((Keeps.refl (fun y => y = g) w).drew.trans (Keeps.setAll (F := fun y => y = g) rfl _ _ _) (fun x hx => Or.inl hx)).trans (Keeps.setAll (F := fun y => y = g) rfl _ _ _) (fun x hx => Or.inl hx)
    · refine (insert_grow g cap gr i l r w hgw hfl hi' hc1 (by omega) h8 hr).mono ?_
      rintro e w' ⟨G, ROW, rfl, hG1, hG2, hRs, hRl, rfl⟩
      have hb2 := Bk.setAll (flat encG (l.drop i)) ((i + 1) * 3) _ _ (show Bk ((w.drew.alloc (.cells ROW 25)).setCells w.heap.size (i * 3) (encG r)).drew w.heap.size 25 _ from Bk.setAll (encG r) (i * 3) _ _ (Bk.new w.drew 25 ROW))
      have hdl : (flat encG (l.drop i)).length = (l.length - i) * 3 := by rw [flat_len encG_len, List.length_drop]
      have hlen := insAt_len l i r hi
      have h3 : (l.length + 1) * 3 ≤ G * 3 := Nat.mul_le_mul_right _ hG1
      refine ⟨_, rfl, ?_, ?_⟩
      · rw [← hlen]
        refine ow_cells hb2 hB.size (by rw [putAll_size, putAll_size]; exact hRs) (by omega) hG2 (fun j hj => ?_)
        rw [ins_flat l i r hi, putAll_get _ _ _ _ (by rw [putAll_size]; omega), putAll_get _ _ _ _ (by omega), encG_len, hdl]
        by_cases h1 : i * 3 + 3 ≤ j
        · rw [if_pos (by omega), if_pos h1, flat_drop3]
          congr 1
          omega
        · rw [if_neg h1, if_neg (by omega)]
          by_cases h2 : i * 3 ≤ j
          · rw [if_pos (by omega), if_pos h2]
          · rw [if_neg (by omega), if_neg h2]
            exact hRl j (by omega)
      · refine Keeps.below (F := fun y => y = w.heap.size) ?_ hB (fun x hx => by rw [hx]; exact hB.size)
        exact ((((Keeps.refl (fun y => y = w.heap.size) w).drew.alloc _).trans (Keeps.setAll (F := fun y => y = w.heap.size) rfl _ _ _) (fun x hx => Or.inl hx)).drew).trans (Keeps.setAll (F := fun y => y = w.heap.size) rfl _ _ _) (fun x hx => Or.inl hx)
end Go.Proofs.Ytaikkdlphfmgiaa
