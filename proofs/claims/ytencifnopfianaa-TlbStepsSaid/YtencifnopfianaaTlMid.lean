/-
  A row of the call's own, cut at its head, and an item more at its end.
-/
import Derived.Test.YtencifnopfianaaTlRows
import Derived.ArgAppend
namespace Go.Proofs.Ytencifnopfianaa
open Go.RowKit
set_option linter.unusedVariables false
set_option linter.unusedSimpArgs false
section
variable {α : Type} {enc : α → List Value} {k : Nat}
theorem below_cells {B g : Nat} {w0 : World} (hg : B ≤ g) : ∀ (vs : List Value) (o : Nat) (w : World), Below B w0 w → Below B w0 (w.setCells g o vs)
  | [], _, _, h => h
  | v :: r, o, w, h => below_cells hg r (o + 1) _ (h.setCell (p := ⟨g, o, none⟩) hg v)
theorem run_mid {P : Program} {w : World} (t ty e : TypeId) (i : TypeInfo) (z : Value) (bytes : Nat) (ht : P.underlying t = some (.slice e)) (hi : P.info? e = some i) (hz : i.zero = some z)
    (hsize : i.size = k) (hby : i.bytes = bytes) (hzs : z.cells.size = k) (hsz : 0 < k) (hk : ∀ x, (enc x).length = k) (h1 : ∀ x, ∀ u ∈ enc x, u.oneCell' = true)
    {B g n cap : Nat} {xs : List α} (hO : Ow enc k e w B (.slice (some ⟨g, 0, none⟩) n cap) xs) (hn : xs.length = n) (h0 : 0 < n) (y : α) {gy : Nat} (hy : ∀ (j : Nat) (u : Value), (enc y)[j]? = some u → w.cell? ⟨gy, j, none⟩ = some u)
    (hlen : n ≤ 10000) (hb8 : bytes ≤ 100) (w0 : World) (hB : Below B w0 w) (hb : B ≤ w0.heap.size) :
    ∃ O' c' w', (Builtin.append_ #[t, t] ty #[.slice (some ⟨g, k, none⟩) (n - 1) (cap - 1), .slice (some ⟨gy, 0, none⟩) 1 1]).run P w = .ok (.slice O' n c') w' ∧ n ≤ c' ∧ RK enc k w' O' (xs.drop 1 ++ [y]) ∧ Below B w0 w' := by
  have hR := hO.form hk
  obtain ⟨O2, c2, e2, -, -, hR⟩ := hR
  simp only [Value.slice.injEq] at e2
  obtain ⟨rfl, -, rfl⟩ := e2
  have hR1 := hR.drop1
  have hnew : ∀ j u, (enc y)[j]? = some u → w.cell? ((⟨gy, 0, none⟩ : Addr).add j) = some u := fun j u hu => by
    have e : (⟨gy, 0, none⟩ : Addr).add j = ⟨gy, j, none⟩ := by unfold Addr.add; split <;> simp_all
    rw [e]
    exact hy j u hu
  have hdl : (xs.drop 1).length = n - 1 := by rw [List.length_drop, hn]
  have hfl : (xs.drop 1 ++ [y]).length = n := by rw [List.length_append, hdl]; simp; omega
  obtain ⟨hl, hh⟩ := hO
  rcases hh with ⟨h, -⟩ | ⟨g', c', cur, h, hbg, hg, c1, c2', c3, c4⟩
  · simp at h
  · simp only [Value.slice.injEq, Option.some.injEq, Addr.mk.injEq, and_true, true_and] at h
    obtain ⟨rfl, -, rfl⟩ := h
    rw [hn] at c1
    by_cases hroom : (n - 1) + 1 ≤ cap - 1
    · have hcell : ∀ j, j < (enc y).length → (w.cell? ⟨g, k + (n - 1) * i.size + j, none⟩).isSome = true := fun j hj => by
        rw [hk] at hj
        rw [cell_of_row w g _ cur e (0, 0) hg, hsize]
        have : k + (n - 1) * k + j < cur.size := by
          rw [c3]
          have h2 : (n + 1) * k ≤ cap * k := Nat.mul_le_mul_right _ (by omega)
          have h3 : k + (n - 1) * k = n * k := by rw [Nat.sub_mul, Nat.one_mul]; have := Nat.le_mul_of_pos_left k h0; omega
          rw [Nat.add_mul] at h2
          omega
        rw [Array.getElem?_eq_getElem this]
        rfl
      have hfro : ∀ j, j < (enc y).length → w.frozen? ⟨g, k + (n - 1) * i.size + j, none⟩ = false := fun j _ => by
        unfold World.frozen?
        rw [hg]
        simp
      have hr := run_append_room_cells (P := P) w t ty e i ht hi g k (n - 1) (cap - 1) ⟨gy, 0, none⟩ 1 1 (enc y) (by rw [hk, hsize]; omega) hnew (h1 y) hroom hcell hfro
      rw [show n - 1 + 1 = n by omega] at hr
      refine ⟨_, _, _, hr, by omega, fun _ => ⟨g, k, rfl, fun a x hx j u hu => ?_⟩, below_cells hbg _ _ _ hB⟩
      rw [hsize] at hcell ⊢
      have hjk : j < k := by have := (List.getElem?_eq_some_iff.1 hu).1; rw [hk] at this; exact this
      by_cases ha : a < n - 1
      · rw [List.getElem?_append_left (by rw [hdl]; exact ha)] at hx
        obtain ⟨b, off, hb', hc'⟩ := hR1 (by rw [hdl]; omega)
        simp only [Option.some.injEq, Addr.mk.injEq, and_true] at hb'
        obtain ⟨rfl, rfl⟩ := hb'
        rw [World.cell?_setCells_out]
        · have := hc' a x hx j u hu
          rw [Nat.zero_add] at this
          exact this
        · intro _ _
          left
          show k + a * k + j < k + (n - 1) * k
          have : (a + 1) * k ≤ (n - 1) * k := Nat.mul_le_mul_right _ (by omega)
          rw [Nat.add_mul] at this
          omega
      · have han : a = n - 1 := by
          have := (List.getElem?_eq_some_iff.1 hx).1
          rw [hfl] at this
          omega
        subst han
        rw [List.getElem?_append_right (by rw [hdl]; exact Nat.le_refl _), hdl, Nat.sub_self] at hx
        simp at hx
        subst hx
        have hj : j < (enc y).length := by rw [hk]; exact hjk
        rw [World.cell?_setCells_in g (enc y) (k + (n - 1) * k) w hcell j hj]
        rw [List.getElem?_eq_getElem hj] at hu
        exact hu
    · by_cases hn1 : n = 1
      · subst hn1
        have hdr : xs.drop 1 = [] := List.eq_nil_of_length_eq_zero (by rw [hdl])
        obtain ⟨v', w', hr, ho, hgr⟩ := run_append_arg_grows (P := P) w t ty e i z k bytes ht hi hz hsize hby hzs hsz ⟨g, k, none⟩ 0 (cap - 1) [] (by simp) (fun j u hu => by simp at hu) ⟨gy, 0, none⟩ 1 1 (enc y) (by rw [hk]; omega) hnew (by omega) (by unfold maxLen; omega) (by omega)
        have hO' : Ow enc k e w' w.heap.size v' (xs.drop 1 ++ [y]) := by unfold Ow; rw [hdr]; simpa [flat] using ho
        obtain ⟨O', c', rfl, l', m', r'⟩ := hO'.form hk
        rw [hfl] at hr l'
        exact ⟨O', c', w', hr, l', r', hB.grown hgr (Nat.le_trans hb hB.size) (fun g hg => by cases hg)⟩
      · obtain ⟨b, off, hb', hc'⟩ := hR1.flat hk hsz (by rw [hdl]; omega)
        simp only [Option.some.injEq, Addr.mk.injEq, and_true] at hb'
        obtain ⟨rfl, rfl⟩ := hb'
        have hbt : (n - 1 + 1) * bytes ≤ 140737488355328 := by
          have : (n - 1 + 1) * bytes ≤ 10000 * 100 := Nat.mul_le_mul (by omega) hb8
          omega
        obtain ⟨v', w', hr, ho, hgr⟩ := run_append_arg_grows (P := P) w t ty e i z k bytes ht hi hz hsize hby hzs hsz ⟨g, k, none⟩ (n - 1) (cap - 1) (flat enc (xs.drop 1)) (by rw [flat_len hk, hdl]) (fun j u hu => by
          have e : (⟨g, k, none⟩ : Addr).add j = ⟨g, k + j, none⟩ := by unfold Addr.add; split <;> simp_all
          rw [e]
          have := hc' j u hu
          rw [Nat.zero_add] at this
          exact this) ⟨gy, 0, none⟩ 1 1 (enc y) (by rw [hk]; omega) hnew (by omega) (by unfold maxLen; omega) hbt
        have hO' : Ow enc k e w' w.heap.size v' (xs.drop 1 ++ [y]) := by unfold Ow; rw [flat_snoc, List.length_append, hdl]; exact ho
        obtain ⟨O', c', rfl, l', m', r'⟩ := hO'.form hk
        rw [hfl] at hr l'
        exact ⟨O', c', w', hr, l', r', hB.grown hgr (Nat.le_trans hb hB.size) (fun g hg => by cases hg)⟩
theorem wp_mid {P : Program} {w : World} {ops : Array Oper} {rest : List Oper} {o : Oper} {a : Go.Act} {Q : Exit → Go.Act → World → Prop} (hgd : o.guard = none) (s x : Operand) (t : TypeId)
    (ho : o.op = .call { callee := .builtin .append, args := #[s, x], argTypes := #[t, t] })
    (e : TypeId) (i : TypeInfo) (z : Value) (bytes : Nat) (ht : P.underlying t = some (.slice e)) (hi : P.info? e = some i) (hz : i.zero = some z)
    (hsize : i.size = k) (hby : i.bytes = bytes) (hzs : z.cells.size = k) (hsz : 0 < k) (hk : ∀ x, (enc x).length = k) (h1 : ∀ x, ∀ u ∈ enc x, u.oneCell' = true)
    (B g n cap : Nat) (xs : List α) (hs : a.eval s = .slice (some ⟨g, k, none⟩) (n - 1) (cap - 1)) (hO : Ow enc k e w B (.slice (some ⟨g, 0, none⟩) n cap) xs) (hn : xs.length = n) (h0 : 0 < n) (y : α) (gy : Nat)
    (hx : a.eval x = .slice (some ⟨gy, 0, none⟩) 1 1) (hy : ∀ (j : Nat) (u : Value), (enc y)[j]? = some u → w.cell? ⟨gy, j, none⟩ = some u)
    (hlen : n ≤ 10000) (hb8 : bytes ≤ 100) (w0 : World) (hB : Below B w0 w) (hb : B ≤ w0.heap.size)
    (h : ∀ O' c' w', n ≤ c' → RK enc k w' O' (xs.drop 1 ++ [y]) → Below B w0 w' → wpList P ops Q rest (a.put o.dst (.slice O' n c')) w') : wpList P ops Q (o :: rest) a w := by
  refine wpList_plain hgd fun K hK => ?_
  obtain ⟨O', c', w', hr, l', r', hb'⟩ := run_mid (P := P) (w := w) t o.type e i z bytes ht hi hz hsize hby hzs hsz hk h1 hO hn h0 y hy hlen hb8 w0 hB hb
  unfold Oper.wp execOp
  simp only [ho, resolve, invoke, builtin, Sem.run_bind, Sem.run_pure, Result.andThen_ok, List.map_toArray, List.map_cons, List.map_nil, hs, hx, hr]
  exact hK _ _ (h O' c' w' l' r' hb')
end
end Go.Proofs.Ytencifnopfianaa
