/-
  Rows, more: a row appended to a row, a row made, cut, an item changed.
-/
import Derived.Test.YtappjiljmpgjcaaDoorRw
import Derived.Deep.AppendLies
import Derived.Laws.OwnMore
namespace Go.Proofs.YtappjiljmpgjcaaDoor
open Go.RowKit
set_option linter.unusedVariables false
set_option linter.unusedSimpArgs false
section
variable {α : Type} {enc : α → List Value} {k : Nat}
theorem flat_app (xs ys : List α) : flat enc (xs ++ ys) = flat enc xs ++ flat enc ys := by simp [flat]
theorem flat_one (h1 : ∀ x, ∀ u ∈ enc x, u.oneCell' = true) (xs : List α) : ∀ u ∈ flat enc xs, u.oneCell' = true := by
  intro u hu
  simp only [flat, List.mem_flatMap] at hu
  obtain ⟨x, -, hx⟩ := hu
  exact h1 x u hx
theorem flat_of (hk : ∀ x, (enc x).length = k) (hk0 : 0 < k) (xs : List α) (n : Nat) (u : Value) (h : (flat enc xs)[n]? = some u) : ∃ x, xs[n / k]? = some x ∧ (enc x)[n % k]? = some u := by
  have hn := (List.getElem?_eq_some_iff.1 h).1
  rw [flat_len hk] at hn
  have hi : n / k < xs.length := Nat.div_lt_of_lt_mul (by rw [Nat.mul_comm]; exact hn)
  have hj : n % k < (enc xs[n / k]).length := by rw [hk]; exact Nat.mod_lt _ hk0
  refine ⟨xs[n / k], List.getElem?_eq_getElem hi, ?_⟩
  have := flat_at hk xs (n / k) _ (List.getElem?_eq_getElem hi) (n % k) _ (List.getElem?_eq_getElem hj)
  rw [Nat.div_add_mod' n k, h] at this
  rw [List.getElem?_eq_getElem hj, this]
theorem RK.flat {w : World} {O : Option Addr} {xs : List α} (hk : ∀ x, (enc x).length = k) (hk0 : 0 < k) (h : RK enc k w O xs) (h0 : 0 < xs.length) : ∃ b off : Nat, O = some ⟨b, off, none⟩ ∧ ∀ (n : Nat) (u : Value), (Proofs.YtappjiljmpgjcaaDoor.flat enc xs)[n]? = some u → w.cell? ⟨b, off + n, none⟩ = some u := by
  obtain ⟨b, off, e, hc⟩ := h h0
  refine ⟨b, off, e, fun n u hu => ?_⟩
  obtain ⟨x, hx, hj⟩ := flat_of hk hk0 xs n u hu
  have := hc _ x hx _ u hj
  rw [Nat.add_assoc, Nat.div_add_mod' n k] at this
  exact this
theorem run_app_none {P : Program} {w : World} (t ty e : TypeId) (i : TypeInfo) (c : Nat) (ht : P.underlying t = some (.slice e)) (hi : P.info? e = some i) {B : Nat} {v : Value} {n : Nat} {cs : List Value} (hown : w.ownsRow B e k v n cs) :
    (Builtin.append_ #[t, t] ty #[v, .slice none 0 c]).run P w = .ok v w := by
  rcases hown.2 with ⟨rfl, rfl⟩ | ⟨g, cap, cur, rfl, _, _, hnc, _⟩
  · simp [Builtin.append_, run_underlying ht, sizeOf, typeInfo, hi, Builtin.lenOf, Builtin.firstCells]
  · simp [Builtin.append_, run_underlying ht, sizeOf, typeInfo, hi, Builtin.lenOf, Builtin.firstCells, hnc, storeCells]
theorem run_app {P : Program} {w : World} (t ty e : TypeId) (i : TypeInfo) (z : Value) (bytes : Nat) (ht : P.underlying t = some (.slice e)) (hi : P.info? e = some i) (hz : i.zero = some z)
    (hsize : i.size = k) (hby : i.bytes = bytes) (hzs : z.cells.size = k) (hsz : 0 < k) (hk : ∀ x, (enc x).length = k) (h1 : ∀ x, ∀ u ∈ enc x, u.oneCell' = true)
    {B : Nat} {v : Value} {xs ys : List α} (hO : Ow enc k e w B v xs) {O : Option Addr} {m c : Nat} (hm : ys.length = m) (hR : RK enc k w O ys) (hlen : xs.length + m ≤ 100000) (hb8 : bytes ≤ 100) (hb : B ≤ w.heap.size) :
    ∃ v' w', (Builtin.append_ #[t, t] ty #[v, .slice O m c]).run P w = .ok v' w' ∧ Ow enc k e w' B v' (xs ++ ys) ∧ w.grownBy w' v.ownBlock := by
  have hbt : (xs.length + m) * bytes ≤ 140737488355328 := by
    have : (xs.length + m) * bytes ≤ 100000 * 100 := Nat.mul_le_mul hlen hb8
    omega
  by_cases h0 : 0 < ys.length
  · obtain ⟨b, off, rfl, hc⟩ := hR.flat hk hsz h0
    obtain ⟨v', w', hr, ho, hg, -⟩ := run_append_own (P := P) w B t ty e i z k bytes ht hi hz hsize hby hzs hsz v xs.length (flat enc xs) hO ⟨b, off, none⟩ m c (flat enc ys) (by rw [flat_len hk, hm]) (fun j u hu => by
      have e : (⟨b, off, none⟩ : Addr).add j = ⟨b, off + j, none⟩ := by unfold Addr.add; split <;> simp_all
      rw [e]; exact hc j u hu) (flat_one h1 ys) (by unfold maxLen; omega) hbt hb
    exact ⟨v', w', hr, by unfold Ow; rw [flat_app, List.length_append, hm]; exact ho, hg⟩
  · have hy : ys = [] := List.eq_nil_of_length_eq_zero (by omega)
    subst hy
    simp at hm
    subst hm
    rcases O with _ | ad
    · exact ⟨v, w, run_app_none t ty e i c ht hi hO, by simpa using hO, ⟨rfl, rfl, rfl, Nat.le_refl _, fun _ _ _ => rfl⟩⟩
    · obtain ⟨v', w', hr, ho, hg, -⟩ := run_append_own (P := P) w B t ty e i z k bytes ht hi hz hsize hby hzs hsz v xs.length (flat enc xs) hO ad 0 c [] (by simp) (fun j u hu => by simp at hu) (fun u hu => by simp at hu) (by unfold maxLen; omega) hbt hb
      exact ⟨v', w', hr, by unfold Ow; simpa using ho, hg⟩
theorem wpo_app {P : Program} {w : World} {o : Oper} {a : Go.Act} {K : Go.Act → World → Prop} {Q : Exit → Go.Act → World → Prop} (s x : Operand) (t : TypeId)
    (ho : o.op = .call { callee := .builtin .append, args := #[s, x], argTypes := #[t, t] })
    (B : Nat) (e : TypeId) (i : TypeInfo) (z : Value) (bytes : Nat) (ht : P.underlying t = some (.slice e)) (hi : P.info? e = some i) (hz : i.zero = some z)
    (hsize : i.size = k) (hby : i.bytes = bytes) (hzs : z.cells.size = k) (hsz : 0 < k) (hk : ∀ x, (enc x).length = k) (h1 : ∀ x, ∀ u ∈ enc x, u.oneCell' = true)
    (v : Value) (xs : List α) (hs : a.eval s = v) (hO : Ow enc k e w B v xs) (ys : List α) (O : Option Addr) (m c : Nat) (hx : a.eval x = .slice O m c)
    (hm : ys.length = m) (hR : RK enc k w O ys) (hlen : xs.length + m ≤ 100000) (hb8 : bytes ≤ 100) (w0 : World) (hB : Below B w0 w) (hb : B ≤ w0.heap.size)
    (h : ∀ v' w', Ow enc k e w' B v' (xs ++ ys) → Below B w0 w' → K (a.put o.dst v') w') : Oper.wp P o a w K Q := by
  obtain ⟨v', w', hr, h2, h3⟩ := run_app (P := P) (w := w) t o.type e i z bytes ht hi hz hsize hby hzs hsz hk h1 hO (O := O) (c := c) hm hR hlen hb8 (Nat.le_trans hb hB.size)
  unfold Oper.wp execOp
  simp only [ho, resolve, invoke, builtin, Sem.run_bind, Sem.run_pure, Result.andThen_ok, List.map_toArray, List.map_cons, List.map_nil, hs, hx, hr]
  exact h v' w' h2 (hB.grown h3 (Nat.le_trans hb hB.size) (fun g hg => (hO.lt g hg).1))
/-- A row more. -/
theorem wp_app {P : Program} {w : World} {ops : Array Oper} {rest : List Oper} {o : Oper} {a : Go.Act} {Q : Exit → Go.Act → World → Prop} (hgd : o.guard = none) (s x : Operand) (t : TypeId)
    (ho : o.op = .call { callee := .builtin .append, args := #[s, x], argTypes := #[t, t] })
    (B : Nat) (e : TypeId) (i : TypeInfo) (z : Value) (bytes : Nat) (ht : P.underlying t = some (.slice e)) (hi : P.info? e = some i) (hz : i.zero = some z)
    (hsize : i.size = k) (hby : i.bytes = bytes) (hzs : z.cells.size = k) (hsz : 0 < k) (hk : ∀ x, (enc x).length = k) (h1 : ∀ x, ∀ u ∈ enc x, u.oneCell' = true)
    (v : Value) (xs : List α) (hs : a.eval s = v) (hO : Ow enc k e w B v xs) (ys : List α) (O : Option Addr) (m c : Nat) (hx : a.eval x = .slice O m c)
    (hm : ys.length = m) (hR : RK enc k w O ys) (hlen : xs.length + m ≤ 100000) (hb8 : bytes ≤ 100) (w0 : World) (hB : Below B w0 w) (hb : B ≤ w0.heap.size)
    (h : ∀ v' w', Ow enc k e w' B v' (xs ++ ys) → Below B w0 w' → wpList P ops Q rest (a.put o.dst v') w') : wpList P ops Q (o :: rest) a w :=
  wpList_plain hgd fun _ hK => wpo_app s x t ho B e i z bytes ht hi hz hsize hby hzs hsz hk h1 v xs hs hO ys O m c hx hm hR hlen hb8 w0 hB hb fun v' w' h2 h3 => hK _ _ (h v' w' h2 h3)
theorem step_app {P : Program} {w : World} {ops : Array Oper} {o : Oper} {a : Go.Act} {K : Go.Act → World → Prop} {Q : Exit → Go.Act → World → Prop} {E : Prop} (hgd : o.guard = none) (s x : Operand) (t : TypeId)
    (ho : o.op = .call { callee := .builtin .append, args := #[s, x], argTypes := #[t, t] })
    (B : Nat) (e : TypeId) (i : TypeInfo) (z : Value) (bytes : Nat) (ht : P.underlying t = some (.slice e)) (hi : P.info? e = some i) (hz : i.zero = some z)
    (hsize : i.size = k) (hby : i.bytes = bytes) (hzs : z.cells.size = k) (hsz : 0 < k) (hk : ∀ x, (enc x).length = k) (h1 : ∀ x, ∀ u ∈ enc x, u.oneCell' = true)
    (v : Value) (xs : List α) (hs : a.eval s = v) (hO : Ow enc k e w B v xs) (ys : List α) (O : Option Addr) (m c : Nat) (hx : a.eval x = .slice O m c)
    (hm : ys.length = m) (hR : RK enc k w O ys) (hlen : xs.length + m ≤ 100000) (hb8 : bytes ≤ 100) (w0 : World) (hB : Below B w0 w) (hb : B ≤ w0.heap.size)
    (h : ∀ v' w', Ow enc k e w' B v' (xs ++ ys) → Below B w0 w' → K (a.put o.dst v') w') : if Region.wanted o (yielded ops a.tmps) = true then Oper.wp P o a w K Q else E := by
  have hw : Region.wanted o (yielded ops a.tmps) = true := by simp [Region.wanted, hgd]
  rw [if_pos hw]
  exact wpo_app s x t ho B e i z bytes ht hi hz hsize hby hzs hsz hk h1 v xs hs hO ys O m c hx hm hR hlen hb8 w0 hB hb h
/-- A row made, with room for n. -/
theorem wp_make {P : Program} {w : World} {ops : Array Oper} {rest : List Oper} {o : Oper} {a : Go.Act} {Q : Exit → Go.Act → World → Prop} (hg : o.guard = none) (l c : Operand) (t : TypeId) (hop : o.op = Op.makeSlice t l c)
    (B : Nat) (e : TypeId) (i : TypeInfo) (z : Value) (bytes : Nat) (h1 : P.underlying t = some (.slice e)) (h2 : P.info? e = some i) (h3 : i.zero = some z) (h4 : i.size = k) (h5 : i.bytes = bytes)
    (kl kc : IntKind) (C : Int) (n : Nat) (hl : a.eval l = .int kl 0) (hc : a.eval c = .int kc C) (hC : C = (n : Int)) (hn : n ≤ 100000) (hb8 : bytes ≤ 100) (w0 : World) (hB : Below B w0 w) (hb : B ≤ w0.heap.size)
    (h : ∀ v' w', Ow enc k e w' B v' [] → Below B w0 w' → wpList P ops Q rest (a.put o.dst v') w') : wpList P ops Q (o :: rest) a w := by
  refine wpList_make_own w hg l c t hop B e i z k h1 h2 h3 h4 kl kc C n hl hc hC ?_ (by unfold maxLen; omega) (Nat.le_trans hb hB.size) (fun w' ho hg => h _ w' (by unfold Ow; simpa [flat] using ho) (hB.grown hg (Nat.le_trans hb hB.size) (fun g hg => by cases hg)))
  have : i.bytes * n ≤ 100 * 100000 := Nat.mul_le_mul (by omega) hn
  omega
theorem step_make {P : Program} {w : World} {ops : Array Oper} {o : Oper} {a : Go.Act} {K : Go.Act → World → Prop} {Q : Exit → Go.Act → World → Prop} {E : Prop} (hg : o.guard = none) (l c : Operand) (t : TypeId) (hop : o.op = Op.makeSlice t l c)
    (B : Nat) (e : TypeId) (i : TypeInfo) (z : Value) (bytes : Nat) (h1 : P.underlying t = some (.slice e)) (h2 : P.info? e = some i) (h3 : i.zero = some z) (h4 : i.size = k) (h5 : i.bytes = bytes)
    (kl kc : IntKind) (C : Int) (n : Nat) (hl : a.eval l = .int kl 0) (hc : a.eval c = .int kc C) (hC : C = (n : Int)) (hn : n ≤ 100000) (hb8 : bytes ≤ 100) (w0 : World) (hB : Below B w0 w) (hb : B ≤ w0.heap.size)
    (h : ∀ v' w', Ow enc k e w' B v' [] → Below B w0 w' → K (a.put o.dst v') w') : if Region.wanted o (yielded ops a.tmps) = true then Oper.wp P o a w K Q else E := by
  have hw : Region.wanted o (yielded ops a.tmps) = true := by simp [Region.wanted, hg]
  rw [if_pos hw]
  have hbt : i.bytes * n ≤ 281474976710656 := by
    have : i.bytes * n ≤ 100 * 100000 := Nat.mul_le_mul (by omega) hn
    omega
  obtain ⟨w', hrun, r1, r2⟩ := run_make_own (P := P) w B t e i z k h1 h2 h3 h4 kl kc n hbt (by unfold maxLen; omega) (Nat.le_trans hb hB.size)
  subst hC
  unfold Oper.wp
  simp [execOp, hop, hl, hc, hrun, Result.andThen]
  exact h _ w' (by unfold Ow; simpa [flat] using r1) (hB.grown r2 (Nat.le_trans hb hB.size) (fun g hg => by cases hg))
/-- A row cut to nothing. -/
theorem Ow.cut0 {t : TypeId} {w : World} {B : Nat} {O : Option Addr} {n cap : Nat} {xs : List α} (h : Ow enc k t w B (.slice O n cap) xs) : Ow enc k t w B (.slice O 0 cap) [] := by
  obtain ⟨hl, h⟩ := h
  rcases h with ⟨h, -⟩ | ⟨g, c, cur, h, hb, hh, c1, c2, c3, c4⟩
  · simp only [Value.slice.injEq] at h
    obtain ⟨rfl, rfl, rfl⟩ := h
    exact World.ownsRow_nil _ _ _ _
  · simp only [Value.slice.injEq] at h
    obtain ⟨rfl, rfl, rfl⟩ := h
    exact ⟨by simp [flat], Or.inr ⟨g, cap, cur, rfl, hb, hh, by simp, c2, c3, by simp [flat]⟩⟩
theorem RK.drop1 {w : World} {b off : Nat} {xs : List α} (h : RK enc k w (some ⟨b, off, none⟩) xs) : RK enc k w (some ⟨b, off + k, none⟩) (xs.drop 1) := fun h0 => by
  obtain ⟨b', off', e, hc⟩ := h (by rw [List.length_drop] at h0; omega)
  simp only [Option.some.injEq, Addr.mk.injEq, and_true] at e
  obtain ⟨rfl, rfl⟩ := e
  refine ⟨b, off + k, rfl, fun i x hx j u hu => ?_⟩
  rw [List.getElem?_drop] at hx
  have := hc (1 + i) x hx j u hu
  rw [show off + (1 + i) * k + j = off + k + i * k + j by rw [Nat.add_mul]; omega] at this
  exact this
theorem RK.dropn {w : World} {b off : Nat} {xs : List α} (n : Nat) (h : RK enc k w (some ⟨b, off, none⟩) xs) : RK enc k w (some ⟨b, off + n * k, none⟩) (xs.drop n) := fun h0 => by
  obtain ⟨b', off', e, hc⟩ := h (by rw [List.length_drop] at h0; omega)
  simp only [Option.some.injEq, Addr.mk.injEq, and_true] at e
  obtain ⟨rfl, rfl⟩ := e
  refine ⟨b, off + n * k, rfl, fun i x hx j u hu => ?_⟩
  rw [List.getElem?_drop] at hx
  have := hc (n + i) x hx j u hu
  rw [show off + (n + i) * k + j = off + n * k + i * k + j by rw [Nat.add_mul]; omega] at this
  exact this
end
section
variable {α : Type} {enc : α → List Value}
theorem flat_set4 (hk : ∀ x, (enc x).length = 4) : ∀ (xs : List α) (n : Nat) (e : α) (u0 u1 u2 u3 : Value), n < xs.length → enc e = [u0, u1, u2, u3] → flat enc (xs.set n e) = ((((flat enc xs).set (n * 4) u0).set (n * 4 + 1) u1).set (n * 4 + 2) u2).set (n * 4 + 3) u3
  | [], n, e, u0, u1, u2, u3, hn, he => by simp at hn
  | x :: r, 0, e, u0, u1, u2, u3, hn, he => by
    obtain ⟨a, b, c, d, hx⟩ : ∃ a b c d, enc x = [a, b, c, d] := by
      have := hk x
      match h : enc x, this with
      | [a, b, c, d], _ => exact ⟨a, b, c, d, rfl⟩
    simp [flat, hx, he]
  | x :: r, n + 1, e, u0, u1, u2, u3, hn, he => by
    have ih := flat_set4 hk r n e u0 u1 u2 u3 (by simpa using hn) he
    have h4 := hk x
    simp only [flat, List.set_cons_succ, List.flatMap_cons] at ih ⊢
    rw [ih]
    rw [show (n + 1) * 4 = (enc x).length + n * 4 by rw [h4]; omega]
    simp only [Nat.add_assoc]
    rw [List.set_append_right _ _ (by omega), List.set_append_right _ _ (by omega), List.set_append_right _ _ (by omega), List.set_append_right _ _ (by omega)]
    simp only [Nat.add_sub_cancel_left]
theorem Ow.head {k : Nat} {t : TypeId} {w : World} {B : Nat} {v : Value} {xs : List α} (h : Ow enc k t w B v xs) (h0 : 0 < xs.length) : ∃ g cap, v = .slice (some ⟨g, 0, none⟩) xs.length cap ∧ B ≤ g ∧ g < w.heap.size ∧ xs.length ≤ cap ∧ cap ≤ maxLen := by
  have hl := h.lt
  rcases h.2 with ⟨rfl, hx⟩ | ⟨g, cap, cur, rfl, hb, hh, c1, c2, c3, c4⟩
  · omega
  · exact ⟨g, cap, rfl, hb, (hl g rfl).2, c1, c2⟩
theorem Ow.cells4 (hk : ∀ x, (enc x).length = 4) {t : TypeId} {w : World} {B g n m cap : Nat} {xs : List α} {x : α} {u0 u1 u2 u3 : Value} (h : Ow enc 4 t w B (.slice (some ⟨g, 0, none⟩) m cap) xs) (hx : xs[n]? = some x) (he : enc x = [u0, u1, u2, u3]) :
    w.cell? ⟨g, n * 4, none⟩ = some u0 ∧ w.cell? ⟨g, n * 4 + 1, none⟩ = some u1 ∧ w.cell? ⟨g, n * 4 + 2, none⟩ = some u2 ∧ w.cell? ⟨g, n * 4 + 3, none⟩ = some u3 := by
  have hc := fun j u hu => World.ownsRow.cells h (g := g) rfl _ _ (flat_at hk xs n x hx j u hu)
  have e : ∀ j, (⟨g, 0, none⟩ : Addr).add j = ⟨g, j, none⟩ := fun j => by unfold Addr.add; split <;> simp_all
  simp only [e] at hc
  exact ⟨hc 0 _ (by rw [he]; rfl), hc 1 _ (by rw [he]; rfl), hc 2 _ (by rw [he]; rfl), hc 3 _ (by rw [he]; rfl)⟩
theorem Ow.frozen4 {k : Nat} {t : TypeId} {w : World} {B g m cap : Nat} {xs : List α} (h : Ow enc k t w B (.slice (some ⟨g, 0, none⟩) m cap) xs) (j : Nat) : w.frozen? ⟨g, j, none⟩ = false := by
  rcases h.2 with ⟨h', _⟩ | ⟨g', cap', cur, h', _, hg, _⟩
  · simp at h'
  · simp only [Value.slice.injEq, Option.some.injEq, Addr.mk.injEq, and_true, true_and] at h'
    obtain ⟨rfl, rfl, rfl⟩ := h'
    unfold World.frozen?
    rw [hg]
    simp
theorem Ow.put4 (hk : ∀ x, (enc x).length = 4) {t : TypeId} {w : World} {B g n cap : Nat} {xs : List α} (h : Ow enc 4 t w B (.slice (some ⟨g, 0, none⟩) xs.length cap) xs) (e : α) {u0 u1 u2 u3 : Value} (hn : n < xs.length) (he : enc e = [u0, u1, u2, u3]) :
    Ow enc 4 t ((((w.setCell ⟨g, n * 4, none⟩ u0).setCell ⟨g, n * 4 + 1, none⟩ u1).setCell ⟨g, n * 4 + 2, none⟩ u2).setCell ⟨g, n * 4 + 3, none⟩ u3) B (.slice (some ⟨g, 0, none⟩) xs.length cap) (xs.set n e) := by
  unfold Ow at h ⊢
  rw [flat_set4 hk xs n e u0 u1 u2 u3 hn he, List.length_set]
  exact (World.ownsRow.stored (World.ownsRow.stored (World.ownsRow.stored (World.ownsRow.stored h (n * 4) u0).1 (n * 4 + 1) u1).1 (n * 4 + 2) u2).1 (n * 4 + 3) u3).1
end
end Go.Proofs.YtappjiljmpgjcaaDoor
