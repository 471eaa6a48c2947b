/-
  Rows of items that take k cells each: given rows, and rows of a call's own to which items are appended.
-/
import Derived.Test.YtappjiljmpgjcaaDoorCommon
import Derived.Test.YtappjiljmpgjcaaDoorArr
import Derived.Deep.AppendLies
import Derived.Laws.OwnMore
namespace Go.Proofs.YtappjiljmpgjcaaDoor
open Go.RowKit
set_option linter.unusedVariables false
set_option linter.unusedSimpArgs false
section
variable {α : Type} {enc : α → List Value} {k : Nat}
/-- All items' cells. -/
def flat (enc : α → List Value) (xs : List α) : List Value := xs.flatMap enc
theorem flat_len (hk : ∀ x, (enc x).length = k) : ∀ xs : List α, (flat enc xs).length = xs.length * k
  | [] => by simp [flat]
  | x :: r => by
    have := flat_len hk r
    simp only [flat, List.flatMap_cons, List.length_append, List.length_cons, hk] at this ⊢
    rw [this, Nat.succ_mul, Nat.add_comm]
theorem flat_snoc (xs : List α) (x : α) : flat enc (xs ++ [x]) = flat enc xs ++ enc x := by simp [flat]
theorem flat_at (hk : ∀ x, (enc x).length = k) : ∀ (xs : List α) (i : Nat) (x : α), xs[i]? = some x → ∀ (j : Nat) (u : Value), (enc x)[j]? = some u → (flat enc xs)[i * k + j]? = some u
  | [], i, x, h, _, _, _ => by simp at h
  | y :: r, 0, x, h, j, u, hu => by
    simp at h
    subst h
    have hj : j < (enc y).length := (List.getElem?_eq_some_iff.1 hu).1
    simp only [flat, List.flatMap_cons, Nat.zero_mul, Nat.zero_add]
    rw [List.getElem?_append_left hj]
    exact hu
  | y :: r, i + 1, x, h, j, u, hu => by
    have := flat_at hk r i x (by simpa using h) j u hu
    simp only [flat, List.flatMap_cons] at this ⊢
    rw [List.getElem?_append_right (by rw [hk, Nat.succ_mul]; omega), hk, show (i + 1) * k + j - k = i * k + j by rw [Nat.succ_mul]; omega]
    exact this
/-- A row lies in w. -/
def RK (enc : α → List Value) (k : Nat) (w : World) (O : Option Addr) (xs : List α) : Prop :=
  0 < xs.length → ∃ b off : Nat, O = some ⟨b, off, none⟩ ∧ ∀ (i : Nat) (x : α), xs[i]? = some x → ∀ (j : Nat) (u : Value), (enc x)[j]? = some u → w.cell? ⟨b, off + i * k + j, none⟩ = some u
theorem RK.call {w w' : World} {O : Option Addr} {xs : List α} (h : RK enc k w O xs) (hb : Below w.heap.size w w') : RK enc k w' O xs := fun h0 => by
  obtain ⟨b, off, e, hc⟩ := h h0
  exact ⟨b, off, e, fun i x hi j u hu => (hb.cell (p := ⟨b, off + i * k + j, none⟩) (World.block_lt_of_cell? w ⟨b, off + i * k + j, none⟩ (hc i x hi j u hu))).trans (hc i x hi j u hu)⟩
/-- A row of the call's own. -/
def Ow (enc : α → List Value) (k : Nat) (t : TypeId) (w : World) (B : Nat) (v : Value) (xs : List α) : Prop := w.ownsRow B t k v xs.length (flat enc xs)
theorem Ow.nil (t : TypeId) (w : World) (B : Nat) : Ow enc k t w B (.slice none 0 0) [] := World.ownsRow_nil _ _ _ _
theorem Ow.call {t : TypeId} {w w' : World} {B : Nat} {v : Value} {xs : List α} (h : Ow enc k t w B v xs) (hb : Below w.heap.size w w') : Ow enc k t w' B v xs := by
  obtain ⟨hl, h⟩ := h
  refine ⟨hl, h.imp id fun ⟨g, cap, cur, e, hB, hh, r⟩ => ⟨g, cap, cur, e, hB, ?_, r⟩⟩
  exact (hb.block g (Array.getElem?_eq_some_iff.1 hh).1).trans hh
theorem Ow.lt {t : TypeId} {w : World} {B : Nat} {v : Value} {xs : List α} (h : Ow enc k t w B v xs) : ∀ g, v.ownBlock = some g → B ≤ g ∧ g < w.heap.size := World.ownsRow.lt h
theorem Ow.form (hk : ∀ x, (enc x).length = k) {t : TypeId} {w : World} {B : Nat} {v : Value} {xs : List α} (h : Ow enc k t w B v xs) : ∃ O cap, v = .slice O xs.length cap ∧ xs.length ≤ cap ∧ cap ≤ maxLen ∧ RK enc k w O xs := by
  have hcells := fun g hg => World.ownsRow.cells h (g := g) hg
  obtain ⟨hl, h⟩ := h
  rcases h with ⟨rfl, hx⟩ | ⟨g, cap, cur, rfl, hb, hh, c1, c2, c3, c4⟩
  · exact ⟨none, 0, by rw [hx], by omega, by unfold maxLen; omega, fun h => by omega⟩
  · refine ⟨_, cap, rfl, c1, c2, fun _ => ⟨g, 0, rfl, fun i x hx j u hu => ?_⟩⟩
    have b1 := hcells g rfl _ _ (flat_at hk xs i x hx j u hu)
    have e : (⟨g, 0, none⟩ : Addr).add (i * k + j) = ⟨g, 0 + i * k + j, none⟩ := by unfold Addr.add; split <;> simp_all
    rw [e] at b1
    exact b1
/-- One item more. -/
theorem wp_snoc {P : Program} {w : World} {ops : Array Oper} {rest : List Oper} {o : Oper} {a : Go.Act} {Q : Exit → Go.Act → World → Prop} (hgd : o.guard = none) (s x : Operand) (t : TypeId)
    (ho : o.op = .call { callee := .builtin .append, args := #[s, x], argTypes := #[t, t] })
    (B : Nat) (e : TypeId) (i : TypeInfo) (z : Value) (bytes : Nat) (ht : P.underlying t = some (.slice e)) (hi : P.info? e = some i) (hz : i.zero = some z)
    (hsize : i.size = k) (hby : i.bytes = bytes) (hzs : z.cells.size = k) (hsz : 0 < k) (hk : ∀ x, (enc x).length = k)
    (v : Value) (xs : List α) (hs : a.eval s = v) (hO : Ow enc k e w B v xs) (y : α) (g : Nat) (hx : a.eval x = .slice (some ⟨g, 0, none⟩) 1 1)
    (hN : ∀ (j : Nat) (u : Value), (enc y)[j]? = some u → w.cell? ⟨g, j, none⟩ = some u) (h1 : ∀ u ∈ enc y, u.oneCell' = true) (hlen : xs.length ≤ 100000) (hb8 : bytes ≤ 100) (w0 : World) (hB : Below B w0 w) (hb : B ≤ w0.heap.size)
    (h : ∀ v' w', Ow enc k e w' B v' (xs ++ [y]) → Below B w0 w' → wpList P ops Q rest (a.put o.dst v') w') : wpList P ops Q (o :: rest) a w := by
  refine wpList_append_own _ hgd s x t ho B e i z k bytes ht hi hz hsize hby hzs hsz v xs.length (flat enc xs) hs hO ⟨g, 0, none⟩ 1 1 (enc y) hx (by rw [hk]; omega) (fun j u hu => ?_) h1 (by unfold maxLen; omega) ?_ (Nat.le_trans hb hB.size) (fun v' w' hown hgrow _ => ?_)
  · have e : (⟨g, 0, none⟩ : Addr).add j = ⟨g, j, none⟩ := by unfold Addr.add; split <;> simp_all
    rw [e]
    exact hN j u hu
  · have : (xs.length + 1) * bytes ≤ 100001 * 100 := Nat.mul_le_mul (by omega) hb8
    omega
  · exact h v' w' (by unfold Ow; rw [flat_snoc]; simpa using hown) (hB.grown hgrow (Nat.le_trans hb hB.size) (fun g hg => (hO.lt g hg).1))
end
end Go.Proofs.YtappjiljmpgjcaaDoor
