/-
  Small lemmas that every walk of this seat uses: worlds that only grow, words, results.
  A block whose first cells are known and may be written: kept over calls that change nothing old, new blocks, stores.
  Rows of items that take k cells each: given rows, and rows of a call's own to which items are appended.
  A known block's cells, all at once.
  Plain arithmetic of bit fields of 64-bit words: no program in sight.
  Rows of entries, plain: which may be, where one of a place stands, what filling, taking out and dropping make of them.
-/
import Derived.Test.YtgdkkhdhomehdaaDoorRows
import Derived.WalkKit
import Derived.WalkSpells
import Derived.WalkLawsBesides
import Derived.Lib.Hide
import Derived.Below
import Derived.Outline
import Derived.OwnWalk
import Derived.OpenShut
import Derived.LoopN
import Derived.LoopTactic
import Derived.Laws.BitsAllLaws
import Derived.Laws.Bits64
import Derived.Deep.Draws
import Derived.Laws.NewBlocks
import Derived.Laws.Rows
import Derived.Deep.AppendLies
import Derived.Laws.OwnMore
namespace Go.Proofs.YtgdkkhdhomehdaaDoor
section
open Go.RowKit

theorem bcell {W w1 : World} (hb : Below W.heap.size W w1) : (∀ b o, b < W.heap.size → w1.cell? ⟨b, o, none⟩ = W.cell? ⟨b, o, none⟩) ∧ (∀ b o, b < W.heap.size → w1.frozen? ⟨b, o, none⟩ = W.frozen? ⟨b, o, none⟩) :=
  ⟨fun b o h => hb.cell (p := ⟨b, o, none⟩) h, fun b o h => hb.frozen (p := ⟨b, o, none⟩) h⟩
theorem bthen {a W c : World} (h : Below a.heap.size a W) (hb : Below W.heap.size W c) : Below a.heap.size a c := h.trans (hb.mono h.size)
theorem ba {a W : World} (h : Below a.heap.size a W) (o : Obj) : Below a.heap.size a (W.alloc o) := h.alloc h.size o
theorem bd {a W : World} (h : Below a.heap.size a W) : Below a.heap.size a W.drew := h.drew
theorem bs {a W : World} (h : Below a.heap.size a W) {p : Addr} (hp : a.heap.size ≤ p.block) (u : Value) : Below a.heap.size a (W.setCell p u) := h.setCell hp u
theorem bdn {B : Nat} {a w : World} (h : Below B a w) (n : Nat) : Below B a (w.drewN n) := ⟨h.os, h.tape, h.output, h.size, h.block⟩
theorem ret_int {k : IntKind} {a b : Int} (h : a = b) : Ending.returned (.int k a) = .returned (.int k b) := by rw [h]
theorem ret_bool {a b : Bool} (h : a = b) : Ending.returned (.bool a) = .returned (.bool b) := by rw [h]
theorem ret_two {k l : IntKind} {a b c : Int} (h : a = b) : Ending.returned (.tuple #[.int k a, .int l c]) = .returned (.tuple #[.int k b, .int l c]) := by rw [h]
/-- A word. -/
def U64 (x : Int) : Prop := 0 ≤ x ∧ x < 18446744073709551616
theorem u64_nat {x : Int} (h : U64 x) : ∃ n : Nat, x = n ∧ n < 18446744073709551616 := ⟨x.toNat, by have := h.1; omega, by have := h.2; omega⟩
theorem u64_lit {n : Nat} (h : n < 18446744073709551616) : U64 n := ⟨by omega, by omega⟩
theorem u64_wf {n : Int} (h : (Lit.int .u64 n).wf = true) : U64 n := ⟨(bounds_u64 h).1, by have := (bounds_u64 h).2; omega⟩
theorem bne_self_i (a : Int) : (a != a) = false := by simp
theorem norm_mod (k m : Int) (hm : 1 ≤ m) (hm2 : m ≤ 4294967296) : 0 ≤ (wrap64 (k.tmod m + m)).tmod m ∧ (wrap64 (k.tmod m + m)).tmod m < m := by
  have h1 := Int.tmod_lt_of_pos k (show 0 < m by omega)
  have h2 : -m < k.tmod m := by
    have := Int.tmod_lt_of_pos (-k) (show 0 < m by omega)
    rw [Int.neg_tmod] at this
    omega
  rw [IntWalk.wrap64_in _ (by omega)]
  rw [Int.tmod_eq_emod_of_nonneg (by omega)]
  exact ⟨Int.emod_nonneg _ (by omega), Int.emod_lt_of_pos _ (by omega)⟩
end
section
open Go.RowKit

/-- Block b of w begins with the cells cs, and none of these is frozen. -/
def Arr (w : World) (b : Nat) (cs : List Value) : Prop :=
  b < w.heap.size ∧ (∀ i v, cs[i]? = some v → w.cell? ⟨b, i, none⟩ = some v) ∧ (∀ i, i < cs.length → w.frozen? ⟨b, i, none⟩ = false)
section
variable {w w' : World} {b : Nat} {cs : List Value}
theorem Arr.lt (h : Arr w b cs) : b < w.heap.size := h.1
theorem Arr.cell (h : Arr w b cs) (i : Nat) (v : Value) (hi : cs[i]? = some v) : w.cell? ⟨b, i, none⟩ = some v := h.2.1 i v hi
theorem Arr.frozen (h : Arr w b cs) (i : Nat) (hi : i < cs.length) : w.frozen? ⟨b, i, none⟩ = false := h.2.2 i hi
theorem Arr.below {B : Nat} (h : Arr w b cs) (hb : Below B w w') (hB : b < B) : Arr w' b cs :=
  ⟨Nat.lt_of_lt_of_le h.1 hb.size, fun i v hi => (hb.cell (p := ⟨b, i, none⟩) hB).trans (h.2.1 i v hi), fun i hi => (hb.frozen (p := ⟨b, i, none⟩) hB).trans (h.2.2 i hi)⟩
theorem Arr.call (h : Arr w b cs) (hb : Below w.heap.size w w') : Arr w' b cs := h.below hb h.1
theorem Arr.drew (h : Arr w b cs) : Arr w.drew b cs := h
theorem Arr.drewN (h : Arr w b cs) (n : Nat) : Arr (w.drewN n) b cs := h
theorem Arr.alloc (h : Arr w b cs) (o : Obj) : Arr (w.alloc o) b cs := h.below ((Below.refl w.heap.size w).alloc (Nat.le_refl _) o) h.1
theorem Arr.set (h : Arr w b cs) (i : Nat) (hi : i < cs.length) (v : Value) : Arr (w.setCell ⟨b, i, none⟩ v) b (cs.set i v) := by
  refine ⟨by simpa using h.1, fun j u hj => ?_, fun j hj => ?_⟩
  · by_cases e : j = i
    · subst e
      rw [List.getElem?_set_self hi] at hj
      injection hj with hj
      subst hj
      obtain ⟨x, hx⟩ : ∃ x, cs[j]? = some x := ⟨cs[j], List.getElem?_eq_getElem hi⟩
      exact World.cell?_setCell_same _ _ _ (h.2.1 j x hx)
    · rw [List.getElem?_set_ne (by omega)] at hj
      rw [World.cell?_setCell_other _ _ _ _ (fun e' => e (by injection e' with _ e' _; exact e'.symm))]
      exact h.2.1 j u hj
  · rw [World.frozen?_setCell]
    exact h.2.2 j (by simpa using hj)
theorem Arr.far (h : Arr w b cs) {p : Addr} (hp : p.block ≠ b) (v : Value) : Arr (w.setCell p v) b cs := by
  refine ⟨by simpa using h.1, fun j u hj => ?_, fun j hj => ?_⟩
  · rw [World.cell?_setCell_other _ _ _ _ (fun e' => hp (by rw [e']))]
    exact h.2.1 j u hj
  · rw [World.frozen?_setCell]
    exact h.2.2 j hj
theorem Arr.new (w : World) (cs : Array Value) (t : TypeId) : Arr (w.alloc (.cells cs t)) w.heap.size cs.toList := by
  have hb : (w.alloc (.cells cs t)).heap[w.heap.size]? = some (.cells cs t (0, 0)) := heap_alloc_new w _
  refine ⟨by simp, fun j u hj => ?_, fun j hj => ?_⟩
  · rw [cell_of_row _ _ j cs t (0, 0) hb]
    simpa using hj
  · unfold World.frozen?
    rw [hb]
    simp
theorem Arr.nat (h : Arr w b cs) (i : Nat) (hi : i < cs.length) : w.cell? ⟨b, i, none⟩ = some cs[i] := h.2.1 i _ (List.getElem?_eq_getElem hi)
end
end
section
open Go.RowKit
set_option linter.unusedVariables false
set_option linter.unusedSimpArgs false
section
variable {α : Type} {enc : α → List Value} {k : Nat}
/-- All items' cells. -/
def flat (enc : α → List Value) (xs : List α) : List Value := xs.flatMap enc
theorem flat_len (hk : ∀ x, (enc x).length = k) : ∀ xs : List α, (flat enc xs).length = xs.length * k
  | [] => by simp [flat]
  | x :: r => by
    have := flat_len hk r
    simp only [flat, List.flatMap_cons, List.length_append, List.length_cons, hk] at this ⊢
    rw [this, Nat.succ_mul, Nat.add_comm]
theorem flat_snoc (xs : List α) (x : α) : flat enc (xs ++ [x]) = flat enc xs ++ enc x := by simp [flat]
theorem flat_at (hk : ∀ x, (enc x).length = k) : ∀ (xs : List α) (i : Nat) (x : α), xs[i]? = some x → ∀ (j : Nat) (u : Value), (enc x)[j]? = some u → (flat enc xs)[i * k + j]? = some u
  | [], i, x, h, _, _, _ => by simp at h
  | y :: r, 0, x, h, j, u, hu => by
    simp at h
    subst h
    have hj : j < (enc y).length := (List.getElem?_eq_some_iff.1 hu).1
    simp only [flat, List.flatMap_cons, Nat.zero_mul, Nat.zero_add]
    rw [List.getElem?_append_left hj]
    exact hu
  | y :: r, i + 1, x, h, j, u, hu => by
    have := flat_at hk r i x (by simpa using h) j u hu
    simp only [flat, List.flatMap_cons] at this ⊢
    rw [List.getElem?_append_right (by rw [hk, Nat.succ_mul]; omega), hk, show (i + 1) * k + j - k = i * k + j by rw [Nat.succ_mul]; omega]
    exact this
/-- A row lies in w. -/
def RK (enc : α → List Value) (k : Nat) (w : World) (O : Option Addr) (xs : List α) : Prop :=
  0 < xs.length → ∃ b off : Nat, O = some ⟨b, off, none⟩ ∧ ∀ (i : Nat) (x : α), xs[i]? = some x → ∀ (j : Nat) (u : Value), (enc x)[j]? = some u → w.cell? ⟨b, off + i * k + j, none⟩ = some u
theorem RK.call {w w' : World} {O : Option Addr} {xs : List α} (h : RK enc k w O xs) (hb : Below w.heap.size w w') : RK enc k w' O xs := fun h0 => by
  obtain ⟨b, off, e, hc⟩ := h h0
  exact ⟨b, off, e, fun i x hi j u hu => (hb.cell (p := ⟨b, off + i * k + j, none⟩) (World.block_lt_of_cell? w ⟨b, off + i * k + j, none⟩ (hc i x hi j u hu))).trans (hc i x hi j u hu)⟩
/-- A row of the call's own. -/
def Ow (enc : α → List Value) (k : Nat) (t : TypeId) (w : World) (B : Nat) (v : Value) (xs : List α) : Prop := w.ownsRow B t k v xs.length (flat enc xs)
theorem Ow.nil (t : TypeId) (w : World) (B : Nat) : Ow enc k t w B (.slice none 0 0) [] := World.ownsRow_nil _ _ _ _
theorem Ow.call {t : TypeId} {w w' : World} {B : Nat} {v : Value} {xs : List α} (h : Ow enc k t w B v xs) (hb : Below w.heap.size w w') : Ow enc k t w' B v xs := by
  obtain ⟨hl, h⟩ := h
  refine ⟨hl, h.imp id fun ⟨g, cap, cur, e, hB, hh, r⟩ => ⟨g, cap, cur, e, hB, ?_, r⟩⟩
  exact (hb.block g (Array.getElem?_eq_some_iff.1 hh).1).trans hh
theorem Ow.lt {t : TypeId} {w : World} {B : Nat} {v : Value} {xs : List α} (h : Ow enc k t w B v xs) : ∀ g, v.ownBlock = some g → B ≤ g ∧ g < w.heap.size := World.ownsRow.lt h
theorem Ow.form (hk : ∀ x, (enc x).length = k) {t : TypeId} {w : World} {B : Nat} {v : Value} {xs : List α} (h : Ow enc k t w B v xs) : ∃ O cap, v = .slice O xs.length cap ∧ xs.length ≤ cap ∧ cap ≤ maxLen ∧ RK enc k w O xs := by
  have hcells := fun g hg => World.ownsRow.cells h (g := g) hg
  obtain ⟨hl, h⟩ := h
  rcases h with ⟨rfl, hx⟩ | ⟨g, cap, cur, rfl, hb, hh, c1, c2, c3, c4⟩
  · exact ⟨none, 0, by rw [hx], by omega, by unfold maxLen; omega, fun h => by omega⟩
  · refine ⟨_, cap, rfl, c1, c2, fun _ => ⟨g, 0, rfl, fun i x hx j u hu => ?_⟩⟩
    have b1 := hcells g rfl _ _ (flat_at hk xs i x hx j u hu)
    have e : (⟨g, 0, none⟩ : Addr).add (i * k + j) = ⟨g, 0 + i * k + j, none⟩ := by unfold Addr.add; split <;> simp_all
    rw [e] at b1
    exact b1
/-- One item more. -/
theorem wp_snoc {P : Program} {w : World} {ops : Array Oper} {rest : List Oper} {o : Oper} {a : Go.Act} {Q : Exit → Go.Act → World → Prop} (hgd : o.guard = none) (s x : Operand) (t : TypeId)
    (ho : o.op = .call { callee := .builtin .append, args := #[s, x], argTypes := #[t, t] })
    (B : Nat) (e : TypeId) (i : TypeInfo) (z : Value) (bytes : Nat) (ht : P.underlying t = some (.slice e)) (hi : P.info? e = some i) (hz : i.zero = some z)
    (hsize : i.size = k) (hby : i.bytes = bytes) (hzs : z.cells.size = k) (hsz : 0 < k) (hk : ∀ x, (enc x).length = k)
    (v : Value) (xs : List α) (hs : a.eval s = v) (hO : Ow enc k e w B v xs) (y : α) (g : Nat) (hx : a.eval x = .slice (some ⟨g, 0, none⟩) 1 1)
    (hN : ∀ (j : Nat) (u : Value), (enc y)[j]? = some u → w.cell? ⟨g, j, none⟩ = some u) (h1 : ∀ u ∈ enc y, u.oneCell' = true) (hlen : xs.length ≤ 100000) (hb8 : bytes ≤ 100) (w0 : World) (hB : Below B w0 w) (hb : B ≤ w0.heap.size)
    (h : ∀ v' w', Ow enc k e w' B v' (xs ++ [y]) → Below B w0 w' → wpList P ops Q rest (a.put o.dst v') w') : wpList P ops Q (o :: rest) a w := by
  refine wpList_append_own _ hgd s x t ho B e i z k bytes ht hi hz hsize hby hzs hsz v xs.length (flat enc xs) hs hO ⟨g, 0, none⟩ 1 1 (enc y) hx (by rw [hk]; omega) (fun j u hu => ?_) h1 (by unfold maxLen; omega) ?_ (Nat.le_trans hb hB.size) (fun v' w' hown hgrow _ => ?_)
  · have e : (⟨g, 0, none⟩ : Addr).add j = ⟨g, j, none⟩ := by unfold Addr.add; split <;> simp_all
    rw [e]
    exact hN j u hu
  · have : (xs.length + 1) * bytes ≤ 100001 * 100 := Nat.mul_le_mul (by omega) hb8
    omega
  · exact h v' w' (by unfold Ow; rw [flat_snoc]; simpa using hown) (hB.grown hgrow (Nat.le_trans hb hB.size) (fun g hg => (hO.lt g hg).1))
end
end
section
open Go.RowKit
set_option linter.unusedSimpArgs false
section
variable {w : World} {b : Nat} {v0 v1 v2 v3 v4 v5 : Value}
theorem Arr.c4 (h : Arr w b [v0, v1, v2, v3]) : w.cell? ⟨b, 0, none⟩ = some v0 ∧ w.cell? ⟨b, 1, none⟩ = some v1 ∧ w.cell? ⟨b, 2, none⟩ = some v2 ∧ w.cell? ⟨b, 3, none⟩ = some v3 :=
  ⟨h.cell 0 _ rfl, h.cell 1 _ rfl, h.cell 2 _ rfl, h.cell 3 _ rfl⟩
theorem Arr.c5 (h : Arr w b [v0, v1, v2, v3, v4]) : w.cell? ⟨b, 0, none⟩ = some v0 ∧ w.cell? ⟨b, 1, none⟩ = some v1 ∧ w.cell? ⟨b, 2, none⟩ = some v2 ∧ w.cell? ⟨b, 3, none⟩ = some v3 ∧ w.cell? ⟨b, 4, none⟩ = some v4 :=
  ⟨h.cell 0 _ rfl, h.cell 1 _ rfl, h.cell 2 _ rfl, h.cell 3 _ rfl, h.cell 4 _ rfl⟩
theorem Arr.f5 (h : Arr w b [v0, v1, v2, v3, v4]) : w.frozen? ⟨b, 0, none⟩ = false ∧ w.frozen? ⟨b, 1, none⟩ = false ∧ w.frozen? ⟨b, 2, none⟩ = false ∧ w.frozen? ⟨b, 3, none⟩ = false ∧ w.frozen? ⟨b, 4, none⟩ = false :=
  ⟨h.frozen 0 (by simp), h.frozen 1 (by simp), h.frozen 2 (by simp), h.frozen 3 (by simp), h.frozen 4 (by simp)⟩
theorem Arr.c6 (h : Arr w b [v0, v1, v2, v3, v4, v5]) : w.cell? ⟨b, 0, none⟩ = some v0 ∧ w.cell? ⟨b, 1, none⟩ = some v1 ∧ w.cell? ⟨b, 2, none⟩ = some v2 ∧ w.cell? ⟨b, 3, none⟩ = some v3 ∧ w.cell? ⟨b, 4, none⟩ = some v4 ∧ w.cell? ⟨b, 5, none⟩ = some v5 :=
  ⟨h.cell 0 _ rfl, h.cell 1 _ rfl, h.cell 2 _ rfl, h.cell 3 _ rfl, h.cell 4 _ rfl, h.cell 5 _ rfl⟩
variable {x0 x1 x2 x3 x4 x5 x6 x7 x8 x9 x10 x11 x12 x13 x14 x15 x16 x17 x18 x19 : Value}
theorem Arr.c20 (h : Arr w b [x0, x1, x2, x3, x4, x5, x6, x7, x8, x9, x10, x11, x12, x13, x14, x15, x16, x17, x18, x19]) :
    w.cell? ⟨b, 0, none⟩ = some x0 ∧ w.cell? ⟨b, 1, none⟩ = some x1 ∧ w.cell? ⟨b, 2, none⟩ = some x2 ∧ w.cell? ⟨b, 3, none⟩ = some x3 ∧ w.cell? ⟨b, 4, none⟩ = some x4 ∧ w.cell? ⟨b, 5, none⟩ = some x5 ∧ w.cell? ⟨b, 6, none⟩ = some x6 ∧ w.cell? ⟨b, 7, none⟩ = some x7 ∧ w.cell? ⟨b, 8, none⟩ = some x8 ∧ w.cell? ⟨b, 9, none⟩ = some x9 ∧ w.cell? ⟨b, 10, none⟩ = some x10 ∧ w.cell? ⟨b, 11, none⟩ = some x11 ∧ w.cell? ⟨b, 12, none⟩ = some x12 ∧ w.cell? ⟨b, 13, none⟩ = some x13 ∧ w.cell? ⟨b, 14, none⟩ = some x14 ∧ w.cell? ⟨b, 15, none⟩ = some x15 ∧ w.cell? ⟨b, 16, none⟩ = some x16 ∧ w.cell? ⟨b, 17, none⟩ = some x17 ∧ w.cell? ⟨b, 18, none⟩ = some x18 ∧ w.cell? ⟨b, 19, none⟩ = some x19 :=
  ⟨h.cell 0 _ rfl, h.cell 1 _ rfl, h.cell 2 _ rfl, h.cell 3 _ rfl, h.cell 4 _ rfl, h.cell 5 _ rfl, h.cell 6 _ rfl, h.cell 7 _ rfl, h.cell 8 _ rfl, h.cell 9 _ rfl, h.cell 10 _ rfl, h.cell 11 _ rfl, h.cell 12 _ rfl, h.cell 13 _ rfl, h.cell 14 _ rfl, h.cell 15 _ rfl, h.cell 16 _ rfl, h.cell 17 _ rfl, h.cell 18 _ rfl, h.cell 19 _ rfl⟩
theorem Arr.f20 (h : Arr w b [x0, x1, x2, x3, x4, x5, x6, x7, x8, x9, x10, x11, x12, x13, x14, x15, x16, x17, x18, x19]) :
    w.frozen? ⟨b, 0, none⟩ = false ∧ w.frozen? ⟨b, 1, none⟩ = false ∧ w.frozen? ⟨b, 2, none⟩ = false ∧ w.frozen? ⟨b, 3, none⟩ = false ∧ w.frozen? ⟨b, 4, none⟩ = false ∧ w.frozen? ⟨b, 5, none⟩ = false ∧ w.frozen? ⟨b, 6, none⟩ = false ∧ w.frozen? ⟨b, 7, none⟩ = false ∧ w.frozen? ⟨b, 8, none⟩ = false ∧ w.frozen? ⟨b, 9, none⟩ = false ∧ w.frozen? ⟨b, 10, none⟩ = false ∧ w.frozen? ⟨b, 11, none⟩ = false ∧ w.frozen? ⟨b, 12, none⟩ = false ∧ w.frozen? ⟨b, 13, none⟩ = false ∧ w.frozen? ⟨b, 14, none⟩ = false ∧ w.frozen? ⟨b, 15, none⟩ = false ∧ w.frozen? ⟨b, 16, none⟩ = false ∧ w.frozen? ⟨b, 17, none⟩ = false ∧ w.frozen? ⟨b, 18, none⟩ = false ∧ w.frozen? ⟨b, 19, none⟩ = false :=
  ⟨h.frozen 0 (by simp), h.frozen 1 (by simp), h.frozen 2 (by simp), h.frozen 3 (by simp), h.frozen 4 (by simp), h.frozen 5 (by simp), h.frozen 6 (by simp), h.frozen 7 (by simp), h.frozen 8 (by simp), h.frozen 9 (by simp), h.frozen 10 (by simp), h.frozen 11 (by simp), h.frozen 12 (by simp), h.frozen 13 (by simp), h.frozen 14 (by simp), h.frozen 15 (by simp), h.frozen 16 (by simp), h.frozen 17 (by simp), h.frozen 18 (by simp), h.frozen 19 (by simp)⟩
theorem Arr.put5 (h : Arr w b [v0, v1, v2, v3, v4]) (u0 u1 u2 u3 u4 : Value) : Arr (((((w.setCell ⟨b, 0, none⟩ u0).setCell ⟨b, 1, none⟩ u1).setCell ⟨b, 2, none⟩ u2).setCell ⟨b, 3, none⟩ u3).setCell ⟨b, 4, none⟩ u4) b [u0, u1, u2, u3, u4] := by
  have h0 := h.set 0 (by simp) u0
  simp only [List.set_cons_zero, List.set_cons_succ] at h0
  have h1 := h0.set 1 (by simp) u1
  simp only [List.set_cons_zero, List.set_cons_succ] at h1
  clear h0
  have h2 := h1.set 2 (by simp) u2
  simp only [List.set_cons_zero, List.set_cons_succ] at h2
  clear h1
  have h3 := h2.set 3 (by simp) u3
  simp only [List.set_cons_zero, List.set_cons_succ] at h3
  clear h2
  have h4 := h3.set 4 (by simp) u4
  simp only [List.set_cons_zero, List.set_cons_succ] at h4
  clear h3
  exact h4
set_option maxHeartbeats 1000000 in
theorem Arr.put20 (h : Arr w b [x0, x1, x2, x3, x4, x5, x6, x7, x8, x9, x10, x11, x12, x13, x14, x15, x16, x17, x18, x19]) (u0 u1 u2 u3 u4 u5 u6 u7 u8 u9 u10 u11 u12 u13 u14 u15 u16 u17 u18 u19 : Value) : Arr ((((((((((((((((((((w.setCell ⟨b, 0, none⟩ u0).setCell ⟨b, 1, none⟩ u1).setCell ⟨b, 2, none⟩ u2).setCell ⟨b, 3, none⟩ u3).setCell ⟨b, 4, none⟩ u4).setCell ⟨b, 5, none⟩ u5).setCell ⟨b, 6, none⟩ u6).setCell ⟨b, 7, none⟩ u7).setCell ⟨b, 8, none⟩ u8).setCell ⟨b, 9, none⟩ u9).setCell ⟨b, 10, none⟩ u10).setCell ⟨b, 11, none⟩ u11).setCell ⟨b, 12, none⟩ u12).setCell ⟨b, 13, none⟩ u13).setCell ⟨b, 14, none⟩ u14).setCell ⟨b, 15, none⟩ u15).setCell ⟨b, 16, none⟩ u16).setCell ⟨b, 17, none⟩ u17).setCell ⟨b, 18, none⟩ u18).setCell ⟨b, 19, none⟩ u19) b [u0, u1, u2, u3, u4, u5, u6, u7, u8, u9, u10, u11, u12, u13, u14, u15, u16, u17, u18, u19] := by
  have h0 := h.set 0 (by simp) u0
  simp only [List.set_cons_zero, List.set_cons_succ] at h0
  have h1 := h0.set 1 (by simp) u1
  simp only [List.set_cons_zero, List.set_cons_succ] at h1
  clear h0
  have h2 := h1.set 2 (by simp) u2
  simp only [List.set_cons_zero, List.set_cons_succ] at h2
  clear h1
  have h3 := h2.set 3 (by simp) u3
  simp only [List.set_cons_zero, List.set_cons_succ] at h3
  clear h2
  have h4 := h3.set 4 (by simp) u4
  simp only [List.set_cons_zero, List.set_cons_succ] at h4
  clear h3
  have h5 := h4.set 5 (by simp) u5
  simp only [List.set_cons_zero, List.set_cons_succ] at h5
  clear h4
  have h6 := h5.set 6 (by simp) u6
  simp only [List.set_cons_zero, List.set_cons_succ] at h6
  clear h5
  have h7 := h6.set 7 (by simp) u7
  simp only [List.set_cons_zero, List.set_cons_succ] at h7
  clear h6
  have h8 := h7.set 8 (by simp) u8
  simp only [List.set_cons_zero, List.set_cons_succ] at h8
  clear h7
  have h9 := h8.set 9 (by simp) u9
  simp only [List.set_cons_zero, List.set_cons_succ] at h9
  clear h8
  have h10 := h9.set 10 (by simp) u10
  simp only [List.set_cons_zero, List.set_cons_succ] at h10
  clear h9
  have h11 := h10.set 11 (by simp) u11
  simp only [List.set_cons_zero, List.set_cons_succ] at h11
  clear h10
  have h12 := h11.set 12 (by simp) u12
  simp only [List.set_cons_zero, List.set_cons_succ] at h12
  clear h11
  have h13 := h12.set 13 (by simp) u13
  simp only [List.set_cons_zero, List.set_cons_succ] at h13
  clear h12
  have h14 := h13.set 14 (by simp) u14
  simp only [List.set_cons_zero, List.set_cons_succ] at h14
  clear h13
  have h15 := h14.set 15 (by simp) u15
  simp only [List.set_cons_zero, List.set_cons_succ] at h15
  clear h14
  have h16 := h15.set 16 (by simp) u16
  simp only [List.set_cons_zero, List.set_cons_succ] at h16
  clear h15
  have h17 := h16.set 17 (by simp) u17
  simp only [List.set_cons_zero, List.set_cons_succ] at h17
  clear h16
  have h18 := h17.set 18 (by simp) u18
  simp only [List.set_cons_zero, List.set_cons_succ] at h18
  clear h17
  have h19 := h18.set 19 (by simp) u19
  simp only [List.set_cons_zero, List.set_cons_succ] at h19
  clear h18
  exact h19
end
end
section
open Go

/-- Is there such a field? -/
def fOk (hi lo : Int) : Bool := decide (0 ≤ lo ∧ lo ≤ hi ∧ hi ≤ 63)
def nOnes (h l : Nat) : Nat := (2 ^ (h - l + 1) - 1) * 2 ^ l
def nGet (x h l : Nat) : Nat := x / 2 ^ l % 2 ^ (h - l + 1)
def nPut (x h l v : Nat) : Nat := x / 2 ^ (h + 1) * 2 ^ (h + 1) + v * 2 ^ l + x % 2 ^ l
def fOnes (hi lo : Int) : Int := if fOk hi lo = true then ((nOnes hi.toNat lo.toNat : Nat) : Int) else 0
def fGet (x hi lo : Int) : Int := if fOk hi lo = true then ((nGet x.toNat hi.toNat lo.toNat : Nat) : Int) else 0
def fFits (v hi lo : Int) : Bool := fOk hi lo && decide (v < 2 ^ (hi.toNat - lo.toNat + 1))
def fPut (x hi lo v : Int) : Int := ((nPut x.toNat hi.toNat lo.toNat v.toNat : Nat) : Int)
def fSign (x hi : Int) : Int := if 0 ≤ hi ∧ hi ≤ 63 then x % 2 ^ hi.toNat - x / 2 ^ hi.toNat % 2 * 2 ^ hi.toNat else 0

theorem fOk_iff (hi lo : Int) : fOk hi lo = true ↔ 0 ≤ lo ∧ lo ≤ hi ∧ hi ≤ 63 := by simp [fOk]
theorem fOk_nat (h l : Nat) : fOk h l = true ↔ l ≤ h ∧ h ≤ 63 := by rw [fOk_iff]; omega

theorem pow_le64 {k : Nat} (h : k ≤ 64) : 2 ^ k ≤ 18446744073709551616 := by
  have := Nat.pow_le_pow_right (n := 2) (by omega) h
  simpa using this
theorem pow_pos2 (k : Nat) : 0 < 2 ^ k := Nat.two_pow_pos k

/-! ### bits -/
theorem ones_bit (h l i : Nat) (hlh : l ≤ h) : (nOnes h l).testBit i = decide (l ≤ i ∧ i ≤ h) := by
  unfold nOnes
  rw [Nat.testBit_mul_two_pow]
  by_cases hi : l ≤ i
  · simp only [hi, decide_true, Bool.true_and, Nat.testBit_two_pow_sub_one, true_and, decide_eq_decide]
    omega
  · simp [hi]
theorem get_bit (x h l i : Nat) : (nGet x h l).testBit i = (decide (i < h - l + 1) && x.testBit (l + i)) := by
  unfold nGet
  rw [Nat.testBit_mod_two_pow, Nat.testBit_div_two_pow, Nat.add_comm i l]
theorem get_lt (x h l : Nat) : nGet x h l < 2 ^ (h - l + 1) := Nat.mod_lt _ (pow_pos2 _)
theorem put_eq_or (x h l v : Nat) (hlh : l ≤ h) (hv : v < 2 ^ (h - l + 1)) :
    nPut x h l v = (x / 2 ^ (h + 1)) * 2 ^ (h + 1) ||| (v * 2 ^ l ||| x % 2 ^ l) := by
  have hx : x % 2 ^ l < 2 ^ l := Nat.mod_lt _ (pow_pos2 _)
  have h1 : v * 2 ^ l ||| x % 2 ^ l = v * 2 ^ l + x % 2 ^ l := by
    rw [← Nat.shiftLeft_eq, Nat.shiftLeft_add_eq_or_of_lt hx]
  have h2 : v * 2 ^ l + x % 2 ^ l < 2 ^ (h + 1) := by
    have e : 2 ^ (h + 1) = 2 ^ (h - l + 1) * 2 ^ l := by rw [← Nat.pow_add]; congr 1; omega
    rw [e]
    have : (v + 1) * 2 ^ l ≤ 2 ^ (h - l + 1) * 2 ^ l := Nat.mul_le_mul_right _ hv
    rw [Nat.add_mul] at this
    omega
  rw [h1, ← Nat.shiftLeft_eq (x / 2 ^ (h + 1)), ← Nat.shiftLeft_add_eq_or_of_lt h2, Nat.shiftLeft_eq]
  unfold nPut
  omega
theorem put_bit (x h l v i : Nat) (hlh : l ≤ h) (hv : v < 2 ^ (h - l + 1)) :
    (nPut x h l v).testBit i = if l ≤ i ∧ i ≤ h then v.testBit (i - l) else x.testBit i := by
  rw [put_eq_or x h l v hlh hv, Nat.testBit_or, Nat.testBit_or, Nat.testBit_mul_two_pow, Nat.testBit_mul_two_pow, Nat.testBit_div_two_pow, Nat.testBit_mod_two_pow]
  by_cases h1 : i < l
  · have : ¬ (h + 1 ≤ i) := by omega
    have : ¬ (l ≤ i) := by omega
    simp [*]
  · by_cases h2 : i ≤ h
    · have : ¬ (h + 1 ≤ i) := by omega
      have : l ≤ i := by omega
      simp [*]
    · have a : h + 1 ≤ i := by omega
      have b : l ≤ i := by omega
      have c : v.testBit (i - l) = false := Nat.testBit_lt_two_pow (Nat.lt_of_lt_of_le hv (Nat.pow_le_pow_right (by omega) (by omega)))
      have d : i - (h + 1) + (h + 1) = i := by omega
      simp [h1, h2, a, b, c, d]
theorem put_lt (x h l v : Nat) (hx : x < 18446744073709551616) (hlh : l ≤ h) (hh : h ≤ 63) (hv : v < 2 ^ (h - l + 1)) : nPut x h l v < 18446744073709551616 := by
  have : nPut x h l v < 2 ^ 64 := by
    apply Nat.lt_pow_two_of_testBit
    intro i hi
    rw [put_bit x h l v i hlh hv, if_neg (by omega)]
    exact Nat.testBit_lt_two_pow (Nat.lt_of_lt_of_le (show x < 2 ^ 64 by simpa using hx) (Nat.pow_le_pow_right (by omega) hi))
  simpa using this
theorem ones_lt (h l : Nat) (hlh : l ≤ h) (hh : h ≤ 63) : nOnes h l < 18446744073709551616 := by
  have : nOnes h l < 2 ^ 64 := by
    apply Nat.lt_pow_two_of_testBit
    intro i hi
    rw [ones_bit h l i hlh]
    simp; omega
  simpa using this
theorem get_lt64 (x h l : Nat) (hx : x < 18446744073709551616) : nGet x h l < 18446744073709551616 := by
  unfold nGet
  have h1 := Nat.mod_le (x / 2 ^ l) (2 ^ (h - l + 1))
  have h2 := Nat.div_le_self x (2 ^ l)
  omega

/-! ### what the program reckons -/
/-- '^uint64(0) >> (63-(hi-lo)) << lo' -/
theorem ones_prog (h l : Nat) (hlh : l ≤ h) (hh : h ≤ 63) : 18446744073709551615 / 2 ^ (63 - (h - l)) * 2 ^ l % 18446744073709551616 = nOnes h l := by
  have e : 18446744073709551615 / 2 ^ (63 - (h - l)) = 2 ^ (h - l + 1) - 1 := by
    have a : 18446744073709551616 = 2 ^ (h - l + 1) * 2 ^ (63 - (h - l)) := by
      rw [← Nat.pow_add, show h - l + 1 + (63 - (h - l)) = 64 by omega]
    have p := pow_pos2 (63 - (h - l))
    have q := pow_pos2 (h - l + 1)
    rw [Nat.div_eq_iff p]
    have b : (2 ^ (h - l + 1) - 1) * 2 ^ (63 - (h - l)) + 2 ^ (63 - (h - l)) = 18446744073709551616 := by
      rw [a, Nat.sub_mul, Nat.one_mul, Nat.sub_add_cancel]
      exact Nat.le_mul_of_pos_left _ q
    omega
  rw [e]
  exact Nat.mod_eq_of_lt (ones_lt h l hlh hh)
theorem ones_progI (h l : Nat) (hlh : l ≤ h) (hh : h ≤ 63) : IntKind.u64.wrap (18446744073709551615 / 2 ^ (63 - (h - l)) * 2 ^ l) = (nOnes h l : Int) := by
  rw [IntKind.wrap_u64, ← ones_prog h l hlh hh]
  simp only [Int.natCast_emod, Int.natCast_mul, Int.natCast_ediv, Int.natCast_pow, Int.cast_ofNat_Int]
/-- 'x & ones >> lo' -/
theorem get_prog (x h l : Nat) (hlh : l ≤ h) : (x &&& nOnes h l) / 2 ^ l = nGet x h l := by
  apply Nat.eq_of_testBit_eq
  intro i
  rw [Nat.testBit_div_two_pow, Nat.testBit_and, ones_bit h l _ hlh, get_bit, Nat.add_comm i l]
  rw [Bool.and_comm]
  congr 1
  rw [decide_eq_decide]; omega
/-- 'x &^ ones | v << lo' -/
theorem put_prog (x h l v : Nat) (hx : x < 18446744073709551616) (hlh : l ≤ h) (hh : h ≤ 63) (hv : v < 2 ^ (h - l + 1)) :
    (x &&& (18446744073709551615 - nOnes h l)) ||| v * 2 ^ l % 18446744073709551616 = nPut x h l v := by
  apply Nat.eq_of_testBit_eq
  intro i
  have ho := ones_lt h l hlh hh
  have e : 18446744073709551615 - nOnes h l = 2 ^ 64 - (nOnes h l + 1) := by
    rw [show (2 : Nat) ^ 64 = 18446744073709551616 by decide]; omega
  have hm : v * 2 ^ l % 18446744073709551616 = v * 2 ^ l := by
    apply Nat.mod_eq_of_lt
    have : v * 2 ^ l < 2 ^ (h - l + 1) * 2 ^ l := Nat.mul_lt_mul_of_pos_right hv (pow_pos2 l)
    rw [← Nat.pow_add] at this
    have := pow_le64 (k := h - l + 1 + l) (by omega)
    omega
  rw [hm, Nat.testBit_or, Nat.testBit_and, e, Nat.testBit_two_pow_sub_succ (by simpa using ho), ones_bit h l i hlh, Nat.testBit_mul_two_pow, put_bit x h l v i hlh hv]
  have hb : 64 ≤ i → x.testBit i = false := fun hi => Nat.testBit_lt_two_pow (Nat.lt_of_lt_of_le (show x < 2 ^ 64 by simpa using hx) (Nat.pow_le_pow_right (by omega) hi))
  have hz : h < i → v.testBit (i - l) = false := fun hi => Nat.testBit_lt_two_pow (Nat.lt_of_lt_of_le hv (Nat.pow_le_pow_right (by omega) (by omega)))
  by_cases h1 : l ≤ i
  · by_cases h2 : i ≤ h
    · simp [h1, h2]
    · rw [hz (by omega)]
      by_cases h3 : i < 64
      · simp [h2, h3]
      · rw [hb (by omega)]; simp
  · by_cases h3 : i < 64
    · simp [h1, h3]
    · omega
/-- 'v<<lo>>lo == v && v<<lo&^ones == 0' -/
theorem fits_prog (h l v : Nat) (hlh : l ≤ h) (hh : h ≤ 63) :
    (v * 2 ^ l % 18446744073709551616 / 2 ^ l = v ∧ (v * 2 ^ l % 18446744073709551616) &&& (18446744073709551615 - nOnes h l) = 0) ↔ v < 2 ^ (h - l + 1) := by
  have ho := ones_lt h l hlh hh
  have e : 18446744073709551615 - nOnes h l = 2 ^ 64 - (nOnes h l + 1) := by
    rw [show (2 : Nat) ^ 64 = 18446744073709551616 by decide]; omega
  have hp := pow_pos2 l
  constructor
  · rintro ⟨h1, h2⟩
    have hlt : v * 2 ^ l % 18446744073709551616 < 18446744073709551616 := Nat.mod_lt _ (by omega)
    have h3 : v * 2 ^ l < 18446744073709551616 := by
      have := Nat.div_mul_le_self (v * 2 ^ l % 18446744073709551616) (2 ^ l)
      rw [h1] at this
      omega
    rw [Nat.mod_eq_of_lt h3] at h2
    apply Nat.lt_pow_two_of_testBit
    intro i hi
    have h4 : (v * 2 ^ l).testBit (i + l) = v.testBit i := by
      rw [Nat.testBit_mul_two_pow]; simp
    rw [← h4]
    by_cases hi2 : i + l < 64
    · have h5 : ((v * 2 ^ l) &&& (18446744073709551615 - nOnes h l)).testBit (i + l) = false := by rw [h2]; simp
      rw [Nat.testBit_and, e, Nat.testBit_two_pow_sub_succ (by simpa using ho), ones_bit h l _ hlh] at h5
      have h6 : decide (l ≤ i + l ∧ i + l ≤ h) = false := by simp; omega
      rw [h6] at h5
      simpa [hi2] using h5
    · exact Nat.testBit_lt_two_pow (Nat.lt_of_lt_of_le (show v * 2 ^ l < 2 ^ 64 by simpa using h3) (Nat.pow_le_pow_right (by omega) (by omega)))
  · intro h1
    have h3 : v * 2 ^ l < 18446744073709551616 := by
      have : v * 2 ^ l < 2 ^ (h - l + 1) * 2 ^ l := Nat.mul_lt_mul_of_pos_right h1 (pow_pos2 l)
      rw [← Nat.pow_add] at this
      have := pow_le64 (k := h - l + 1 + l) (by omega)
      omega
    rw [Nat.mod_eq_of_lt h3]
    refine ⟨Nat.mul_div_cancel _ hp, ?_⟩
    apply Nat.eq_of_testBit_eq
    intro i
    rw [Nat.testBit_and, e, Nat.testBit_two_pow_sub_succ (by simpa using ho), ones_bit h l _ hlh, Nat.testBit_mul_two_pow, Nat.zero_testBit]
    by_cases h4 : l ≤ i
    · by_cases h5 : i ≤ h
      · simp [h4, h5]
      · have : v.testBit (i - l) = false := Nat.testBit_lt_two_pow (Nat.lt_of_lt_of_le h1 (Nat.pow_le_pow_right (by omega) (by omega)))
        simp [this]
    · simp [h4]
/-- 'int64(x<<rest) >> rest' -/
theorem sign_prog (x h : Nat) (hh : h ≤ 63) :
    ((IntKind.u64.wrap ((x : Int) * 2 ^ (63 - h)) + 9223372036854775808) % 18446744073709551616 - 9223372036854775808) / 2 ^ (63 - h) = fSign x h := by
  unfold fSign
  rw [if_pos (by omega), IntKind.wrap_u64, Int.toNat_natCast]
  have e1 : (18446744073709551616 : Nat) = 2 ^ (h + 1) * 2 ^ (63 - h) := by rw [← Nat.pow_add, show h + 1 + (63 - h) = 64 by omega]
  have e2 : (x : Int) * 2 ^ (63 - h) % 18446744073709551616 = ((x % 2 ^ (h + 1) * 2 ^ (63 - h) : Nat) : Int) := by
    have : x * 2 ^ (63 - h) % 18446744073709551616 = x % 2 ^ (h + 1) * 2 ^ (63 - h) := by rw [e1, Nat.mul_mod_mul_right]
    rw [← this]
    simp only [Int.natCast_emod, Int.natCast_mul, Int.natCast_pow, Int.cast_ofNat_Int]
  rw [e2]
  have hm : x % 2 ^ (h + 1) = x % 2 ^ h + 2 ^ h * (x / 2 ^ h % 2) := Nat.mod_pow_succ
  have hr : x % 2 ^ h < 2 ^ h := Nat.mod_lt _ (pow_pos2 _)
  have hb : x / 2 ^ h % 2 < 2 := Nat.mod_lt _ (by omega)
  have e3 : (2 : Nat) ^ h * 2 ^ (63 - h) = 9223372036854775808 := by rw [← Nat.pow_add, show h + (63 - h) = 63 by omega]
  have e4 : (x : Int) % 2 ^ h - (x : Int) / 2 ^ h % 2 * 2 ^ h = ((x % 2 ^ h : Nat) : Int) - ((x / 2 ^ h % 2 : Nat) : Int) * ((2 ^ h : Nat) : Int) := by
    simp only [Int.natCast_emod, Int.natCast_ediv, Int.natCast_pow, Int.cast_ofNat_Int]
  have hq : (2 : Int) ^ (63 - h) = ((2 ^ (63 - h) : Nat) : Int) := by simp only [Int.natCast_pow, Int.cast_ofNat_Int]
  rw [e4, hm, hq]
  have qp := pow_pos2 (63 - h)
  generalize x / 2 ^ h % 2 = b at *
  generalize x % 2 ^ h = r at *
  generalize 2 ^ h = p at *
  generalize 2 ^ (63 - h) = q at *
  have hb2 : b = 0 ∨ b = 1 := by omega
  have hrq : r * q + q ≤ 9223372036854775808 := by
    rw [← e3, ← Nat.succ_mul]; exact Nat.mul_le_mul_right _ hr
  rcases hb2 with rfl | rfl
  · have a : (((r + p * 0) * q : Nat) : Int) + 9223372036854775808 = (r * q : Nat) + 9223372036854775808 := by simp
    rw [a]
    have : (((r * q : Nat) : Int) + 9223372036854775808) % 18446744073709551616 = (r * q : Nat) + 9223372036854775808 := by omega
    rw [this, show ((r * q : Nat) : Int) + 9223372036854775808 - 9223372036854775808 = (r * q : Nat) by omega]
    rw [Int.natCast_mul, Int.mul_ediv_cancel _ (by omega)]
    simp
  · have a : (((r + p * 1) * q : Nat) : Int) + 9223372036854775808 = (r * q : Nat) + 18446744073709551616 := by
      rw [Nat.mul_one, Nat.add_mul, e3]; omega
    rw [a]
    have : (((r * q : Nat) : Int) + 18446744073709551616) % 18446744073709551616 = (r * q : Nat) := by omega
    rw [this]
    have e5 : ((r * q : Nat) : Int) - 9223372036854775808 = ((r : Int) - p) * q := by
      rw [Int.sub_mul, ← Int.natCast_mul, ← Int.natCast_mul, e3]; rfl
    rw [e5, Int.mul_ediv_cancel _ (by omega)]
    simp

/-! ### the steps of the reference's loops -/
theorem join_bit (v b : Nat) (hb : b < 2) : (v * 2 ||| b) = 2 * v + b := by
  have := nat_join 1 (v * 2) b (by omega) (by omega)
  omega
theorem get_step (x h j : Nat) : x / 2 ^ (h - j) % 2 ^ (j + 1) = 2 * (x / 2 ^ (h - j + 1) % 2 ^ j) + x / 2 ^ (h - j) % 2 := by
  rw [Nat.pow_succ 2 j, Nat.mul_comm (2 ^ j) 2, Nat.mod_mul, Nat.pow_succ 2 (h - j), Nat.div_div_eq_div_mul]
  omega
theorem shr_step (y k : Nat) : y / 2 ^ k = 2 * (y / 2 ^ (k + 1)) + y / 2 ^ k % 2 := by
  rw [Nat.pow_succ, ← Nat.div_div_eq_div_mul]; omega
theorem ones_step (l k : Nat) (hk : l ≤ k) : (2 ^ (k - l) - 1) * 2 ^ l ||| 2 ^ k = (2 ^ (k + 1 - l) - 1) * 2 ^ l := by
  apply Nat.eq_of_testBit_eq
  intro i
  rw [Nat.testBit_or, Nat.testBit_mul_two_pow, Nat.testBit_mul_two_pow, Nat.testBit_two_pow_sub_one, Nat.testBit_two_pow_sub_one, Nat.testBit_two_pow]
  by_cases h1 : l ≤ i
  · rw [Bool.eq_iff_iff]; simp [h1]; omega
  · have : ¬ k = i := by omega
    simp [h1, this]
theorem bit_of (x i : Nat) : x / 2 ^ i % 2 = (x.testBit i).toNat := by
  rw [Nat.testBit_eq_decide_div_mod_eq]
  have := Nat.mod_lt (x / 2 ^ i) (show 0 < 2 by omega)
  by_cases h : x / 2 ^ i % 2 = 1
  · simp [h]
  · have : x / 2 ^ i % 2 = 0 := by omega
    simp [this]
theorem put_step (x h l v k : Nat) (hlh : l ≤ h) (hv : v < 2 ^ (h - l + 1)) :
    nPut x h l v / 2 ^ k = 2 * (nPut x h l v / 2 ^ (k + 1)) + (if l ≤ k ∧ k ≤ h then v / 2 ^ (k - l) % 2 else x / 2 ^ k % 2) := by
  rw [shr_step (nPut x h l v) k, bit_of, put_bit x h l v k hlh hv]
  split <;> rw [bit_of]
theorem lt_of_bits (v n : Nat) (hv : v < 18446744073709551616) (h : ∀ j, n ≤ j → j < 64 → v / 2 ^ j % 2 ≠ 1) : v < 2 ^ n := by
  apply Nat.lt_pow_two_of_testBit
  intro i hi
  by_cases h1 : i < 64
  · rw [Nat.testBit_eq_decide_div_mod_eq]; simpa using h i hi h1
  · exact Nat.testBit_lt_two_pow (Nat.lt_of_lt_of_le (show v < 2 ^ 64 by simpa using hv) (Nat.pow_le_pow_right (by omega) (by omega)))
theorem bits_of_lt (v n j : Nat) (h : v < 2 ^ n) (hj : n ≤ j) : v / 2 ^ j % 2 = 0 := by
  have : v < 2 ^ j := Nat.lt_of_lt_of_le h (Nat.pow_le_pow_right (by omega) hj)
  rw [Nat.div_eq_of_lt this]
end
section
set_option linter.unusedVariables false
section
variable {α : Type} (may : α → Bool) (pl : α → Int × Int × Int)
/-- None of the first j has the place q. -/
def NoB (xs : List α) (q : Int × Int × Int) (j : Nat) : Prop := ∀ (i : Nat) (y : α), i < j → xs[i]? = some y → pl y ≠ q
/-- The first j may be. -/
def OkB (xs : List α) (j : Nat) : Prop := ∀ (i : Nat) (x : α), i < j → xs[i]? = some x → may x = true ∧ NoB pl xs (pl x) i
/-- The row may be. -/
def Ck (mx : Nat) (xs : List α) : Prop := xs.length ≤ mx ∧ OkB may pl xs xs.length
open Classical in
noncomputable def ckE (mx : Nat) (xs : List α) : Int := if Ck may pl mx xs then 0 else 2
/-- Where the entry of a place stands. -/
def fdx (xs : List α) (q : Int × Int × Int) : Option Nat := xs.findIdx? (fun y => decide (pl y = q))
def fdV (xs : List α) (q : Int × Int × Int) : Int := match fdx pl xs q with | some i => (i : Int) | none => -1
open Classical in
noncomputable def filL (mx : Nat) (xs : List α) (e : α) : List α :=
  if Ck may pl mx xs ∧ may e = true then (match fdx pl xs (pl e) with | some n => xs.set n e | none => (if xs.length = mx then xs.drop 1 else xs) ++ [e]) else []
open Classical in
noncomputable def filE (mx : Nat) (xs : List α) (e : α) : Int := if Ck may pl mx xs ∧ may e = true then 0 else 2
open Classical in
noncomputable def witL (mx : Nat) (xs : List α) (k : Int) : List α := if Ck may pl mx xs ∧ 0 ≤ k ∧ k < xs.length then xs.take k.toNat ++ xs.drop (k.toNat + 1) else []
open Classical in
noncomputable def witE (mx : Nat) (xs : List α) (k : Int) : Int := if Ck may pl mx xs then (if 0 ≤ k ∧ k < xs.length then 0 else 4) else 2
open Classical in
noncomputable def drpL (mx : Nat) (xs : List α) (hit : α → Bool) : List α := if Ck may pl mx xs then xs.filter (fun y => !hit y) else []
variable {may} {pl}
theorem NoB.zero (xs : List α) (q : Int × Int × Int) : NoB pl xs q 0 := fun i y hi => by omega
theorem NoB.succ {xs : List α} {q : Int × Int × Int} {j : Nat} {x : α} (h : NoB pl xs q j) (hx : xs[j]? = some x) (hn : pl x ≠ q) : NoB pl xs q (j + 1) := fun i y hi hy => by
  by_cases e : i = j
  · subst e
    rw [hx] at hy
    injection hy with hy
    subst hy
    exact hn
  · exact h i y (by omega) hy
theorem fd_hit {xs : List α} {q : Int × Int × Int} {j : Nat} {x : α} (h : NoB pl xs q j) (hx : xs[j]? = some x) (he : pl x = q) : fdx pl xs q = some j := by
  obtain ⟨hj, rfl⟩ := List.getElem?_eq_some_iff.1 hx
  unfold fdx
  rw [List.findIdx?_eq_some_iff_getElem]
  refine ⟨hj, by simpa using he, fun i hi => ?_⟩
  have := h i xs[i] hi (List.getElem?_eq_getElem (by omega))
  simpa using this
theorem fd_no {xs : List α} {q : Int × Int × Int} {j : Nat} (h : NoB pl xs q j) (hj : xs.length ≤ j) : fdx pl xs q = none := by
  unfold fdx
  rw [List.findIdx?_eq_none_iff]
  intro x hx
  obtain ⟨i, hi, rfl⟩ := List.getElem_of_mem hx
  have := h i xs[i] (by omega) (List.getElem?_eq_getElem hi)
  simpa using this
theorem fd_some {xs : List α} {q : Int × Int × Int} {j : Nat} (h : fdx pl xs q = some j) : ∃ x, xs[j]? = some x ∧ pl x = q ∧ NoB pl xs q j := by
  unfold fdx at h
  rw [List.findIdx?_eq_some_iff_getElem] at h
  obtain ⟨hj, he, hn⟩ := h
  refine ⟨xs[j], List.getElem?_eq_getElem hj, by simpa using he, fun i y hi hy => ?_⟩
  obtain ⟨hi', rfl⟩ := List.getElem?_eq_some_iff.1 hy
  have := hn i hi
  simpa using this
theorem fd_none {xs : List α} {q : Int × Int × Int} (h : fdx pl xs q = none) (j : Nat) : NoB pl xs q j := by
  intro i y hi hy
  unfold fdx at h
  rw [List.findIdx?_eq_none_iff] at h
  have := h y (List.mem_of_getElem? hy)
  simpa using this
theorem fv_hit {xs : List α} {q : Int × Int × Int} {j : Nat} {x : α} (h : NoB pl xs q j) (hx : xs[j]? = some x) (he : pl x = q) : fdV pl xs q = j := by unfold fdV; rw [fd_hit h hx he]
theorem fv_no {xs : List α} {q : Int × Int × Int} {j : Nat} (h : NoB pl xs q j) (hj : xs.length ≤ j) : fdV pl xs q = -1 := by unfold fdV; rw [fd_no h hj]
theorem fv_cases (xs : List α) (q : Int × Int × Int) : (∃ j : Nat, fdx pl xs q = some j ∧ fdV pl xs q = j ∧ j < xs.length) ∨ (fdx pl xs q = none ∧ fdV pl xs q = -1) := by
  unfold fdV
  cases h : fdx pl xs q with
  | none => exact Or.inr ⟨rfl, rfl⟩
  | some j =>
    obtain ⟨x, hx, -, -⟩ := fd_some h
    exact Or.inl ⟨j, rfl, rfl, (List.getElem?_eq_some_iff.1 hx).1⟩
theorem OkB.zero (xs : List α) : OkB may pl xs 0 := fun i x hi => by omega
theorem NoB.take {xs : List α} {q : Int × Int × Int} {j : Nat} (h : fdV pl (xs.take j) q = -1) : NoB pl xs q j := by
  rcases fv_cases (pl := pl) (xs.take j) q with ⟨i, -, h2, -⟩ | ⟨h1, -⟩
  · rw [h] at h2; omega
  · intro i y hi hy
    exact fd_none h1 (i + 1) i y (by omega) (by rw [List.getElem?_take_of_lt hi]; exact hy)
theorem NoB.not_take {xs : List α} {q : Int × Int × Int} {j : Nat} (h : 0 ≤ fdV pl (xs.take j) q) : ¬ NoB pl xs q j := fun hn => by
  rcases fv_cases (pl := pl) (xs.take j) q with ⟨i, h1, h2, h3⟩ | ⟨-, h2⟩
  · obtain ⟨x, hx, he, -⟩ := fd_some h1
    have hl : i < j := by rw [List.length_take] at h3; omega
    rw [List.getElem?_take_of_lt hl] at hx
    exact hn i x hl hx he
  · omega
theorem OkB.succ {xs : List α} {j : Nat} {x : α} (h : OkB may pl xs j) (hx : xs[j]? = some x) (h1 : may x = true) (h2 : NoB pl xs (pl x) j) : OkB may pl xs (j + 1) := fun i y hi hy => by
  by_cases e : i = j
  · subst e
    rw [hx] at hy
    injection hy with hy
    subst hy
    exact ⟨h1, h2⟩
  · exact h i y (by omega) hy
theorem ck_yes {mx : Nat} {xs : List α} (h : Ck may pl mx xs) : ckE may pl mx xs = 0 := if_pos h
theorem ck_no {mx : Nat} {xs : List α} (h : ¬ Ck may pl mx xs) : ckE may pl mx xs = 2 := if_neg h
theorem ck_done {mx : Nat} {xs : List α} {j : Nat} (h : OkB may pl xs j) (hj : xs.length ≤ j) (hl : xs.length ≤ mx) : ckE may pl mx xs = 0 := ck_yes ⟨hl, fun i x hi hx => h i x (by omega) hx⟩
theorem ck_long {mx : Nat} {xs : List α} (h : mx < xs.length) : ckE may pl mx xs = 2 := ck_no (fun hc => by have := hc.1; omega)
theorem ck_may {mx : Nat} {xs : List α} {j : Nat} {x : α} (hx : xs[j]? = some x) (h : may x = false) : ckE may pl mx xs = 2 := ck_no (fun hc => by
  have := (hc.2 j x (List.getElem?_eq_some_iff.1 hx).1 hx).1
  rw [h] at this
  exact Bool.noConfusion this)
theorem ck_twice {mx : Nat} {xs : List α} {j : Nat} {x : α} (hx : xs[j]? = some x) (h : ¬ NoB pl xs (pl x) j) : ckE may pl mx xs = 2 := ck_no (fun hc => h (hc.2 j x (List.getElem?_eq_some_iff.1 hx).1 hx).2)
theorem ckE_cases (may : α → Bool) (pl : α → Int × Int × Int) (mx : Nat) (xs : List α) : (Ck may pl mx xs ∧ ckE may pl mx xs = 0) ∨ (¬ Ck may pl mx xs ∧ ckE may pl mx xs = 2) := by
  by_cases h : Ck may pl mx xs
  · exact Or.inl ⟨h, ck_yes h⟩
  · exact Or.inr ⟨h, ck_no h⟩
end
end
end Go.Proofs.YtgdkkhdhomehdaaDoor
