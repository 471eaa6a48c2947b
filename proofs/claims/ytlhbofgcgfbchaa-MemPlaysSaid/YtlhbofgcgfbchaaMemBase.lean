/-
  A memory (package mem) in the world: its struct's block, its map's block, the blocks of its frames' words; and what keeps it.
-/
import Derived.Test.YtlhbofgcgfbchaaCommon
import Derived.Test.YtlhbofgcgfbchaaArr
import Derived.Maps.OwnSet
import Derived.Deep.MidRow
namespace Go.Proofs.Ytlhbofgcgfbchaa
open Go.RowKit Go.Maps
set_option linter.unusedVariables false
set_option linter.unusedSimpArgs false

/-- Outside the blocks of F, w' is as w was. -/
structure Keeps (F : Nat → Prop) (w w' : World) : Prop where
  os : w'.os = w.os
  tape : w'.tape = w.tape
  output : w'.output = w.output
  size : w.heap.size ≤ w'.heap.size
  block : ∀ k, k < w.heap.size → ¬ F k → w'.heap[k]? = w.heap[k]?
theorem Keeps.refl (F : Nat → Prop) (w : World) : Keeps F w w := ⟨rfl, rfl, rfl, Nat.le_refl _, fun _ _ _ => rfl⟩
theorem Keeps.trans {F G : Nat → Prop} {a b c : World} (h : Keeps F a b) (k : Keeps G b c) (hG : ∀ x, G x → F x ∨ a.heap.size ≤ x) : Keeps F a c :=
  ⟨k.os.trans h.os, k.tape.trans h.tape, k.output.trans h.output, Nat.le_trans h.size k.size, fun i hi hn =>
    (k.block i (Nat.lt_of_lt_of_le hi h.size) (fun hg => (hG i hg).elim hn (fun hle => by omega))).trans (h.block i hi hn)⟩
theorem Keeps.of_below {F : Nat → Prop} {w w' : World} (h : Below w.heap.size w w') : Keeps F w w' := ⟨h.os, h.tape, h.output, h.size, fun k hk _ => h.block k hk⟩
theorem Keeps.mono {F G : Nat → Prop} {w w' : World} (h : Keeps F w w') (hFG : ∀ x, F x → G x) : Keeps G w w' := ⟨h.os, h.tape, h.output, h.size, fun k hk hn => h.block k hk (fun hf => hn (hFG k hf))⟩
theorem Keeps.below {F : Nat → Prop} {w0 w w' : World} (h : Keeps F w w') (h0 : Below w0.heap.size w0 w) (hF : ∀ x, F x → w0.heap.size ≤ x) : Below w0.heap.size w0 w' :=
  ⟨h.os.trans h0.os, h.tape.trans h0.tape, h.output.trans h0.output, Nat.le_trans h0.size h.size, fun k hk => (h.block k (Nat.lt_of_lt_of_le hk h0.size) (fun hf => by have := hF k hf; omega)).trans (h0.block k hk)⟩
theorem Keeps.alloc {F : Nat → Prop} {a w : World} (h : Keeps F a w) (o : Obj) : Keeps F a (w.alloc o) :=
  h.trans (Keeps.of_below (F := fun _ => False) (ba (Below.refl _ _) o)) (fun _ hf => hf.elim)
theorem Keeps.drew {F : Nat → Prop} {a w : World} (h : Keeps F a w) : Keeps F a w.drew := ⟨h.os, h.tape, h.output, h.size, h.block⟩
theorem Keeps.cell {F : Nat → Prop} {w w' : World} (h : Keeps F w w') {b : Nat} (hb : b < w.heap.size) (hF : ¬ F b) (o : Nat) : w'.cell? ⟨b, o, none⟩ = w.cell? ⟨b, o, none⟩ :=
  World.cell?_of_block (h.block b hb hF)
theorem Keeps.setCell {F : Nat → Prop} {w : World} {p : Addr} (hp : F p.block) (u : Value) : Keeps F w (w.setCell p u) :=
  ⟨rfl, rfl, rfl, by simp, fun k _ hn => RowKit.Below.heap_setCell _ _ _ _ (fun e => hn (by rw [e]; exact hp))⟩
theorem Keeps.grown {F : Nat → Prop} {w w' : World} {b : Nat} (h : w.grownBy w' (some b)) (hb : F b) : Keeps F w w' :=
  ⟨h.os, h.tape, h.output, h.size, fun k hk hn => h.block k hk (fun e => hn (by injection e with e; rw [e]; exact hb))⟩

/-- Block g is just the cells cs of type t, none of them frozen. -/
def Bk (w : World) (g : Nat) (t : TypeId) (cs : Array Value) : Prop := w.heap[g]? = some (.cells cs t (0, 0))
section
variable {w w' : World} {g : Nat} {t : TypeId} {cs : Array Value}
theorem Bk.lt (h : Bk w g t cs) : g < w.heap.size := (Array.getElem?_eq_some_iff.1 h).1
theorem Bk.cell (h : Bk w g t cs) (i : Nat) : w.cell? ⟨g, i, none⟩ = cs[i]? := cell_of_row w g i cs t (0, 0) h
theorem Bk.frozen (h : Bk w g t cs) (i : Nat) : w.frozen? ⟨g, i, none⟩ = false := frozen_of_row w g i cs t h
theorem Bk.new (w : World) (t : TypeId) (cs : Array Value) : Bk (w.alloc (.cells cs t)) w.heap.size t cs := heap_alloc_new w _
theorem Bk.keep {F : Nat → Prop} (h : Bk w g t cs) (hk : Keeps F w w') (hg : ¬ F g) : Bk w' g t cs := (hk.block g h.lt hg).trans h
theorem Bk.call (h : Bk w g t cs) (hb : Below w.heap.size w w') : Bk w' g t cs := (hb.block g h.lt).trans h
theorem Bk.set (h : Bk w g t cs) (i : Nat) (u : Value) : Bk (w.setCell ⟨g, i, none⟩ u) g t (cs.setIfInBounds i u) := heap_setCell_same w g i cs t u h
end

/-- A frame's words as cells. -/
def rowOf (g : Nat → Int) : Array Value := Array.ofFn (n := 512) fun i => Value.int .u64 (g i)
theorem rowOf_size (g : Nat → Int) : (rowOf g).size = 512 := by simp [rowOf]
theorem rowOf_at (g : Nat → Int) (i : Nat) (hi : i < 512) : (rowOf g)[i]? = some (.int .u64 (g i)) := by simp [rowOf, hi]
def upd (g : Nat → Int) (i : Nat) (v : Int) : Nat → Int := fun j => if j = i then v else g j
def upd2 (c : Nat → Nat → Int) (f i : Nat) (v : Int) : Nat → Nat → Int := fun k => if k = f then upd (c f) i v else c k
theorem upd_same (g : Nat → Int) (i : Nat) (v : Int) : upd g i v i = v := by simp [upd]
theorem upd_other (g : Nat → Int) {i j : Nat} (v : Int) (h : j ≠ i) : upd g i v j = g j := by simp [upd, h]
theorem rowOf_set (g : Nat → Int) (i : Nat) (v : Int) : (rowOf g).setIfInBounds i (.int .u64 v) = rowOf (upd g i v) := by
  apply Array.ext_getElem?
  intro j
  rw [Array.getElem?_setIfInBounds]
  by_cases hj : j < 512
  · rw [rowOf_at _ _ hj, rowOf_at _ _ hj, rowOf_size]
    by_cases e : i = j
    · subst e; simp [hj, upd]
    · rw [if_neg e, upd_other _ _ (fun h => e h.symm)]
  · have h1 : (rowOf g)[j]? = none := Array.getElem?_eq_none (by rw [rowOf_size]; omega)
    have h2 : (rowOf (upd g i v))[j]? = none := Array.getElem?_eq_none (by rw [rowOf_size]; omega)
    rw [h1, h2, rowOf_size]
    split
    · split
      · omega
      · rfl
    · rfl
theorem rowOf_congr {g h : Nat → Int} (e : ∀ i, i < 512 → g i = h i) : rowOf g = rowOf h := by
  apply Array.ext_getElem?
  intro j
  by_cases hj : j < 512
  · rw [rowOf_at _ _ hj, rowOf_at _ _ hj, e j hj]
  · rw [Array.getElem?_eq_none (by rw [rowOf_size]; omega), Array.getElem?_eq_none (by rw [rowOf_size]; omega)]
/-- How a pointer to a frame's words reads: by its block's number. -/
def ptrElem : Value → Option (DataW Unit × List MemPlace)
  | .pointer none => some (.lit (.int .i64 (-1)), [])
  | .pointer (some a) => if a = ⟨a.block, 0, none⟩ then some (.lit (.int .i64 a.block), []) else none
  | _ => none
theorem ptrElem_mk (b : Nat) : ptrElem (.pointer (some ⟨b, 0, none⟩)) = some (.lit (.int .i64 b), []) := by simp [ptrElem]
theorem ptrElem_inv {v : Value} {b : Nat} {ps : List MemPlace} (h : ptrElem v = some (.lit (.int .i64 b), ps)) : v = .pointer (some ⟨b, 0, none⟩) := by
  unfold ptrElem at h
  split at h
  · simp at h
  · split at h
    · rename_i a e
      simp at h
      rw [e, show a.block = b by omega]
    · cases h
  · cases h
/-- The key of a frame. -/
def fk (f : Nat) : Lit := .int .i64 f
theorem fk_ne {f g : Nat} (h : f ≠ g) : fk f ≠ fk g := by
  intro e
  unfold fk at e
  injection e with _ e
  omega
/-- A memory of n frames lies in w: struct at block p, map at block m; frame f's words are c f; F has all its blocks; at most k entries. -/
structure Mm (w : World) (p n : Nat) (c : Nat → Nat → Int) (F : Nat → Prop) (k : Nat) (m : Nat) (D : DataW Unit) : Prop where
  str : Bk w p 70 #[.int .i64 n, .map (some m)]
  map : w.ownsMap Try.prog 3 ptrElem m k D
  pF : F p
  mF : F m
  lt : ∀ b, F b → b < w.heap.size
  row : ∀ f, (Maps.has D (fk f) = false ∧ ∀ i, i < 512 → c f i = 0) ∨ (∃ b : Nat, Maps.has D (fk f) = true ∧ (∀ z, D.atKey (fk f) z = .lit (.int .i64 b)) ∧ Bk w b 83 (rowOf (c f)) ∧ F b)
  inj : ∀ f g (b : Nat), (∀ z, D.atKey (fk f) z = .lit (.int .i64 b)) → (∀ z, D.atKey (fk g) z = .lit (.int .i64 b)) → f = g
  keys : ∀ l, Maps.has D l = true → ∃ f : Nat, f < 64 ∧ l = fk f
theorem Mm.keep {w w' : World} {p n k m : Nat} {c : Nat → Nat → Int} {F G : Nat → Prop} {D : DataW Unit} (h : Mm w p n c F k m D) (hk : Keeps G w w') (hFG : ∀ b, F b → ¬ G b) : Mm w' p n c F k m D where
  str := h.str.keep hk (hFG _ h.pF)
  map := by
    obtain ⟨es, clock, hb, r⟩ := h.map
    exact ⟨es, clock, (hk.block m (h.lt m h.mF) (hFG _ h.mF)).trans hb, r⟩
  pF := h.pF
  mF := h.mF
  lt := fun b hb => Nat.lt_of_lt_of_le (h.lt b hb) hk.size
  row := fun f => (h.row f).imp id fun ⟨b, h1, h2, h3, h4⟩ => ⟨b, h1, h2, h3.keep hk (hFG _ h4), h4⟩
  inj := h.inj
  keys := h.keys
theorem Mm.call {w w' : World} {p n k m : Nat} {c : Nat → Nat → Int} {F : Nat → Prop} {D : DataW Unit} (h : Mm w p n c F k m D) (hb : Below w.heap.size w w') : Mm w' p n c F k m D :=
  h.keep (Keeps.of_below (F := fun _ => False) hb) (fun _ _ hf => hf)
theorem Mm.alloc {w : World} {p n k m : Nat} {c : Nat → Nat → Int} {F : Nat → Prop} {D : DataW Unit} (h : Mm w p n c F k m D) (o : Obj) : Mm (w.alloc o) p n c F k m D := h.call (ba (Below.refl _ _) o)
theorem Mm.drew {w : World} {p n k m : Nat} {c : Nat → Nat → Int} {F : Nat → Prop} {D : DataW Unit} (h : Mm w p n c F k m D) : Mm w.drew p n c F k m D := h.call (bd (Below.refl _ _))
theorem Mm.str_lt {w : World} {p n k m : Nat} {c : Nat → Nat → Int} {F : Nat → Prop} {D : DataW Unit} (h : Mm w p n c F k m D) : p < w.heap.size := h.str.lt
theorem Mm.ne {w : World} {p n k m : Nat} {c : Nat → Nat → Int} {F : Nat → Prop} {D : DataW Unit} (h : Mm w p n c F k m D) : p ≠ m := by
  intro e
  obtain ⟨es, clock, hb, _⟩ := h.map
  have hs := h.str
  unfold Bk at hs
  rw [e, hb] at hs
  cases hs
theorem bk_ne {w : World} {p b : Nat} {t u : TypeId} {cs ds : Array Value} (h : Bk w p t cs) (h' : Bk w b u ds) (hne : t ≠ u) : p ≠ b := by
  rintro rfl
  unfold Bk at h h'
  rw [h] at h'
  injection h' with h'
  injection h' with _ e
  exact hne e
theorem bk_map_ne {w : World} {b m k : Nat} {t : TypeId} {cs : Array Value} {D : DataW Unit} (h : Bk w b t cs) (hm : w.ownsMap Try.prog 3 ptrElem m k D) : b ≠ m := by
  rintro rfl
  obtain ⟨es, clock, hb, _⟩ := hm
  unfold Bk at h
  rw [hb] at h
  cases h
theorem keyLit (f : Nat) (hf : f < 1000) : keyOf Try.prog 3 (.int .i64 f) = some (fk f) := keyOf_int_mk Try.underlying3 (WalkArith.wf_i64 (by omega))
theorem isKey (f : Nat) : WideAt.IsKeyLit (fk f) := by trivial
theorem keyed : Keyed Try.prog 3 := int_keyed Try.underlying3
end Go.Proofs.Ytlhbofgcgfbchaa
