/-
  What keeps all but some blocks; a block that is known whole.
-/
import Derived.Test.YtappjiljmpgjcaaDoorCommon
import Derived.Test.YtappjiljmpgjcaaDoorArr
import Derived.Deep.MidRow
import Derived.Laws.Tables
import Derived.Laws.CopyOwn
namespace Go.Proofs.YtappjiljmpgjcaaDoor
open Go.RowKit
set_option linter.unusedVariables false
set_option linter.unusedSimpArgs false

/-- Outside the blocks of F, w' is as w was. -/
structure Keeps (F : Nat → Prop) (w w' : World) : Prop where
  os : w'.os = w.os
  tape : w'.tape = w.tape
  output : w'.output = w.output
  size : w.heap.size ≤ w'.heap.size
  block : ∀ k, k < w.heap.size → ¬ F k → w'.heap[k]? = w.heap[k]?
theorem Keeps.refl (F : Nat → Prop) (w : World) : Keeps F w w := ⟨rfl, rfl, rfl, Nat.le_refl _, fun _ _ _ => rfl⟩
theorem Keeps.trans {F G : Nat → Prop} {a b c : World} (h : Keeps F a b) (k : Keeps G b c) (hG : ∀ x, G x → F x ∨ a.heap.size ≤ x) : Keeps F a c :=
  ⟨k.os.trans h.os, k.tape.trans h.tape, k.output.trans h.output, Nat.le_trans h.size k.size, fun i hi hn =>
    (k.block i (Nat.lt_of_lt_of_le hi h.size) (fun hg => (hG i hg).elim hn (fun hle => by omega))).trans (h.block i hi hn)⟩
theorem Keeps.of_below {F : Nat → Prop} {w w' : World} (h : Below w.heap.size w w') : Keeps F w w' := ⟨h.os, h.tape, h.output, h.size, fun k hk _ => h.block k hk⟩
theorem Keeps.mono {F G : Nat → Prop} {w w' : World} (h : Keeps F w w') (hFG : ∀ x, F x → G x) : Keeps G w w' := ⟨h.os, h.tape, h.output, h.size, fun k hk hn => h.block k hk (fun hf => hn (hFG k hf))⟩
theorem Keeps.below {F : Nat → Prop} {w0 w w' : World} (h : Keeps F w w') (h0 : Below w0.heap.size w0 w) (hF : ∀ x, F x → w0.heap.size ≤ x) : Below w0.heap.size w0 w' :=
  ⟨h.os.trans h0.os, h.tape.trans h0.tape, h.output.trans h0.output, Nat.le_trans h0.size h.size, fun k hk => (h.block k (Nat.lt_of_lt_of_le hk h0.size) (fun hf => by have := hF k hf; omega)).trans (h0.block k hk)⟩
theorem Keeps.alloc {F : Nat → Prop} {a w : World} (h : Keeps F a w) (o : Obj) : Keeps F a (w.alloc o) :=
  h.trans (Keeps.of_below (F := fun _ => False) (ba (Below.refl _ _) o)) (fun _ hf => hf.elim)
theorem Keeps.drew {F : Nat → Prop} {a w : World} (h : Keeps F a w) : Keeps F a w.drew := ⟨h.os, h.tape, h.output, h.size, h.block⟩
theorem Keeps.cell {F : Nat → Prop} {w w' : World} (h : Keeps F w w') {b : Nat} (hb : b < w.heap.size) (hF : ¬ F b) (o : Nat) : w'.cell? ⟨b, o, none⟩ = w.cell? ⟨b, o, none⟩ :=
  World.cell?_of_block (h.block b hb hF)
theorem Keeps.setCell {F : Nat → Prop} {w : World} {p : Addr} (hp : F p.block) (u : Value) : Keeps F w (w.setCell p u) :=
  ⟨rfl, rfl, rfl, by simp, fun k _ hn => RowKit.Below.heap_setCell _ _ _ _ (fun e => hn (by rw [e]; exact hp))⟩
theorem Keeps.grown {F : Nat → Prop} {w w' : World} {b : Nat} (h : w.grownBy w' (some b)) (hb : F b) : Keeps F w w' :=
  ⟨h.os, h.tape, h.output, h.size, fun k hk hn => h.block k hk (fun e => hn (by injection e with e; rw [e]; exact hb))⟩

/-- Block g is just the cells cs of type t, none of them frozen. -/
def Bk (w : World) (g : Nat) (t : TypeId) (cs : Array Value) : Prop := w.heap[g]? = some (.cells cs t (0, 0))
section
variable {w w' : World} {g : Nat} {t : TypeId} {cs : Array Value}
theorem Bk.lt (h : Bk w g t cs) : g < w.heap.size := (Array.getElem?_eq_some_iff.1 h).1
theorem Bk.cell (h : Bk w g t cs) (i : Nat) : w.cell? ⟨g, i, none⟩ = cs[i]? := cell_of_row w g i cs t (0, 0) h
theorem Bk.frozen (h : Bk w g t cs) (i : Nat) : w.frozen? ⟨g, i, none⟩ = false := frozen_of_row w g i cs t h
theorem Bk.new (w : World) (t : TypeId) (cs : Array Value) : Bk (w.alloc (.cells cs t)) w.heap.size t cs := heap_alloc_new w _
theorem Bk.keep {F : Nat → Prop} (h : Bk w g t cs) (hk : Keeps F w w') (hg : ¬ F g) : Bk w' g t cs := (hk.block g h.lt hg).trans h
theorem Bk.call (h : Bk w g t cs) (hb : Below w.heap.size w w') : Bk w' g t cs := (hb.block g h.lt).trans h
theorem Bk.set (h : Bk w g t cs) (i : Nat) (u : Value) : Bk (w.setCell ⟨g, i, none⟩ u) g t (cs.setIfInBounds i u) := heap_setCell_same w g i cs t u h
end

theorem Bk.far {w : World} {g : Nat} {t : TypeId} {cs : Array Value} (h : Bk w g t cs) {p : Addr} (hp : g ≠ p.block) (u : Value) : Bk (w.setCell p u) g t cs :=
  (RowKit.Below.heap_setCell _ _ _ _ hp).trans h
theorem Bk.row {w : World} {g : Nat} {t : TypeId} {cs : Array Value} (h : Bk w g t cs) (cs' : Array Value) : Bk (w.setRow g cs') g t cs' := setRow_heap w g cs cs' t (0, 0) h
theorem Bk.farRow {w : World} {g b : Nat} {t : TypeId} {cs : Array Value} (h : Bk w g t cs) (hne : g ≠ b) (cs' : Array Value) : Bk (w.setRow b cs') g t cs := (setRow_other w b g cs' hne).trans h
theorem bk_ne {w : World} {p b : Nat} {t u : TypeId} {cs ds : Array Value} (h : Bk w p t cs) (h' : Bk w b u ds) (hne : t ≠ u) : p ≠ b := by
  rintro rfl
  unfold Bk at h h'
  rw [h] at h'
  injection h' with h'
  injection h' with _ e
  exact hne e
theorem brow {a W : World} (h : Below a.heap.size a W) {g : Nat} (hg : a.heap.size ≤ g) (cs : Array Value) : Below a.heap.size a (W.setRow g cs) := below_setRow h hg cs
/-- Cells from o on are written. -/
def putAll (cs : Array Value) : Nat → List Value → Array Value
  | _, [] => cs
  | o, v :: r => putAll (cs.setIfInBounds o v) (o + 1) r
theorem putAll_size : ∀ (vs : List Value) (o : Nat) (cs : Array Value), (putAll cs o vs).size = cs.size
  | [], _, _ => rfl
  | v :: r, o, cs => by rw [putAll, putAll_size r]; simp
theorem putAll_get : ∀ (vs : List Value) (o : Nat) (cs : Array Value) (j : Nat), j < cs.size → (putAll cs o vs)[j]? = if o ≤ j ∧ j < o + vs.length then vs[j - o]? else cs[j]?
  | [], o, cs, j, hj => by rw [if_neg (by simp only [List.length_nil]; omega)]; rfl
  | v :: r, o, cs, j, hj => by
    rw [putAll, putAll_get r (o + 1) _ j (by simpa using hj)]
    simp only [List.length_cons]
    by_cases e : j = o
    · subst e
      rw [if_neg (by omega), if_pos (by omega)]
      simp [hj]
    · by_cases h : o + 1 ≤ j ∧ j < o + 1 + r.length
      · rw [if_pos h, if_pos (by omega), show j - o = (j - (o + 1)) + 1 by omega]
        simp
      · rw [if_neg h, if_neg (by omega), Array.getElem?_setIfInBounds_ne (by omega)]
theorem Bk.setAll {b : Nat} {t : TypeId} : ∀ (vs : List Value) (o : Nat) (w : World) (cs : Array Value), Bk w b t cs → Bk (w.setCells b o vs) b t (putAll cs o vs)
  | [], _, _, _, h => h
  | v :: r, o, w, cs, h => Bk.setAll r (o + 1) _ _ (h.set o v)
theorem Bk.farAll {b g : Nat} {t : TypeId} {cs : Array Value} (hne : g ≠ b) : ∀ (vs : List Value) (o : Nat) (w : World), Bk w g t cs → Bk (w.setCells b o vs) g t cs
  | [], _, _, h => h
  | v :: r, o, w, h => Bk.farAll hne r (o + 1) _ (h.far (p := ⟨b, o, none⟩) hne v)
theorem Keeps.setAll {F : Nat → Prop} {b : Nat} (hb : F b) : ∀ (vs : List Value) (o : Nat) (w : World), Keeps F w (w.setCells b o vs)
  | [], _, w => Keeps.refl F w
  | v :: r, o, w => (Keeps.setCell (F := F) (p := ⟨b, o, none⟩) hb v).trans (Keeps.setAll hb r (o + 1) _) (fun x hx => .inl hx)
theorem Arr.keep {F : Nat → Prop} {w w' : World} {b : Nat} {cs : List Value} (h : Arr w b cs) (hk : Keeps F w w') (hb : ¬ F b) : Arr w' b cs :=
  ⟨Nat.lt_of_lt_of_le h.1 hk.size, fun i v hi => (World.cell?_of_block (a := ⟨b, i, none⟩) (hk.block b h.1 hb)).trans (h.2.1 i v hi), fun i hi => (World.frozen?_of_block (a := ⟨b, i, none⟩) (hk.block b h.1 hb)).trans (h.2.2 i hi)⟩
end Go.Proofs.YtappjiljmpgjcaaDoor
