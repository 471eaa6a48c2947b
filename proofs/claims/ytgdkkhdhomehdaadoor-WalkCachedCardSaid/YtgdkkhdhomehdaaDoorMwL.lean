/-
  A memory (package mem) in the world: its struct's block, its map's block, the blocks of its frames' words; and what keeps it.
  The walks of package mem: at, own, Read, Write, Add.
  A Read: twenty cells, laid and read as one row.
-/
import Derived.Test.YtgdkkhdhomehdaaDoorMwA
import Derived.Test.YtgdkkhdhomehdaaDoorMwK
import Derived.Maps.OwnSet
import Derived.Deep.MidRow
import Derived.Laws.Tables
import Derived.Laws.CopyOwn
namespace Go.Proofs.YtgdkkhdhomehdaaDoor
section
open Go.RowKit Go.Maps
set_option linter.unusedVariables false
set_option linter.unusedSimpArgs false

/-- Outside the blocks of F, w' is as w was. -/
structure Keeps (F : Nat → Prop) (w w' : World) : Prop where
  os : w'.os = w.os
  tape : w'.tape = w.tape
  output : w'.output = w.output
  size : w.heap.size ≤ w'.heap.size
  block : ∀ k, k < w.heap.size → ¬ F k → w'.heap[k]? = w.heap[k]?
theorem Keeps.refl (F : Nat → Prop) (w : World) : Keeps F w w := ⟨rfl, rfl, rfl, Nat.le_refl _, fun _ _ _ => rfl⟩
theorem Keeps.trans {F G : Nat → Prop} {a b c : World} (h : Keeps F a b) (k : Keeps G b c) (hG : ∀ x, G x → F x ∨ a.heap.size ≤ x) : Keeps F a c :=
  ⟨k.os.trans h.os, k.tape.trans h.tape, k.output.trans h.output, Nat.le_trans h.size k.size, fun i hi hn =>
    (k.block i (Nat.lt_of_lt_of_le hi h.size) (fun hg => (hG i hg).elim hn (fun hle => by omega))).trans (h.block i hi hn)⟩
theorem Keeps.of_below {F : Nat → Prop} {w w' : World} (h : Below w.heap.size w w') : Keeps F w w' := ⟨h.os, h.tape, h.output, h.size, fun k hk _ => h.block k hk⟩
theorem Keeps.mono {F G : Nat → Prop} {w w' : World} (h : Keeps F w w') (hFG : ∀ x, F x → G x) : Keeps G w w' := ⟨h.os, h.tape, h.output, h.size, fun k hk hn => h.block k hk (fun hf => hn (hFG k hf))⟩
theorem Keeps.below {F : Nat → Prop} {w0 w w' : World} (h : Keeps F w w') (h0 : Below w0.heap.size w0 w) (hF : ∀ x, F x → w0.heap.size ≤ x) : Below w0.heap.size w0 w' :=
  ⟨h.os.trans h0.os, h.tape.trans h0.tape, h.output.trans h0.output, Nat.le_trans h0.size h.size, fun k hk => (h.block k (Nat.lt_of_lt_of_le hk h0.size) (fun hf => by have := hF k hf; omega)).trans (h0.block k hk)⟩
theorem Keeps.alloc {F : Nat → Prop} {a w : World} (h : Keeps F a w) (o : Obj) : Keeps F a (w.alloc o) :=
  h.trans (Keeps.of_below (F := fun _ => False) (ba (Below.refl _ _) o)) (fun _ hf => hf.elim)
theorem Keeps.drew {F : Nat → Prop} {a w : World} (h : Keeps F a w) : Keeps F a w.drew := ⟨h.os, h.tape, h.output, h.size, h.block⟩
theorem Keeps.cell {F : Nat → Prop} {w w' : World} (h : Keeps F w w') {b : Nat} (hb : b < w.heap.size) (hF : ¬ F b) (o : Nat) : w'.cell? ⟨b, o, none⟩ = w.cell? ⟨b, o, none⟩ :=
  World.cell?_of_block (h.block b hb hF)
theorem Keeps.setCell {F : Nat → Prop} {w : World} {p : Addr} (hp : F p.block) (u : Value) : Keeps F w (w.setCell p u) :=
  ⟨rfl, rfl, rfl, by simp, fun k _ hn => RowKit.Below.heap_setCell _ _ _ _ (fun e => hn (by rw [e]; exact hp))⟩
theorem Keeps.grown {F : Nat → Prop} {w w' : World} {b : Nat} (h : w.grownBy w' (some b)) (hb : F b) : Keeps F w w' :=
  ⟨h.os, h.tape, h.output, h.size, fun k hk hn => h.block k hk (fun e => hn (by injection e with e; rw [e]; exact hb))⟩

/-- Block g is just the cells cs of type t, none of them frozen. -/
def Bk (w : World) (g : Nat) (t : TypeId) (cs : Array Value) : Prop := w.heap[g]? = some (.cells cs t (0, 0))
section
variable {w w' : World} {g : Nat} {t : TypeId} {cs : Array Value}
theorem Bk.lt (h : Bk w g t cs) : g < w.heap.size := (Array.getElem?_eq_some_iff.1 h).1
theorem Bk.cell (h : Bk w g t cs) (i : Nat) : w.cell? ⟨g, i, none⟩ = cs[i]? := cell_of_row w g i cs t (0, 0) h
theorem Bk.frozen (h : Bk w g t cs) (i : Nat) : w.frozen? ⟨g, i, none⟩ = false := frozen_of_row w g i cs t h
theorem Bk.new (w : World) (t : TypeId) (cs : Array Value) : Bk (w.alloc (.cells cs t)) w.heap.size t cs := heap_alloc_new w _
theorem Bk.keep {F : Nat → Prop} (h : Bk w g t cs) (hk : Keeps F w w') (hg : ¬ F g) : Bk w' g t cs := (hk.block g h.lt hg).trans h
theorem Bk.call (h : Bk w g t cs) (hb : Below w.heap.size w w') : Bk w' g t cs := (hb.block g h.lt).trans h
theorem Bk.set (h : Bk w g t cs) (i : Nat) (u : Value) : Bk (w.setCell ⟨g, i, none⟩ u) g t (cs.setIfInBounds i u) := heap_setCell_same w g i cs t u h
end

/-- A frame's words as cells. -/
def rowOf (g : Nat → Int) : Array Value := Array.ofFn (n := 512) fun i => Value.int .u64 (g i)
theorem rowOf_size (g : Nat → Int) : (rowOf g).size = 512 := by simp [rowOf]
theorem rowOf_at (g : Nat → Int) (i : Nat) (hi : i < 512) : (rowOf g)[i]? = some (.int .u64 (g i)) := by simp [rowOf, hi]
def upd (g : Nat → Int) (i : Nat) (v : Int) : Nat → Int := fun j => if j = i then v else g j
def upd2 (c : Nat → Nat → Int) (f i : Nat) (v : Int) : Nat → Nat → Int := fun k => if k = f then upd (c f) i v else c k
theorem upd_same (g : Nat → Int) (i : Nat) (v : Int) : upd g i v i = v := by simp [upd]
theorem upd_other (g : Nat → Int) {i j : Nat} (v : Int) (h : j ≠ i) : upd g i v j = g j := by simp [upd, h]
theorem rowOf_set (g : Nat → Int) (i : Nat) (v : Int) : (rowOf g).setIfInBounds i (.int .u64 v) = rowOf (upd g i v) := by
  apply Array.ext_getElem?
  intro j
  rw [Array.getElem?_setIfInBounds]
  by_cases hj : j < 512
  · rw [rowOf_at _ _ hj, rowOf_at _ _ hj, rowOf_size]
    by_cases e : i = j
    · subst e; simp [hj, upd]
    · rw [if_neg e, upd_other _ _ (fun h => e h.symm)]
  · have h1 : (rowOf g)[j]? = none := Array.getElem?_eq_none (by rw [rowOf_size]; omega)
    have h2 : (rowOf (upd g i v))[j]? = none := Array.getElem?_eq_none (by rw [rowOf_size]; omega)
    rw [h1, h2, rowOf_size]
    split
    · split
      · omega
      · rfl
    · rfl
theorem rowOf_congr {g h : Nat → Int} (e : ∀ i, i < 512 → g i = h i) : rowOf g = rowOf h := by
  apply Array.ext_getElem?
  intro j
  by_cases hj : j < 512
  · rw [rowOf_at _ _ hj, rowOf_at _ _ hj, e j hj]
  · rw [Array.getElem?_eq_none (by rw [rowOf_size]; omega), Array.getElem?_eq_none (by rw [rowOf_size]; omega)]
/-- How a pointer to a frame's words reads: by its block's number. -/
def ptrElem : Value → Option (DataW Unit × List MemPlace)
  | .pointer none => some (.lit (.int .i64 (-1)), [])
  | .pointer (some a) => if a = ⟨a.block, 0, none⟩ then some (.lit (.int .i64 a.block), []) else none
  | _ => none
theorem ptrElem_mk (b : Nat) : ptrElem (.pointer (some ⟨b, 0, none⟩)) = some (.lit (.int .i64 b), []) := by simp [ptrElem]
theorem ptrElem_inv {v : Value} {b : Nat} {ps : List MemPlace} (h : ptrElem v = some (.lit (.int .i64 b), ps)) : v = .pointer (some ⟨b, 0, none⟩) := by
  unfold ptrElem at h
  split at h
  · simp at h
  · split at h
    · rename_i a e
      simp at h
      rw [e, show a.block = b by omega]
    · cases h
  · cases h
/-- The key of a frame. -/
def fk (f : Nat) : Lit := .int .i64 f
theorem fk_ne {f g : Nat} (h : f ≠ g) : fk f ≠ fk g := by
  intro e
  unfold fk at e
  injection e with _ e
  omega
/-- A memory of n frames lies in w: struct at block p, map at block m; frame f's words are c f; F has all its blocks; at most k entries. -/
structure Mm (w : World) (p n : Nat) (c : Nat → Nat → Int) (F : Nat → Prop) (k : Nat) (m : Nat) (D : DataW Unit) : Prop where
  str : Bk w p 118 #[.int .i64 n, .map (some m)]
  map : w.ownsMap Tryd.prog 3 ptrElem m k D
  pF : F p
  mF : F m
  lt : ∀ b, F b → b < w.heap.size
  row : ∀ f, (Maps.has D (fk f) = false ∧ ∀ i, i < 512 → c f i = 0) ∨ (∃ b : Nat, Maps.has D (fk f) = true ∧ (∀ z, D.atKey (fk f) z = .lit (.int .i64 b)) ∧ Bk w b 156 (rowOf (c f)) ∧ F b)
  inj : ∀ f g (b : Nat), (∀ z, D.atKey (fk f) z = .lit (.int .i64 b)) → (∀ z, D.atKey (fk g) z = .lit (.int .i64 b)) → f = g
theorem Mm.keep {w w' : World} {p n k m : Nat} {c : Nat → Nat → Int} {F G : Nat → Prop} {D : DataW Unit} (h : Mm w p n c F k m D) (hk : Keeps G w w') (hFG : ∀ b, F b → ¬ G b) : Mm w' p n c F k m D where
  str := h.str.keep hk (hFG _ h.pF)
  map := by
    obtain ⟨es, clock, hb, r⟩ := h.map
    exact ⟨es, clock, (hk.block m (h.lt m h.mF) (hFG _ h.mF)).trans hb, r⟩
  pF := h.pF
  mF := h.mF
  lt := fun b hb => Nat.lt_of_lt_of_le (h.lt b hb) hk.size
  row := fun f => (h.row f).imp id fun ⟨b, h1, h2, h3, h4⟩ => ⟨b, h1, h2, h3.keep hk (hFG _ h4), h4⟩
  inj := h.inj
theorem Mm.call {w w' : World} {p n k m : Nat} {c : Nat → Nat → Int} {F : Nat → Prop} {D : DataW Unit} (h : Mm w p n c F k m D) (hb : Below w.heap.size w w') : Mm w' p n c F k m D :=
  h.keep (Keeps.of_below (F := fun _ => False) hb) (fun _ _ hf => hf)
theorem Mm.alloc {w : World} {p n k m : Nat} {c : Nat → Nat → Int} {F : Nat → Prop} {D : DataW Unit} (h : Mm w p n c F k m D) (o : Obj) : Mm (w.alloc o) p n c F k m D := h.call (ba (Below.refl _ _) o)
theorem Mm.drew {w : World} {p n k m : Nat} {c : Nat → Nat → Int} {F : Nat → Prop} {D : DataW Unit} (h : Mm w p n c F k m D) : Mm w.drew p n c F k m D := h.call (bd (Below.refl _ _))
theorem Mm.str_lt {w : World} {p n k m : Nat} {c : Nat → Nat → Int} {F : Nat → Prop} {D : DataW Unit} (h : Mm w p n c F k m D) : p < w.heap.size := h.str.lt
theorem Mm.ne {w : World} {p n k m : Nat} {c : Nat → Nat → Int} {F : Nat → Prop} {D : DataW Unit} (h : Mm w p n c F k m D) : p ≠ m := by
  intro e
  obtain ⟨es, clock, hb, _⟩ := h.map
  have hs := h.str
  unfold Bk at hs
  rw [e, hb] at hs
  cases hs
theorem bk_ne {w : World} {p b : Nat} {t u : TypeId} {cs ds : Array Value} (h : Bk w p t cs) (h' : Bk w b u ds) (hne : t ≠ u) : p ≠ b := by
  rintro rfl
  unfold Bk at h h'
  rw [h] at h'
  injection h' with h'
  injection h' with _ e
  exact hne e
theorem bk_map_ne {w : World} {b m k : Nat} {t : TypeId} {cs : Array Value} {D : DataW Unit} (h : Bk w b t cs) (hm : w.ownsMap Tryd.prog 3 ptrElem m k D) : b ≠ m := by
  rintro rfl
  obtain ⟨es, clock, hb, _⟩ := hm
  unfold Bk at h
  rw [hb] at h
  cases h
theorem keyLit (f : Nat) (hf : f < 1000) : keyOf Tryd.prog 3 (.int .i64 f) = some (fk f) := keyOf_int_mk Tryd.underlying3 (WalkArith.wf_i64 (by omega))
theorem isKey (f : Nat) : WideAt.IsKeyLit (fk f) := by trivial
theorem keyed : Keyed Tryd.prog 3 := int_keyed Tryd.underlying3
end
section
open Go.RowKit Go.Maps
set_option linter.unusedVariables false
set_option linter.unusedSimpArgs false

theorem Bk.far {w : World} {g : Nat} {t : TypeId} {cs : Array Value} (h : Bk w g t cs) {p : Addr} (hp : g ≠ p.block) (u : Value) : Bk (w.setCell p u) g t cs :=
  (RowKit.Below.heap_setCell _ _ _ _ hp).trans h
theorem not_both {D : DataW Unit} {f b : Nat} (h : Maps.has D (fk f) = false) (ha : ∀ z, D.atKey (fk f) z = .lit (.int .i64 b)) : False := by
  have h1 := (Maps.atKey_of_not_has h .nil).symm.trans (ha .nil)
  cases h1
/-- A word is written into a frame that is there. -/
theorem Mm.put {w : World} {p n k m : Nat} {c : Nat → Nat → Int} {F : Nat → Prop} {D : DataW Unit} (h : Mm w p n c F k m D) {f b : Nat} (ha : ∀ z, D.atKey (fk f) z = .lit (.int .i64 b)) (hb : Bk w b 156 (rowOf (c f))) (i : Nat) (v : Int) :
    Mm (w.setCell ⟨b, i, none⟩ (.int .u64 v)) p n (upd2 c f i v) F k m D where
  str := h.str.far (bk_ne h.str hb (by decide)) _
  map := h.map.setCell (fun e => bk_map_ne hb h.map e.symm) _
  pF := h.pF
  mF := h.mF
  lt := fun x hx => by simpa using h.lt x hx
  row := fun g => by
    by_cases e : g = f
    · subst e
      rcases h.row g with ⟨h1, _⟩ | ⟨b', h1, h2, h3, h4⟩
      · exact (not_both h1 ha).elim
      · have eb : b' = b := by
          have := (h2 .nil).symm.trans (ha .nil)
          simp at this
          omega
        subst eb
        refine .inr ⟨b', h1, h2, ?_, h4⟩
        have := hb.set i (.int .u64 v)
        rw [rowOf_set] at this
        simpa [upd2] using this
    · have ec : upd2 c f i v g = c g := by simp [upd2, e]
      rw [ec]
      refine (h.row g).imp id fun ⟨b', h1, h2, h3, h4⟩ => ⟨b', h1, h2, h3.far (fun eb => e (h.inj g f b' h2 ?_)) _, h4⟩
      intro z
      have eb' : b' = b := eb
      rw [eb']
      exact ha z
  inj := h.inj
/-- A frame that is not there yet comes to be, all 0. -/
theorem Mm.add {w w' : World} {p n k m : Nat} {c : Nat → Nat → Int} {F : Nat → Prop} {D : DataW Unit} (h : Mm w p n c F k m D) {f : Nat} (hh : Maps.has D (fk f) = false)
    (hm : w'.ownsMap Tryd.prog 3 ptrElem m (k + 1) (D.put (fk f) (.lit (.int .i64 w.heap.size)))) (hg : (w.alloc (.cells (rowOf fun _ => 0) 156)).mapTurned w' m) :
    Mm w' p n c (fun b => F b ∨ b = w.heap.size) (k + 1) m (D.put (fk f) (.lit (.int .i64 w.heap.size))) ∧ Bk w' w.heap.size 156 (rowOf (c f)) ∧ Keeps (fun y => y = m) w w' := by
  have hk1 := Keeps.grown (F := fun y => y = m) hg.grown rfl
  have h1 := h.alloc (.cells (rowOf fun _ => 0) 156)
  have hkeep : Keeps (fun y => y = m) w w' := ((Keeps.refl _ w).alloc _).trans hk1 (fun x hx => .inl hx)
  have hz : rowOf (c f) = rowOf fun _ => 0 := by
    rcases h.row f with ⟨_, h2⟩ | ⟨b, h2, _⟩
    · exact rowOf_congr h2
    · rw [hh] at h2; cases h2
  have hnF : ¬ F w.heap.size := fun hf => by have := h.lt _ hf; omega
  have hnew : Bk w' w.heap.size 156 (rowOf (c f)) := by
    rw [hz]
    refine (hg.grown.block _ (by simp) (fun e => ?_)).trans (Bk.new w 156 (rowOf fun _ => 0))
    injection e with e
    exact hnF (by rw [e]; exact h.mF)
  have hM := h.map.isMap
  refine ⟨⟨?_, hm, .inl h.pF, .inl h.mF, ?_, ?_, ?_⟩, hnew, hkeep⟩
  · refine (hg.grown.block _ (by have := h.str.lt; simp; omega) (fun e => ?_)).trans (h1.str)
    injection e with e
    exact h.ne e
  · intro b hb
    have hs := hkeep.size
    have hs2 := hnew.lt
    rcases hb with hb | rfl
    · have := h.lt b hb; omega
    · exact hs2
  · intro g
    by_cases e : g = f
    · subst e
      exact .inr ⟨w.heap.size, Maps.has_put_same hM (isKey g) _, fun z => Maps.atKey_put_same hM (isKey g) _ z, hnew, .inr rfl⟩
    · have e' := fk_ne e
      refine (h.row g).imp (fun ⟨a1, a2⟩ => ⟨by rw [Maps.has_put_other e']; exact a1, a2⟩) fun ⟨b', a1, a2, a3, a4⟩ => ⟨b', by rw [Maps.has_put_other e']; exact a1, fun z => by rw [Maps.atKey_put_other e']; exact a2 z, ?_, .inl a4⟩
      refine (hg.grown.block _ (by have := a3.lt; simp; omega) (fun e => ?_)).trans (a3.call (ba (Below.refl _ _) _))
      injection e with e
      exact bk_map_ne a3 h.map e
  · intro g g' b e1 e2
    by_cases x1 : g = f <;> by_cases x2 : g' = f
    · rw [x1, x2]
    · subst x1
      have := (e1 .nil).symm.trans (Maps.atKey_put_same hM (isKey g) _ .nil)
      simp at this
      have hb : b = w.heap.size := by omega
      replace e2 := fun z => (Maps.atKey_put_other (D := D) (fk_ne x2) _ z).symm.trans (e2 z)
      rcases h.row g' with ⟨y, _⟩ | ⟨b', y1, y2, y3, y4⟩
      · have := (Maps.atKey_of_not_has y .nil).symm.trans (e2 .nil); cases this
      · have hb' := (y2 .nil).symm.trans (e2 .nil)
        simp at hb'
        have := y3.lt
        omega
    · subst x2
      have := (e2 .nil).symm.trans (Maps.atKey_put_same hM (isKey g') _ .nil)
      simp at this
      have hb : b = w.heap.size := by omega
      replace e1 := fun z => (Maps.atKey_put_other (D := D) (fk_ne x1) _ z).symm.trans (e1 z)
      rcases h.row g with ⟨y, _⟩ | ⟨b', y1, y2, y3, y4⟩
      · have := (Maps.atKey_of_not_has y .nil).symm.trans (e1 .nil); cases this
      · have hb' := (y2 .nil).symm.trans (e1 .nil)
        simp at hb'
        have := y3.lt
        omega
    · refine h.inj g g' b (fun z => ?_) (fun z => ?_)
      · rw [← e1 z, Maps.atKey_put_other (fk_ne x1)]
      · rw [← e2 z, Maps.atKey_put_other (fk_ne x2)]
/-- A frame is struck. -/
theorem Mm.del {w w' : World} {p n k m : Nat} {c : Nat → Nat → Int} {F : Nat → Prop} {D : DataW Unit} (h : Mm w p n c F k m D) {f : Nat}
    (hm : w'.ownsMap Tryd.prog 3 ptrElem m k (D.del (fk f))) (hg : w.mapTurned w' m) : Mm w' p n (fun g => if g = f then fun _ => 0 else c g) F k m (D.del (fk f)) ∧ Keeps F w w' := by
  have hkeep := Keeps.grown (F := F) hg.grown h.mF
  refine ⟨⟨?_, hm, h.pF, h.mF, fun b hb => Nat.lt_of_lt_of_le (h.lt b hb) hkeep.size, ?_, ?_⟩, hkeep⟩
  · refine (hg.grown.block _ h.str.lt (fun e => ?_)).trans h.str
    injection e with e
    exact h.ne e
  · intro g
    by_cases e : g = f
    · subst e
      exact .inl ⟨Maps.has_del_same, fun i _ => by simp⟩
    · have e' := fk_ne e
      rw [if_neg e]
      refine (h.row g).imp (fun ⟨a1, a2⟩ => ⟨by rw [Maps.has_del_other e']; exact a1, a2⟩) fun ⟨b', a1, a2, a3, a4⟩ => ⟨b', by rw [Maps.has_del_other e']; exact a1, fun z => by rw [Maps.atKey_del_other e']; exact a2 z, ?_, a4⟩
      refine (hg.grown.block _ a3.lt (fun e => ?_)).trans a3
      injection e with e
      exact bk_map_ne a3 h.map e
  · intro g g' b e1 e2
    have k1 : g ≠ f := by
      rintro rfl
      have := (Maps.atKey_del_same (D := D) (k := fk g) .nil).symm.trans (e1 .nil)
      cases this
    have k2 : g' ≠ f := by
      rintro rfl
      have := (Maps.atKey_del_same (D := D) (k := fk g') .nil).symm.trans (e2 .nil)
      cases this
    exact h.inj g g' b (fun z => by rw [← e1 z, Maps.atKey_del_other (fk_ne k1)]) (fun z => by rw [← e2 z, Maps.atKey_del_other (fk_ne k2)])
/-- A memory that was just made. -/
theorem Mm.made (w : World) (n : Nat) : Mm ((w.alloc (.map #[] 0)).alloc (.cells #[.int .i64 n, .map (some w.heap.size)] 118)) (w.heap.size + 1) n (fun _ _ => 0) (fun b => b = w.heap.size ∨ b = w.heap.size + 1) 0 w.heap.size (.map []) where
  str := by
    have := Bk.new (w.alloc (.map #[] 0)) 118 #[.int .i64 n, .map (some w.heap.size)]
    rwa [World.size_alloc] at this
  map := (World.ownsMap_made w Tryd.prog 3 ptrElem).alloc _
  pF := .inr rfl
  mF := .inl rfl
  lt := fun b hb => by simp only [World.size_alloc]; omega
  row := fun f => .inl ⟨rfl, fun _ _ => rfl⟩
  inj := fun f g b h1 _ => by have := h1 .nil; cases this

set_option maxHeartbeats 400000 in
theorem at_yes (p n : Nat) (x : Int) (w : World) (hx : U64 x) (hc : w.cell? ⟨p, 0, none⟩ = some (.int .i64 n)) (hn : n ≤ 64) (h : x / 512 < n) :
    Calls Tryd.prog 49 #[.pointer (some ⟨p, 0, none⟩), .int .u64 x] w fun e w' => e = .returned (.tuple #[.int .i64 (x / 512), .int .i64 (x % 512), .int .i64 0]) ∧ w = w' := by
  have h0 := hx.1
  have h1 := hx.2
  clear hx
  go_enter Tryd.func49, Tryd.ntmps49
  go_wp2
  go_ret3
  exact ⟨rfl, rfl⟩
set_option maxHeartbeats 400000 in
theorem at_no (p n : Nat) (x : Int) (w : World) (hx : U64 x) (hc : w.cell? ⟨p, 0, none⟩ = some (.int .i64 n)) (hn : n ≤ 64) (h' : (n : Int) ≤ x / 512) :
    Calls Tryd.prog 49 #[.pointer (some ⟨p, 0, none⟩), .int .u64 x] w fun e w' => e = .returned (.tuple #[.int .i64 0, .int .i64 0, .int .i64 80]) ∧ w = w' := by
  have h0 := hx.1
  have h1 := hx.2
  clear hx
  go_enter Tryd.func49, Tryd.ntmps49
  go_wp2
  go_ret3
  exact ⟨rfl, rfl⟩
theorem at_nil (x : Int) (w : World) :
    Calls Tryd.prog 49 #[.pointer none, .int .u64 x] w fun e w' => e = .returned (.tuple #[.int .i64 0, .int .i64 0, .int .i64 1]) ∧ w = w' := by
  go_enter Tryd.func49, Tryd.ntmps49
  go_wp2
  go_ret3
  exact ⟨rfl, rfl⟩
theorem zeroRow : ∀ W : World, (zeroValue 156).run Tryd.prog W = .ok (.agg (rowOf fun _ => 0)) W := fun _ => by kernel_rfl
/-- What own leaves. -/
def Owned (w : World) (p n k m f : Nat) (c : Nat → Nat → Int) (F : Nat → Prop) (e : Ending) (w' : World) : Prop :=
  ∃ (b k' : Nat) (F' : Nat → Prop) (D' : DataW Unit), e = .returned (.pointer (some ⟨b, 0, none⟩)) ∧ Mm w' p n c F' k' m D' ∧ k' ≤ k + 1 ∧ (∀ z, D'.atKey (fk f) z = .lit (.int .i64 b)) ∧ Bk w' b 156 (rowOf (c f)) ∧ F' b ∧
    Keeps (fun y => y = m) w w' ∧ (∀ x, F' x → F x ∨ w.heap.size ≤ x) ∧ ∀ x, F x → F' x
set_option maxHeartbeats 400000 in
theorem own_any (p n k m f : Nat) (c : Nat → Nat → Int) (F : Nat → Prop) (D : DataW Unit) (w : World) (hM : Mm w p n c F k m D) (hk : k < 1000000) (hf : f < 64) :
    Calls Tryd.prog 50 #[.pointer (some ⟨p, 0, none⟩), .int .i64 f] w (Owned w p n k m f c F) := by
  obtain ⟨v, ps, hrun, hv⟩ := hM.map.look_ok (t := 116) (e := 114) keyed Tryd.underlying116 (z := .pointer none) (by kernel_rfl) (zd := .lit (.int .i64 (-1))) (zp := []) rfl (keyLit f (by omega))
  have c1 : w.cell? ⟨p, 1, none⟩ = some (.map (some m)) := hM.str.cell 1
  rcases hM.row f with ⟨h1, h2⟩ | ⟨b, h1, h2, h3, h4⟩
  · rw [h1] at hrun
    have hM1 := hM.alloc (.cells (rowOf fun _ => 0) 156)
    obtain ⟨w2, hst, hm2, ht2⟩ := hM1.map.store (t := 116) (e := 114) keyed Tryd.underlying116 (by unfold maxLen; omega) (keyLit f (by omega)) (ptrElem_mk w.heap.size)
    have R := Lib.hid (hM.add h1 hm2 ht2)
    have hz := zeroRow
    have hp := hM.str.lt
    have H1 := Lib.hid h1
    have hM' := Lib.hid hM
    clear h1 h2 hv hM hM1 hm2 ht2
    go_enter Tryd.func50, Tryd.ntmps50
    go_wp2_with fail
    go_ret
    exact ⟨w.heap.size, k + 1, _, _, rfl, R.out.1, Nat.le_refl _, fun z => Maps.atKey_put_same hM'.out.map.isMap (isKey f) _ z, R.out.2.1, .inr rfl, R.out.2.2, fun x hx => hx.imp id (fun e => by omega), fun x hx => .inl hx⟩
  · rw [h1] at hrun
    rw [h2] at hv
    obtain rfl := ptrElem_inv hv
    have R := Lib.hid hM
    have H2 := Lib.hid h2
    have H3 := Lib.hid h3
    clear hM hv h1 h2 h3
    go_enter Tryd.func50, Tryd.ntmps50
    go_wp2_with fail
    go_ret
    exact ⟨b, k, F, D, rfl, R.out, by omega, H2.out, H3.out, h4, Keeps.refl _ _, fun x hx => .inl hx, fun x hx => hx⟩
end
section
open Go.RowKit
set_option linter.unusedVariables false
set_option linter.unusedSimpArgs false
/-- A Read's cells. -/
def encR (r : Rd) : Array Value := #[.bool r.k.on, .int .i64 r.k.a, .int .u64 r.k.p, .int .i8 r.k.l, .int .i64 r.k.f, .bool r.tb, .int .i64 r.s.a, .int .i8 r.s.l, .int .u64 r.s.p, .int .i64 r.s.f, .bool r.en, .int .i64 r.t.a, .int .u64 r.t.p, .int .i64 r.t.f, .bool r.t.ro, .bool r.mo, .int .u64 r.mp, .int .i8 r.ml, .bool r.to, .int .u64 r.wd]
def rdV (r : Rd) : Value := .agg (encR r)
theorem encR_size (r : Rd) : (encR r).size = 20 := rfl
theorem encR_one (r : Rd) : (encR r).all (·.oneCell') = true := by first | kernel_rfl | (simp [encR, Value.oneCell'])
theorem readInfo : (Tryd.prog.info? 42).map (·.size) = some 20 := by kernel_rfl
theorem Bk.row {w : World} {g : Nat} {t : TypeId} {cs : Array Value} (h : Bk w g t cs) (cs' : Array Value) : Bk (w.setRow g cs') g t cs' := setRow_heap w g cs cs' t (0, 0) h
theorem Bk.farRow {w : World} {g b : Nat} {t : TypeId} {cs : Array Value} (h : Bk w g t cs) (hne : g ≠ b) (cs' : Array Value) : Bk (w.setRow b cs') g t cs := (setRow_other w b g cs' hne).trans h
theorem brow {a W : World} (h : Below a.heap.size a W) {g : Nat} (hg : a.heap.size ≤ g) (cs : Array Value) : Below a.heap.size a (W.setRow g cs) := below_setRow h hg cs
/-- A Read is stored. -/
theorem put_read {ops : Array Oper} {rest : List Oper} {o : Oper} {a : Go.Act} {w : World} {Q : Exit → Go.Act → World → Prop} (hgd : o.guard = none) (x y : Operand) (ho : o.op = .store 42 x y)
    (g : Nat) (r : Rd) (old : Array Value) (hx : a.eval x = .pointer (some ⟨g, 0, none⟩)) (hy : a.eval y = .agg (encR r)) (hb : Bk w g 42 old) (hs : old.size = 20)
    (h : wpList Tryd.prog ops Q rest (a.put o.dst undef) (w.setRow g (encR r))) : wpList Tryd.prog ops Q (o :: rest) a w :=
  wpList_store_row hgd 42 x y ho g (encR r) hx hy 42 old hb readInfo hs (encR_one r) h
/-- A Read is loaded. -/
theorem get_read {ops : Array Oper} {rest : List Oper} {o : Oper} {a : Go.Act} {w : World} {Q : Exit → Go.Act → World → Prop} (hgd : o.guard = none) (x : Operand) (ho : o.op = .load 42 x)
    (g : Nat) (cs : Array Value) (hx : a.eval x = .pointer (some ⟨g, 0, none⟩)) (hb : Bk w g 42 cs) (hs : cs.size = 20)
    (h : wpList Tryd.prog ops Q rest (a.put o.dst (.agg cs)) w) : wpList Tryd.prog ops Q (o :: rest) a w :=
  wpList_load_row hgd 42 x ho g hx 42 cs (0, 0) _ hb Tryd.underlying42 rfl (by rw [hs]; exact readInfo) h
/-- A function's one result is a Read. -/
theorem res_read {fn : Func} {p : Tmp} (h : fn.results = #[.cell p 42]) (tmps : Array Value) (w : World) (g : Nat) (cs : Array Value) (hp : tmps.getD p undef = .pointer (some ⟨g, 0, none⟩)) (hb : Bk w g 42 cs) (hs : cs.size = 20) :
    (results fn tmps).run Tryd.prog w = .ok (.agg cs) w :=
  results_cell_row h tmps w g 42 cs (0, 0) _ hp hb Tryd.underlying42 rfl (by rw [hs]; exact readInfo)
/-- A Read and an errno. -/
theorem res_read2 {fn : Func} {p q : Tmp} (h : fn.results = #[.cell p 42, .tmp q]) (tmps : Array Value) (w : World) (g : Nat) (cs : Array Value) (u : Value) (hp : tmps.getD p undef = .pointer (some ⟨g, 0, none⟩)) (hq : tmps.getD q undef = u) (hb : Bk w g 42 cs) (hs : cs.size = 20) :
    (results fn tmps).run Tryd.prog w = .ok (.tuple #[.agg cs, u]) w := by
  have hp' : tmps[p]?.getD undef = .pointer (some ⟨g, 0, none⟩) := by simpa using hp
  have hq' : tmps[q]?.getD undef = u := by simpa using hq
  have hl := run_loadVar_row (P := Tryd.prog) w g 42 42 cs (0, 0) _ hb Tryd.underlying42 rfl (by rw [hs]; exact readInfo)
  simp [results, h, hp', hq', asAddr, hl]
/-- A Read, two numbers. -/
theorem res_read3 {fn : Func} {p q s : Tmp} (h : fn.results = #[.cell p 42, .tmp q, .tmp s]) (tmps : Array Value) (w : World) (g : Nat) (cs : Array Value) (u v : Value) (hp : tmps.getD p undef = .pointer (some ⟨g, 0, none⟩)) (hq : tmps.getD q undef = u) (hs' : tmps.getD s undef = v) (hb : Bk w g 42 cs) (hs : cs.size = 20) :
    (results fn tmps).run Tryd.prog w = .ok (.tuple #[.agg cs, u, v]) w := by
  have hp' : tmps[p]?.getD undef = .pointer (some ⟨g, 0, none⟩) := by simpa using hp
  have hq' : tmps[q]?.getD undef = u := by simpa using hq
  have hs2 : tmps[s]?.getD undef = v := by simpa using hs'
  have hl := run_loadVar_row (P := Tryd.prog) w g 42 42 cs (0, 0) _ hb Tryd.underlying42 rfl (by rw [hs]; exact readInfo)
  simp [results, h, hp', hq', hs2, asAddr, hl]
end
end Go.Proofs.YtgdkkhdhomehdaaDoor
