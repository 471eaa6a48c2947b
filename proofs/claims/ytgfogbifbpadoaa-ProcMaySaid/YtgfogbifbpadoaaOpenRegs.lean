/-
  A slice of structs whose fields take one cell each, opened; a slice of regions.
-/
import Derived.Test.YtgfogbifbpadoaaLift
import Derived.Test.YtgfogbifbpadoaaSpPlain
import Derived.ChangeSlices
import Derived.Deep.Slices
import Derived.Deep.Fields
import Derived.ChangeSame
namespace Go.Proofs.Ytgfogbifbpadoaa
open Go.ChangeShapes Go.WideShapes Go.ChangeAt Go.RowKit Go.Deep
set_option linter.unusedVariables false
/-- What each element's fields read as. -/
theorem open_structs {H : Type} {enc : TypeId × Value → H} {P : Program} {w : World} {base : Nat} {held : Bool} {r : Reach} {b0 : Nat} {t e : TypeId} {fs : Array Field} {v : Value} {d : DataW H} {p : List MemPlace}
    (ht : P.underlying t = some (.slice e)) (he : P.underlying e = some (.struct fs)) (hone : oneCellFields P fs = true) (hC : P.cellsOf e = fs.size) (hp : 0 < fs.size)
    (hv : Value.okWide P w r b0 t v) (h : DataW.Trod enc P w base (fun _ => true) held t v d p) :
    ∃ (O : Option Addr) (len cap : Nat), v = .slice O len cap ∧ len ≤ cap ∧ cap ≤ maxLen ∧ (0 < len → ∃ b off : Nat, O = some ⟨b, off, none⟩ ∧ ∀ i, i < len → ∀ (j : Nat) (f : Field), fs[j]? = some f →
      ∃ (u : Value) (n : Nat) (y : DataW H × List MemPlace), w.cell? ⟨b, off + (i * fs.size + j), none⟩ = some u ∧ DataW.trod enc P w base (fun _ => true) held n f.type [u] = some y) := by
  obtain ⟨a0, len, cap, rfl⟩ := okWide_slice ht hv
  obtain ⟨fuel, hf⟩ := h
  rcases open_slice ht hf with ⟨hcs, hx⟩ | ⟨a, len', cap', m, n, D, Pl, hcs, hb, hl, hm, hmm, hx, hel⟩
  · simp [Value.cells] at hcs
    obtain ⟨rfl, rfl, rfl⟩ := hcs
    exact ⟨none, 0, 0, rfl, Nat.le_refl _, by unfold maxLen; omega, fun h => by omega⟩
  · simp [Value.cells] at hcs
    obtain ⟨rfl, rfl, rfl⟩ := hcs
    simp only [if_true] at hmm
    have each : ∀ i, i < len → ∀ (j : Nat) (f : Field), fs[j]? = some f → ∃ (u : Value) (k : Nat) (y : DataW H × List MemPlace), w.cell? (a.add (i * fs.size + j)) = some u ∧ DataW.trod enc P w base (fun _ => true) held k f.type [u] = some y := by
      intro i hi j f hj
      obtain ⟨cs, h1, h2⟩ := hel i (by omega)
      rw [hC] at h1
      obtain ⟨_, hlen, hcell⟩ := World.cells?_some h1
      obtain ⟨xs, k, hk, hxy, _, hxl, hfl⟩ := DataW.trod_struct he h2
      have hjl : j < fs.size := (Array.getElem?_eq_some_iff.1 hj).1
      obtain ⟨ho, hk1⟩ := hone_of hone j f hj
      have g := hfl j f hj
      rw [ho, hk1, List.drop_eq_getElem_cons (by omega), List.take_succ_cons, List.take_zero] at g
      have c := hcell j hjl
      rw [Go.Deep.add_add, List.getElem?_eq_getElem (by omega)] at c
      exact ⟨_, k, xs[j]'(by omega), c, g.trans (List.getElem?_eq_getElem (by omega))⟩
    refine ⟨some a, len, cap, rfl, hl, hm, fun h0 => ?_⟩
    obtain ⟨b, off, spot⟩ := a
    obtain ⟨f0, hf0⟩ : ∃ f0, fs[0]? = some f0 := ⟨fs[0], Array.getElem?_eq_getElem hp⟩
    obtain ⟨u, _, _, hu, _⟩ := each 0 (by omega) 0 f0 hf0
    have hspot : spot = none := by simpa [Addr.add] using World.cell?_spot hu
    subst hspot
    refine ⟨b, off, rfl, fun i hi j f hj => ?_⟩
    have ad : ∀ q, (⟨b, off, none⟩ : Addr).add q = ⟨b, off + q, none⟩ := fun q => by unfold Addr.add; split <;> simp_all
    obtain ⟨u, k, y, h1, h2⟩ := each i hi j f hj
    rw [ad] at h1
    exact ⟨u, k, y, h1, h2⟩
/-- A slice of regions lies in w. -/
def RegsK (w : World) (O : Option Addr) (l : List Reg) : Prop := 0 < l.length → ∃ b off : Nat, O = some ⟨b, off, none⟩ ∧ ∀ i, i < l.length →
  w.cell? ⟨b, off + i * 3, none⟩ = some (.int .u64 (rg l i).f) ∧ w.cell? ⟨b, off + i * 3 + 1, none⟩ = some (.int .i64 (rg l i).c) ∧ w.cell? ⟨b, off + i * 3 + 2, none⟩ = some (.bool (rg l i).w)
theorem RegsK.call {w w' : World} {O : Option Addr} {l : List Reg} (h : RegsK w O l) (hb : Below w.heap.size w w') : RegsK w' O l := fun h0 => by
  obtain ⟨b, off, e, hc⟩ := h h0
  refine ⟨b, off, e, fun i hi => ?_⟩
  obtain ⟨h1, h2, h3⟩ := hc i hi
  have lt : b < w.heap.size := World.block_lt_of_cell? w ⟨b, off + i * 3, none⟩ h1
  exact ⟨(hb.cell (p := ⟨b, off + i * 3, none⟩) lt).trans h1, (hb.cell (p := ⟨b, off + i * 3 + 1, none⟩) lt).trans h2, (hb.cell (p := ⟨b, off + i * 3 + 2, none⟩) lt).trans h3⟩
theorem rg_map (n : Nat) (g : Nat → Reg) (i : Nat) (hi : i < n) : rg ((List.range n).map g) i = g i := by
  unfold rg
  rw [List.getD_eq_getElem?_getD, List.getElem?_map, List.getElem?_range hi]
  rfl
theorem open_regsArg {H : Type} {enc : TypeId × Value → H} {P : Program} {w : World} {base : Nat} {held : Bool} {r : Reach} {b0 : Nat} {t e : TypeId} {f0 f1 f2 : Field} {v : Value} {d : DataW H} {p : List MemPlace}
    (ht : P.underlying t = some (.slice e)) (he : P.underlying e = some (.struct #[f0, f1, f2])) (hone : oneCellFields P #[f0, f1, f2] = true) (hC : P.cellsOf e = 3)
    (u0 : P.underlying f0.type = some (.int .u64)) (u1 : P.underlying f1.type = some (.int .i64)) (u2 : P.underlying f2.type = some .bool)
    (hv : Value.okWide P w r b0 t v) (h : DataW.Trod enc P w base (fun _ => true) held t v d p) :
    ∃ (O : Option Addr) (cap : Nat) (l : List Reg), v = .slice O l.length cap ∧ l.length ≤ cap ∧ cap ≤ maxLen ∧ (∀ i, i < l.length → (rg l i).wf) ∧ RegsK w O l := by
  obtain ⟨O, len, cap, rfl, hl, hm, hc⟩ := open_structs ht he hone hC (by simp) hv h
  by_cases h0 : 0 < len
  · obtain ⟨b, off, rfl, hcell⟩ := hc h0
    have each : ∀ i, i < len → ∃ r : Reg, r.wf ∧ w.cell? ⟨b, off + i * 3, none⟩ = some (.int .u64 r.f) ∧ w.cell? ⟨b, off + i * 3 + 1, none⟩ = some (.int .i64 r.c) ∧ w.cell? ⟨b, off + i * 3 + 2, none⟩ = some (.bool r.w) := by
      intro i hi
      obtain ⟨v0, n0, y0, c0, t0⟩ := hcell i hi 0 f0 rfl
      obtain ⟨v1, n1, y1, c1, t1⟩ := hcell i hi 1 f1 rfl
      obtain ⟨v2, n2, y2, c2, t2⟩ := hcell i hi 2 f2 rfl
      obtain ⟨a, e0, _, w0⟩ := DataW.trod_int u0 t0
      obtain ⟨c, e1, _, w1⟩ := DataW.trod_int u1 t1
      obtain ⟨x, e2, _⟩ := DataW.trod_bool u2 t2
      simp only [List.cons.injEq, and_true] at e0 e1 e2
      subst e0 e1 e2
      have q0 := bounds_u64 w0
      have q1 := bounds_i64 w1
      exact ⟨⟨a, c, x⟩, ⟨⟨q0.1, by show a < _; have := q0.2; omega⟩, ⟨q1.1, by show c < _; have := q1.2; omega⟩⟩, c0, by rw [Nat.add_assoc]; exact c1, by rw [Nat.add_assoc]; exact c2⟩
    let g : Nat → Reg := fun i => if h : i < len then (each i h).choose else ⟨0, 0, false⟩
    have all : ∀ i, i < len → (g i).wf ∧ w.cell? ⟨b, off + i * 3, none⟩ = some (.int .u64 (g i).f) ∧ w.cell? ⟨b, off + i * 3 + 1, none⟩ = some (.int .i64 (g i).c) ∧ w.cell? ⟨b, off + i * 3 + 2, none⟩ = some (.bool (g i).w) := fun i hi => by
      have := (each i hi).choose_spec
      simp only [g, hi, dif_pos]
      exact this
    refine ⟨some ⟨b, off, none⟩, cap, (List.range len).map g, by simp, by simpa using hl, hm, fun i hi => ?_, fun _ => ⟨b, off, rfl, fun i hi => ?_⟩⟩
    · rw [rg_map len g i (by simpa using hi)]; exact (all i (by simpa using hi)).1
    · rw [rg_map len g i (by simpa using hi)]; exact (all i (by simpa using hi)).2
  · obtain rfl : len = 0 := by omega
    exact ⟨O, cap, [], rfl, hl, hm, fun i hi => by simp at hi, fun h => by simp at h⟩
end Go.Proofs.Ytgfogbifbpadoaa
