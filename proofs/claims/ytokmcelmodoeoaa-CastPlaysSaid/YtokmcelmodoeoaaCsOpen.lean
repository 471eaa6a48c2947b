/-
  A slice of acts (kind, core, invalidation) as an argument.
-/
import Derived.Test.YtokmcelmodoeoaaOpenDeep
import Derived.Test.YtokmcelmodoeoaaRw
namespace Go.Proofs.Ytokmcelmodoeoaa
open Go.ChangeShapes Go.WideShapes Go.ChangeAt Go.RowKit Go.Deep
set_option linter.unusedVariables false
/-- An act: what, which core, an invalidation. -/
structure Ac where
  d : Int
  c : Int
  k : Int
  a : Int
  p : Int
def encA (x : Ac) : List Value := [.int .i64 x.d, .int .i64 x.c, .int .i8 x.k, .int .i64 x.a, .int .u64 x.p]
theorem encA_len (x : Ac) : (encA x).length = 5 := rfl
def Ac.wf (x : Ac) : Prop := (Lit.int .i64 x.d).wf = true ∧ (Lit.int .i64 x.c).wf = true ∧ (Lit.int .i8 x.k).wf = true ∧ (Lit.int .i64 x.a).wf = true ∧ (Lit.int .u64 x.p).wf = true
theorem range_at {α : Type} (len : Nat) (g : Nat → α) (i : Nat) (x : α) (h : ((List.range len).map g)[i]? = some x) : i < len ∧ x = g i := by
  rw [List.getElem?_map] at h
  by_cases hi : i < len
  · rw [List.getElem?_range hi] at h
    simp at h
    exact ⟨hi, h.symm⟩
  · rw [List.getElem?_eq_none (by simp; omega)] at h
    simp at h
theorem open_actsArg {H : Type} {enc : TypeId × Value → H} {P : Program} {w : World} {base : Nat} {held : Bool} {r : Reach} {b0 : Nat} {t e : TypeId} {f0 f1 f2 g0 g1 g2 : Field} {v : Value} {d : DataW H} {p : List MemPlace}
    (ht : P.underlying t = some (.slice e)) (he : P.underlying e = some (.struct #[f0, f1, f2])) (hC : P.cellsOf e = 5) (hg : P.underlying f2.type = some (.struct #[g0, g1, g2]))
    (o0 : f0.offset = 0) (o1 : f1.offset = 1) (o2 : f2.offset = 2) (q0 : g0.offset = 0) (q1 : g1.offset = 1) (q2 : g2.offset = 2)
    (c0 : P.cellsOf f0.type = 1) (c1 : P.cellsOf f1.type = 1) (c2 : P.cellsOf f2.type = 3) (d0 : P.cellsOf g0.type = 1) (d1 : P.cellsOf g1.type = 1) (d2 : P.cellsOf g2.type = 1)
    (u0 : P.underlying f0.type = some (.int .i64)) (u1 : P.underlying f1.type = some (.int .i64)) (x0 : P.underlying g0.type = some (.int .i8)) (x1 : P.underlying g1.type = some (.int .i64)) (x2 : P.underlying g2.type = some (.int .u64))
    (hv : Value.okWide P w r b0 t v) (h : DataW.Trod enc P w base (fun _ => true) held t v d p) :
    ∃ (O : Option Addr) (cap : Nat) (l : List Ac), v = .slice O l.length cap ∧ l.length ≤ cap ∧ cap ≤ maxLen ∧ (∀ x ∈ l, x.wf) ∧ RK encA 5 w O l := by
  obtain ⟨O, len, cap, rfl, hl, hm, hc⟩ := open_elems ht hC (by omega) hv h
  by_cases h0 : 0 < len
  · obtain ⟨b, off, rfl, hcell⟩ := hc h0
    have each : ∀ i, i < len → ∃ m : Ac, m.wf ∧ ∀ j u, (encA m)[j]? = some u → w.cell? ⟨b, off + i * 5 + j, none⟩ = some u := by
      intro i hi
      obtain ⟨cs, n, y, hlen, hcs, hy⟩ := hcell i hi
      obtain ⟨k0, z0, t0⟩ := field_reads he hy 0 f0 rfl
      obtain ⟨k1, z1, t1⟩ := field_reads he hy 1 f1 rfl
      obtain ⟨k2, z2, t2⟩ := field_reads he hy 2 f2 rfl
      match cs, hlen with
      | [v0, v1, v2, v3, v4], _ =>
        rw [o0, c0] at t0
        rw [o1, c1] at t1
        rw [o2, c2] at t2
        simp only [List.drop_zero, List.drop_succ_cons, List.take_succ_cons, List.take_zero] at t0 t1 t2
        obtain ⟨m0, y0, s0⟩ := field_reads hg t2 0 g0 rfl
        obtain ⟨m1, y1, s1⟩ := field_reads hg t2 1 g1 rfl
        obtain ⟨m2, y2, s2⟩ := field_reads hg t2 2 g2 rfl
        rw [q0, d0] at s0
        rw [q1, d1] at s1
        rw [q2, d2] at s2
        simp only [List.drop_zero, List.drop_succ_cons, List.take_succ_cons, List.take_zero] at s0 s1 s2
        obtain ⟨a0, e0, _, w0⟩ := DataW.trod_int u0 t0
        obtain ⟨a1, e1, _, w1⟩ := DataW.trod_int u1 t1
        obtain ⟨a2, e2, _, w2⟩ := DataW.trod_int x0 s0
        obtain ⟨a3, e3, _, w3⟩ := DataW.trod_int x1 s1
        obtain ⟨a4, e4, _, w4⟩ := DataW.trod_int x2 s2
        simp only [List.cons.injEq, and_true] at e0 e1 e2 e3 e4
        subst e0 e1 e2 e3 e4
        exact ⟨⟨a0, a1, a2, a3, a4⟩, ⟨w0, w1, w2, w3, w4⟩, fun j u hj => by rw [Nat.add_assoc]; exact hcs j u hj⟩
    let g : Nat → Ac := fun i => if h : i < len then (each i h).choose else ⟨0, 0, 0, 0, 0⟩
    have all : ∀ i, i < len → (g i).wf ∧ ∀ j u, (encA (g i))[j]? = some u → w.cell? ⟨b, off + i * 5 + j, none⟩ = some u := fun i hi => by
      have := (each i hi).choose_spec
      simp only [g, hi, dif_pos]
      exact this
    refine ⟨some ⟨b, off, none⟩, cap, (List.range len).map g, by simp, by simpa using hl, hm, fun x hx => ?_, fun _ => ⟨b, off, rfl, fun i x hx j u hu => ?_⟩⟩
    · obtain ⟨i, hi, rfl⟩ := List.mem_map.1 hx
      exact (all i (List.mem_range.1 hi)).1
    · obtain ⟨hi, rfl⟩ := range_at len g i x hx
      exact (all i hi).2 j u hu
  · obtain rfl : len = 0 := by omega
    exact ⟨O, cap, [], rfl, hl, hm, fun x hx => (List.not_mem_nil hx).elim, fun h => by simp at h⟩
end Go.Proofs.Ytokmcelmodoeoaa
