/-
  Slices of entries as arguments.
-/
import Derived.Test.YtgdkkhdhomehdaaDoorMwH
import Derived.Test.YtgdkkhdhomehdaaDoorOpenStructs
namespace Go.Proofs.YtgdkkhdhomehdaaDoor
section
open Go.ChangeShapes Go.WideShapes Go.ChangeAt Go.RowKit Go.Deep
set_option linter.unusedVariables false
theorem range_at {α : Type} (len : Nat) (g : Nat → α) (i : Nat) (x : α) (h : ((List.range len).map g)[i]? = some x) : i < len ∧ x = g i := by
  rw [List.getElem?_map] at h
  by_cases hi : i < len
  · rw [List.getElem?_range hi] at h
    simp at h
    exact ⟨hi, h.symm⟩
  · rw [List.getElem?_eq_none (by simp; omega)] at h
    simp at h
theorem open_tlbsArg {H : Type} {enc : TypeId × Value → H} {P : Program} {w : World} {base : Nat} {held : Bool} {r : Reach} {b0 : Nat} {t e : TypeId} {f0 f1 f2 f3 : Field} {v : Value} {d : DataW H} {p : List MemPlace}
    (ht : P.underlying t = some (.slice e)) (he : P.underlying e = some (.struct #[f0, f1, f2, f3])) (hone : oneCellFields P #[f0, f1, f2, f3] = true) (hC : P.cellsOf e = 4)
    (u0 : P.underlying f0.type = some (.int .i64)) (u1 : P.underlying f1.type = some (.int .u64)) (u2 : P.underlying f2.type = some (.int .i64)) (u3 : P.underlying f3.type = some .bool)
    (hv : Value.okWide P w r b0 t v) (h : DataW.Trod enc P w base (fun _ => true) held t v d p) :
    ∃ (O : Option Addr) (cap : Nat) (l : List Tb), v = .slice O l.length cap ∧ l.length ≤ cap ∧ cap ≤ maxLen ∧ True ∧ RK encT 4 w O l := by
  obtain ⟨O, len, cap, rfl, hl, hm, hc⟩ := open_structs ht he hone hC (by simp) hv h
  by_cases h0 : 0 < len
  · obtain ⟨b, off, rfl, hcell⟩ := hc h0
    have each : ∀ i, i < len → ∃ m : Tb, w.cell? ⟨b, off + i * 4, none⟩ = some (.int .i64 m.a) ∧ w.cell? ⟨b, off + i * 4 + 1, none⟩ = some (.int .u64 m.p) ∧ w.cell? ⟨b, off + i * 4 + 2, none⟩ = some (.int .i64 m.f) ∧ w.cell? ⟨b, off + i * 4 + 3, none⟩ = some (.bool m.ro) := by
      intro i hi
      obtain ⟨v0, n0, y0, c0, t0⟩ := hcell i hi 0 f0 rfl
      obtain ⟨v1, n1, y1, c1, t1⟩ := hcell i hi 1 f1 rfl
      obtain ⟨v2, n2, y2, c2, t2⟩ := hcell i hi 2 f2 rfl
      obtain ⟨v3, n3, y3, c3, t3⟩ := hcell i hi 3 f3 rfl
      obtain ⟨z0, e0, _, w0⟩ := DataW.trod_int u0 t0
      obtain ⟨z1, e1, _, w1⟩ := DataW.trod_int u1 t1
      obtain ⟨z2, e2, _, w2⟩ := DataW.trod_int u2 t2
      obtain ⟨z3, e3, _⟩ := DataW.trod_bool u3 t3
      simp only [List.cons.injEq, and_true] at e0 e1 e2 e3
      subst e0 e1 e2 e3
      exact ⟨⟨z0, z1, z2, z3⟩, c0, by rw [Nat.add_assoc]; exact c1, by rw [Nat.add_assoc]; exact c2, by rw [Nat.add_assoc]; exact c3⟩
    let g : Nat → Tb := fun i => if h : i < len then (each i h).choose else ⟨0, 0, 0, false⟩
    have all : ∀ i, i < len → w.cell? ⟨b, off + i * 4, none⟩ = some (.int .i64 (g i).a) ∧ w.cell? ⟨b, off + i * 4 + 1, none⟩ = some (.int .u64 (g i).p) ∧ w.cell? ⟨b, off + i * 4 + 2, none⟩ = some (.int .i64 (g i).f) ∧ w.cell? ⟨b, off + i * 4 + 3, none⟩ = some (.bool (g i).ro) := fun i hi => by
      have := (each i hi).choose_spec
      simp only [g, hi, dif_pos]
      exact this
    refine ⟨some ⟨b, off, none⟩, cap, (List.range len).map g, by simp, by simpa using hl, hm, trivial, fun _ => ⟨b, off, rfl, fun i x hx j u hu => ?_⟩⟩
    obtain ⟨hi, rfl⟩ := range_at len g i x hx
    obtain ⟨a0, a1, a2, a3⟩ := all i hi
    match j, hu with
    | 0, hu => simp only [encT, List.getElem?_cons_zero, Option.some.injEq] at hu; subst hu; exact a0
    | 1, hu => simp only [encT, List.getElem?_cons_succ, List.getElem?_cons_zero, Option.some.injEq] at hu; subst hu; exact a1
    | 2, hu => simp only [encT, List.getElem?_cons_succ, List.getElem?_cons_zero, Option.some.injEq] at hu; subst hu; exact a2
    | 3, hu => simp only [encT, List.getElem?_cons_succ, List.getElem?_cons_zero, Option.some.injEq] at hu; subst hu; exact a3
    | q + 4, hu => simp [encT] at hu
  · obtain rfl : len = 0 := by omega
    exact ⟨O, cap, [], rfl, hl, hm, trivial, fun h => by simp at h⟩
theorem open_stepsArg {H : Type} {enc : TypeId × Value → H} {P : Program} {w : World} {base : Nat} {held : Bool} {r : Reach} {b0 : Nat} {t e : TypeId} {f0 f1 f2 f3 : Field} {v : Value} {d : DataW H} {p : List MemPlace}
    (ht : P.underlying t = some (.slice e)) (he : P.underlying e = some (.struct #[f0, f1, f2, f3])) (hone : oneCellFields P #[f0, f1, f2, f3] = true) (hC : P.cellsOf e = 4)
    (u0 : P.underlying f0.type = some (.int .i64)) (u1 : P.underlying f1.type = some (.int .i8)) (u2 : P.underlying f2.type = some (.int .u64)) (u3 : P.underlying f3.type = some (.int .i64))
    (hv : Value.okWide P w r b0 t v) (h : DataW.Trod enc P w base (fun _ => true) held t v d p) :
    ∃ (O : Option Addr) (cap : Nat) (l : List Sb), v = .slice O l.length cap ∧ l.length ≤ cap ∧ cap ≤ maxLen ∧ True ∧ RK encS 4 w O l := by
  obtain ⟨O, len, cap, rfl, hl, hm, hc⟩ := open_structs ht he hone hC (by simp) hv h
  by_cases h0 : 0 < len
  · obtain ⟨b, off, rfl, hcell⟩ := hc h0
    have each : ∀ i, i < len → ∃ m : Sb, w.cell? ⟨b, off + i * 4, none⟩ = some (.int .i64 m.a) ∧ w.cell? ⟨b, off + i * 4 + 1, none⟩ = some (.int .i8 m.l) ∧ w.cell? ⟨b, off + i * 4 + 2, none⟩ = some (.int .u64 m.p) ∧ w.cell? ⟨b, off + i * 4 + 3, none⟩ = some (.int .i64 m.f) := by
      intro i hi
      obtain ⟨v0, n0, y0, c0, t0⟩ := hcell i hi 0 f0 rfl
      obtain ⟨v1, n1, y1, c1, t1⟩ := hcell i hi 1 f1 rfl
      obtain ⟨v2, n2, y2, c2, t2⟩ := hcell i hi 2 f2 rfl
      obtain ⟨v3, n3, y3, c3, t3⟩ := hcell i hi 3 f3 rfl
      obtain ⟨z0, e0, _, w0⟩ := DataW.trod_int u0 t0
      obtain ⟨z1, e1, _, w1⟩ := DataW.trod_int u1 t1
      obtain ⟨z2, e2, _, w2⟩ := DataW.trod_int u2 t2
      obtain ⟨z3, e3, _, w3⟩ := DataW.trod_int u3 t3
      simp only [List.cons.injEq, and_true] at e0 e1 e2 e3
      subst e0 e1 e2 e3
      exact ⟨⟨z0, z1, z2, z3⟩, c0, by rw [Nat.add_assoc]; exact c1, by rw [Nat.add_assoc]; exact c2, by rw [Nat.add_assoc]; exact c3⟩
    let g : Nat → Sb := fun i => if h : i < len then (each i h).choose else ⟨0, 0, 0, 0⟩
    have all : ∀ i, i < len → w.cell? ⟨b, off + i * 4, none⟩ = some (.int .i64 (g i).a) ∧ w.cell? ⟨b, off + i * 4 + 1, none⟩ = some (.int .i8 (g i).l) ∧ w.cell? ⟨b, off + i * 4 + 2, none⟩ = some (.int .u64 (g i).p) ∧ w.cell? ⟨b, off + i * 4 + 3, none⟩ = some (.int .i64 (g i).f) := fun i hi => by
      have := (each i hi).choose_spec
      simp only [g, hi, dif_pos]
      exact this
    refine ⟨some ⟨b, off, none⟩, cap, (List.range len).map g, by simp, by simpa using hl, hm, trivial, fun _ => ⟨b, off, rfl, fun i x hx j u hu => ?_⟩⟩
    obtain ⟨hi, rfl⟩ := range_at len g i x hx
    obtain ⟨a0, a1, a2, a3⟩ := all i hi
    match j, hu with
    | 0, hu => simp only [encS, List.getElem?_cons_zero, Option.some.injEq] at hu; subst hu; exact a0
    | 1, hu => simp only [encS, List.getElem?_cons_succ, List.getElem?_cons_zero, Option.some.injEq] at hu; subst hu; exact a1
    | 2, hu => simp only [encS, List.getElem?_cons_succ, List.getElem?_cons_zero, Option.some.injEq] at hu; subst hu; exact a2
    | 3, hu => simp only [encS, List.getElem?_cons_succ, List.getElem?_cons_zero, Option.some.injEq] at hu; subst hu; exact a3
    | q + 4, hu => simp [encS] at hu
  · obtain rfl : len = 0 := by omega
    exact ⟨O, cap, [], rfl, hl, hm, trivial, fun h => by simp at h⟩
end
end Go.Proofs.YtgdkkhdhomehdaaDoor
