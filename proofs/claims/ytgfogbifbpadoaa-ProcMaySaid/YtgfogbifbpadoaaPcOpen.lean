/-
  A thread, a space, as cells that read; a thread and a space by value, opened.
-/
import Derived.Test.YtgfogbifbpadoaaOpenDeep
import Derived.Test.YtgfogbifbpadoaaOpenRegs
import Derived.Test.YtgfogbifbpadoaaPcBase
namespace Go.Proofs.Ytgfogbifbpadoaa
open Go.ChangeShapes Go.WideShapes Go.ChangeAt Go.RowKit Go.Deep
set_option linter.unusedVariables false
set_option linter.unusedSimpArgs false
/-- What each element's fields read as. -/
theorem trod_structs {H : Type} {enc : TypeId × Value → H} {P : Program} {w : World} {base : Nat} {held : Bool} {t e : TypeId} {fs : Array Field} {cs0 : List Value} {fuel : Nat} {y0 : DataW H × List MemPlace}
    (ht : P.underlying t = some (.slice e)) (he : P.underlying e = some (.struct fs)) (hone : oneCellFields P fs = true) (hC : P.cellsOf e = fs.size) (hp : 0 < fs.size)
    (hf : DataW.trod enc P w base (fun _ => true) held fuel t cs0 = some y0) :
    ∃ (O : Option Addr) (len cap : Nat), cs0 = [.slice O len cap] ∧ len ≤ cap ∧ cap ≤ maxLen ∧ (0 < len → ∃ b off : Nat, O = some ⟨b, off, none⟩ ∧ ∀ i, i < len → ∀ (j : Nat) (f : Field), fs[j]? = some f →
      ∃ (u : Value) (n : Nat) (y : DataW H × List MemPlace), w.cell? ⟨b, off + (i * fs.size + j), none⟩ = some u ∧ DataW.trod enc P w base (fun _ => true) held n f.type [u] = some y) := by
  rcases open_slice ht hf with ⟨hcs, hx⟩ | ⟨a, len, cap, m, n, D, Pl, hcs, hb, hl, hm, hmm, hx, hel⟩
  · subst hcs
    exact ⟨none, 0, 0, rfl, Nat.le_refl _, by unfold maxLen; omega, fun h => by omega⟩
  · subst hcs
    simp only [if_true] at hmm
    have each : ∀ i, i < len → ∀ (j : Nat) (f : Field), fs[j]? = some f → ∃ (u : Value) (k : Nat) (y : DataW H × List MemPlace), w.cell? (a.add (i * fs.size + j)) = some u ∧ DataW.trod enc P w base (fun _ => true) held k f.type [u] = some y := by
      intro i hi j f hj
      obtain ⟨cs, h1, h2⟩ := hel i (by omega)
      rw [hC] at h1
      obtain ⟨_, hlen, hcell⟩ := World.cells?_some h1
      obtain ⟨xs, k, hk, hxy, _, hxl, hfl⟩ := DataW.trod_struct he h2
      have hjl : j < fs.size := (Array.getElem?_eq_some_iff.1 hj).1
      obtain ⟨ho, hk1⟩ := hone_of hone j f hj
      have g := hfl j f hj
      rw [ho, hk1, List.drop_eq_getElem_cons (by omega), List.take_succ_cons, List.take_zero] at g
      have c := hcell j hjl
      rw [Go.Deep.add_add, List.getElem?_eq_getElem (by omega)] at c
      exact ⟨_, k, xs[j]'(by omega), c, g.trans (List.getElem?_eq_getElem (by omega))⟩
    refine ⟨some a, len, cap, rfl, hl, hm, fun h0 => ?_⟩
    obtain ⟨b, off, spot⟩ := a
    obtain ⟨f0, hf0⟩ : ∃ f0, fs[0]? = some f0 := ⟨fs[0], Array.getElem?_eq_getElem hp⟩
    obtain ⟨u, _, _, hu, _⟩ := each 0 (by omega) 0 f0 hf0
    have hspot : spot = none := by simpa [Addr.add] using World.cell?_spot hu
    subst hspot
    refine ⟨b, off, rfl, fun i hi j f hj => ?_⟩
    have ad : ∀ q, (⟨b, off, none⟩ : Addr).add q = ⟨b, off + q, none⟩ := fun q => by unfold Addr.add; split <;> simp_all
    obtain ⟨u, k, y, h1, h2⟩ := each i hi j f hj
    rw [ad] at h1
    exact ⟨u, k, y, h1, h2⟩
theorem trod_regsL {H : Type} {enc : TypeId × Value → H} {P : Program} {w : World} {base : Nat} {held : Bool} {t e : TypeId} {f0 f1 f2 : Field} {cs0 : List Value} {fuel : Nat} {yy : DataW H × List MemPlace}
    (ht : P.underlying t = some (.slice e)) (he : P.underlying e = some (.struct #[f0, f1, f2])) (hone : oneCellFields P #[f0, f1, f2] = true) (hC : P.cellsOf e = 3)
    (u0 : P.underlying f0.type = some (.int .u64)) (u1 : P.underlying f1.type = some (.int .i64)) (u2 : P.underlying f2.type = some .bool)
    (hf : DataW.trod enc P w base (fun _ => true) held fuel t cs0 = some yy) :
    ∃ (O : Option Addr) (cap : Nat) (l : List Reg), cs0 = [.slice O l.length cap] ∧ l.length ≤ cap ∧ cap ≤ maxLen ∧ (∀ i, i < l.length → (rg l i).wf) ∧ RegsK w O l := by
  obtain ⟨O, len, cap, rfl, hl, hm, hc⟩ := trod_structs ht he hone hC (by simp) hf
  by_cases h0 : 0 < len
  · obtain ⟨b, off, rfl, hcell⟩ := hc h0
    have each : ∀ i, i < len → ∃ r : Reg, r.wf ∧ w.cell? ⟨b, off + i * 3, none⟩ = some (.int .u64 r.f) ∧ w.cell? ⟨b, off + i * 3 + 1, none⟩ = some (.int .i64 r.c) ∧ w.cell? ⟨b, off + i * 3 + 2, none⟩ = some (.bool r.w) := by
      intro i hi
      obtain ⟨v0, n0, y0, c0, t0⟩ := hcell i hi 0 f0 rfl
      obtain ⟨v1, n1, y1, c1, t1⟩ := hcell i hi 1 f1 rfl
      obtain ⟨v2, n2, y2, c2, t2⟩ := hcell i hi 2 f2 rfl
      obtain ⟨a, e0, _, w0⟩ := DataW.trod_int u0 t0
      obtain ⟨c, e1, _, w1⟩ := DataW.trod_int u1 t1
      obtain ⟨x, e2, _⟩ := DataW.trod_bool u2 t2
      simp only [List.cons.injEq, and_true] at e0 e1 e2
      subst e0 e1 e2
      have q0 := bounds_u64 w0
      have q1 := bounds_i64 w1
      exact ⟨⟨a, c, x⟩, ⟨⟨q0.1, by show a < _; have := q0.2; omega⟩, ⟨q1.1, by show c < _; have := q1.2; omega⟩⟩, c0, by rw [Nat.add_assoc]; exact c1, by rw [Nat.add_assoc]; exact c2⟩
    let g : Nat → Reg := fun i => if h : i < len then (each i h).choose else ⟨0, 0, false⟩
    have all : ∀ i, i < len → (g i).wf ∧ w.cell? ⟨b, off + i * 3, none⟩ = some (.int .u64 (g i).f) ∧ w.cell? ⟨b, off + i * 3 + 1, none⟩ = some (.int .i64 (g i).c) ∧ w.cell? ⟨b, off + i * 3 + 2, none⟩ = some (.bool (g i).w) := fun i hi => by
      have := (each i hi).choose_spec
      simp only [g, hi, dif_pos]
      exact this
    refine ⟨some ⟨b, off, none⟩, cap, (List.range len).map g, by simp, by simpa using hl, hm, fun i hi => ?_, fun _ => ⟨b, off, rfl, fun i hi => ?_⟩⟩
    · rw [rg_map len g i (by simpa using hi)]; exact (all i (by simpa using hi)).1
    · rw [rg_map len g i (by simpa using hi)]; exact (all i (by simpa using hi)).2
  · obtain rfl : len = 0 := by omega
    exact ⟨O, cap, [], rfl, hl, hm, fun i hi => by simp at hi, fun h => by simp at h⟩
theorem twelve {α : Type} {cs : List α} (h : cs.length = 12) : ∃ c0 c1 c2 c3 c4 c5 c6 c7 c8 c9 c10 c11, cs = [c0, c1, c2, c3, c4, c5, c6, c7, c8, c9, c10, c11] := by
  match cs, h with
  | [c0, c1, c2, c3, c4, c5, c6, c7, c8, c9, c10, c11], _ => exact ⟨c0, c1, c2, c3, c4, c5, c6, c7, c8, c9, c10, c11, rfl⟩
theorem fiveL {α : Type} {cs : List α} (h : cs.length = 5) : ∃ c0 c1 c2 c3 c4, cs = [c0, c1, c2, c3, c4] := by
  match cs, h with
  | [c0, c1, c2, c3, c4], _ => exact ⟨c0, c1, c2, c3, c4, rfl⟩
/-- A thread's numbers are numbers of their kinds. -/
structure Th.wf (t : Th) : Prop where
  sp : I64 t.sp
  r0 : U64 t.r0
  r1 : U64 t.r1
  r2 : U64 t.r2
  r3 : U64 t.r3
  r4 : U64 t.r4
  r5 : U64 t.r5
  r6 : U64 t.r6
  r7 : U64 t.r7
  pc : I64 t.pc
  core : I64 t.core
theorem i64_of {n : Int} (h : (Lit.int .i64 n).wf = true) : I64 n := ⟨(bounds_i64 h).1, by have := (bounds_i64 h).2; omega⟩
section
variable {H : Type} {enc : TypeId × Value → H} {w : World} {base : Nat} {spare : Nat → Bool} {held : Bool} {n : Nat} {cs : List Value} {y : DataW H × List MemPlace}
theorem cellsTh : Try.prog.cellsOf 36 = 12 := by kernel_rfl
theorem cellsSp : Try.prog.cellsOf 38 = 5 := by kernel_rfl
theorem cellsInt : Try.prog.cellsOf 3 = 1 := by kernel_rfl
theorem cellsU64 : Try.prog.cellsOf 33 = 1 := by kernel_rfl
theorem cellsBool : Try.prog.cellsOf 4 = 1 := by kernel_rfl
theorem cellsRegs8 : Try.prog.cellsOf 34 = 8 := by kernel_rfl
theorem cellsRegions : Try.prog.cellsOf 32 = 1 := by kernel_rfl
theorem trod_th (h : DataW.trod enc Try.prog w base spare held n 36 cs = some y) : ∃ T : Th, cs = thC T ∧ T.wf := by
  obtain ⟨xs, k, _, _, hlen, hxl, hfl⟩ := DataW.trod_struct Try.underlying36 h
  obtain ⟨c0, c1, c2, c3, c4, c5, c6, c7, c8, c9, c10, c11, rfl⟩ := twelve (hlen.trans cellsTh)
  have g : ∀ (i : Nat) (f : Field), (i < xs.length) → ∃ z, xs[i]? = some z := fun i f hi => ⟨_, List.getElem?_eq_getElem hi⟩
  have hx5 : xs.length = 5 := hxl
  have f0 : DataW.trod enc Try.prog w base spare held k 3 (List.take (Try.prog.cellsOf 3) (List.drop 0 [c0, c1, c2, c3, c4, c5, c6, c7, c8, c9, c10, c11])) = xs[0]? := hfl 0 _ rfl
  rw [cellsInt, List.getElem?_eq_getElem (by omega)] at f0
  have f1 : DataW.trod enc Try.prog w base spare held k 34 (List.take (Try.prog.cellsOf 34) (List.drop 1 [c0, c1, c2, c3, c4, c5, c6, c7, c8, c9, c10, c11])) = xs[1]? := hfl 1 _ rfl
  rw [cellsRegs8, List.getElem?_eq_getElem (by omega)] at f1
  have f2 : DataW.trod enc Try.prog w base spare held k 3 (List.take (Try.prog.cellsOf 3) (List.drop 9 [c0, c1, c2, c3, c4, c5, c6, c7, c8, c9, c10, c11])) = xs[2]? := hfl 2 _ rfl
  rw [cellsInt, List.getElem?_eq_getElem (by omega)] at f2
  have f3 : DataW.trod enc Try.prog w base spare held k 3 (List.take (Try.prog.cellsOf 3) (List.drop 10 [c0, c1, c2, c3, c4, c5, c6, c7, c8, c9, c10, c11])) = xs[3]? := hfl 3 _ rfl
  rw [cellsInt, List.getElem?_eq_getElem (by omega)] at f3
  have f4 : DataW.trod enc Try.prog w base spare held k 4 (List.take (Try.prog.cellsOf 4) (List.drop 11 [c0, c1, c2, c3, c4, c5, c6, c7, c8, c9, c10, c11])) = xs[4]? := hfl 4 _ rfl
  rw [cellsBool, List.getElem?_eq_getElem (by omega)] at f4
  obtain ⟨a0, e0, -, w0⟩ := DataW.trod_int Try.underlying3 f0
  obtain ⟨a9, e9, -, w9⟩ := DataW.trod_int Try.underlying3 f2
  obtain ⟨a10, e10, -, w10⟩ := DataW.trod_int Try.underlying3 f3
  obtain ⟨b, e11, -⟩ := DataW.trod_bool Try.underlying4 f4
  obtain ⟨zs, m, _, _, _, hzl, hz⟩ := DataW.trod_array Try.underlying34 f1
  have gz : ∀ i, i < 8 → ∃ a : Int, ((List.take 8 (List.drop 1 [c0, c1, c2, c3, c4, c5, c6, c7, c8, c9, c10, c11])).drop i).take 1 = [.int .u64 a] ∧ U64 a := fun i hi => by
    have h1 := hz i hi
    rw [cellsU64, Nat.mul_one, List.getElem?_eq_getElem (by omega)] at h1
    obtain ⟨a, e, -, wf⟩ := DataW.trod_int Try.underlying33 h1
    exact ⟨a, e, u64_wf wf⟩
  obtain ⟨a1, e1, w1⟩ := gz 0 (by omega)
  obtain ⟨a2, e2, w2⟩ := gz 1 (by omega)
  obtain ⟨a3, e3, w3⟩ := gz 2 (by omega)
  obtain ⟨a4, e4, w4⟩ := gz 3 (by omega)
  obtain ⟨a5, e5, w5⟩ := gz 4 (by omega)
  obtain ⟨a6, e6, w6⟩ := gz 5 (by omega)
  obtain ⟨a7, e7, w7⟩ := gz 6 (by omega)
  obtain ⟨a8, e8, w8⟩ := gz 7 (by omega)
  simp only [List.drop_zero, List.drop_succ_cons, List.take_succ_cons, List.take_zero, List.cons.injEq, and_true] at e0 e1 e2 e3 e4 e5 e6 e7 e8 e9 e10 e11
  subst e0 e1 e2 e3 e4 e5 e6 e7 e8 e9 e10 e11
  exact ⟨⟨a0, a1, a2, a3, a4, a5, a6, a7, a8, a9, a10, b⟩, rfl, ⟨i64_of w0, w1, w2, w3, w4, w5, w6, w7, w8, i64_of w9, i64_of w10⟩⟩
/-- A space that was given. -/
structure Spc.Given (w : World) (s : Spc) : Prop where
  row : RegsK w s.O s.l
  cap : s.l.length ≤ s.cap
  wf : ∀ i, i < s.l.length → (rg s.l i).wf
  thr : I64 s.thr
  img : I64 s.img
  asid : I64 s.asid
  age : I64 s.age
theorem trod_regs (h : DataW.trod enc Try.prog w base (fun _ => true) held n 32 cs = some y) : ∃ (O : Option Addr) (cap : Nat) (l : List Reg), cs = [.slice O l.length cap] ∧ l.length ≤ cap ∧ cap ≤ maxLen ∧ (∀ i, i < l.length → (rg l i).wf) ∧ RegsK w O l :=
  trod_regsL Try.underlying32 Try.underlying79 (by kernel_rfl) (by kernel_rfl) Try.underlying33 Try.underlying3 Try.underlying4 h
theorem trod_spc (h : DataW.trod enc Try.prog w base (fun _ => true) held n 38 cs = some y) : ∃ s : Spc, cs = spC s ∧ s.Given w := by
  obtain ⟨xs, k, _, _, hlen, hxl, hfl⟩ := DataW.trod_struct Try.underlying38 h
  obtain ⟨c0, c1, c2, c3, c4, rfl⟩ := fiveL (hlen.trans cellsSp)
  have hx5 : xs.length = 5 := hxl
  have f0 : DataW.trod enc Try.prog w base (fun _ => true) held k 32 (List.take (Try.prog.cellsOf 32) (List.drop 0 [c0, c1, c2, c3, c4])) = xs[0]? := hfl 0 _ rfl
  rw [cellsRegions, List.getElem?_eq_getElem (by omega)] at f0
  have f1 : DataW.trod enc Try.prog w base (fun _ => true) held k 3 (List.take (Try.prog.cellsOf 3) (List.drop 1 [c0, c1, c2, c3, c4])) = xs[1]? := hfl 1 _ rfl
  rw [cellsInt, List.getElem?_eq_getElem (by omega)] at f1
  have f2 : DataW.trod enc Try.prog w base (fun _ => true) held k 3 (List.take (Try.prog.cellsOf 3) (List.drop 2 [c0, c1, c2, c3, c4])) = xs[2]? := hfl 2 _ rfl
  rw [cellsInt, List.getElem?_eq_getElem (by omega)] at f2
  have f3 : DataW.trod enc Try.prog w base (fun _ => true) held k 3 (List.take (Try.prog.cellsOf 3) (List.drop 3 [c0, c1, c2, c3, c4])) = xs[3]? := hfl 3 _ rfl
  rw [cellsInt, List.getElem?_eq_getElem (by omega)] at f3
  have f4 : DataW.trod enc Try.prog w base (fun _ => true) held k 3 (List.take (Try.prog.cellsOf 3) (List.drop 4 [c0, c1, c2, c3, c4])) = xs[4]? := hfl 4 _ rfl
  rw [cellsInt, List.getElem?_eq_getElem (by omega)] at f4
  obtain ⟨O, cap, l, e0, h1, h2, h3, h4⟩ := trod_regs f0
  obtain ⟨a1, e1, -, w1⟩ := DataW.trod_int Try.underlying3 f1
  obtain ⟨a2, e2, -, w2⟩ := DataW.trod_int Try.underlying3 f2
  obtain ⟨a3, e3, -, w3⟩ := DataW.trod_int Try.underlying3 f3
  obtain ⟨a4, e4, -, w4⟩ := DataW.trod_int Try.underlying3 f4
  simp only [List.drop_zero, List.drop_succ_cons, List.take_succ_cons, List.take_zero, List.cons.injEq, and_true] at e0 e1 e2 e3 e4
  subst e0 e1 e2 e3 e4
  exact ⟨⟨O, cap, l, a1, a2, a3, a4⟩, rfl, ⟨h4, h1, h3, i64_of w1, i64_of w2, i64_of w3, i64_of w4⟩⟩
theorem open_thArg {r : Reach} {b0 : Nat} {v : Value} {d : DataW H} {p : List MemPlace} (hv : Value.okWide Try.prog w r b0 36 v) (h : DataW.Trod enc Try.prog w base spare held 36 v d p) : ∃ T : Th, v = .agg (thC T).toArray ∧ T.wf := by
  obtain ⟨cs, rfl, -⟩ := okWide_struct Try.underlying36 hv
  obtain ⟨fuel, hf⟩ := h
  obtain ⟨T, e, hT⟩ := trod_th hf
  refine ⟨T, ?_, hT⟩
  rw [← e]
  simp [Value.cells]
theorem open_spArg {r : Reach} {b0 : Nat} {v : Value} {d : DataW H} {p : List MemPlace} (hv : Value.okWide Try.prog w r b0 38 v) (h : DataW.Trod enc Try.prog w base (fun _ => true) held 38 v d p) : ∃ s : Spc, v = .agg (spC s).toArray ∧ s.Given w := by
  obtain ⟨cs, rfl, -⟩ := okWide_struct Try.underlying38 hv
  obtain ⟨fuel, hf⟩ := h
  obtain ⟨s, e, hs⟩ := trod_spc hf
  refine ⟨s, ?_, hs⟩
  rw [← e]
  simp [Value.cells]
end
end Go.Proofs.Ytgfogbifbpadoaa
