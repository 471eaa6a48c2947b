/-
  A slice of acts on a memory as an argument: each element's nine cells.
-/
import Derived.Test.YtlhbofgcgfbchaaOpenDeep
import Derived.Test.YtlhbofgcgfbchaaRw
namespace Go.Proofs.Ytlhbofgcgfbchaa
open Go.ChangeShapes Go.WideShapes Go.ChangeAt Go.RowKit Go.Deep
set_option linter.unusedVariables false
def I64 (n : Int) : Prop := -9223372036854775808 ≤ n ∧ n < 9223372036854775808
theorem i64_of {n : Int} (h : (Lit.int .i64 n).wf = true) : I64 n := ⟨(bounds_i64 h).1, by have := (bounds_i64 h).2; omega⟩
/-- An act: what, a word, a value, an entry, a frame. -/
structure Ac where
  d : Int
  x : Int
  v : Int
  ek : Int
  ex : Int
  ev : Int
  ef : Int
  et : Int
  f : Int
def encA (x : Ac) : List Value := [.int .i64 x.d, .int .u64 x.x, .int .u64 x.v, .int .i8 x.ek, .int .u64 x.ex, .int .u64 x.ev, .int .i64 x.ef, .int .i64 x.et, .int .i64 x.f]
def Ac.wf (x : Ac) : Prop := I64 x.d ∧ U64 x.x ∧ U64 x.ex ∧ I64 x.ef ∧ I64 x.et ∧ I64 x.f
def ActsK (w : World) (O : Option Addr) (xs : List Ac) : Prop := RK encA 9 w O xs ∧ ∀ x ∈ xs, x.wf
section
variable {HH : Type} {enc : TypeId × Value → HH} {w : World} {base : Nat} {held : Bool} {n : Nat} {cs : List Value} {y : DataW HH × List MemPlace}
theorem cellsAct : Try.prog.cellsOf 47 = 9 := by kernel_rfl
theorem cellsEnt : Try.prog.cellsOf 29 = 5 := by kernel_rfl
theorem cellsI : Try.prog.cellsOf 3 = 1 := by kernel_rfl
theorem cellsU : Try.prog.cellsOf 22 = 1 := by kernel_rfl
theorem cells8 : Try.prog.cellsOf 27 = 1 := by kernel_rfl
theorem nine {cs : List Value} (h : cs.length = 9) : ∃ c0 c1 c2 c3 c4 c5 c6 c7 c8, cs = [c0, c1, c2, c3, c4, c5, c6, c7, c8] := by
  match cs, h with
  | [c0, c1, c2, c3, c4, c5, c6, c7, c8], _ => exact ⟨c0, c1, c2, c3, c4, c5, c6, c7, c8, rfl⟩
theorem trod_act (h : DataW.trod enc Try.prog w base (fun _ => true) held n 47 cs = some y) : ∃ x : Ac, cs = encA x ∧ x.wf := by
  obtain ⟨xs, k, _, _, hlen, hxl, hfl⟩ := DataW.trod_struct Try.underlying47 h
  obtain ⟨c0, c1, c2, c3, c4, c5, c6, c7, c8, rfl⟩ := nine (hlen.trans cellsAct)
  have hx5 : xs.length = 5 := hxl
  have f0 : DataW.trod enc Try.prog w base (fun _ => true) held k 3 (List.take (Try.prog.cellsOf 3) (List.drop 0 [c0, c1, c2, c3, c4, c5, c6, c7, c8])) = xs[0]? := hfl 0 _ rfl
  have f1 : DataW.trod enc Try.prog w base (fun _ => true) held k 22 (List.take (Try.prog.cellsOf 22) (List.drop 1 [c0, c1, c2, c3, c4, c5, c6, c7, c8])) = xs[1]? := hfl 1 _ rfl
  have f2 : DataW.trod enc Try.prog w base (fun _ => true) held k 22 (List.take (Try.prog.cellsOf 22) (List.drop 2 [c0, c1, c2, c3, c4, c5, c6, c7, c8])) = xs[2]? := hfl 2 _ rfl
  have f3 : DataW.trod enc Try.prog w base (fun _ => true) held k 29 (List.take (Try.prog.cellsOf 29) (List.drop 3 [c0, c1, c2, c3, c4, c5, c6, c7, c8])) = xs[3]? := hfl 3 _ rfl
  have f4 : DataW.trod enc Try.prog w base (fun _ => true) held k 3 (List.take (Try.prog.cellsOf 3) (List.drop 8 [c0, c1, c2, c3, c4, c5, c6, c7, c8])) = xs[4]? := hfl 4 _ rfl
  rw [cellsI, List.getElem?_eq_getElem (by omega)] at f0 f4
  rw [cellsU, List.getElem?_eq_getElem (by omega)] at f1 f2
  rw [cellsEnt, List.getElem?_eq_getElem (by omega)] at f3
  obtain ⟨zs, m, _, _, zlen, hzl, hz⟩ := DataW.trod_struct Try.underlying29 f3
  have hz5 : zs.length = 5 := hzl
  have g0 : DataW.trod enc Try.prog w base (fun _ => true) held m 27 (List.take (Try.prog.cellsOf 27) (List.drop 0 [c3, c4, c5, c6, c7])) = zs[0]? := hz 0 _ rfl
  have g1 : DataW.trod enc Try.prog w base (fun _ => true) held m 22 (List.take (Try.prog.cellsOf 22) (List.drop 1 [c3, c4, c5, c6, c7])) = zs[1]? := hz 1 _ rfl
  have g2 : DataW.trod enc Try.prog w base (fun _ => true) held m 22 (List.take (Try.prog.cellsOf 22) (List.drop 2 [c3, c4, c5, c6, c7])) = zs[2]? := hz 2 _ rfl
  have g3 : DataW.trod enc Try.prog w base (fun _ => true) held m 3 (List.take (Try.prog.cellsOf 3) (List.drop 3 [c3, c4, c5, c6, c7])) = zs[3]? := hz 3 _ rfl
  have g4 : DataW.trod enc Try.prog w base (fun _ => true) held m 3 (List.take (Try.prog.cellsOf 3) (List.drop 4 [c3, c4, c5, c6, c7])) = zs[4]? := hz 4 _ rfl
  rw [cells8, List.getElem?_eq_getElem (by omega)] at g0
  rw [cellsU, List.getElem?_eq_getElem (by omega)] at g1 g2
  rw [cellsI, List.getElem?_eq_getElem (by omega)] at g3 g4
  obtain ⟨a0, e0, -, w0⟩ := DataW.trod_int Try.underlying3 f0
  obtain ⟨a1, e1, -, w1⟩ := DataW.trod_int Try.underlying22 f1
  obtain ⟨a2, e2, -, w2⟩ := DataW.trod_int Try.underlying22 f2
  obtain ⟨a3, e3, -, w3⟩ := DataW.trod_int Try.underlying27 g0
  obtain ⟨a4, e4, -, w4⟩ := DataW.trod_int Try.underlying22 g1
  obtain ⟨a5, e5, -, w5⟩ := DataW.trod_int Try.underlying22 g2
  obtain ⟨a6, e6, -, w6⟩ := DataW.trod_int Try.underlying3 g3
  obtain ⟨a7, e7, -, w7⟩ := DataW.trod_int Try.underlying3 g4
  obtain ⟨a8, e8, -, w8⟩ := DataW.trod_int Try.underlying3 f4
  simp only [List.drop_zero, List.drop_succ_cons, List.take_succ_cons, List.take_zero, List.cons.injEq, and_true] at e0 e1 e2 e3 e4 e5 e6 e7 e8
  subst e0 e1 e2 e3 e4 e5 e6 e7 e8
  exact ⟨⟨a0, a1, a2, a3, a4, a5, a6, a7, a8⟩, rfl, i64_of w0, u64_wf w1, u64_wf w4, i64_of w6, i64_of w7, i64_of w8⟩
theorem open_acts8 {r : Reach} {b0 : Nat} {v : Value} {d : DataW HH} {p : List MemPlace} (hv : Value.okWide Try.prog w r b0 41 v) (h : DataW.Trod enc Try.prog w base (fun _ => true) held 41 v d p) :
    ∃ (O : Option Addr) (cap : Nat) (xs : List Ac), v = .slice O xs.length cap ∧ xs.length ≤ cap ∧ cap ≤ maxLen ∧ ActsK w O xs := by
  obtain ⟨O, len, cap, rfl, hl, hm, hc⟩ := open_elems Try.underlying41 cellsAct (by omega) hv h
  by_cases h0 : 0 < len
  · obtain ⟨b, off, rfl, hcell⟩ := hc h0
    have each : ∀ i, i < len → ∃ x : Ac, x.wf ∧ ∀ j u, (encA x)[j]? = some u → w.cell? ⟨b, off + (i * 9 + j), none⟩ = some u := fun i hi => by
      obtain ⟨cs, n, y, -, h1, h2⟩ := hcell i hi
      obtain ⟨x, rfl, hx⟩ := trod_act h2
      exact ⟨x, hx, h1⟩
    have z : Ac := ⟨0, 0, 0, 0, 0, 0, 0, 0, 0⟩
    let g : Nat → Ac := fun i => if h : i < len then (each i h).choose else z
    have all : ∀ i, i < len → (g i).wf ∧ ∀ j u, (encA (g i))[j]? = some u → w.cell? ⟨b, off + (i * 9 + j), none⟩ = some u := fun i hi => by
      have := (each i hi).choose_spec
      simp only [g, hi, dif_pos]
      exact this
    refine ⟨some ⟨b, off, none⟩, cap, (List.range len).map g, by simp, by simpa using hl, hm, fun _ => ⟨b, off, rfl, fun i x hx j u hu => ?_⟩, fun x hx => ?_⟩
    · rw [List.getElem?_map] at hx
      obtain ⟨i', hi', rfl⟩ := Option.map_eq_some_iff.1 hx
      have hil : i < len := by have := (List.getElem?_eq_some_iff.1 hi').1; simpa using this
      rw [List.getElem?_range hil] at hi'
      cases hi'
      rw [Nat.add_assoc]
      exact (all i hil).2 j u hu
    · obtain ⟨i, hi, rfl⟩ := List.mem_map.1 hx
      exact (all i (by simpa using hi)).1
  · obtain rfl : len = 0 := by omega
    exact ⟨O, cap, [], rfl, hl, hm, fun h => by simp at h, fun x hx => by simp at hx⟩
end
end Go.Proofs.Ytlhbofgcgfbchaa
