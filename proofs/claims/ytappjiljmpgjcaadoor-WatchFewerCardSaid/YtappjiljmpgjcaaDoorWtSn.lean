/-
  A snapshot's parts as plain data, their cells, and how a snapshot that came in is opened (printed by gen/wtsn.py).
-/
import Derived.Test.YtappjiljmpgjcaaDoorWtBase
import Derived.Test.YtappjiljmpgjcaaDoorOpenDeep
namespace Go.Proofs.YtappjiljmpgjcaaDoor
open Go.ChangeShapes Go.WideShapes Go.ChangeAt Go.RowKit Go.Deep
set_option linter.unusedVariables false
set_option linter.unusedSimpArgs false
theorem i64_of {n : Int} (h : (Lit.int .i64 n).wf = true) : I64 n := ⟨(bounds_i64 h).1, by have := (bounds_i64 h).2; omega⟩
/-- A row of parts, as it is read. -/
theorem trod_rows {H α : Type} {enc0 : TypeId × Value → H} {w : World} {base : Nat} {held : Bool} {t e : TypeId} {cs0 : List Value} {fuel : Nat} {y0 : DataW H × List MemPlace} (enc : α → List Value) (Gv : World → α → Prop) (C : Nat) (z : α)
    (ht : Tryd.prog.underlying t = some (.slice e)) (hC : Tryd.prog.cellsOf e = C) (hp : 0 < C)
    (hel : ∀ (n : Nat) (cs : List Value) (y : DataW H × List MemPlace), DataW.trod enc0 Tryd.prog w base (fun _ => true) held n e cs = some y → ∃ x, cs = enc x ∧ Gv w x)
    (hf : DataW.trod enc0 Tryd.prog w base (fun _ => true) held fuel t cs0 = some y0) :
    ∃ (O : Option Addr) (cap : Nat) (xs : List α), cs0 = [.slice O xs.length cap] ∧ xs.length ≤ cap ∧ cap ≤ maxLen ∧ RK enc C w O xs ∧ ∀ x ∈ xs, Gv w x := by
  rcases open_slice ht hf with ⟨hcs, hx⟩ | ⟨a, len, cap, m, n, D, Pl, hcs, hb, hl, hm, hmm, hx, hel0⟩
  · subst hcs
    exact ⟨none, 0, [], rfl, Nat.le_refl _, by unfold maxLen; omega, fun h => by simp at h, fun x hx => by simp at hx⟩
  · subst hcs
    simp only [if_true] at hmm
    have each : ∀ i, i < len → ∃ x : α, Gv w x ∧ ∀ j u, (enc x)[j]? = some u → w.cell? (a.add (i * C + j)) = some u := by
      intro i hi
      obtain ⟨cs, h1, h2⟩ := hel0 i (by omega)
      rw [hC] at h1
      obtain ⟨_, hlen, hcell⟩ := World.cells?_some h1
      obtain ⟨x, rfl, hg⟩ := hel _ _ _ h2
      refine ⟨x, hg, fun j u hj => ?_⟩
      have hjl : j < C := by have := (List.getElem?_eq_some_iff.1 hj).1; omega
      have c := hcell j hjl
      rw [Go.Deep.add_add, hj] at c
      exact c
    have ad : ∀ (b off q : Nat), (⟨b, off, none⟩ : Addr).add q = ⟨b, off + q, none⟩ := fun b off q => by unfold Addr.add; split <;> simp_all
    by_cases h0 : 0 < len
    · obtain ⟨b, off, spot⟩ := a
      obtain ⟨cs, h1, h2⟩ := hel0 0 (by omega)
      rw [hC] at h1
      obtain ⟨_, hlen, hcell⟩ := World.cells?_some h1
      have hspot : spot = none := by
        have := hcell 0 hp
        rw [List.getElem?_eq_getElem (by omega)] at this
        simpa [Addr.add] using World.cell?_spot this
      subst hspot
      replace each : ∀ i, i < len → ∃ x : α, Gv w x ∧ ∀ j u, (enc x)[j]? = some u → w.cell? ⟨b, off + i * C + j, none⟩ = some u := fun i hi => by
        obtain ⟨x, hg, hc⟩ := each i hi
        exact ⟨x, hg, fun j u hj => by rw [Nat.add_assoc, ← ad]; exact hc j u hj⟩
      let g : Nat → α := fun i => if h : i < len then (each i h).choose else z
      have all : ∀ i, i < len → Gv w (g i) ∧ ∀ j u, (enc (g i))[j]? = some u → w.cell? ⟨b, off + i * C + j, none⟩ = some u := fun i hi => by
        have := (each i hi).choose_spec
        simp only [g, hi, dif_pos]
        exact this
      refine ⟨some ⟨b, off, none⟩, cap, (List.range len).map g, by simp, by simpa using hl, hm, fun _ => ⟨b, off, rfl, fun i x hx => ?_⟩, fun x hx => ?_⟩
      · simp only [List.getElem?_map, Option.map_eq_some_iff] at hx
        obtain ⟨i', h1, rfl⟩ := hx
        obtain ⟨hlt, e⟩ := List.getElem?_eq_some_iff.1 h1
        simp at e hlt
        subst e
        exact (all _ hlt).2
      · simp only [List.mem_map, List.mem_range] at hx
        obtain ⟨i, hi, rfl⟩ := hx
        exact (all i hi).1
    · obtain rfl : len = 0 := by omega
      exact ⟨some a, cap, [], rfl, hl, hm, fun h => by simp at h, fun x hx => by simp at hx⟩

theorem trod_raw {H : Type} {enc0 : TypeId × Value → H} {w : World} {base : Nat} {held : Bool} {t e : TypeId} {cs0 : List Value} {fuel : Nat} {y0 : DataW H × List MemPlace}
    (ht : Tryd.prog.underlying t = some (.slice e)) (hf : DataW.trod enc0 Tryd.prog w base (fun _ => true) held fuel t cs0 = some y0) : ∃ (O : Option Addr) (len cap : Nat), cs0 = [.slice O len cap] := by
  rcases open_slice ht hf with ⟨hcs, hx⟩ | ⟨a, len, cap, m, n, D, Pl, hcs, _⟩
  · exact ⟨none, 0, 0, hcs⟩
  · exact ⟨some a, len, cap, hcs⟩
theorem list_of2 {α : Type} {cs : List α} (h : cs.length = 2) : ∃ c0 c1, cs = [c0, c1] := by
  match cs, h with
  | [c0, c1], _ => exact ⟨c0, c1, rfl⟩
theorem list_of3 {α : Type} {cs : List α} (h : cs.length = 3) : ∃ c0 c1 c2, cs = [c0, c1, c2] := by
  match cs, h with
  | [c0, c1, c2], _ => exact ⟨c0, c1, c2, rfl⟩
theorem list_of4 {α : Type} {cs : List α} (h : cs.length = 4) : ∃ c0 c1 c2 c3, cs = [c0, c1, c2, c3] := by
  match cs, h with
  | [c0, c1, c2, c3], _ => exact ⟨c0, c1, c2, c3, rfl⟩
theorem list_of5 {α : Type} {cs : List α} (h : cs.length = 5) : ∃ c0 c1 c2 c3 c4, cs = [c0, c1, c2, c3, c4] := by
  match cs, h with
  | [c0, c1, c2, c3, c4], _ => exact ⟨c0, c1, c2, c3, c4, rfl⟩
theorem list_of10 {α : Type} {cs : List α} (h : cs.length = 10) : ∃ c0 c1 c2 c3 c4 c5 c6 c7 c8 c9, cs = [c0, c1, c2, c3, c4, c5, c6, c7, c8, c9] := by
  match cs, h with
  | [c0, c1, c2, c3, c4, c5, c6, c7, c8, c9], _ => exact ⟨c0, c1, c2, c3, c4, c5, c6, c7, c8, c9, rfl⟩
theorem list_of13 {α : Type} {cs : List α} (h : cs.length = 13) : ∃ c0 c1 c2 c3 c4 c5 c6 c7 c8 c9 c10 c11 c12, cs = [c0, c1, c2, c3, c4, c5, c6, c7, c8, c9, c10, c11, c12] := by
  match cs, h with
  | [c0, c1, c2, c3, c4, c5, c6, c7, c8, c9, c10, c11, c12], _ => exact ⟨c0, c1, c2, c3, c4, c5, c6, c7, c8, c9, c10, c11, c12, rfl⟩
theorem list_of28 {α : Type} {cs : List α} (h : cs.length = 28) : ∃ c0 c1 c2 c3 c4 c5 c6 c7 c8 c9 c10 c11 c12 c13 c14 c15 c16 c17 c18 c19 c20 c21 c22 c23 c24 c25 c26 c27, cs = [c0, c1, c2, c3, c4, c5, c6, c7, c8, c9, c10, c11, c12, c13, c14, c15, c16, c17, c18, c19, c20, c21, c22, c23, c24, c25, c26, c27] := by
  match cs, h with
  | [c0, c1, c2, c3, c4, c5, c6, c7, c8, c9, c10, c11, c12, c13, c14, c15, c16, c17, c18, c19, c20, c21, c22, c23, c24, c25, c26, c27], _ => exact ⟨c0, c1, c2, c3, c4, c5, c6, c7, c8, c9, c10, c11, c12, c13, c14, c15, c16, c17, c18, c19, c20, c21, c22, c23, c24, c25, c26, c27, rfl⟩
theorem cells_int8 : Tryd.prog.cellsOf 29 = 1 := by kernel_rfl
theorem cells_bool : Tryd.prog.cellsOf 4 = 1 := by kernel_rfl
theorem cells_tTlbs : Tryd.prog.cellsOf 36 = 1 := by kernel_rfl
theorem cells_tSteps : Tryd.prog.cellsOf 37 = 1 := by kernel_rfl
theorem cells_tEntries : Tryd.prog.cellsOf 42 = 1 := by kernel_rfl
theorem cells_tActions : Tryd.prog.cellsOf 33 = 1 := by kernel_rfl
theorem cells_tCores : Tryd.prog.cellsOf 22 = 1 := by kernel_rfl
theorem cells_tSpaceSs : Tryd.prog.cellsOf 23 = 1 := by kernel_rfl
theorem cells_tFrameSs : Tryd.prog.cellsOf 24 = 1 := by kernel_rfl
theorem cells_tCellWs : Tryd.prog.cellsOf 49 = 1 := by kernel_rfl
theorem cells_tRegions : Tryd.prog.cellsOf 66 = 1 := by kernel_rfl
abbrev cells_int := cellsInt
abbrev cells_uint64 := cellsU64
/-- tTlb -/
structure Tl where
  a : Int
  p : Int
  f : Int
  r : Bool
def tlC (x : Tl) : List Value := .int .i64 x.a :: .int .u64 x.p :: .int .i64 x.f :: [.bool x.r]
theorem tlC_len (x : Tl) : (tlC x).length = 4 := rfl
theorem tlC_one (x : Tl) : ∀ v ∈ tlC x, v.oneCell' = true := by
  intro v hv
  simp only [tlC, List.mem_cons, List.mem_append, List.not_mem_nil, or_false] at hv
  rcases hv with h | h | h | h
  · subst h; rfl
  · subst h; rfl
  · subst h; rfl
  · subst h; rfl
structure Tl.Given (w : World) (x : Tl) : Prop where
  ga : I64 x.a
  gp : U64 x.p
  gf : I64 x.f
theorem Tl.Given.call {w w' : World} {x : Tl} (h : x.Given w) (hb : Below w.heap.size w w') : x.Given w' := ⟨h.ga, h.gp, h.gf⟩
def Tl.z : Tl := ⟨0, 0, 0, false⟩
/-- tStep -/
structure Sp4 where
  a : Int
  l : Int
  p : Int
  f : Int
def spC4 (x : Sp4) : List Value := .int .i64 x.a :: .int .i8 x.l :: .int .u64 x.p :: [.int .i64 x.f]
theorem spC4_len (x : Sp4) : (spC4 x).length = 4 := rfl
theorem spC4_one (x : Sp4) : ∀ v ∈ spC4 x, v.oneCell' = true := by
  intro v hv
  simp only [spC4, List.mem_cons, List.mem_append, List.not_mem_nil, or_false] at hv
  rcases hv with h | h | h | h
  · subst h; rfl
  · subst h; rfl
  · subst h; rfl
  · subst h; rfl
structure Sp4.Given (w : World) (x : Sp4) : Prop where
  ga : I64 x.a
  gp : U64 x.p
  gf : I64 x.f
theorem Sp4.Given.call {w w' : World} {x : Sp4} (h : x.Given w) (hb : Below w.heap.size w w') : x.Given w' := ⟨h.ga, h.gp, h.gf⟩
def Sp4.z : Sp4 := ⟨0, 0, 0, 0⟩
/-- tEntry -/
structure En where
  k : Int
  w : Int
  v : Int
  g : Int
  f : Int
def enC (x : En) : List Value := .int .i8 x.k :: .int .u64 x.w :: .int .u64 x.v :: .int .i64 x.g :: [.int .i64 x.f]
theorem enC_len (x : En) : (enC x).length = 5 := rfl
theorem enC_one (x : En) : ∀ v ∈ enC x, v.oneCell' = true := by
  intro v hv
  simp only [enC, List.mem_cons, List.mem_append, List.not_mem_nil, or_false] at hv
  rcases hv with h | h | h | h | h
  · subst h; rfl
  · subst h; rfl
  · subst h; rfl
  · subst h; rfl
  · subst h; rfl
structure En.Given (w : World) (x : En) : Prop where
  gw : U64 x.w
  gv : U64 x.v
  gg : I64 x.g
  gf : I64 x.f
theorem En.Given.call {w w' : World} {x : En} (h : x.Given w) (hb : Below w.heap.size w w') : x.Given w' := ⟨h.gw, h.gv, h.gg, h.gf⟩
def En.z : En := ⟨0, 0, 0, 0, 0⟩
/-- tTlbi -/
structure Ti where
  k : Int
  a : Int
  p : Int
def tiC (x : Ti) : List Value := .int .i8 x.k :: .int .i64 x.a :: [.int .u64 x.p]
theorem tiC_len (x : Ti) : (tiC x).length = 3 := rfl
theorem tiC_one (x : Ti) : ∀ v ∈ tiC x, v.oneCell' = true := by
  intro v hv
  simp only [tiC, List.mem_cons, List.mem_append, List.not_mem_nil, or_false] at hv
  rcases hv with h | h | h
  · subst h; rfl
  · subst h; rfl
  · subst h; rfl
structure Ti.Given (w : World) (x : Ti) : Prop where
  ga : I64 x.a
  gp : U64 x.p
theorem Ti.Given.call {w w' : World} {x : Ti} (h : x.Given w) (hb : Below w.heap.size w w') : x.Given w' := ⟨h.ga, h.gp⟩
def Ti.z : Ti := ⟨0, 0, 0⟩
/-- tAction -/
structure An where
  k : Int
  w : Int
  v : Int
  f : Int
  g : Int
  t : Ti
  a : Int
  r : Int
  s : Int
  fl : Int
  kk : Int
def anC (x : An) : List Value := .int .i8 x.k :: .int .u64 x.w :: .int .u64 x.v :: .int .i64 x.f :: .int .i64 x.g :: (tiC x.t ++ (.int .i64 x.a :: .int .i64 x.r :: .int .i64 x.s :: .int .i8 x.fl :: [.int .i64 x.kk]))
theorem anC_len (x : An) : (anC x).length = 13 := rfl
theorem anC_one (x : An) : ∀ v ∈ anC x, v.oneCell' = true := by
  intro v hv
  simp only [anC, List.mem_cons, List.mem_append, List.not_mem_nil, or_false] at hv
  rcases hv with h | h | h | h | h | h | h | h | h | h | h
  · subst h; rfl
  · subst h; rfl
  · subst h; rfl
  · subst h; rfl
  · subst h; rfl
  · exact tiC_one _ v h
  · subst h; rfl
  · subst h; rfl
  · subst h; rfl
  · subst h; rfl
  · subst h; rfl
structure An.Given (w : World) (x : An) : Prop where
  gw : U64 x.w
  gv : U64 x.v
  gf : I64 x.f
  gg : I64 x.g
  gt : x.t.Given w
  ga : I64 x.a
  gr : I64 x.r
  gs : I64 x.s
  gkk : I64 x.kk
theorem An.Given.call {w w' : World} {x : An} (h : x.Given w) (hb : Below w.heap.size w w') : x.Given w' := ⟨h.gw, h.gv, h.gf, h.gg, h.gt.call hb, h.ga, h.gr, h.gs, h.gkk⟩
def An.z : An := ⟨0, 0, 0, 0, 0, Ti.z, 0, 0, 0, 0, 0⟩
/-- tSynd -/
structure Sy where
  c : Int
  s : Bool
  f : Int
  l : Int
  v : Int
def syC (x : Sy) : List Value := .int .i8 x.c :: .bool x.s :: .int .i8 x.f :: .int .i8 x.l :: [.int .u64 x.v]
theorem syC_len (x : Sy) : (syC x).length = 5 := rfl
theorem syC_one (x : Sy) : ∀ v ∈ syC x, v.oneCell' = true := by
  intro v hv
  simp only [syC, List.mem_cons, List.mem_append, List.not_mem_nil, or_false] at hv
  rcases hv with h | h | h | h | h
  · subst h; rfl
  · subst h; rfl
  · subst h; rfl
  · subst h; rfl
  · subst h; rfl
structure Sy.Given (w : World) (x : Sy) : Prop where
  gv : U64 x.v
theorem Sy.Given.call {w w' : World} {x : Sy} (h : x.Given w) (hb : Below w.heap.size w w') : x.Given w' := ⟨h.gv⟩
def Sy.z : Sy := ⟨0, false, 0, 0, 0⟩
/-- tWork -/
structure Wo where
  on : Bool
  y : Sy
  want : Int
  ph : Int
  tick : Int
  dO : Option Addr
  dl : List An
  dc : Nat
def woC (x : Wo) : List Value := .bool x.on :: (syC x.y ++ (.int .i64 x.want :: .int .i8 x.ph :: .int .u64 x.tick :: [.slice x.dO x.dl.length x.dc]))
theorem woC_len (x : Wo) : (woC x).length = 10 := rfl
theorem woC_one (x : Wo) : ∀ v ∈ woC x, v.oneCell' = true := by
  intro v hv
  simp only [woC, List.mem_cons, List.mem_append, List.not_mem_nil, or_false] at hv
  rcases hv with h | h | h | h | h | h
  · subst h; rfl
  · exact syC_one _ v h
  · subst h; rfl
  · subst h; rfl
  · subst h; rfl
  · subst h; rfl
structure Wo.Given (w : World) (x : Wo) : Prop where
  gy : x.y.Given w
  gwant : I64 x.want
  gtick : U64 x.tick
  gd : RK anC 13 w x.dO x.dl
  gdle : x.dl.length ≤ x.dc
  gdle2 : x.dc ≤ maxLen
  gdall : ∀ y ∈ x.dl, y.Given w
theorem Wo.Given.call {w w' : World} {x : Wo} (h : x.Given w) (hb : Below w.heap.size w w') : x.Given w' := ⟨h.gy.call hb, h.gwant, h.gtick, h.gd.call hb, h.gdle, h.gdle2, fun y hy => (h.gdall y hy).call hb⟩
def Wo.z : Wo := ⟨false, Sy.z, 0, 0, 0, none, [], 0⟩
/-- tWalkA -/
structure Wa where
  on : Bool
  a : Int
  p : Int
  l : Int
  f : Int
def waC (x : Wa) : List Value := .bool x.on :: .int .i64 x.a :: .int .u64 x.p :: .int .i8 x.l :: [.int .i64 x.f]
theorem waC_len (x : Wa) : (waC x).length = 5 := rfl
theorem waC_one (x : Wa) : ∀ v ∈ waC x, v.oneCell' = true := by
  intro v hv
  simp only [waC, List.mem_cons, List.mem_append, List.not_mem_nil, or_false] at hv
  rcases hv with h | h | h | h | h
  · subst h; rfl
  · subst h; rfl
  · subst h; rfl
  · subst h; rfl
  · subst h; rfl
structure Wa.Given (w : World) (x : Wa) : Prop where
  ga : I64 x.a
  gp : U64 x.p
  gf : I64 x.f
theorem Wa.Given.call {w w' : World} {x : Wa} (h : x.Given w) (hb : Below w.heap.size w w') : x.Given w' := ⟨h.ga, h.gp, h.gf⟩
def Wa.z : Wa := ⟨false, 0, 0, 0, 0⟩
/-- tMiss -/
structure Mi where
  on : Bool
  p : Int
  l : Int
def miC (x : Mi) : List Value := .bool x.on :: .int .u64 x.p :: [.int .i8 x.l]
theorem miC_len (x : Mi) : (miC x).length = 3 := rfl
theorem miC_one (x : Mi) : ∀ v ∈ miC x, v.oneCell' = true := by
  intro v hv
  simp only [miC, List.mem_cons, List.mem_append, List.not_mem_nil, or_false] at hv
  rcases hv with h | h | h
  · subst h; rfl
  · subst h; rfl
  · subst h; rfl
structure Mi.Given (w : World) (x : Mi) : Prop where
  gp : U64 x.p
theorem Mi.Given.call {w w' : World} {x : Mi} (h : x.Given w) (hb : Below w.heap.size w w') : x.Given w' := ⟨h.gp⟩
def Mi.z : Mi := ⟨false, 0, 0⟩
/-- tCore -/
structure Co where
  th : Int
  asid : Int
  rt : Int
  wk : Wo
  shut : Bool
  waits : Int
  tO : Option Addr
  tl : List Tl
  tc : Nat
  kO : Option Addr
  kl : List Sp4
  kc : Nat
  wa : Wa
  mi : Mi
  bO : Option Addr
  bl : List En
  bc : Nat
  armed : Bool
  word : Int
def coC (x : Co) : List Value := .int .i64 x.th :: .int .i64 x.asid :: .int .i64 x.rt :: (woC x.wk ++ (.bool x.shut :: .int .i64 x.waits :: .slice x.tO x.tl.length x.tc :: .slice x.kO x.kl.length x.kc :: (waC x.wa ++ (miC x.mi ++ (.slice x.bO x.bl.length x.bc :: .bool x.armed :: [.int .u64 x.word])))))
theorem coC_len (x : Co) : (coC x).length = 28 := rfl
theorem coC_one (x : Co) : ∀ v ∈ coC x, v.oneCell' = true := by
  intro v hv
  simp only [coC, List.mem_cons, List.mem_append, List.not_mem_nil, or_false] at hv
  rcases hv with h | h | h | h | h | h | h | h | h | h | h | h | h
  · subst h; rfl
  · subst h; rfl
  · subst h; rfl
  · exact woC_one _ v h
  · subst h; rfl
  · subst h; rfl
  · subst h; rfl
  · subst h; rfl
  · exact waC_one _ v h
  · exact miC_one _ v h
  · subst h; rfl
  · subst h; rfl
  · subst h; rfl
structure Co.Given (w : World) (x : Co) : Prop where
  gth : I64 x.th
  gasid : I64 x.asid
  grt : I64 x.rt
  gwk : x.wk.Given w
  gwaits : I64 x.waits
  gt : RK tlC 4 w x.tO x.tl
  gtle : x.tl.length ≤ x.tc
  gtle2 : x.tc ≤ maxLen
  gtall : ∀ y ∈ x.tl, y.Given w
  gk : RK spC4 4 w x.kO x.kl
  gkle : x.kl.length ≤ x.kc
  gkle2 : x.kc ≤ maxLen
  gkall : ∀ y ∈ x.kl, y.Given w
  gwa : x.wa.Given w
  gmi : x.mi.Given w
  gb : RK enC 5 w x.bO x.bl
  gble : x.bl.length ≤ x.bc
  gble2 : x.bc ≤ maxLen
  gball : ∀ y ∈ x.bl, y.Given w
  gword : U64 x.word
theorem Co.Given.call {w w' : World} {x : Co} (h : x.Given w) (hb : Below w.heap.size w w') : x.Given w' := ⟨h.gth, h.gasid, h.grt, h.gwk.call hb, h.gwaits, h.gt.call hb, h.gtle, h.gtle2, fun y hy => (h.gtall y hy).call hb, h.gk.call hb, h.gkle, h.gkle2, fun y hy => (h.gkall y hy).call hb, h.gwa.call hb, h.gmi.call hb, h.gb.call hb, h.gble, h.gble2, fun y hy => (h.gball y hy).call hb, h.gword⟩
def Co.z : Co := ⟨0, 0, 0, Wo.z, false, 0, none, [], 0, none, [], 0, Wa.z, Mi.z, none, [], 0, false, 0⟩
/-- tSpaceS -/
structure Ss where
  th : Bool
  rt : Int
  asid : Int
  gO : Option Addr
  gn : Nat
  gc : Nat
def ssC (x : Ss) : List Value := .bool x.th :: .int .i64 x.rt :: .int .i64 x.asid :: [.slice x.gO x.gn x.gc]
theorem ssC_len (x : Ss) : (ssC x).length = 4 := rfl
theorem ssC_one (x : Ss) : ∀ v ∈ ssC x, v.oneCell' = true := by
  intro v hv
  simp only [ssC, List.mem_cons, List.mem_append, List.not_mem_nil, or_false] at hv
  rcases hv with h | h | h | h
  · subst h; rfl
  · subst h; rfl
  · subst h; rfl
  · subst h; rfl
structure Ss.Given (w : World) (x : Ss) : Prop where
  grt : I64 x.rt
  gasid : I64 x.asid
theorem Ss.Given.call {w w' : World} {x : Ss} (h : x.Given w) (hb : Below w.heap.size w w') : x.Given w' := ⟨h.grt, h.gasid⟩
def Ss.z : Ss := ⟨false, 0, 0, none, 0, 0⟩
/-- tCellW -/
structure CW where
  p : Int
  v : Int
def cwC (x : CW) : List Value := .int .i64 x.p :: [.int .u64 x.v]
theorem cwC_len (x : CW) : (cwC x).length = 2 := rfl
theorem cwC_one (x : CW) : ∀ v ∈ cwC x, v.oneCell' = true := by
  intro v hv
  simp only [cwC, List.mem_cons, List.mem_append, List.not_mem_nil, or_false] at hv
  rcases hv with h | h
  · subst h; rfl
  · subst h; rfl
structure CW.Given (w : World) (x : CW) : Prop where
  gp : I64 x.p
  gv : U64 x.v
theorem CW.Given.call {w w' : World} {x : CW} (h : x.Given w) (hb : Below w.heap.size w w') : x.Given w' := ⟨h.gp, h.gv⟩
def CW.z : CW := ⟨0, 0⟩
/-- tFrameS -/
structure Fr where
  n : Int
  wO : Option Addr
  wl : List CW
  wc : Nat
def frC (x : Fr) : List Value := .int .i64 x.n :: [.slice x.wO x.wl.length x.wc]
theorem frC_len (x : Fr) : (frC x).length = 2 := rfl
theorem frC_one (x : Fr) : ∀ v ∈ frC x, v.oneCell' = true := by
  intro v hv
  simp only [frC, List.mem_cons, List.mem_append, List.not_mem_nil, or_false] at hv
  rcases hv with h | h
  · subst h; rfl
  · subst h; rfl
structure Fr.Given (w : World) (x : Fr) : Prop where
  gn : I64 x.n
  gw : RK cwC 2 w x.wO x.wl
  gwle : x.wl.length ≤ x.wc
  gwle2 : x.wc ≤ maxLen
  gwall : ∀ y ∈ x.wl, y.Given w
theorem Fr.Given.call {w w' : World} {x : Fr} (h : x.Given w) (hb : Below w.heap.size w w') : x.Given w' := ⟨h.gn, h.gw.call hb, h.gwle, h.gwle2, fun y hy => (h.gwall y hy).call hb⟩
def Fr.z : Fr := ⟨0, none, [], 0⟩
/-- tSnap -/
structure Sn where
  cO : Option Addr
  cl : List Co
  cc : Nat
  sO : Option Addr
  sl : List Ss
  sc : Nat
  fO : Option Addr
  fl : List Fr
  fc : Nat
def snC (x : Sn) : List Value := .slice x.cO x.cl.length x.cc :: .slice x.sO x.sl.length x.sc :: [.slice x.fO x.fl.length x.fc]
theorem snC_len (x : Sn) : (snC x).length = 3 := rfl
theorem snC_one (x : Sn) : ∀ v ∈ snC x, v.oneCell' = true := by
  intro v hv
  simp only [snC, List.mem_cons, List.mem_append, List.not_mem_nil, or_false] at hv
  rcases hv with h | h | h
  · subst h; rfl
  · subst h; rfl
  · subst h; rfl
structure Sn.Given (w : World) (x : Sn) : Prop where
  gc : RK coC 28 w x.cO x.cl
  gcle : x.cl.length ≤ x.cc
  gcle2 : x.cc ≤ maxLen
  gcall : ∀ y ∈ x.cl, y.Given w
  gs : RK ssC 4 w x.sO x.sl
  gsle : x.sl.length ≤ x.sc
  gsle2 : x.sc ≤ maxLen
  gsall : ∀ y ∈ x.sl, y.Given w
  gf : RK frC 2 w x.fO x.fl
  gfle : x.fl.length ≤ x.fc
  gfle2 : x.fc ≤ maxLen
  gfall : ∀ y ∈ x.fl, y.Given w
theorem Sn.Given.call {w w' : World} {x : Sn} (h : x.Given w) (hb : Below w.heap.size w w') : x.Given w' := ⟨h.gc.call hb, h.gcle, h.gcle2, fun y hy => (h.gcall y hy).call hb, h.gs.call hb, h.gsle, h.gsle2, fun y hy => (h.gsall y hy).call hb, h.gf.call hb, h.gfle, h.gfle2, fun y hy => (h.gfall y hy).call hb⟩
def Sn.z : Sn := ⟨none, [], 0, none, [], 0, none, [], 0⟩
section
variable {H : Type} {enc : TypeId × Value → H} {w : World} {base : Nat} {held : Bool} {n : Nat} {cs : List Value} {y : DataW H × List MemPlace}
theorem cells_tTlb : Tryd.prog.cellsOf 62 = 4 := by kernel_rfl
set_option maxRecDepth 100000 in
set_option maxHeartbeats 2000000 in
theorem trod_Tl (h : DataW.trod enc Tryd.prog w base (fun _ => true) held n 62 cs = some y) : ∃ x : Tl, cs = tlC x ∧ x.Given w := by
  obtain ⟨xs, k, _, _, hlen, hxl, hfl⟩ := DataW.trod_struct Tryd.underlying62 h
  obtain ⟨c0, c1, c2, c3, rfl⟩ := list_of4 (hlen.trans cells_tTlb)
  have hxs : xs.length = 4 := hxl
  have f0 : DataW.trod enc Tryd.prog w base (fun _ => true) held k 3 (List.take (Tryd.prog.cellsOf 3) (List.drop 0 [c0, c1, c2, c3])) = xs[0]? := hfl 0 _ rfl
  rw [cells_int, List.getElem?_eq_getElem (by omega)] at f0
  obtain ⟨a0, e0, -, w0⟩ := DataW.trod_int Tryd.underlying3 f0
  have f1 : DataW.trod enc Tryd.prog w base (fun _ => true) held k 30 (List.take (Tryd.prog.cellsOf 30) (List.drop 1 [c0, c1, c2, c3])) = xs[1]? := hfl 1 _ rfl
  rw [cells_uint64, List.getElem?_eq_getElem (by omega)] at f1
  obtain ⟨a1, e1, -, w1⟩ := DataW.trod_int Tryd.underlying30 f1
  have f2 : DataW.trod enc Tryd.prog w base (fun _ => true) held k 3 (List.take (Tryd.prog.cellsOf 3) (List.drop 2 [c0, c1, c2, c3])) = xs[2]? := hfl 2 _ rfl
  rw [cells_int, List.getElem?_eq_getElem (by omega)] at f2
  obtain ⟨a2, e2, -, w2⟩ := DataW.trod_int Tryd.underlying3 f2
  have f3 : DataW.trod enc Tryd.prog w base (fun _ => true) held k 4 (List.take (Tryd.prog.cellsOf 4) (List.drop 3 [c0, c1, c2, c3])) = xs[3]? := hfl 3 _ rfl
  rw [cells_bool, List.getElem?_eq_getElem (by omega)] at f3
  obtain ⟨a3, e3, -⟩ := DataW.trod_bool Tryd.underlying4 f3
  simp only [List.drop_zero, List.drop_succ_cons, List.take_succ_cons, List.take_zero] at e0 e1 e2 e3
  simp only [List.cons_append, List.nil_append, List.cons.injEq, and_true] at e0 e1 e2 e3
  subst e0
  subst e1
  subst e2
  subst e3
  exact ⟨⟨a0, a1, a2, a3⟩, rfl, ⟨i64_of w0, u64_wf w1, i64_of w2⟩⟩
theorem cells_tStep : Tryd.prog.cellsOf 106 = 4 := by kernel_rfl
set_option maxRecDepth 100000 in
set_option maxHeartbeats 2000000 in
theorem trod_Sp4 (h : DataW.trod enc Tryd.prog w base (fun _ => true) held n 106 cs = some y) : ∃ x : Sp4, cs = spC4 x ∧ x.Given w := by
  obtain ⟨xs, k, _, _, hlen, hxl, hfl⟩ := DataW.trod_struct Tryd.underlying106 h
  obtain ⟨c0, c1, c2, c3, rfl⟩ := list_of4 (hlen.trans cells_tStep)
  have hxs : xs.length = 4 := hxl
  have f0 : DataW.trod enc Tryd.prog w base (fun _ => true) held k 3 (List.take (Tryd.prog.cellsOf 3) (List.drop 0 [c0, c1, c2, c3])) = xs[0]? := hfl 0 _ rfl
  rw [cells_int, List.getElem?_eq_getElem (by omega)] at f0
  obtain ⟨a0, e0, -, w0⟩ := DataW.trod_int Tryd.underlying3 f0
  have f1 : DataW.trod enc Tryd.prog w base (fun _ => true) held k 29 (List.take (Tryd.prog.cellsOf 29) (List.drop 1 [c0, c1, c2, c3])) = xs[1]? := hfl 1 _ rfl
  rw [cells_int8, List.getElem?_eq_getElem (by omega)] at f1
  obtain ⟨a1, e1, -, w1⟩ := DataW.trod_int Tryd.underlying29 f1
  have f2 : DataW.trod enc Tryd.prog w base (fun _ => true) held k 30 (List.take (Tryd.prog.cellsOf 30) (List.drop 2 [c0, c1, c2, c3])) = xs[2]? := hfl 2 _ rfl
  rw [cells_uint64, List.getElem?_eq_getElem (by omega)] at f2
  obtain ⟨a2, e2, -, w2⟩ := DataW.trod_int Tryd.underlying30 f2
  have f3 : DataW.trod enc Tryd.prog w base (fun _ => true) held k 3 (List.take (Tryd.prog.cellsOf 3) (List.drop 3 [c0, c1, c2, c3])) = xs[3]? := hfl 3 _ rfl
  rw [cells_int, List.getElem?_eq_getElem (by omega)] at f3
  obtain ⟨a3, e3, -, w3⟩ := DataW.trod_int Tryd.underlying3 f3
  simp only [List.drop_zero, List.drop_succ_cons, List.take_succ_cons, List.take_zero] at e0 e1 e2 e3
  simp only [List.cons_append, List.nil_append, List.cons.injEq, and_true] at e0 e1 e2 e3
  subst e0
  subst e1
  subst e2
  subst e3
  exact ⟨⟨a0, a1, a2, a3⟩, rfl, ⟨i64_of w0, u64_wf w2, i64_of w3⟩⟩
theorem cells_tEntry : Tryd.prog.cellsOf 108 = 5 := by kernel_rfl
set_option maxRecDepth 100000 in
set_option maxHeartbeats 2000000 in
theorem trod_En (h : DataW.trod enc Tryd.prog w base (fun _ => true) held n 108 cs = some y) : ∃ x : En, cs = enC x ∧ x.Given w := by
  obtain ⟨xs, k, _, _, hlen, hxl, hfl⟩ := DataW.trod_struct Tryd.underlying108 h
  obtain ⟨c0, c1, c2, c3, c4, rfl⟩ := list_of5 (hlen.trans cells_tEntry)
  have hxs : xs.length = 5 := hxl
  have f0 : DataW.trod enc Tryd.prog w base (fun _ => true) held k 29 (List.take (Tryd.prog.cellsOf 29) (List.drop 0 [c0, c1, c2, c3, c4])) = xs[0]? := hfl 0 _ rfl
  rw [cells_int8, List.getElem?_eq_getElem (by omega)] at f0
  obtain ⟨a0, e0, -, w0⟩ := DataW.trod_int Tryd.underlying29 f0
  have f1 : DataW.trod enc Tryd.prog w base (fun _ => true) held k 30 (List.take (Tryd.prog.cellsOf 30) (List.drop 1 [c0, c1, c2, c3, c4])) = xs[1]? := hfl 1 _ rfl
  rw [cells_uint64, List.getElem?_eq_getElem (by omega)] at f1
  obtain ⟨a1, e1, -, w1⟩ := DataW.trod_int Tryd.underlying30 f1
  have f2 : DataW.trod enc Tryd.prog w base (fun _ => true) held k 30 (List.take (Tryd.prog.cellsOf 30) (List.drop 2 [c0, c1, c2, c3, c4])) = xs[2]? := hfl 2 _ rfl
  rw [cells_uint64, List.getElem?_eq_getElem (by omega)] at f2
  obtain ⟨a2, e2, -, w2⟩ := DataW.trod_int Tryd.underlying30 f2
  have f3 : DataW.trod enc Tryd.prog w base (fun _ => true) held k 3 (List.take (Tryd.prog.cellsOf 3) (List.drop 3 [c0, c1, c2, c3, c4])) = xs[3]? := hfl 3 _ rfl
  rw [cells_int, List.getElem?_eq_getElem (by omega)] at f3
  obtain ⟨a3, e3, -, w3⟩ := DataW.trod_int Tryd.underlying3 f3
  have f4 : DataW.trod enc Tryd.prog w base (fun _ => true) held k 3 (List.take (Tryd.prog.cellsOf 3) (List.drop 4 [c0, c1, c2, c3, c4])) = xs[4]? := hfl 4 _ rfl
  rw [cells_int, List.getElem?_eq_getElem (by omega)] at f4
  obtain ⟨a4, e4, -, w4⟩ := DataW.trod_int Tryd.underlying3 f4
  simp only [List.drop_zero, List.drop_succ_cons, List.take_succ_cons, List.take_zero] at e0 e1 e2 e3 e4
  simp only [List.cons_append, List.nil_append, List.cons.injEq, and_true] at e0 e1 e2 e3 e4
  subst e0
  subst e1
  subst e2
  subst e3
  subst e4
  exact ⟨⟨a0, a1, a2, a3, a4⟩, rfl, ⟨u64_wf w1, u64_wf w2, i64_of w3, i64_of w4⟩⟩
theorem cells_tTlbi : Tryd.prog.cellsOf 83 = 3 := by kernel_rfl
set_option maxRecDepth 100000 in
set_option maxHeartbeats 2000000 in
theorem trod_Ti (h : DataW.trod enc Tryd.prog w base (fun _ => true) held n 83 cs = some y) : ∃ x : Ti, cs = tiC x ∧ x.Given w := by
  obtain ⟨xs, k, _, _, hlen, hxl, hfl⟩ := DataW.trod_struct Tryd.underlying83 h
  obtain ⟨c0, c1, c2, rfl⟩ := list_of3 (hlen.trans cells_tTlbi)
  have hxs : xs.length = 3 := hxl
  have f0 : DataW.trod enc Tryd.prog w base (fun _ => true) held k 29 (List.take (Tryd.prog.cellsOf 29) (List.drop 0 [c0, c1, c2])) = xs[0]? := hfl 0 _ rfl
  rw [cells_int8, List.getElem?_eq_getElem (by omega)] at f0
  obtain ⟨a0, e0, -, w0⟩ := DataW.trod_int Tryd.underlying29 f0
  have f1 : DataW.trod enc Tryd.prog w base (fun _ => true) held k 3 (List.take (Tryd.prog.cellsOf 3) (List.drop 1 [c0, c1, c2])) = xs[1]? := hfl 1 _ rfl
  rw [cells_int, List.getElem?_eq_getElem (by omega)] at f1
  obtain ⟨a1, e1, -, w1⟩ := DataW.trod_int Tryd.underlying3 f1
  have f2 : DataW.trod enc Tryd.prog w base (fun _ => true) held k 30 (List.take (Tryd.prog.cellsOf 30) (List.drop 2 [c0, c1, c2])) = xs[2]? := hfl 2 _ rfl
  rw [cells_uint64, List.getElem?_eq_getElem (by omega)] at f2
  obtain ⟨a2, e2, -, w2⟩ := DataW.trod_int Tryd.underlying30 f2
  simp only [List.drop_zero, List.drop_succ_cons, List.take_succ_cons, List.take_zero] at e0 e1 e2
  simp only [List.cons_append, List.nil_append, List.cons.injEq, and_true] at e0 e1 e2
  subst e0
  subst e1
  subst e2
  exact ⟨⟨a0, a1, a2⟩, rfl, ⟨i64_of w1, u64_wf w2⟩⟩
theorem cells_tAction : Tryd.prog.cellsOf 85 = 13 := by kernel_rfl
set_option maxRecDepth 100000 in
set_option maxHeartbeats 2000000 in
theorem trod_An (h : DataW.trod enc Tryd.prog w base (fun _ => true) held n 85 cs = some y) : ∃ x : An, cs = anC x ∧ x.Given w := by
  obtain ⟨xs, k, _, _, hlen, hxl, hfl⟩ := DataW.trod_struct Tryd.underlying85 h
  obtain ⟨c0, c1, c2, c3, c4, c5, c6, c7, c8, c9, c10, c11, c12, rfl⟩ := list_of13 (hlen.trans cells_tAction)
  have hxs : xs.length = 11 := hxl
  have f0 : DataW.trod enc Tryd.prog w base (fun _ => true) held k 29 (List.take (Tryd.prog.cellsOf 29) (List.drop 0 [c0, c1, c2, c3, c4, c5, c6, c7, c8, c9, c10, c11, c12])) = xs[0]? := hfl 0 _ rfl
  rw [cells_int8, List.getElem?_eq_getElem (by omega)] at f0
  obtain ⟨a0, e0, -, w0⟩ := DataW.trod_int Tryd.underlying29 f0
  have f1 : DataW.trod enc Tryd.prog w base (fun _ => true) held k 30 (List.take (Tryd.prog.cellsOf 30) (List.drop 1 [c0, c1, c2, c3, c4, c5, c6, c7, c8, c9, c10, c11, c12])) = xs[1]? := hfl 1 _ rfl
  rw [cells_uint64, List.getElem?_eq_getElem (by omega)] at f1
  obtain ⟨a1, e1, -, w1⟩ := DataW.trod_int Tryd.underlying30 f1
  have f2 : DataW.trod enc Tryd.prog w base (fun _ => true) held k 30 (List.take (Tryd.prog.cellsOf 30) (List.drop 2 [c0, c1, c2, c3, c4, c5, c6, c7, c8, c9, c10, c11, c12])) = xs[2]? := hfl 2 _ rfl
  rw [cells_uint64, List.getElem?_eq_getElem (by omega)] at f2
  obtain ⟨a2, e2, -, w2⟩ := DataW.trod_int Tryd.underlying30 f2
  have f3 : DataW.trod enc Tryd.prog w base (fun _ => true) held k 3 (List.take (Tryd.prog.cellsOf 3) (List.drop 3 [c0, c1, c2, c3, c4, c5, c6, c7, c8, c9, c10, c11, c12])) = xs[3]? := hfl 3 _ rfl
  rw [cells_int, List.getElem?_eq_getElem (by omega)] at f3
  obtain ⟨a3, e3, -, w3⟩ := DataW.trod_int Tryd.underlying3 f3
  have f4 : DataW.trod enc Tryd.prog w base (fun _ => true) held k 3 (List.take (Tryd.prog.cellsOf 3) (List.drop 4 [c0, c1, c2, c3, c4, c5, c6, c7, c8, c9, c10, c11, c12])) = xs[4]? := hfl 4 _ rfl
  rw [cells_int, List.getElem?_eq_getElem (by omega)] at f4
  obtain ⟨a4, e4, -, w4⟩ := DataW.trod_int Tryd.underlying3 f4
  have f5 : DataW.trod enc Tryd.prog w base (fun _ => true) held k 83 (List.take (Tryd.prog.cellsOf 83) (List.drop 5 [c0, c1, c2, c3, c4, c5, c6, c7, c8, c9, c10, c11, c12])) = xs[5]? := hfl 5 _ rfl
  rw [cells_tTlbi, List.getElem?_eq_getElem (by omega)] at f5
  obtain ⟨a5, e5, g5⟩ := trod_Ti f5
  have f6 : DataW.trod enc Tryd.prog w base (fun _ => true) held k 3 (List.take (Tryd.prog.cellsOf 3) (List.drop 8 [c0, c1, c2, c3, c4, c5, c6, c7, c8, c9, c10, c11, c12])) = xs[6]? := hfl 6 _ rfl
  rw [cells_int, List.getElem?_eq_getElem (by omega)] at f6
  obtain ⟨a6, e6, -, w6⟩ := DataW.trod_int Tryd.underlying3 f6
  have f7 : DataW.trod enc Tryd.prog w base (fun _ => true) held k 3 (List.take (Tryd.prog.cellsOf 3) (List.drop 9 [c0, c1, c2, c3, c4, c5, c6, c7, c8, c9, c10, c11, c12])) = xs[7]? := hfl 7 _ rfl
  rw [cells_int, List.getElem?_eq_getElem (by omega)] at f7
  obtain ⟨a7, e7, -, w7⟩ := DataW.trod_int Tryd.underlying3 f7
  have f8 : DataW.trod enc Tryd.prog w base (fun _ => true) held k 3 (List.take (Tryd.prog.cellsOf 3) (List.drop 10 [c0, c1, c2, c3, c4, c5, c6, c7, c8, c9, c10, c11, c12])) = xs[8]? := hfl 8 _ rfl
  rw [cells_int, List.getElem?_eq_getElem (by omega)] at f8
  obtain ⟨a8, e8, -, w8⟩ := DataW.trod_int Tryd.underlying3 f8
  have f9 : DataW.trod enc Tryd.prog w base (fun _ => true) held k 29 (List.take (Tryd.prog.cellsOf 29) (List.drop 11 [c0, c1, c2, c3, c4, c5, c6, c7, c8, c9, c10, c11, c12])) = xs[9]? := hfl 9 _ rfl
  rw [cells_int8, List.getElem?_eq_getElem (by omega)] at f9
  obtain ⟨a9, e9, -, w9⟩ := DataW.trod_int Tryd.underlying29 f9
  have f10 : DataW.trod enc Tryd.prog w base (fun _ => true) held k 3 (List.take (Tryd.prog.cellsOf 3) (List.drop 12 [c0, c1, c2, c3, c4, c5, c6, c7, c8, c9, c10, c11, c12])) = xs[10]? := hfl 10 _ rfl
  rw [cells_int, List.getElem?_eq_getElem (by omega)] at f10
  obtain ⟨a10, e10, -, w10⟩ := DataW.trod_int Tryd.underlying3 f10
  simp only [List.drop_zero, List.drop_succ_cons, List.take_succ_cons, List.take_zero, tiC] at e0 e1 e2 e3 e4 e5 e6 e7 e8 e9 e10
  simp only [List.cons_append, List.nil_append, List.cons.injEq, and_true, tiC, syC] at e0 e1 e2 e3 e4 e5 e6 e7 e8 e9 e10
  subst e0
  subst e1
  subst e2
  subst e3
  subst e4
  obtain ⟨rfl, rfl, rfl⟩ := e5
  subst e6
  subst e7
  subst e8
  subst e9
  subst e10
  exact ⟨⟨a0, a1, a2, a3, a4, a5, a6, a7, a8, a9, a10⟩, rfl, ⟨u64_wf w1, u64_wf w2, i64_of w3, i64_of w4, g5, i64_of w6, i64_of w7, i64_of w8, i64_of w10⟩⟩
theorem cells_tSynd : Tryd.prog.cellsOf 32 = 5 := by kernel_rfl
set_option maxRecDepth 100000 in
set_option maxHeartbeats 2000000 in
theorem trod_Sy (h : DataW.trod enc Tryd.prog w base (fun _ => true) held n 32 cs = some y) : ∃ x : Sy, cs = syC x ∧ x.Given w := by
  obtain ⟨xs, k, _, _, hlen, hxl, hfl⟩ := DataW.trod_struct Tryd.underlying32 h
  obtain ⟨c0, c1, c2, c3, c4, rfl⟩ := list_of5 (hlen.trans cells_tSynd)
  have hxs : xs.length = 5 := hxl
  have f0 : DataW.trod enc Tryd.prog w base (fun _ => true) held k 29 (List.take (Tryd.prog.cellsOf 29) (List.drop 0 [c0, c1, c2, c3, c4])) = xs[0]? := hfl 0 _ rfl
  rw [cells_int8, List.getElem?_eq_getElem (by omega)] at f0
  obtain ⟨a0, e0, -, w0⟩ := DataW.trod_int Tryd.underlying29 f0
  have f1 : DataW.trod enc Tryd.prog w base (fun _ => true) held k 4 (List.take (Tryd.prog.cellsOf 4) (List.drop 1 [c0, c1, c2, c3, c4])) = xs[1]? := hfl 1 _ rfl
  rw [cells_bool, List.getElem?_eq_getElem (by omega)] at f1
  obtain ⟨a1, e1, -⟩ := DataW.trod_bool Tryd.underlying4 f1
  have f2 : DataW.trod enc Tryd.prog w base (fun _ => true) held k 29 (List.take (Tryd.prog.cellsOf 29) (List.drop 2 [c0, c1, c2, c3, c4])) = xs[2]? := hfl 2 _ rfl
  rw [cells_int8, List.getElem?_eq_getElem (by omega)] at f2
  obtain ⟨a2, e2, -, w2⟩ := DataW.trod_int Tryd.underlying29 f2
  have f3 : DataW.trod enc Tryd.prog w base (fun _ => true) held k 29 (List.take (Tryd.prog.cellsOf 29) (List.drop 3 [c0, c1, c2, c3, c4])) = xs[3]? := hfl 3 _ rfl
  rw [cells_int8, List.getElem?_eq_getElem (by omega)] at f3
  obtain ⟨a3, e3, -, w3⟩ := DataW.trod_int Tryd.underlying29 f3
  have f4 : DataW.trod enc Tryd.prog w base (fun _ => true) held k 30 (List.take (Tryd.prog.cellsOf 30) (List.drop 4 [c0, c1, c2, c3, c4])) = xs[4]? := hfl 4 _ rfl
  rw [cells_uint64, List.getElem?_eq_getElem (by omega)] at f4
  obtain ⟨a4, e4, -, w4⟩ := DataW.trod_int Tryd.underlying30 f4
  simp only [List.drop_zero, List.drop_succ_cons, List.take_succ_cons, List.take_zero] at e0 e1 e2 e3 e4
  simp only [List.cons_append, List.nil_append, List.cons.injEq, and_true] at e0 e1 e2 e3 e4
  subst e0
  subst e1
  subst e2
  subst e3
  subst e4
  exact ⟨⟨a0, a1, a2, a3, a4⟩, rfl, ⟨u64_wf w4⟩⟩
theorem cells_tWork : Tryd.prog.cellsOf 35 = 10 := by kernel_rfl
set_option maxRecDepth 100000 in
set_option maxHeartbeats 2000000 in
theorem trod_Wo (h : DataW.trod enc Tryd.prog w base (fun _ => true) held n 35 cs = some y) : ∃ x : Wo, cs = woC x ∧ x.Given w := by
  obtain ⟨xs, k, _, _, hlen, hxl, hfl⟩ := DataW.trod_struct Tryd.underlying35 h
  obtain ⟨c0, c1, c2, c3, c4, c5, c6, c7, c8, c9, rfl⟩ := list_of10 (hlen.trans cells_tWork)
  have hxs : xs.length = 6 := hxl
  have f0 : DataW.trod enc Tryd.prog w base (fun _ => true) held k 4 (List.take (Tryd.prog.cellsOf 4) (List.drop 0 [c0, c1, c2, c3, c4, c5, c6, c7, c8, c9])) = xs[0]? := hfl 0 _ rfl
  rw [cells_bool, List.getElem?_eq_getElem (by omega)] at f0
  obtain ⟨a0, e0, -⟩ := DataW.trod_bool Tryd.underlying4 f0
  have f1 : DataW.trod enc Tryd.prog w base (fun _ => true) held k 32 (List.take (Tryd.prog.cellsOf 32) (List.drop 1 [c0, c1, c2, c3, c4, c5, c6, c7, c8, c9])) = xs[1]? := hfl 1 _ rfl
  rw [cells_tSynd, List.getElem?_eq_getElem (by omega)] at f1
  obtain ⟨a1, e1, g1⟩ := trod_Sy f1
  have f2 : DataW.trod enc Tryd.prog w base (fun _ => true) held k 3 (List.take (Tryd.prog.cellsOf 3) (List.drop 6 [c0, c1, c2, c3, c4, c5, c6, c7, c8, c9])) = xs[2]? := hfl 2 _ rfl
  rw [cells_int, List.getElem?_eq_getElem (by omega)] at f2
  obtain ⟨a2, e2, -, w2⟩ := DataW.trod_int Tryd.underlying3 f2
  have f3 : DataW.trod enc Tryd.prog w base (fun _ => true) held k 29 (List.take (Tryd.prog.cellsOf 29) (List.drop 7 [c0, c1, c2, c3, c4, c5, c6, c7, c8, c9])) = xs[3]? := hfl 3 _ rfl
  rw [cells_int8, List.getElem?_eq_getElem (by omega)] at f3
  obtain ⟨a3, e3, -, w3⟩ := DataW.trod_int Tryd.underlying29 f3
  have f4 : DataW.trod enc Tryd.prog w base (fun _ => true) held k 30 (List.take (Tryd.prog.cellsOf 30) (List.drop 8 [c0, c1, c2, c3, c4, c5, c6, c7, c8, c9])) = xs[4]? := hfl 4 _ rfl
  rw [cells_uint64, List.getElem?_eq_getElem (by omega)] at f4
  obtain ⟨a4, e4, -, w4⟩ := DataW.trod_int Tryd.underlying30 f4
  have f5 : DataW.trod enc Tryd.prog w base (fun _ => true) held k 33 (List.take (Tryd.prog.cellsOf 33) (List.drop 9 [c0, c1, c2, c3, c4, c5, c6, c7, c8, c9])) = xs[5]? := hfl 5 _ rfl
  rw [cells_tActions, List.getElem?_eq_getElem (by omega)] at f5
  obtain ⟨O5, p5, l5, e5, h5, m5, r5, q5⟩ := trod_rows (anC) (fun w x => An.Given w x) 13 An.z Tryd.underlying33 cells_tAction (by omega) (fun _ _ _ h => trod_An h) f5
  simp only [List.drop_zero, List.drop_succ_cons, List.take_succ_cons, List.take_zero, syC] at e0 e1 e2 e3 e4 e5
  simp only [List.cons_append, List.nil_append, List.cons.injEq, and_true, tiC, syC] at e0 e1 e2 e3 e4 e5
  subst e0
  obtain ⟨rfl, rfl, rfl, rfl, rfl⟩ := e1
  subst e2
  subst e3
  subst e4
  subst e5
  exact ⟨⟨a0, a1, a2, a3, a4, O5, l5, p5⟩, rfl, ⟨g1, i64_of w2, u64_wf w4, r5, h5, m5, q5⟩⟩
theorem cells_tWalkA : Tryd.prog.cellsOf 39 = 5 := by kernel_rfl
set_option maxRecDepth 100000 in
set_option maxHeartbeats 2000000 in
theorem trod_Wa (h : DataW.trod enc Tryd.prog w base (fun _ => true) held n 39 cs = some y) : ∃ x : Wa, cs = waC x ∧ x.Given w := by
  obtain ⟨xs, k, _, _, hlen, hxl, hfl⟩ := DataW.trod_struct Tryd.underlying39 h
  obtain ⟨c0, c1, c2, c3, c4, rfl⟩ := list_of5 (hlen.trans cells_tWalkA)
  have hxs : xs.length = 5 := hxl
  have f0 : DataW.trod enc Tryd.prog w base (fun _ => true) held k 4 (List.take (Tryd.prog.cellsOf 4) (List.drop 0 [c0, c1, c2, c3, c4])) = xs[0]? := hfl 0 _ rfl
  rw [cells_bool, List.getElem?_eq_getElem (by omega)] at f0
  obtain ⟨a0, e0, -⟩ := DataW.trod_bool Tryd.underlying4 f0
  have f1 : DataW.trod enc Tryd.prog w base (fun _ => true) held k 3 (List.take (Tryd.prog.cellsOf 3) (List.drop 1 [c0, c1, c2, c3, c4])) = xs[1]? := hfl 1 _ rfl
  rw [cells_int, List.getElem?_eq_getElem (by omega)] at f1
  obtain ⟨a1, e1, -, w1⟩ := DataW.trod_int Tryd.underlying3 f1
  have f2 : DataW.trod enc Tryd.prog w base (fun _ => true) held k 30 (List.take (Tryd.prog.cellsOf 30) (List.drop 2 [c0, c1, c2, c3, c4])) = xs[2]? := hfl 2 _ rfl
  rw [cells_uint64, List.getElem?_eq_getElem (by omega)] at f2
  obtain ⟨a2, e2, -, w2⟩ := DataW.trod_int Tryd.underlying30 f2
  have f3 : DataW.trod enc Tryd.prog w base (fun _ => true) held k 29 (List.take (Tryd.prog.cellsOf 29) (List.drop 3 [c0, c1, c2, c3, c4])) = xs[3]? := hfl 3 _ rfl
  rw [cells_int8, List.getElem?_eq_getElem (by omega)] at f3
  obtain ⟨a3, e3, -, w3⟩ := DataW.trod_int Tryd.underlying29 f3
  have f4 : DataW.trod enc Tryd.prog w base (fun _ => true) held k 3 (List.take (Tryd.prog.cellsOf 3) (List.drop 4 [c0, c1, c2, c3, c4])) = xs[4]? := hfl 4 _ rfl
  rw [cells_int, List.getElem?_eq_getElem (by omega)] at f4
  obtain ⟨a4, e4, -, w4⟩ := DataW.trod_int Tryd.underlying3 f4
  simp only [List.drop_zero, List.drop_succ_cons, List.take_succ_cons, List.take_zero] at e0 e1 e2 e3 e4
  simp only [List.cons_append, List.nil_append, List.cons.injEq, and_true] at e0 e1 e2 e3 e4
  subst e0
  subst e1
  subst e2
  subst e3
  subst e4
  exact ⟨⟨a0, a1, a2, a3, a4⟩, rfl, ⟨i64_of w1, u64_wf w2, i64_of w4⟩⟩
theorem cells_tMiss : Tryd.prog.cellsOf 41 = 3 := by kernel_rfl
set_option maxRecDepth 100000 in
set_option maxHeartbeats 2000000 in
theorem trod_Mi (h : DataW.trod enc Tryd.prog w base (fun _ => true) held n 41 cs = some y) : ∃ x : Mi, cs = miC x ∧ x.Given w := by
  obtain ⟨xs, k, _, _, hlen, hxl, hfl⟩ := DataW.trod_struct Tryd.underlying41 h
  obtain ⟨c0, c1, c2, rfl⟩ := list_of3 (hlen.trans cells_tMiss)
  have hxs : xs.length = 3 := hxl
  have f0 : DataW.trod enc Tryd.prog w base (fun _ => true) held k 4 (List.take (Tryd.prog.cellsOf 4) (List.drop 0 [c0, c1, c2])) = xs[0]? := hfl 0 _ rfl
  rw [cells_bool, List.getElem?_eq_getElem (by omega)] at f0
  obtain ⟨a0, e0, -⟩ := DataW.trod_bool Tryd.underlying4 f0
  have f1 : DataW.trod enc Tryd.prog w base (fun _ => true) held k 30 (List.take (Tryd.prog.cellsOf 30) (List.drop 1 [c0, c1, c2])) = xs[1]? := hfl 1 _ rfl
  rw [cells_uint64, List.getElem?_eq_getElem (by omega)] at f1
  obtain ⟨a1, e1, -, w1⟩ := DataW.trod_int Tryd.underlying30 f1
  have f2 : DataW.trod enc Tryd.prog w base (fun _ => true) held k 29 (List.take (Tryd.prog.cellsOf 29) (List.drop 2 [c0, c1, c2])) = xs[2]? := hfl 2 _ rfl
  rw [cells_int8, List.getElem?_eq_getElem (by omega)] at f2
  obtain ⟨a2, e2, -, w2⟩ := DataW.trod_int Tryd.underlying29 f2
  simp only [List.drop_zero, List.drop_succ_cons, List.take_succ_cons, List.take_zero] at e0 e1 e2
  simp only [List.cons_append, List.nil_append, List.cons.injEq, and_true] at e0 e1 e2
  subst e0
  subst e1
  subst e2
  exact ⟨⟨a0, a1, a2⟩, rfl, ⟨u64_wf w1⟩⟩
theorem cells_tCore : Tryd.prog.cellsOf 44 = 28 := by kernel_rfl
set_option maxRecDepth 100000 in
set_option maxHeartbeats 2000000 in
theorem trod_Co (h : DataW.trod enc Tryd.prog w base (fun _ => true) held n 44 cs = some y) : ∃ x : Co, cs = coC x ∧ x.Given w := by
  obtain ⟨xs, k, _, _, hlen, hxl, hfl⟩ := DataW.trod_struct Tryd.underlying44 h
  obtain ⟨c0, c1, c2, c3, c4, c5, c6, c7, c8, c9, c10, c11, c12, c13, c14, c15, c16, c17, c18, c19, c20, c21, c22, c23, c24, c25, c26, c27, rfl⟩ := list_of28 (hlen.trans cells_tCore)
  have hxs : xs.length = 13 := hxl
  have f0 : DataW.trod enc Tryd.prog w base (fun _ => true) held k 3 (List.take (Tryd.prog.cellsOf 3) (List.drop 0 [c0, c1, c2, c3, c4, c5, c6, c7, c8, c9, c10, c11, c12, c13, c14, c15, c16, c17, c18, c19, c20, c21, c22, c23, c24, c25, c26, c27])) = xs[0]? := hfl 0 _ rfl
  rw [cells_int, List.getElem?_eq_getElem (by omega)] at f0
  obtain ⟨a0, e0, -, w0⟩ := DataW.trod_int Tryd.underlying3 f0
  have f1 : DataW.trod enc Tryd.prog w base (fun _ => true) held k 3 (List.take (Tryd.prog.cellsOf 3) (List.drop 1 [c0, c1, c2, c3, c4, c5, c6, c7, c8, c9, c10, c11, c12, c13, c14, c15, c16, c17, c18, c19, c20, c21, c22, c23, c24, c25, c26, c27])) = xs[1]? := hfl 1 _ rfl
  rw [cells_int, List.getElem?_eq_getElem (by omega)] at f1
  obtain ⟨a1, e1, -, w1⟩ := DataW.trod_int Tryd.underlying3 f1
  have f2 : DataW.trod enc Tryd.prog w base (fun _ => true) held k 3 (List.take (Tryd.prog.cellsOf 3) (List.drop 2 [c0, c1, c2, c3, c4, c5, c6, c7, c8, c9, c10, c11, c12, c13, c14, c15, c16, c17, c18, c19, c20, c21, c22, c23, c24, c25, c26, c27])) = xs[2]? := hfl 2 _ rfl
  rw [cells_int, List.getElem?_eq_getElem (by omega)] at f2
  obtain ⟨a2, e2, -, w2⟩ := DataW.trod_int Tryd.underlying3 f2
  have f3 : DataW.trod enc Tryd.prog w base (fun _ => true) held k 35 (List.take (Tryd.prog.cellsOf 35) (List.drop 3 [c0, c1, c2, c3, c4, c5, c6, c7, c8, c9, c10, c11, c12, c13, c14, c15, c16, c17, c18, c19, c20, c21, c22, c23, c24, c25, c26, c27])) = xs[3]? := hfl 3 _ rfl
  rw [cells_tWork, List.getElem?_eq_getElem (by omega)] at f3
  obtain ⟨a3, e3, g3⟩ := trod_Wo f3
  have f4 : DataW.trod enc Tryd.prog w base (fun _ => true) held k 4 (List.take (Tryd.prog.cellsOf 4) (List.drop 13 [c0, c1, c2, c3, c4, c5, c6, c7, c8, c9, c10, c11, c12, c13, c14, c15, c16, c17, c18, c19, c20, c21, c22, c23, c24, c25, c26, c27])) = xs[4]? := hfl 4 _ rfl
  rw [cells_bool, List.getElem?_eq_getElem (by omega)] at f4
  obtain ⟨a4, e4, -⟩ := DataW.trod_bool Tryd.underlying4 f4
  have f5 : DataW.trod enc Tryd.prog w base (fun _ => true) held k 3 (List.take (Tryd.prog.cellsOf 3) (List.drop 14 [c0, c1, c2, c3, c4, c5, c6, c7, c8, c9, c10, c11, c12, c13, c14, c15, c16, c17, c18, c19, c20, c21, c22, c23, c24, c25, c26, c27])) = xs[5]? := hfl 5 _ rfl
  rw [cells_int, List.getElem?_eq_getElem (by omega)] at f5
  obtain ⟨a5, e5, -, w5⟩ := DataW.trod_int Tryd.underlying3 f5
  have f6 : DataW.trod enc Tryd.prog w base (fun _ => true) held k 36 (List.take (Tryd.prog.cellsOf 36) (List.drop 15 [c0, c1, c2, c3, c4, c5, c6, c7, c8, c9, c10, c11, c12, c13, c14, c15, c16, c17, c18, c19, c20, c21, c22, c23, c24, c25, c26, c27])) = xs[6]? := hfl 6 _ rfl
  rw [cells_tTlbs, List.getElem?_eq_getElem (by omega)] at f6
  obtain ⟨O6, p6, l6, e6, h6, m6, r6, q6⟩ := trod_rows (tlC) (fun w x => Tl.Given w x) 4 Tl.z Tryd.underlying36 cells_tTlb (by omega) (fun _ _ _ h => trod_Tl h) f6
  have f7 : DataW.trod enc Tryd.prog w base (fun _ => true) held k 37 (List.take (Tryd.prog.cellsOf 37) (List.drop 16 [c0, c1, c2, c3, c4, c5, c6, c7, c8, c9, c10, c11, c12, c13, c14, c15, c16, c17, c18, c19, c20, c21, c22, c23, c24, c25, c26, c27])) = xs[7]? := hfl 7 _ rfl
  rw [cells_tSteps, List.getElem?_eq_getElem (by omega)] at f7
  obtain ⟨O7, p7, l7, e7, h7, m7, r7, q7⟩ := trod_rows (spC4) (fun w x => Sp4.Given w x) 4 Sp4.z Tryd.underlying37 cells_tStep (by omega) (fun _ _ _ h => trod_Sp4 h) f7
  have f8 : DataW.trod enc Tryd.prog w base (fun _ => true) held k 39 (List.take (Tryd.prog.cellsOf 39) (List.drop 17 [c0, c1, c2, c3, c4, c5, c6, c7, c8, c9, c10, c11, c12, c13, c14, c15, c16, c17, c18, c19, c20, c21, c22, c23, c24, c25, c26, c27])) = xs[8]? := hfl 8 _ rfl
  rw [cells_tWalkA, List.getElem?_eq_getElem (by omega)] at f8
  obtain ⟨a8, e8, g8⟩ := trod_Wa f8
  have f9 : DataW.trod enc Tryd.prog w base (fun _ => true) held k 41 (List.take (Tryd.prog.cellsOf 41) (List.drop 22 [c0, c1, c2, c3, c4, c5, c6, c7, c8, c9, c10, c11, c12, c13, c14, c15, c16, c17, c18, c19, c20, c21, c22, c23, c24, c25, c26, c27])) = xs[9]? := hfl 9 _ rfl
  rw [cells_tMiss, List.getElem?_eq_getElem (by omega)] at f9
  obtain ⟨a9, e9, g9⟩ := trod_Mi f9
  have f10 : DataW.trod enc Tryd.prog w base (fun _ => true) held k 42 (List.take (Tryd.prog.cellsOf 42) (List.drop 25 [c0, c1, c2, c3, c4, c5, c6, c7, c8, c9, c10, c11, c12, c13, c14, c15, c16, c17, c18, c19, c20, c21, c22, c23, c24, c25, c26, c27])) = xs[10]? := hfl 10 _ rfl
  rw [cells_tEntries, List.getElem?_eq_getElem (by omega)] at f10
  obtain ⟨O10, p10, l10, e10, h10, m10, r10, q10⟩ := trod_rows (enC) (fun w x => En.Given w x) 5 En.z Tryd.underlying42 cells_tEntry (by omega) (fun _ _ _ h => trod_En h) f10
  have f11 : DataW.trod enc Tryd.prog w base (fun _ => true) held k 4 (List.take (Tryd.prog.cellsOf 4) (List.drop 26 [c0, c1, c2, c3, c4, c5, c6, c7, c8, c9, c10, c11, c12, c13, c14, c15, c16, c17, c18, c19, c20, c21, c22, c23, c24, c25, c26, c27])) = xs[11]? := hfl 11 _ rfl
  rw [cells_bool, List.getElem?_eq_getElem (by omega)] at f11
  obtain ⟨a11, e11, -⟩ := DataW.trod_bool Tryd.underlying4 f11
  have f12 : DataW.trod enc Tryd.prog w base (fun _ => true) held k 30 (List.take (Tryd.prog.cellsOf 30) (List.drop 27 [c0, c1, c2, c3, c4, c5, c6, c7, c8, c9, c10, c11, c12, c13, c14, c15, c16, c17, c18, c19, c20, c21, c22, c23, c24, c25, c26, c27])) = xs[12]? := hfl 12 _ rfl
  rw [cells_uint64, List.getElem?_eq_getElem (by omega)] at f12
  obtain ⟨a12, e12, -, w12⟩ := DataW.trod_int Tryd.underlying30 f12
  simp only [List.drop_zero, List.drop_succ_cons, List.take_succ_cons, List.take_zero, woC, waC, miC] at e0 e1 e2 e3 e4 e5 e6 e7 e8 e9 e10 e11 e12
  simp only [List.cons_append, List.nil_append, List.cons.injEq, and_true, tiC, syC] at e0 e1 e2 e3 e4 e5 e6 e7 e8 e9 e10 e11 e12
  subst e0
  subst e1
  subst e2
  obtain ⟨rfl, rfl, rfl, rfl, rfl, rfl, rfl, rfl, rfl, rfl⟩ := e3
  subst e4
  subst e5
  subst e6
  subst e7
  obtain ⟨rfl, rfl, rfl, rfl, rfl⟩ := e8
  obtain ⟨rfl, rfl, rfl⟩ := e9
  subst e10
  subst e11
  subst e12
  exact ⟨⟨a0, a1, a2, a3, a4, a5, O6, l6, p6, O7, l7, p7, a8, a9, O10, l10, p10, a11, a12⟩, rfl, ⟨i64_of w0, i64_of w1, i64_of w2, g3, i64_of w5, r6, h6, m6, q6, r7, h7, m7, q7, g8, g9, r10, h10, m10, q10, u64_wf w12⟩⟩
theorem cells_tSpaceS : Tryd.prog.cellsOf 68 = 4 := by kernel_rfl
set_option maxRecDepth 100000 in
set_option maxHeartbeats 2000000 in
theorem trod_Ss (h : DataW.trod enc Tryd.prog w base (fun _ => true) held n 68 cs = some y) : ∃ x : Ss, cs = ssC x ∧ x.Given w := by
  obtain ⟨xs, k, _, _, hlen, hxl, hfl⟩ := DataW.trod_struct Tryd.underlying68 h
  obtain ⟨c0, c1, c2, c3, rfl⟩ := list_of4 (hlen.trans cells_tSpaceS)
  have hxs : xs.length = 4 := hxl
  have f0 : DataW.trod enc Tryd.prog w base (fun _ => true) held k 4 (List.take (Tryd.prog.cellsOf 4) (List.drop 0 [c0, c1, c2, c3])) = xs[0]? := hfl 0 _ rfl
  rw [cells_bool, List.getElem?_eq_getElem (by omega)] at f0
  obtain ⟨a0, e0, -⟩ := DataW.trod_bool Tryd.underlying4 f0
  have f1 : DataW.trod enc Tryd.prog w base (fun _ => true) held k 3 (List.take (Tryd.prog.cellsOf 3) (List.drop 1 [c0, c1, c2, c3])) = xs[1]? := hfl 1 _ rfl
  rw [cells_int, List.getElem?_eq_getElem (by omega)] at f1
  obtain ⟨a1, e1, -, w1⟩ := DataW.trod_int Tryd.underlying3 f1
  have f2 : DataW.trod enc Tryd.prog w base (fun _ => true) held k 3 (List.take (Tryd.prog.cellsOf 3) (List.drop 2 [c0, c1, c2, c3])) = xs[2]? := hfl 2 _ rfl
  rw [cells_int, List.getElem?_eq_getElem (by omega)] at f2
  obtain ⟨a2, e2, -, w2⟩ := DataW.trod_int Tryd.underlying3 f2
  have f3 : DataW.trod enc Tryd.prog w base (fun _ => true) held k 66 (List.take (Tryd.prog.cellsOf 66) (List.drop 3 [c0, c1, c2, c3])) = xs[3]? := hfl 3 _ rfl
  rw [cells_tRegions, List.getElem?_eq_getElem (by omega)] at f3
  obtain ⟨O3, n3, p3, e3⟩ := trod_raw Tryd.underlying66 f3
  simp only [List.drop_zero, List.drop_succ_cons, List.take_succ_cons, List.take_zero] at e0 e1 e2 e3
  simp only [List.cons_append, List.nil_append, List.cons.injEq, and_true] at e0 e1 e2 e3
  subst e0
  subst e1
  subst e2
  subst e3
  exact ⟨⟨a0, a1, a2, O3, n3, p3⟩, rfl, ⟨i64_of w1, i64_of w2⟩⟩
theorem cells_tCellW : Tryd.prog.cellsOf 53 = 2 := by kernel_rfl
set_option maxRecDepth 100000 in
set_option maxHeartbeats 2000000 in
theorem trod_CW (h : DataW.trod enc Tryd.prog w base (fun _ => true) held n 53 cs = some y) : ∃ x : CW, cs = cwC x ∧ x.Given w := by
  obtain ⟨xs, k, _, _, hlen, hxl, hfl⟩ := DataW.trod_struct Tryd.underlying53 h
  obtain ⟨c0, c1, rfl⟩ := list_of2 (hlen.trans cells_tCellW)
  have hxs : xs.length = 2 := hxl
  have f0 : DataW.trod enc Tryd.prog w base (fun _ => true) held k 3 (List.take (Tryd.prog.cellsOf 3) (List.drop 0 [c0, c1])) = xs[0]? := hfl 0 _ rfl
  rw [cells_int, List.getElem?_eq_getElem (by omega)] at f0
  obtain ⟨a0, e0, -, w0⟩ := DataW.trod_int Tryd.underlying3 f0
  have f1 : DataW.trod enc Tryd.prog w base (fun _ => true) held k 30 (List.take (Tryd.prog.cellsOf 30) (List.drop 1 [c0, c1])) = xs[1]? := hfl 1 _ rfl
  rw [cells_uint64, List.getElem?_eq_getElem (by omega)] at f1
  obtain ⟨a1, e1, -, w1⟩ := DataW.trod_int Tryd.underlying30 f1
  simp only [List.drop_zero, List.drop_succ_cons, List.take_succ_cons, List.take_zero] at e0 e1
  simp only [List.cons_append, List.nil_append, List.cons.injEq, and_true] at e0 e1
  subst e0
  subst e1
  exact ⟨⟨a0, a1⟩, rfl, ⟨i64_of w0, u64_wf w1⟩⟩
theorem cells_tFrameS : Tryd.prog.cellsOf 51 = 2 := by kernel_rfl
set_option maxRecDepth 100000 in
set_option maxHeartbeats 2000000 in
theorem trod_Fr (h : DataW.trod enc Tryd.prog w base (fun _ => true) held n 51 cs = some y) : ∃ x : Fr, cs = frC x ∧ x.Given w := by
  obtain ⟨xs, k, _, _, hlen, hxl, hfl⟩ := DataW.trod_struct Tryd.underlying51 h
  obtain ⟨c0, c1, rfl⟩ := list_of2 (hlen.trans cells_tFrameS)
  have hxs : xs.length = 2 := hxl
  have f0 : DataW.trod enc Tryd.prog w base (fun _ => true) held k 3 (List.take (Tryd.prog.cellsOf 3) (List.drop 0 [c0, c1])) = xs[0]? := hfl 0 _ rfl
  rw [cells_int, List.getElem?_eq_getElem (by omega)] at f0
  obtain ⟨a0, e0, -, w0⟩ := DataW.trod_int Tryd.underlying3 f0
  have f1 : DataW.trod enc Tryd.prog w base (fun _ => true) held k 49 (List.take (Tryd.prog.cellsOf 49) (List.drop 1 [c0, c1])) = xs[1]? := hfl 1 _ rfl
  rw [cells_tCellWs, List.getElem?_eq_getElem (by omega)] at f1
  obtain ⟨O1, p1, l1, e1, h1, m1, r1, q1⟩ := trod_rows (cwC) (fun w x => CW.Given w x) 2 CW.z Tryd.underlying49 cells_tCellW (by omega) (fun _ _ _ h => trod_CW h) f1
  simp only [List.drop_zero, List.drop_succ_cons, List.take_succ_cons, List.take_zero] at e0 e1
  simp only [List.cons_append, List.nil_append, List.cons.injEq, and_true] at e0 e1
  subst e0
  subst e1
  exact ⟨⟨a0, O1, l1, p1⟩, rfl, ⟨i64_of w0, r1, h1, m1, q1⟩⟩
theorem cells_tSnap : Tryd.prog.cellsOf 26 = 3 := by kernel_rfl
set_option maxRecDepth 100000 in
set_option maxHeartbeats 2000000 in
theorem trod_Sn (h : DataW.trod enc Tryd.prog w base (fun _ => true) held n 26 cs = some y) : ∃ x : Sn, cs = snC x ∧ x.Given w := by
  obtain ⟨xs, k, _, _, hlen, hxl, hfl⟩ := DataW.trod_struct Tryd.underlying26 h
  obtain ⟨c0, c1, c2, rfl⟩ := list_of3 (hlen.trans cells_tSnap)
  have hxs : xs.length = 3 := hxl
  have f0 : DataW.trod enc Tryd.prog w base (fun _ => true) held k 22 (List.take (Tryd.prog.cellsOf 22) (List.drop 0 [c0, c1, c2])) = xs[0]? := hfl 0 _ rfl
  rw [cells_tCores, List.getElem?_eq_getElem (by omega)] at f0
  obtain ⟨O0, p0, l0, e0, h0, m0, r0, q0⟩ := trod_rows (coC) (fun w x => Co.Given w x) 28 Co.z Tryd.underlying22 cells_tCore (by omega) (fun _ _ _ h => trod_Co h) f0
  have f1 : DataW.trod enc Tryd.prog w base (fun _ => true) held k 23 (List.take (Tryd.prog.cellsOf 23) (List.drop 1 [c0, c1, c2])) = xs[1]? := hfl 1 _ rfl
  rw [cells_tSpaceSs, List.getElem?_eq_getElem (by omega)] at f1
  obtain ⟨O1, p1, l1, e1, h1, m1, r1, q1⟩ := trod_rows (ssC) (fun w x => Ss.Given w x) 4 Ss.z Tryd.underlying23 cells_tSpaceS (by omega) (fun _ _ _ h => trod_Ss h) f1
  have f2 : DataW.trod enc Tryd.prog w base (fun _ => true) held k 24 (List.take (Tryd.prog.cellsOf 24) (List.drop 2 [c0, c1, c2])) = xs[2]? := hfl 2 _ rfl
  rw [cells_tFrameSs, List.getElem?_eq_getElem (by omega)] at f2
  obtain ⟨O2, p2, l2, e2, h2, m2, r2, q2⟩ := trod_rows (frC) (fun w x => Fr.Given w x) 2 Fr.z Tryd.underlying24 cells_tFrameS (by omega) (fun _ _ _ h => trod_Fr h) f2
  simp only [List.drop_zero, List.drop_succ_cons, List.take_succ_cons, List.take_zero] at e0 e1 e2
  simp only [List.cons_append, List.nil_append, List.cons.injEq, and_true] at e0 e1 e2
  subst e0
  subst e1
  subst e2
  exact ⟨⟨O0, l0, p0, O1, l1, p1, O2, l2, p2⟩, rfl, ⟨r0, h0, m0, q0, r1, h1, m1, q1, r2, h2, m2, q2⟩⟩
set_option maxRecDepth 100000 in
theorem open_snapArg {r : Reach} {b0 : Nat} {v : Value} {d : DataW H} {p : List MemPlace} (hv : Value.okWide Tryd.prog w r b0 26 v) (h : DataW.Trod enc Tryd.prog w base (fun _ => true) held 26 v d p) : ∃ s : Sn, v = .agg (snC s).toArray ∧ s.Given w := by
  obtain ⟨cs, rfl, -⟩ := okWide_struct Tryd.underlying26 hv
  obtain ⟨fuel, hf⟩ := h
  obtain ⟨s, e, hs⟩ := trod_Sn hf
  refine ⟨s, ?_, hs⟩
  rw [← e]
  simp [Value.cells]
end
end Go.Proofs.YtappjiljmpgjcaaDoor
