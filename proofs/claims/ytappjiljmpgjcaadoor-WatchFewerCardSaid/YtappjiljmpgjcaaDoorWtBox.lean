/-
  Whole rows of a snapshot's parts: loaded out of a slice, stored into a box, loaded out of a box (printed by gen/wtbox.py).
-/
import Derived.Test.YtappjiljmpgjcaaDoorWtSn
import Derived.Deep.MidRow
import Derived.Laws.Tables
import Derived.Laws.Rows
namespace Go.Proofs.YtappjiljmpgjcaaDoor
open Go.RowKit Go.Maps
set_option linter.unusedVariables false
set_option linter.unusedSimpArgs false
/-- A part of a row, in any later world. -/
theorem rk_range {α : Type} {enc : α → List Value} {C : Nat} {w w' : World} {O : Option Addr} {xs : List α} (h : RK enc C w O xs) (hb : Below w.heap.size w w') {k : Nat} {x : α} (hx : xs[k]? = some x) : ∃ b off : Nat, O = some ⟨b, off, none⟩ ∧ w'.rangeAt b (off + k * C) (enc x) := by
  obtain ⟨b, off, e, hc⟩ := (h.call hb) (by have := (List.getElem?_eq_some_iff.1 hx).1; omega)
  exact ⟨b, off, e, fun j u hu => hc k x hx j u hu⟩

theorem info_Tl : (Tryd.prog.info? 62).map (·.size) = some 4 := by kernel_rfl
abbrev zTl : Array Value := #[.int .i64 0, .int .u64 0, .int .i64 0, .bool false]
theorem info_Sp4 : (Tryd.prog.info? 106).map (·.size) = some 4 := by kernel_rfl
abbrev zSp4 : Array Value := #[.int .i64 0, .int .i8 0, .int .u64 0, .int .i64 0]
theorem info_En : (Tryd.prog.info? 108).map (·.size) = some 5 := by kernel_rfl
abbrev zEn : Array Value := #[.int .i8 0, .int .u64 0, .int .u64 0, .int .i64 0, .int .i64 0]
theorem info_An : (Tryd.prog.info? 85).map (·.size) = some 13 := by kernel_rfl
abbrev zAn : Array Value := #[.int .i8 0, .int .u64 0, .int .u64 0, .int .i64 0, .int .i64 0, .int .i8 0, .int .i64 0, .int .u64 0, .int .i64 0, .int .i64 0, .int .i64 0, .int .i8 0, .int .i64 0]
theorem info_Co : (Tryd.prog.info? 44).map (·.size) = some 28 := by kernel_rfl
abbrev zCo : Array Value := #[.int .i64 0, .int .i64 0, .int .i64 0, .bool false, .int .i8 0, .bool false, .int .i8 0, .int .i8 0, .int .u64 0, .int .i64 0, .int .i8 0, .int .u64 0, .slice none 0 0, .bool false, .int .i64 0, .slice none 0 0, .slice none 0 0, .bool false, .int .i64 0, .int .u64 0, .int .i8 0, .int .i64 0, .bool false, .int .u64 0, .int .i8 0, .slice none 0 0, .bool false, .int .u64 0]
theorem info_Ss : (Tryd.prog.info? 68).map (·.size) = some 4 := by kernel_rfl
abbrev zSs : Array Value := #[.bool false, .int .i64 0, .int .i64 0, .slice none 0 0]
theorem info_CW : (Tryd.prog.info? 53).map (·.size) = some 2 := by kernel_rfl
abbrev zCW : Array Value := #[.int .i64 0, .int .u64 0]
theorem info_Fr : (Tryd.prog.info? 51).map (·.size) = some 2 := by kernel_rfl
abbrev zFr : Array Value := #[.int .i64 0, .slice none 0 0]
section
variable {w : World} {ops : Array Oper} {rest : List Oper} {o : Oper} {a : Go.Act} {QQ : Exit → Go.Act → World → Prop}
theorem get_Tl (hgd : o.guard = none) (y : Operand) (ho : o.op = .load 62 y) (b off : Nat) (x : Tl) (hx : a.eval y = .pointer (some ⟨b, off, none⟩)) (hr : w.rangeAt b off (tlC x))
    (h : wpList Tryd.prog ops QQ rest (a.put o.dst (.agg (tlC x).toArray)) w) : wpList Tryd.prog ops QQ (o :: rest) a w :=
  wpList_load_mid hgd 62 y ho b _ hx _ _ hr Tryd.underlying62 rfl info_Tl h
theorem box_Tl (hgd : o.guard = none) (y z : Operand) (ho : o.op = .store 62 y z) (g : Nat) (x : Tl) (old : Array Value) (hx : a.eval y = .pointer (some ⟨g, 0, none⟩)) (hy : a.eval z = .agg (tlC x).toArray) (hb : Bk w g 62 old) (hs : old.size = 4)
    (h : wpList Tryd.prog ops QQ rest (a.put o.dst undef) (w.setRow g (tlC x).toArray)) : wpList Tryd.prog ops QQ (o :: rest) a w :=
  wpList_store_row hgd 62 y z ho g _ hx hy 62 old hb info_Tl hs (all_oneCell_toArray (tlC_one x)) h
theorem unbox_Tl (hgd : o.guard = none) (y : Operand) (ho : o.op = .load 62 y) (g : Nat) (x : Tl) (hx : a.eval y = .pointer (some ⟨g, 0, none⟩)) (hb : Bk w g 62 (tlC x).toArray)
    (h : wpList Tryd.prog ops QQ rest (a.put o.dst (.agg (tlC x).toArray)) w) : wpList Tryd.prog ops QQ (o :: rest) a w :=
  wpList_load_row hgd 62 y ho g hx 62 _ (0, 0) _ hb Tryd.underlying62 rfl (by exact info_Tl) h
theorem get_Sp4 (hgd : o.guard = none) (y : Operand) (ho : o.op = .load 106 y) (b off : Nat) (x : Sp4) (hx : a.eval y = .pointer (some ⟨b, off, none⟩)) (hr : w.rangeAt b off (spC4 x))
    (h : wpList Tryd.prog ops QQ rest (a.put o.dst (.agg (spC4 x).toArray)) w) : wpList Tryd.prog ops QQ (o :: rest) a w :=
  wpList_load_mid hgd 106 y ho b _ hx _ _ hr Tryd.underlying106 rfl info_Sp4 h
theorem box_Sp4 (hgd : o.guard = none) (y z : Operand) (ho : o.op = .store 106 y z) (g : Nat) (x : Sp4) (old : Array Value) (hx : a.eval y = .pointer (some ⟨g, 0, none⟩)) (hy : a.eval z = .agg (spC4 x).toArray) (hb : Bk w g 106 old) (hs : old.size = 4)
    (h : wpList Tryd.prog ops QQ rest (a.put o.dst undef) (w.setRow g (spC4 x).toArray)) : wpList Tryd.prog ops QQ (o :: rest) a w :=
  wpList_store_row hgd 106 y z ho g _ hx hy 106 old hb info_Sp4 hs (all_oneCell_toArray (spC4_one x)) h
theorem unbox_Sp4 (hgd : o.guard = none) (y : Operand) (ho : o.op = .load 106 y) (g : Nat) (x : Sp4) (hx : a.eval y = .pointer (some ⟨g, 0, none⟩)) (hb : Bk w g 106 (spC4 x).toArray)
    (h : wpList Tryd.prog ops QQ rest (a.put o.dst (.agg (spC4 x).toArray)) w) : wpList Tryd.prog ops QQ (o :: rest) a w :=
  wpList_load_row hgd 106 y ho g hx 106 _ (0, 0) _ hb Tryd.underlying106 rfl (by exact info_Sp4) h
theorem get_En (hgd : o.guard = none) (y : Operand) (ho : o.op = .load 108 y) (b off : Nat) (x : En) (hx : a.eval y = .pointer (some ⟨b, off, none⟩)) (hr : w.rangeAt b off (enC x))
    (h : wpList Tryd.prog ops QQ rest (a.put o.dst (.agg (enC x).toArray)) w) : wpList Tryd.prog ops QQ (o :: rest) a w :=
  wpList_load_mid hgd 108 y ho b _ hx _ _ hr Tryd.underlying108 rfl info_En h
theorem box_En (hgd : o.guard = none) (y z : Operand) (ho : o.op = .store 108 y z) (g : Nat) (x : En) (old : Array Value) (hx : a.eval y = .pointer (some ⟨g, 0, none⟩)) (hy : a.eval z = .agg (enC x).toArray) (hb : Bk w g 108 old) (hs : old.size = 5)
    (h : wpList Tryd.prog ops QQ rest (a.put o.dst undef) (w.setRow g (enC x).toArray)) : wpList Tryd.prog ops QQ (o :: rest) a w :=
  wpList_store_row hgd 108 y z ho g _ hx hy 108 old hb info_En hs (all_oneCell_toArray (enC_one x)) h
theorem unbox_En (hgd : o.guard = none) (y : Operand) (ho : o.op = .load 108 y) (g : Nat) (x : En) (hx : a.eval y = .pointer (some ⟨g, 0, none⟩)) (hb : Bk w g 108 (enC x).toArray)
    (h : wpList Tryd.prog ops QQ rest (a.put o.dst (.agg (enC x).toArray)) w) : wpList Tryd.prog ops QQ (o :: rest) a w :=
  wpList_load_row hgd 108 y ho g hx 108 _ (0, 0) _ hb Tryd.underlying108 rfl (by exact info_En) h
theorem get_An (hgd : o.guard = none) (y : Operand) (ho : o.op = .load 85 y) (b off : Nat) (x : An) (hx : a.eval y = .pointer (some ⟨b, off, none⟩)) (hr : w.rangeAt b off (anC x))
    (h : wpList Tryd.prog ops QQ rest (a.put o.dst (.agg (anC x).toArray)) w) : wpList Tryd.prog ops QQ (o :: rest) a w :=
  wpList_load_mid hgd 85 y ho b _ hx _ _ hr Tryd.underlying85 rfl info_An h
theorem box_An (hgd : o.guard = none) (y z : Operand) (ho : o.op = .store 85 y z) (g : Nat) (x : An) (old : Array Value) (hx : a.eval y = .pointer (some ⟨g, 0, none⟩)) (hy : a.eval z = .agg (anC x).toArray) (hb : Bk w g 85 old) (hs : old.size = 13)
    (h : wpList Tryd.prog ops QQ rest (a.put o.dst undef) (w.setRow g (anC x).toArray)) : wpList Tryd.prog ops QQ (o :: rest) a w :=
  wpList_store_row hgd 85 y z ho g _ hx hy 85 old hb info_An hs (all_oneCell_toArray (anC_one x)) h
theorem unbox_An (hgd : o.guard = none) (y : Operand) (ho : o.op = .load 85 y) (g : Nat) (x : An) (hx : a.eval y = .pointer (some ⟨g, 0, none⟩)) (hb : Bk w g 85 (anC x).toArray)
    (h : wpList Tryd.prog ops QQ rest (a.put o.dst (.agg (anC x).toArray)) w) : wpList Tryd.prog ops QQ (o :: rest) a w :=
  wpList_load_row hgd 85 y ho g hx 85 _ (0, 0) _ hb Tryd.underlying85 rfl (by exact info_An) h
theorem get_Co (hgd : o.guard = none) (y : Operand) (ho : o.op = .load 44 y) (b off : Nat) (x : Co) (hx : a.eval y = .pointer (some ⟨b, off, none⟩)) (hr : w.rangeAt b off (coC x))
    (h : wpList Tryd.prog ops QQ rest (a.put o.dst (.agg (coC x).toArray)) w) : wpList Tryd.prog ops QQ (o :: rest) a w :=
  wpList_load_mid hgd 44 y ho b _ hx _ _ hr Tryd.underlying44 rfl info_Co h
theorem box_Co (hgd : o.guard = none) (y z : Operand) (ho : o.op = .store 44 y z) (g : Nat) (x : Co) (old : Array Value) (hx : a.eval y = .pointer (some ⟨g, 0, none⟩)) (hy : a.eval z = .agg (coC x).toArray) (hb : Bk w g 44 old) (hs : old.size = 28)
    (h : wpList Tryd.prog ops QQ rest (a.put o.dst undef) (w.setRow g (coC x).toArray)) : wpList Tryd.prog ops QQ (o :: rest) a w :=
  wpList_store_row hgd 44 y z ho g _ hx hy 44 old hb info_Co hs (all_oneCell_toArray (coC_one x)) h
theorem unbox_Co (hgd : o.guard = none) (y : Operand) (ho : o.op = .load 44 y) (g : Nat) (x : Co) (hx : a.eval y = .pointer (some ⟨g, 0, none⟩)) (hb : Bk w g 44 (coC x).toArray)
    (h : wpList Tryd.prog ops QQ rest (a.put o.dst (.agg (coC x).toArray)) w) : wpList Tryd.prog ops QQ (o :: rest) a w :=
  wpList_load_row hgd 44 y ho g hx 44 _ (0, 0) _ hb Tryd.underlying44 rfl (by exact info_Co) h
theorem get_Ss (hgd : o.guard = none) (y : Operand) (ho : o.op = .load 68 y) (b off : Nat) (x : Ss) (hx : a.eval y = .pointer (some ⟨b, off, none⟩)) (hr : w.rangeAt b off (ssC x))
    (h : wpList Tryd.prog ops QQ rest (a.put o.dst (.agg (ssC x).toArray)) w) : wpList Tryd.prog ops QQ (o :: rest) a w :=
  wpList_load_mid hgd 68 y ho b _ hx _ _ hr Tryd.underlying68 rfl info_Ss h
theorem box_Ss (hgd : o.guard = none) (y z : Operand) (ho : o.op = .store 68 y z) (g : Nat) (x : Ss) (old : Array Value) (hx : a.eval y = .pointer (some ⟨g, 0, none⟩)) (hy : a.eval z = .agg (ssC x).toArray) (hb : Bk w g 68 old) (hs : old.size = 4)
    (h : wpList Tryd.prog ops QQ rest (a.put o.dst undef) (w.setRow g (ssC x).toArray)) : wpList Tryd.prog ops QQ (o :: rest) a w :=
  wpList_store_row hgd 68 y z ho g _ hx hy 68 old hb info_Ss hs (all_oneCell_toArray (ssC_one x)) h
theorem unbox_Ss (hgd : o.guard = none) (y : Operand) (ho : o.op = .load 68 y) (g : Nat) (x : Ss) (hx : a.eval y = .pointer (some ⟨g, 0, none⟩)) (hb : Bk w g 68 (ssC x).toArray)
    (h : wpList Tryd.prog ops QQ rest (a.put o.dst (.agg (ssC x).toArray)) w) : wpList Tryd.prog ops QQ (o :: rest) a w :=
  wpList_load_row hgd 68 y ho g hx 68 _ (0, 0) _ hb Tryd.underlying68 rfl (by exact info_Ss) h
theorem get_CW (hgd : o.guard = none) (y : Operand) (ho : o.op = .load 53 y) (b off : Nat) (x : CW) (hx : a.eval y = .pointer (some ⟨b, off, none⟩)) (hr : w.rangeAt b off (cwC x))
    (h : wpList Tryd.prog ops QQ rest (a.put o.dst (.agg (cwC x).toArray)) w) : wpList Tryd.prog ops QQ (o :: rest) a w :=
  wpList_load_mid hgd 53 y ho b _ hx _ _ hr Tryd.underlying53 rfl info_CW h
theorem box_CW (hgd : o.guard = none) (y z : Operand) (ho : o.op = .store 53 y z) (g : Nat) (x : CW) (old : Array Value) (hx : a.eval y = .pointer (some ⟨g, 0, none⟩)) (hy : a.eval z = .agg (cwC x).toArray) (hb : Bk w g 53 old) (hs : old.size = 2)
    (h : wpList Tryd.prog ops QQ rest (a.put o.dst undef) (w.setRow g (cwC x).toArray)) : wpList Tryd.prog ops QQ (o :: rest) a w :=
  wpList_store_row hgd 53 y z ho g _ hx hy 53 old hb info_CW hs (all_oneCell_toArray (cwC_one x)) h
theorem unbox_CW (hgd : o.guard = none) (y : Operand) (ho : o.op = .load 53 y) (g : Nat) (x : CW) (hx : a.eval y = .pointer (some ⟨g, 0, none⟩)) (hb : Bk w g 53 (cwC x).toArray)
    (h : wpList Tryd.prog ops QQ rest (a.put o.dst (.agg (cwC x).toArray)) w) : wpList Tryd.prog ops QQ (o :: rest) a w :=
  wpList_load_row hgd 53 y ho g hx 53 _ (0, 0) _ hb Tryd.underlying53 rfl (by exact info_CW) h
theorem get_Fr (hgd : o.guard = none) (y : Operand) (ho : o.op = .load 51 y) (b off : Nat) (x : Fr) (hx : a.eval y = .pointer (some ⟨b, off, none⟩)) (hr : w.rangeAt b off (frC x))
    (h : wpList Tryd.prog ops QQ rest (a.put o.dst (.agg (frC x).toArray)) w) : wpList Tryd.prog ops QQ (o :: rest) a w :=
  wpList_load_mid hgd 51 y ho b _ hx _ _ hr Tryd.underlying51 rfl info_Fr h
theorem box_Fr (hgd : o.guard = none) (y z : Operand) (ho : o.op = .store 51 y z) (g : Nat) (x : Fr) (old : Array Value) (hx : a.eval y = .pointer (some ⟨g, 0, none⟩)) (hy : a.eval z = .agg (frC x).toArray) (hb : Bk w g 51 old) (hs : old.size = 2)
    (h : wpList Tryd.prog ops QQ rest (a.put o.dst undef) (w.setRow g (frC x).toArray)) : wpList Tryd.prog ops QQ (o :: rest) a w :=
  wpList_store_row hgd 51 y z ho g _ hx hy 51 old hb info_Fr hs (all_oneCell_toArray (frC_one x)) h
theorem unbox_Fr (hgd : o.guard = none) (y : Operand) (ho : o.op = .load 51 y) (g : Nat) (x : Fr) (hx : a.eval y = .pointer (some ⟨g, 0, none⟩)) (hb : Bk w g 51 (frC x).toArray)
    (h : wpList Tryd.prog ops QQ rest (a.put o.dst (.agg (frC x).toArray)) w) : wpList Tryd.prog ops QQ (o :: rest) a w :=
  wpList_load_row hgd 51 y ho g hx 51 _ (0, 0) _ hb Tryd.underlying51 rfl (by exact info_Fr) h
end
end Go.Proofs.YtappjiljmpgjcaaDoor
