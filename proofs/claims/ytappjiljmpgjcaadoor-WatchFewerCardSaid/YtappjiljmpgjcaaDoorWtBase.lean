/-
  Layer 29: maps of any key and element, by what each key's value holds.
-/
import Derived.Test.YtappjiljmpgjcaaDoorCommon
import Derived.Test.YtappjiljmpgjcaaDoorArr
import Derived.Test.YtappjiljmpgjcaaDoorKeep
import Derived.Test.YtappjiljmpgjcaaDoorRw
import Derived.Maps.OwnSet
import Derived.DeepKeys4
namespace Go.Proofs.YtappjiljmpgjcaaDoor
open Go.RowKit Go.Maps Go.ChangeShapes Go.WideShapes
set_option linter.unusedVariables false
set_option linter.unusedSimpArgs false
def I64 (x : Int) : Prop := -9223372036854775808 ≤ x ∧ x < 9223372036854775808
/-- Every element reads as itself. -/
def RV (v : Value) : Option (DataW Value × List MemPlace) := some (.held v, [])
/-- Block M is a map of at most K entries that holds what on tells. -/
def Mp (kt : TypeId) (w : World) (M K : Nat) (on : Value → Option Value) : Prop :=
  ∃ D : DataW Value, w.ownsMap Tryd.prog kt RV M K D ∧ ∀ c l, keyOf Tryd.prog kt c = some l → Maps.has D l = (on c).isSome ∧ ∀ t, on c = some t → ∀ z, D.atKey l z = .held t
section
variable {kt : TypeId} {w w' : World} {M K : Nat} {on : Value → Option Value}
theorem Mp.block (h : Mp kt w M K on) (hb : w'.heap[M]? = w.heap[M]?) : Mp kt w' M K on := by
  obtain ⟨D, ⟨es, clock, hb', r⟩, h2⟩ := h
  exact ⟨D, ⟨es, clock, hb.trans hb', r⟩, h2⟩
theorem Mp.lt (h : Mp kt w M K on) : M < w.heap.size := by
  obtain ⟨D, ⟨es, clock, hb', r⟩, h2⟩ := h
  exact (Array.getElem?_eq_some_iff.1 hb').1
theorem Mp.call (h : Mp kt w M K on) (hb : Below w.heap.size w w') : Mp kt w' M K on := h.block (hb.block M h.lt)
theorem Mp.keep {F : Nat → Prop} (h : Mp kt w M K on) (hk : Keeps F w w') (hM : ¬ F M) : Mp kt w' M K on := h.block (hk.block M h.lt hM)
theorem Mp.more {L : Nat} (h : Mp kt w M K on) (hk : K ≤ L) : Mp kt w M L on := by
  obtain ⟨D, ⟨es, clock, hb, F, hs, r⟩, h2⟩ := h
  exact ⟨D, ⟨es, clock, hb, F, Nat.le_trans hs hk, r⟩, h2⟩
theorem Mp.made (kt : TypeId) (w : World) : Mp kt (w.alloc (.map #[] 0)) w.heap.size 0 fun _ => none := ⟨_, World.ownsMap_made w Tryd.prog kt _, fun c l _ => ⟨rfl, fun t h => by cases h⟩⟩
theorem Mp.ne_bk {g : Nat} {t : TypeId} {cs : Array Value} (h : Mp kt w M K on) (hb : Bk w g t cs) : g ≠ M := by
  rintro rfl
  obtain ⟨D, ⟨es, clock, hb', r⟩, h2⟩ := h
  unfold Bk at hb
  rw [hb'] at hb
  cases hb
theorem Mp.look_ok (h : Mp kt w M K on) (KK : Keyed Tryd.prog kt) {t e : TypeId} (ht : Tryd.prog.underlying t = some (.map kt e)) {z : Value} (hz : (zeroValue e).run Tryd.prog w = .ok z w) {c : Value} {l : Lit} (hc : keyOf Tryd.prog kt c = some l) :
    (Instr.lookup t (.map (some M)) c true).run Tryd.prog w = .ok (.tuple #[(on c).getD z, .bool (on c).isSome]) w := by
  obtain ⟨D, hD, h2⟩ := h
  obtain ⟨v, ps, hrun, hv⟩ := hD.look_ok (t := t) (e := e) KK ht (z := z) hz (zd := .held z) (zp := []) rfl hc
  simp only [RV, Option.some.injEq, Prod.mk.injEq] at hv
  have ha := hv.1
  rw [hrun, (h2 c l hc).1]
  cases e' : on c with
  | none =>
    have h0 : Maps.has D l = false := by rw [(h2 c l hc).1, e']; rfl
    rw [Maps.atKey_of_not_has h0] at ha
    have ha := DataW.held.inj ha
    subst ha
    simp only [Option.getD_none, Option.getD_some, Option.isSome_none, Option.isSome_some]
  | some t =>
    rw [(h2 c l hc).2 t e'] at ha
    have ha := DataW.held.inj ha
    subst ha
    simp only [Option.getD_none, Option.getD_some, Option.isSome_none, Option.isSome_some]
theorem Mp.look (h : Mp kt w M K on) (KK : Keyed Tryd.prog kt) {t e : TypeId} (ht : Tryd.prog.underlying t = some (.map kt e)) {z : Value} (hz : (zeroValue e).run Tryd.prog w = .ok z w) {c : Value} {l : Lit} (hc : keyOf Tryd.prog kt c = some l) :
    (Instr.lookup t (.map (some M)) c false).run Tryd.prog w = .ok ((on c).getD z) w := by
  obtain ⟨D, hD, h2⟩ := h
  obtain ⟨v, ps, hrun, hv⟩ := hD.lookup (t := t) (e := e) KK ht (z := z) hz (zd := .held z) (zp := []) rfl hc
  simp only [RV, Option.some.injEq, Prod.mk.injEq] at hv
  have ha := hv.1
  rw [hrun]
  cases e' : on c with
  | none =>
    have h0 : Maps.has D l = false := by rw [(h2 c l hc).1, e']; rfl
    rw [Maps.atKey_of_not_has h0] at ha
    have ha := DataW.held.inj ha
    subst ha
    simp only [Option.getD_none, Option.getD_some, Option.isSome_none, Option.isSome_some]
  | some t =>
    rw [(h2 c l hc).2 t e'] at ha
    have ha := DataW.held.inj ha
    subst ha
    simp only [Option.getD_none, Option.getD_some, Option.isSome_none, Option.isSome_some]
open Classical in
noncomputable def updV (on : Value → Option Value) (c t : Value) : Value → Option Value := fun d => if d = c then some t else on d
theorem updV_same (on : Value → Option Value) (c t : Value) : updV on c t c = some t := by simp [updV]
theorem updV_other (on : Value → Option Value) {c d : Value} (t : Value) (h : d ≠ c) : updV on c t d = on d := by simp [updV, h]
theorem Mp.put (h : Mp kt w M K on) (KK : Keyed Tryd.prog kt) {t e : TypeId} (ht : Tryd.prog.underlying t = some (.map kt e)) {c : Value} {l : Lit} (hc : keyOf Tryd.prog kt c = some l) (v : Value) (hK : K < 100000) :
    ∃ w', (Instr.mapUpdate t (.map (some M)) c v).run Tryd.prog w = .ok () w' ∧ Mp kt w' M (K + 1) (updV on c v) ∧ Keeps (fun x => x = M) w w' := by
  obtain ⟨D, hD, h2⟩ := h
  have hM := hD.isMap
  obtain ⟨w', hrun, hD', hg⟩ := hD.store (t := t) (e := e) KK ht (by unfold maxLen; omega) hc (val := v) (d := .held v) (ps := []) rfl
  refine ⟨w', hrun, ⟨_, hD', fun d ld hd => ?_⟩, Keeps.grown hg.grown rfl⟩
  by_cases e' : d = c
  · subst e'
    obtain rfl : ld = l := by rw [hd] at hc; injection hc
    rw [updV_same]
    refine ⟨Maps.has_put_same hM (KK.key hc) _, fun u hu z => ?_⟩
    cases hu
    exact Maps.atKey_put_same hM (KK.key hc) _ z
  · rw [updV_other _ _ e']
    have hne : ld ≠ l := fun el => e' (KK.inj hd (by rw [el]; exact hc))
    exact ⟨by rw [Maps.has_put_other hne]; exact (h2 d ld hd).1, fun u hu z => by rw [Maps.atKey_put_other hne]; exact (h2 d ld hd).2 u hu z⟩
end
/-! The keys. -/
def ik (c : Int) : Lit := .int .i64 c
theorem ik_key {c : Int} (h : I64 c) : keyOf Tryd.prog 3 (.int .i64 c) = some (ik c) := keyOf_int_mk Tryd.underlying3 (WalkArith.wf_i64 ⟨h.1, by have := h.2; omega⟩)
theorem kInt : Keyed Tryd.prog 3 := int_keyed Tryd.underlying3
theorem laidOut : laidOutB Tryd.prog = true := by kernel_rfl
theorem lawWhere : Go.WideMaps.KeyLaw Tryd.prog 77 := deep_law_laid laidOut (m := 3) (by omega) (of_decide_eq_true (by kernel_rfl)) (by kernel_rfl) (by kernel_rfl)
theorem kWhere : Keyed Tryd.prog 77 := Keyed.of_law lawWhere
theorem kSpot : Keyed Tryd.prog 128 := Keyed.of_law (deep_law_laid laidOut (m := 3) (by omega) (of_decide_eq_true (by kernel_rfl)) (by kernel_rfl) (by kernel_rfl))
theorem kPair : Keyed Tryd.prog 103 := Keyed.of_law (deep_law_laid laidOut (m := 3) (by omega) (of_decide_eq_true (by kernel_rfl)) (by kernel_rfl) (by kernel_rfl))
theorem ktWhere : Tryd.prog.keyType 77 = true := by kernel_rfl
theorem ktSpot : Tryd.prog.keyType 128 = true := by kernel_rfl
theorem ktPair : Tryd.prog.keyType 103 = true := by kernel_rfl
theorem cellsInt : Tryd.prog.cellsOf 3 = 1 := by kernel_rfl
theorem cellsU64 : Tryd.prog.cellsOf 30 = 1 := by kernel_rfl
theorem cellsWhere : Tryd.prog.cellsOf 77 = 2 := by kernel_rfl
theorem cellsSpot : Tryd.prog.cellsOf 128 = 2 := by kernel_rfl
theorem cellsPair : Tryd.prog.cellsOf 103 = 2 := by kernel_rfl
theorem wfi {a : Int} (h : I64 a) : (Lit.int .i64 a).wf = true := WalkArith.wf_i64 ⟨h.1, by have := h.2; omega⟩
theorem wfu {a : Int} (h : U64 a) : (Lit.int .u64 a).wf = true := WalkArith.wf_u64 ⟨h.1, by have := h.2; omega⟩
theorem types_succ : ∃ n, Tryd.prog.types.size = n + 1 := ⟨Tryd.prog.types.size - 1, by have : 0 < Tryd.prog.types.size := of_decide_eq_true (by kernel_rfl); omega⟩
set_option maxRecDepth 100000 in
theorem key_where {a p : Int} (ha : I64 a) (hp : U64 p) : ∃ l, keyOf Tryd.prog 77 (.agg #[.int .i64 a, .int .u64 p]) = some l := by
  refine ⟨.string (keyBytes [.int .i64 a, .int .u64 p]), ?_⟩
  · obtain ⟨n, hn⟩ := types_succ
    unfold keyOf
    rw [Tryd.underlying77, hn]
    clear hn
    simp [ktWhere, Value.formed, Tryd.underlying77, cellsWhere, Program.keyLits, Tryd.underlying3, Tryd.underlying30, Value.cells, cellsInt, cellsU64, wfi ha, wfu hp]
set_option maxRecDepth 100000 in
theorem key_spot {a p : Int} (ha : I64 a) (hp : I64 p) : ∃ l, keyOf Tryd.prog 128 (.agg #[.int .i64 a, .int .i64 p]) = some l := by
  refine ⟨.string (keyBytes [.int .i64 a, .int .i64 p]), ?_⟩
  · obtain ⟨n, hn⟩ := types_succ
    unfold keyOf
    rw [Tryd.underlying128, hn]
    clear hn
    simp [ktSpot, Value.formed, Tryd.underlying128, cellsSpot, Program.keyLits, Tryd.underlying3, Value.cells, cellsInt, wfi ha, wfi hp]
set_option maxRecDepth 100000 in
theorem key_pair {a p : Int} (ha : I64 a) (hp : I64 p) : ∃ l, keyOf Tryd.prog 103 (.agg #[.int .i64 a, .int .i64 p]) = some l := by
  refine ⟨.string (keyBytes [.int .i64 a, .int .i64 p]), ?_⟩
  · obtain ⟨n, hn⟩ := types_succ
    unfold keyOf
    rw [Tryd.underlying103, hn]
    clear hn
    simp [ktPair, Value.formed, Tryd.underlying103, cellsPair, Program.keyLits, Tryd.underlying3, Value.cells, cellsInt, wfi ha, wfi hp, List.range_succ]
end Go.Proofs.YtappjiljmpgjcaaDoor
