/-
  Layer 29: an entry cut out of a row of a core (printed by gen/wtcut.py).
-/
import Derived.Test.YtappjiljmpgjcaaDoorWtFewL
import Derived.Test.YtappjiljmpgjcaaDoorWtGrp
import Derived.Test.YtappjiljmpgjcaaDoorRwMore
namespace Go.Proofs.YtappjiljmpgjcaaDoor
open Go.RowKit Go.Maps Go.Shelf Go.Anyo
set_option linter.unusedVariables false
set_option linter.unusedSimpArgs false
/-! ### Temporaries put anew -/
def setN (t : Array Value) (d : Nat) (f : Nat → Value) : Nat → Array Value
  | 0 => t
  | n + 1 => (setN t d f n).setIfInBounds (d + n) (f n)
theorem setN_zero (t : Array Value) (d : Nat) (f : Nat → Value) : setN t d f 0 = t := rfl
theorem setN_succ (t : Array Value) (d n : Nat) (f : Nat → Value) : setN t d f (n + 1) = (setN t d f n).setIfInBounds (d + n) (f n) := rfl
theorem setN_size (t : Array Value) (d : Nat) (f : Nat → Value) : ∀ n, (setN t d f n).size = t.size
  | 0 => rfl
  | n + 1 => by rw [setN, Array.size_setIfInBounds, setN_size t d f n]
theorem setN_at (t : Array Value) (d : Nat) (f : Nat → Value) : ∀ n, d + n ≤ t.size → ∀ i, (setN t d f n)[i]? = if d ≤ i ∧ i < d + n then some (f (i - d)) else t[i]?
  | 0, _, i => by rw [setN, if_neg (by omega)]
  | n + 1, h, i => by
    rw [setN, Array.getElem?_setIfInBounds]
    by_cases e : d + n = i
    · subst e
      rw [if_pos rfl, if_pos (by rw [setN_size]; omega), if_pos (by omega)]
      congr 2; omega
    · rw [if_neg e, setN_at t d f n (by omega) i]
      by_cases h1 : d ≤ i ∧ i < d + n
      · rw [if_pos h1, if_pos (by omega)]
      · rw [if_neg h1, if_neg (by omega)]
def updN (f : Nat → Value) (j : Nat) (v : Value) : Nat → Value := fun i => if i = j then v else f i
theorem updN_same (f : Nat → Value) (j : Nat) (v : Value) : updN f j v j = v := by unfold updN; rw [if_pos rfl]
theorem updN_other (f : Nat → Value) {j i : Nat} (v : Value) (h : i ≠ j) : updN f j v i = f i := by unfold updN; rw [if_neg h]
theorem setN_put (t : Array Value) (d n : Nat) (f : Nat → Value) {j : Nat} (v : Value) (hj : j < n) (h : d + n ≤ t.size) : (setN t d f n).setIfInBounds (d + j) v = setN t d (updN f j v) n := by
  apply Array.ext_getElem?
  intro i
  rw [Array.getElem?_setIfInBounds, setN_at t d f n h, setN_at t d _ n h, setN_size]
  by_cases e : d + j = i
  · subst e
    rw [if_pos rfl, if_pos (by omega), if_pos (by omega)]
    unfold updN
    rw [if_pos (by omega)]
  · rw [if_neg e]
    by_cases h1 : d ≤ i ∧ i < d + n
    · rw [if_pos h1, if_pos h1]
      unfold updN
      rw [if_neg (by omega)]
    · rw [if_neg h1, if_neg h1]
theorem act_put (t : Array Value) (ds : List Deferred) (d : Nat) (v : Value) : (⟨t, ds⟩ : Go.Act).put (some d) v = ⟨t.setIfInBounds d v, ds⟩ := rfl
attribute [irreducible] setN updN
/-! ### An operation in the widest fence -/
section
variable {m : Nat} {ops : Array Oper} {Q : Exit → Go.Act → World → Prop} {a : Go.Act} {w' : World} {i : Nat} {o : Oper} {K : Go.Act → World → Prop}
theorem opW_of_run {v : Value} {w2 : World} (hi : ops[i]? = some o) (hg : o.guard = none) (hr : (execOp a.eval o).run Tryd.prog w' = .ok (.value v) w2) (hK : K (a.put o.dst v) w2) : wpOpIn Fence.wide m Tryd.prog ops Q i K a w' := by
  unfold wpOpIn
  rw [hi]
  simp only [Region.wanted, hg, if_true]
  unfold Oper.wpIn
  refine ⟨fun _ _ => trivial, ?_⟩
  rw [show Fence.wide.round = none from rfl, Oper.semAt_none, hr]
  exact hK
theorem opW_of_skip {w2 : World} (hi : ops[i]? = some o) (hg : o.guard = none) (hr : (execOp a.eval o).run Tryd.prog w' = .ok .skip w2) (hK : K (a.put o.dst undef) w2) : wpOpIn Fence.wide m Tryd.prog ops Q i K a w' := by
  unfold wpOpIn
  rw [hi]
  simp only [Region.wanted, hg, if_true]
  unfold Oper.wpIn
  refine ⟨fun _ _ => trivial, ?_⟩
  rw [show Fence.wide.round = none from rfl, Oper.semAt_none, hr]
  exact hK
end
/-! ### Slices of a row -/
def hiO (O : Option Addr) (c k wd : Nat) : Option Addr := if c = k + 1 then O else O.map (·.add ((k + 1) * wd))
theorem addr_add (b off n : Nat) : (⟨b, off, none⟩ : Addr).add n = ⟨b, off + n, none⟩ := by unfold Addr.add; split <;> simp_all
section
variable {α : Type} {enc : α → List Value} {wd : Nat} {W w : World} {O : Option Addr} {xs : List α} {c k n : Nat} {t : TypeId}
theorem cut_lo (ht : Tryd.prog.underlying t = some (.slice (Tryd.prog.elem t))) (hz : (sizeOf (Tryd.prog.elem t)).run Tryd.prog w = .ok wd w) (h : RK enc wd W O xs) (hk : k < n) (hn : xs.length = n) (hc : n ≤ c) : (Instr.sliceAt t (.slice O n c) none (some (.int .i64 k)) none).run Tryd.prog w = .ok (.slice O k c) w := by
  obtain ⟨b, off, rfl, -⟩ := h (by omega)
  rw [run_sliceAt_slice (h := ht), run_slice_h (ht := ht) (h0 := by omega) (h2 := by omega), hz]
  have e : (if c = 0 then some (⟨b, off, none⟩ : Addr) else (some (⟨b, off, none⟩ : Addr)).map (·.add (0 * wd))) = some ⟨b, off, none⟩ := by
    rw [if_neg (by omega)]
    simp [addr_add]
  simp only [Result.andThen, sliced]
  rw [e]
  simp
theorem cut_hi (ht : Tryd.prog.underlying t = some (.slice (Tryd.prog.elem t))) (hz : (sizeOf (Tryd.prog.elem t)).run Tryd.prog w = .ok wd w) (hk : k < n) : (Instr.sliceAt t (.slice O n c) (some (.int .i64 ((k : Int) + 1))) none none).run Tryd.prog w = .ok (.slice (hiO O c k wd) (n - (k + 1)) (c - (k + 1))) w := by
  rw [run_sliceAt_slice (h := ht), run_slice_l (ht := ht) (h0 := by omega) (h1 := by omega), hz]
  simp only [Result.andThen, sliced]
  have : ((k : Int) + 1).toNat = k + 1 := by omega
  rw [this]
  rfl
theorem rk_take (h : RK enc wd W O xs) (k : Nat) : RK enc wd W O (xs.take k) := fun h0 => by
  obtain ⟨b, off, e, hc⟩ := h (by rw [List.length_take] at h0; omega)
  refine ⟨b, off, e, fun i x hx j u hu => hc i x ?_ j u hu⟩
  rw [List.getElem?_take] at hx
  split at hx
  · exact hx
  · cases hx
theorem rk_hi (h : RK enc wd W O xs) (hc : xs.length ≤ c) : RK enc wd W (hiO O c k wd) (xs.drop (k + 1)) := fun h0 => by
  rw [List.length_drop] at h0
  obtain ⟨b, off, rfl, -⟩ := h (by omega)
  unfold hiO
  rw [if_neg (by omega)]
  rw [show (some (⟨b, off, none⟩ : Addr)).map (·.add ((k + 1) * wd)) = some ⟨b, off + (k + 1) * wd, none⟩ by simp [addr_add]]
  exact h.dropn (k + 1) (by rw [List.length_drop]; exact h0)
end
theorem cut_len {α : Type} {l : List α} {k : Nat} (h : k < l.length) : (cut l k).length = l.length - 1 := by unfold cut; rw [List.length_append, List.length_take, List.length_drop]; omega

/-! ### The row of Tlb -/
abbrev ctOps : Array Oper := #[{ dst := some 59, op := Go.Op.buildSlice 36 0 #[], type := 36, pos := "law.go:83", after := #[], guard := none }, { dst := some 60, op := Go.Op.fieldAddr 44 (Go.Operand.tmp 10) 6, type := 0, pos := "law.go:83", after := #[], guard := none }, { dst := some 61, op := Go.Op.load 36 (Go.Operand.tmp 60), type := 36, pos := "law.go:83", after := #[{ on := 1, ground := Go.Ground.data }], guard := none }, { dst := some 62, op := Go.Op.move (Go.Operand.tmp 3), type := 3, pos := "law.go:83", after := #[], guard := none }, { dst := some 63, op := Go.Op.slice 36 (Go.Operand.tmp 61) none (some (Go.Operand.tmp 62)) none, type := 36, pos := "law.go:83", after := #[{ on := 2, ground := Go.Ground.data }, { on := 3, ground := Go.Ground.data }], guard := none }, { dst := some 64, op := Go.Op.call { callee := Go.Callee.builtin Go.Builtin.append, args := #[Go.Operand.tmp 59, Go.Operand.tmp 63], argTypes := #[36, 36] }, type := 36, pos := "law.go:83", after := #[{ on := 0, ground := Go.Ground.data }, { on := 4, ground := Go.Ground.data }], guard := none }, { dst := some 65, op := Go.Op.fieldAddr 44 (Go.Operand.tmp 10) 6, type := 0, pos := "law.go:83", after := #[], guard := none }, { dst := some 66, op := Go.Op.load 36 (Go.Operand.tmp 65), type := 36, pos := "law.go:83", after := #[{ on := 6, ground := Go.Ground.data }], guard := none }, { dst := some 67, op := Go.Op.move (Go.Operand.tmp 3), type := 3, pos := "law.go:83", after := #[], guard := none }, { dst := some 68, op := Go.Op.binOp Go.BinOp.add 3 (Go.Operand.tmp 67) (Go.Operand.const (Go.Value.int Go.IntKind.i64 1)) 3, type := 3, pos := "law.go:83", after := #[{ on := 8, ground := Go.Ground.data }], guard := none }, { dst := some 69, op := Go.Op.slice 36 (Go.Operand.tmp 66) (some (Go.Operand.tmp 68)) none none, type := 36, pos := "law.go:83", after := #[{ on := 7, ground := Go.Ground.data }, { on := 9, ground := Go.Ground.data }], guard := none }, { dst := some 70, op := Go.Op.call { callee := Go.Callee.builtin Go.Builtin.append, args := #[Go.Operand.tmp 64, Go.Operand.tmp 69], argTypes := #[36, 36] }, type := 36, pos := "law.go:83", after := #[{ on := 5, ground := Go.Ground.data }, { on := 10, ground := Go.Ground.data }, { on := 5, ground := Go.Ground.chain }], guard := none }, { dst := some 71, op := Go.Op.fieldAddr 44 (Go.Operand.tmp 10) 6, type := 0, pos := "law.go:83", after := #[{ on := 0, ground := Go.Ground.phase }, { on := 1, ground := Go.Ground.phase }, { on := 2, ground := Go.Ground.phase }, { on := 3, ground := Go.Ground.phase }, { on := 4, ground := Go.Ground.phase }, { on := 5, ground := Go.Ground.phase }, { on := 6, ground := Go.Ground.phase }, { on := 7, ground := Go.Ground.phase }, { on := 8, ground := Go.Ground.phase }, { on := 9, ground := Go.Ground.phase }, { on := 10, ground := Go.Ground.phase }, { on := 11, ground := Go.Ground.phase }], guard := none }, { dst := none, op := Go.Op.store 36 (Go.Operand.tmp 71) (Go.Operand.tmp 70), type := 0, pos := "law.go:83", after := #[{ on := 12, ground := Go.Ground.data }, { on := 11, ground := Go.Ground.data }, { on := 11, ground := Go.Ground.chain }, { on := 0, ground := Go.Ground.phase }, { on := 1, ground := Go.Ground.phase }, { on := 2, ground := Go.Ground.phase }, { on := 3, ground := Go.Ground.phase }, { on := 4, ground := Go.Ground.phase }, { on := 5, ground := Go.Ground.phase }, { on := 6, ground := Go.Ground.phase }, { on := 7, ground := Go.Ground.phase }, { on := 8, ground := Go.Ground.phase }, { on := 9, ground := Go.Ground.phase }, { on := 10, ground := Go.Ground.phase }, { on := 11, ground := Go.Ground.phase }], guard := none }]
theorem infoct : (Tryd.prog.info? 62).map (fun i => (i.zero, i.size, i.bytes)) = some (some (.agg #[.int .i64 0, .int .u64 0, .int .i64 0, .bool false]), 4, 32) := by kernel_rfl
theorem undct : Tryd.prog.underlying 36 = some (.slice (Tryd.prog.elem 36)) := by kernel_rfl
theorem sizct (w : World) : (sizeOf (Tryd.prog.elem 36)).run Tryd.prog w = .ok 4 w := by kernel_rfl
structure ctS (w : World) (t0 : Array Value) (X : Nat) (c : Co) (k : Nat) : Prop where
  sz : t0.size = 128
  e3 : t0[3]?.getD undef = .int .i64 k
  e10 : t0[10]?.getD undef = .pointer (some ⟨X, 0, none⟩)
  bx : Bk w X 44 (coC c).toArray
  rk : RK tlC 4 w c.tO c.tl
  le : c.tl.length ≤ c.tc
  kn : k < c.tl.length
  n10 : c.tl.length ≤ 1000
def ctVal (X : Nat) (c : Co) (k : Nat) : Nat → Value
  | 2 => .slice c.tO c.tl.length c.tc
  | 3 => .int .i64 k
  | 4 => .slice c.tO k c.tc
  | 7 => .slice c.tO c.tl.length c.tc
  | 8 => .int .i64 k
  | 9 => .int .i64 ((k : Int) + 1)
  | 10 => .slice (hiO c.tO c.tc k 4) (c.tl.length - (k + 1)) (c.tc - (k + 1))
  | _ => .pointer (some ⟨X, 15, none⟩)
def ctQ (j : Nat) : Bool := j < 13 && j != 0 && j != 5 && j != 11
inductive ctSt (w : World) (X : Nat) (c : Co) (k : Nat) (f : Nat → Value) (L : Nat → Prop) (w' : World) : Prop
  | a (h5 : ¬ L 5) (h11 : ¬ L 11) (h13 : ¬ L 13) (hb : Below w.heap.size w w') (h0 : L 0 → Ow tlC 4 62 w' w.heap.size (f 0) [])
  | b (h0 : L 0) (h5 : L 5) (h11 : ¬ L 11) (h13 : ¬ L 13) (hb : Below w.heap.size w w') (ho : Ow tlC 4 62 w' w.heap.size (f 5) (c.tl.take k))
  | c (h0 : L 0) (h5 : L 5) (h11 : L 11) (h13 : ¬ L 13) (hb : Below w.heap.size w w') (ho : Ow tlC 4 62 w' w.heap.size (f 11) (cut c.tl k))
  | d (ha : ∀ j, j < 14 → L j) (wb : World) (v : Value) (hb : Below w.heap.size w wb) (ho : Ow tlC 4 62 wb w.heap.size v (cut c.tl k)) (hw : w' = wb.setCell ⟨X, 15, none⟩ v)
structure ctI (w : World) (t0 : Array Value) (ds : List Deferred) (X : Nat) (c : Co) (k : Nat) (f : Nat → Value) (listed : Array Bool) (a : Go.Act) (w' : World) : Prop where
  ac : a = ⟨setN t0 59 f 13, ds⟩
  q : ∀ j, ctQ j = true → Ls listed j → f j = ctVal X c k j
  st : ctSt w X c k f (Ls listed) w'
section
variable {w w' : World} {t0 : Array Value} {ds : List Deferred} {X k : Nat} {c : Co} {f : Nat → Value} {listed : Array Bool} {a : Go.Act}
theorem ctI.quiet (hS : ctS w t0 X c k) (h : ctI w t0 ds X c k f listed a w') (hl : listed.size = 14) {i : Nat} (hi : ctQ i = true) (hn : ¬ Ls listed i) : ctI w t0 ds X c k (updN f i (ctVal X c k i)) (listed.setIfInBounds i true) (a.put (some (59 + i)) (ctVal X c k i)) w' := by
  have hi' := hi
  simp only [ctQ, Bool.and_eq_true, decide_eq_true_eq, bne_iff_ne, ne_eq] at hi'
  obtain ⟨⟨⟨i1, i2⟩, i3⟩, i4⟩ := hi'
  have hls : ∀ j, Ls (listed.setIfInBounds i true) j ↔ j = i ∨ Ls listed j := fun j => Ls_set (by omega)
  have hf : ∀ j, j ≠ i → updN f i (ctVal X c k i) j = f j := fun j e => updN_other f _ e
  refine ⟨?_, fun j hj hL => ?_, ?_⟩
  · rw [h.ac]
    rw [act_put, setN_put t0 59 13 f _ i1 (by have := hS.sz; omega)]
  · by_cases e : j = i
    · subst e; exact updN_same _ _ _
    · rw [hf j e]
      exact h.q j hj (((hls j).1 hL).resolve_left e)
  · have hne : ∀ j, j ≠ i → ¬ Ls listed j → ¬ Ls (listed.setIfInBounds i true) j := fun j e hj hL => ((hls j).1 hL).elim e hj
    cases h.st with
    | a h5 h11 h13 hb h0 => exact .a (hne 5 (fun e => i3 e.symm) h5) (hne 11 (fun e => i4 e.symm) h11) (hne 13 (by omega) h13) hb (fun hL => by rw [hf 0 (fun e => i2 e.symm)]; exact h0 (((hls 0).1 hL).resolve_left (fun e => i2 e.symm)))
    | b h0 h5 h11 h13 hb ho => exact .b ((hls _).2 (.inr h0)) ((hls _).2 (.inr h5)) (hne 11 (fun e => i4 e.symm) h11) (hne 13 (by omega) h13) hb (by rw [hf 5 (fun e => i3 e.symm)]; exact ho)
    | c h0 h5 h11 h13 hb ho => exact .c ((hls _).2 (.inr h0)) ((hls _).2 (.inr h5)) ((hls _).2 (.inr h11)) (hne 13 (by omega) h13) hb (by rw [hf 11 (fun e => i4 e.symm)]; exact ho)
    | d ha wb v hb ho hw => exact absurd (ha i (by omega)) hn
theorem ctI.below (h : ctI w t0 ds X c k f listed a w') {i : Nat} (hi : i < 14) (hn : ¬ Ls listed i) : Below w.heap.size w w' := by
  cases h.st with
  | a h5 h11 h13 hb h0 => exact hb
  | b h0 h5 h11 h13 hb ho => exact hb
  | c h0 h5 h11 h13 hb ho => exact hb
  | d ha wb v hb ho hw => exact absurd (ha i hi) hn
theorem ctI.out (hS : ctS w t0 X c k) (h : ctI w t0 ds X c k f listed a w') (j : Nat) (hj : ¬ (59 ≤ j ∧ j < 59 + 13)) : a.tmps[j]?.getD undef = t0[j]?.getD undef := by
  rw [h.ac]
  rw [setN_at t0 59 f 13 (by have := hS.sz; omega), if_neg hj]
theorem ctI.inn (hS : ctS w t0 X c k) (h : ctI w t0 ds X c k f listed a w') (j : Nat) (hj : j < 13) : a.tmps[59 + j]?.getD undef = f j := by
  rw [h.ac]
  rw [setN_at t0 59 f 13 (by have := hS.sz; omega), if_pos (by omega)]
  simp
end
set_option maxRecDepth 100000 in
set_option maxHeartbeats 4000000 in
theorem ct_step {w : World} {t0 : Array Value} {ds : List Deferred} {X k : Nat} {c : Co} (hS : ctS w t0 X c k) (m : Nat) (Q : Exit → Go.Act → World → Prop) (listed : Array Bool) (a : Go.Act) (w' : World) (i : Nat) (o : Oper) (hl : listed.size = ctOps.size) (hIx : ∃ f, ctI w t0 ds X c k f listed a w') (hi : ctOps[i]? = some o) (hn : listed.getD i true = false)
    (hd : ∀ e ∈ o.after, Region.binds .any e = true → listed.getD e.on false = true) : wpOpIn Fence.wide m Tryd.prog ctOps Q i (fun a' w2 => ∃ f, ctI w t0 ds X c k f (listed.setIfInBounds i true) a' w2) a w' := by
  obtain ⟨f, hI⟩ := hIx
  have hl : listed.size = 14 := hl
  have hlt : i < 14 := (Array.getElem?_eq_some_iff.1 hi).1
  have hno : ¬ Ls listed i := fun h => by
    have := getD_false hn
    unfold Ls at h
    rw [Array.getD_eq_getD_getElem?, this] at h
    cases h
  have hb := hI.below hlt hno
  have hXo : w'.cell? ⟨X, 15, none⟩ = some (.slice c.tO c.tl.length c.tc) := (hS.bx.call hb).cell 15
  have hXf : w'.frozen? ⟨X, 15, none⟩ = false := (hS.bx.call hb).frozen 15
  have hrk := hS.rk.call hb
  have e3 := (hI.out hS 3 (by omega)).trans hS.e3
  have e10 := (hI.out hS 10 (by omega)).trans hS.e10
  have hk := hS.kn
  have hle := hS.le
  have hn10 := hS.n10
  have ev : ∀ j : Nat, a.eval (.tmp j) = a.tmps[j]?.getD undef := fun j => Array.getD_eq_getD_getElem? ..
  have hin := fun j hj => hI.inn hS j hj
  have hq : ∀ j, ctQ j = true → (∀ gr, { on := j, ground := gr } ∈ o.after → gr = Ground.data → a.tmps[59 + j]?.getD undef = ctVal X c k j) := fun j hj gr hm he => by
    subst he
    have hj13 : j < 13 := by simp only [ctQ, Bool.and_eq_true, decide_eq_true_eq] at hj; exact hj.1.1.1
    rw [hin j hj13]
    exact hI.q j hj (hd _ hm rfl)
  obtain ⟨i0, hi0, hz0, hz1, hz2⟩ := info_parts infoct
  match i, hi, hlt, hn, hno with
  | 0, hi, _, hn, hno =>
    obtain rfl := (Option.some.inj hi)
    refine opW_of_run hi rfl (v := .slice (some ⟨w'.heap.size, 0, none⟩) 0 0) (w2 := w'.alloc (.cells #[] 62)) (by simp [go_sem]) ⟨updN f 0 (.slice (some ⟨w'.heap.size, 0, none⟩) 0 0), ?_, ?_, ?_⟩
    · rw [hI.ac]
      rw [show ctOps[0].dst = some (59 + 0) from rfl, act_put, setN_put t0 59 13 f _ (by omega) (by have := hS.sz; omega)]
    · intro j hj hL
      have h0 : j ≠ 0 := fun e => by subst e; simp [ctQ] at hj
      rw [updN_other _ _ h0]
      exact hI.q j hj (((Ls_set (by omega)).1 hL).resolve_left h0)
    · have hne : ∀ j, j ≠ 0 → ¬ Ls listed j → ¬ Ls (listed.setIfInBounds 0 true) j := fun j e hj hL => ((Ls_set (by omega)).1 hL).elim e hj
      cases hI.st with
      | a h5 h11 h13 hb h0 => exact .a (hne 5 (by omega) h5) (hne 11 (by omega) h11) (hne 13 (by omega) h13) (ba hb _) (fun _ => by rw [updN_same]; exact ⟨rfl, .inr ⟨w'.heap.size, 0, #[], rfl, hb.size, heap_alloc_new w' _, Nat.le_refl _, Nat.zero_le _, rfl, rfl⟩⟩)
      | b h0 h5 h11 h13 hb ho => exact absurd h0 hno
      | c h0 h5 h11 h13 hb ho => exact absurd h0 hno
      | d ha wb v hb ho hw => exact absurd (ha 0 (by omega)) hno
  | 1, hi, _, hn, hno =>
    obtain rfl := (Option.some.inj hi)
    exact opW_of_run hi rfl (v := .pointer (some ⟨X, 15, none⟩)) (w2 := w') (by simp [go_sem, e10]) ⟨_, hI.quiet hS hl (i := 1) rfl hno⟩
  | 2, hi, _, hn, hno =>
    obtain rfl := (Option.some.inj hi)
    have q1 := hq 1 rfl _ (by simp) rfl
    simp only [ctVal] at q1
    exact opW_of_run hi rfl (v := .slice c.tO c.tl.length c.tc) (w2 := w') (by simp [go_sem, q1, hXo]) ⟨_, hI.quiet hS hl (i := 2) rfl hno⟩
  | 3, hi, _, hn, hno =>
    obtain rfl := (Option.some.inj hi)
    exact opW_of_run hi rfl (v := .int .i64 k) (w2 := w') (by simp [go_sem, e3]) ⟨_, hI.quiet hS hl (i := 3) rfl hno⟩
  | 4, hi, _, hn, hno =>
    obtain rfl := (Option.some.inj hi)
    have q1 := hq 2 rfl _ (by simp) rfl
    have q2 := hq 3 rfl _ (by simp) rfl
    simp only [ctVal] at q1 q2
    have hr := cut_lo (w := w') undct (sizct w') hrk hk rfl hle
    refine opW_of_run hi rfl (v := .slice c.tO k c.tc) (w2 := w') ?_ ⟨_, hI.quiet hS hl (i := 4) rfl hno⟩
    have p1 := (ev _).trans q1
    have p2 := (ev _).trans q2
    simp only [Nat.reduceAdd] at p1 p2
    rw [show ctOps[4] = ⟨some 63, .slice 36 (.tmp 61) none (some (.tmp 62)) none, 36, "law.go:83", #[{ on := 2, ground := .data }, { on := 3, ground := .data }], none⟩ from rfl]
    unfold execOp
    simp only [Option.map_some, Option.map_none, p1, p2, Sem.run_bind, Sem.run_pure, Result.andThen_ok, hr]
  | 5, hi, _, hn, hno =>
    obtain rfl := (Option.some.inj hi)
    have q4 := hq 4 rfl _ (by simp) rfl
    simp only [ctVal] at q4
    have hL0 : Ls listed 0 := hd ⟨0, .data⟩ (by simp) rfl
    obtain ⟨h11, h13, hO⟩ : ¬ Ls listed 11 ∧ ¬ Ls listed 13 ∧ Ow tlC 4 62 w' w.heap.size (f 0) [] := by
      cases hI.st with
      | a h5 h11 h13 hb h0 => exact ⟨h11, h13, h0 hL0⟩
      | b h0 h5 h11 h13 hb ho => exact absurd h5 hno
      | c h0 h5 h11 h13 hb ho => exact absurd h5 hno
      | d ha wb v hb ho hw => exact absurd (ha 5 (by omega)) hno
    have q0 := hin 0 (by omega)
    obtain ⟨v', w2, hrun, ho2, hg⟩ := run_app (P := Tryd.prog) (w := w') 36 36 62 i0 _ 32 Tryd.underlying36 hi0 hz0 hz1 hz2 rfl (by decide) tlC_len tlC_one hO (O := c.tO) (m := k) (c := c.tc) (ys := c.tl.take k) (by rw [List.length_take]; omega) (rk_take hrk k) (by simp; omega) (by decide) hb.size
    have hb2 : Below w.heap.size w w2 := hb.grown hg hb.size (fun g hg => (hO.lt g hg).1)
    refine opW_of_run hi rfl (v := v') (w2 := w2) ?_ ⟨updN f 5 v', ?_, ?_, ?_⟩
    · have p1 := (ev _).trans q0
      have p2 := (ev _).trans q4
      simp only [Nat.reduceAdd] at p1 p2
      rw [show ctOps[5] = ⟨some 64, .call { callee := .builtin .append, args := #[.tmp 59, .tmp 63], argTypes := #[36, 36] }, 36, "law.go:83", #[{ on := 0, ground := .data }, { on := 4, ground := .data }], none⟩ from rfl]
      unfold execOp
      simp only [resolve, invoke, builtin, Sem.run_bind, Sem.run_pure, Result.andThen_ok, List.map_toArray, List.map_cons, List.map_nil, p1, p2, hrun]
    · rw [hI.ac]
      rw [show ctOps[5].dst = some (59 + 5) from rfl, act_put, setN_put t0 59 13 f _ (by omega) (by have := hS.sz; omega)]
    · intro j hj hL
      have h0 : j ≠ 5 := fun e => by subst e; simp [ctQ] at hj
      rw [updN_other _ _ h0]
      exact hI.q j hj (((Ls_set (by omega)).1 hL).resolve_left h0)
    · have hne : ∀ j, j ≠ 5 → ¬ Ls listed j → ¬ Ls (listed.setIfInBounds 5 true) j := fun j e hj hL => ((Ls_set (by omega)).1 hL).elim e hj
      refine .b ((Ls_set (by omega)).2 (.inr hL0)) ((Ls_set (by omega)).2 (.inl rfl)) (hne 11 (by omega) h11) (hne 13 (by omega) h13) hb2 ?_
      rw [updN_same]
      simpa using ho2
  | 6, hi, _, hn, hno =>
    obtain rfl := (Option.some.inj hi)
    exact opW_of_run hi rfl (v := .pointer (some ⟨X, 15, none⟩)) (w2 := w') (by simp [go_sem, e10]) ⟨_, hI.quiet hS hl (i := 6) rfl hno⟩
  | 7, hi, _, hn, hno =>
    obtain rfl := (Option.some.inj hi)
    have q1 := hq 6 rfl _ (by simp) rfl
    simp only [ctVal] at q1
    exact opW_of_run hi rfl (v := .slice c.tO c.tl.length c.tc) (w2 := w') (by simp [go_sem, q1, hXo]) ⟨_, hI.quiet hS hl (i := 7) rfl hno⟩
  | 8, hi, _, hn, hno =>
    obtain rfl := (Option.some.inj hi)
    exact opW_of_run hi rfl (v := .int .i64 k) (w2 := w') (by simp [go_sem, e3]) ⟨_, hI.quiet hS hl (i := 8) rfl hno⟩
  | 9, hi, _, hn, hno =>
    obtain rfl := (Option.some.inj hi)
    have q1 := hq 8 rfl _ (by simp) rfl
    simp only [ctVal] at q1
    refine opW_of_run hi rfl (v := .int .i64 ((k : Int) + 1)) (w2 := w') ?_ ⟨_, hI.quiet hS hl (i := 9) rfl hno⟩
    have hw : IntKind.i64.wrap ((k : Int) + 1) = (k : Int) + 1 := by rw [IntKind.wrap_i64]; omega
    simp [go_sem, q1, hw]
  | 10, hi, _, hn, hno =>
    obtain rfl := (Option.some.inj hi)
    have q1 := hq 7 rfl _ (by simp) rfl
    have q2 := hq 9 rfl _ (by simp) rfl
    simp only [ctVal] at q1 q2
    have hr := cut_hi (w := w') (O := c.tO) (c := c.tc) undct (sizct w') hk
    refine opW_of_run hi rfl (v := .slice (hiO c.tO c.tc k 4) (c.tl.length - (k + 1)) (c.tc - (k + 1))) (w2 := w') ?_ ⟨_, hI.quiet hS hl (i := 10) rfl hno⟩
    have p1 := (ev _).trans q1
    have p2 := (ev _).trans q2
    simp only [Nat.reduceAdd] at p1 p2
    rw [show ctOps[10] = ⟨some 69, .slice 36 (.tmp 66) (some (.tmp 68)) none none, 36, "law.go:83", #[{ on := 7, ground := .data }, { on := 9, ground := .data }], none⟩ from rfl]
    unfold execOp
    simp only [Option.map_some, Option.map_none, p1, p2, Sem.run_bind, Sem.run_pure, Result.andThen_ok, hr]
  | 11, hi, _, hn, hno =>
    obtain rfl := (Option.some.inj hi)
    have q10 := hq 10 rfl _ (by simp) rfl
    simp only [ctVal] at q10
    have hL5 : Ls listed 5 := hd ⟨5, .data⟩ (by simp) rfl
    obtain ⟨hL0, h13, hO⟩ : Ls listed 0 ∧ ¬ Ls listed 13 ∧ Ow tlC 4 62 w' w.heap.size (f 5) (c.tl.take k) := by
      cases hI.st with
      | a h5 h11 h13 hb h0 => exact absurd hL5 h5
      | b h0 h5 h11 h13 hb ho => exact ⟨h0, h13, ho⟩
      | c h0 h5 h11 h13 hb ho => exact absurd h11 hno
      | d ha wb v hb ho hw => exact absurd (ha 11 (by omega)) hno
    have q5 := hin 5 (by omega)
    obtain ⟨v', w2, hrun, ho2, hg⟩ := run_app (P := Tryd.prog) (w := w') 36 36 62 i0 _ 32 Tryd.underlying36 hi0 hz0 hz1 hz2 rfl (by decide) tlC_len tlC_one hO (O := hiO c.tO c.tc k 4) (m := c.tl.length - (k + 1)) (c := c.tc - (k + 1)) (ys := c.tl.drop (k + 1)) (by rw [List.length_drop]) (rk_hi hrk hle) (by rw [List.length_take]; omega) (by decide) hb.size
    have hb2 : Below w.heap.size w w2 := hb.grown hg hb.size (fun g hg => (hO.lt g hg).1)
    refine opW_of_run hi rfl (v := v') (w2 := w2) ?_ ⟨updN f 11 v', ?_, ?_, ?_⟩
    · have p1 := (ev _).trans q5
      have p2 := (ev _).trans q10
      simp only [Nat.reduceAdd] at p1 p2
      rw [show ctOps[11] = ⟨some 70, .call { callee := .builtin .append, args := #[.tmp 64, .tmp 69], argTypes := #[36, 36] }, 36, "law.go:83", #[{ on := 5, ground := .data }, { on := 10, ground := .data }, { on := 5, ground := .chain }], none⟩ from rfl]
      unfold execOp
      simp only [resolve, invoke, builtin, Sem.run_bind, Sem.run_pure, Result.andThen_ok, List.map_toArray, List.map_cons, List.map_nil, p1, p2, hrun]
    · rw [hI.ac]
      rw [show ctOps[11].dst = some (59 + 11) from rfl, act_put, setN_put t0 59 13 f _ (by omega) (by have := hS.sz; omega)]
    · intro j hj hL
      have h0 : j ≠ 11 := fun e => by subst e; simp [ctQ] at hj
      rw [updN_other _ _ h0]
      exact hI.q j hj (((Ls_set (by omega)).1 hL).resolve_left h0)
    · have hne : ∀ j, j ≠ 11 → ¬ Ls listed j → ¬ Ls (listed.setIfInBounds 11 true) j := fun j e hj hL => ((Ls_set (by omega)).1 hL).elim e hj
      refine .c ((Ls_set (by omega)).2 (.inr hL0)) ((Ls_set (by omega)).2 (.inr hL5)) ((Ls_set (by omega)).2 (.inl rfl)) (hne 13 (by omega) h13) hb2 ?_
      rw [updN_same]
      exact ho2
  | 12, hi, _, hn, hno =>
    obtain rfl := (Option.some.inj hi)
    exact opW_of_run hi rfl (v := .pointer (some ⟨X, 15, none⟩)) (w2 := w') (by simp [go_sem, e10]) ⟨_, hI.quiet hS hl (i := 12) rfl hno⟩
  | 13, hi, _, hn, hno =>
    obtain rfl := (Option.some.inj hi)
    have hall : ∀ j, j < 12 → Ls listed j := fun j hj => by
      refine hd ⟨j, .phase⟩ ?_ rfl
      have : j = 0 ∨ j = 1 ∨ j = 2 ∨ j = 3 ∨ j = 4 ∨ j = 5 ∨ j = 6 ∨ j = 7 ∨ j = 8 ∨ j = 9 ∨ j = 10 ∨ j = 11 := by omega
      rcases this with rfl | rfl | rfl | rfl | rfl | rfl | rfl | rfl | rfl | rfl | rfl | rfl <;> simp
    have h12 : Ls listed 12 := hd ⟨12, .data⟩ (by simp) rfl
    have q12 := hq 12 rfl _ (by simp) rfl
    simp only [ctVal] at q12
    have q11 := hin 11 (by omega)
    have hO : Ow tlC 4 62 w' w.heap.size (f 11) (cut c.tl k) := by
      cases hI.st with
      | a h5 h11 h13 hb h0 => exact absurd (hall 5 (by omega)) h5
      | b h0 h5 h11 h13 hb ho => exact absurd (hall 11 (by omega)) h11
      | c h0 h5 h11 h13 hb ho => exact ho
      | d ha wb v hb ho hw => exact absurd (ha 13 (by omega)) hno
    obtain ⟨Oc, cap, ef, -, -, -⟩ := hO.form tlC_len
    refine opW_of_skip hi rfl (w2 := w'.setCell ⟨X, 15, none⟩ (f 11)) ?_ ⟨f, hI.ac, fun j hj hL => ?_, .d (fun j hj => ?_) w' (f 11) hb hO rfl⟩
    · rw [ef] at q11 ⊢
      simp only [Nat.reduceAdd] at q11 q12
      simp [go_sem, q11, q12, hXo, hXf]
    · have h0 : j ≠ 13 := fun e => by subst e; simp [ctQ] at hj
      exact hI.q j hj (((Ls_set (by omega)).1 hL).resolve_left h0)
    · by_cases e : j = 13
      · exact (Ls_set (by omega)).2 (.inl e)
      · by_cases e' : j = 12
        · exact (Ls_set (by omega)).2 (.inr (e' ▸ h12))
        · exact (Ls_set (by omega)).2 (.inr (hall j (by omega)))
theorem Ls_none14 {i : Nat} : ¬ Ls (Array.replicate 14 false) i := by
  unfold Ls
  rw [Array.getD_eq_getD_getElem?]
  intro h
  by_cases hi : i < 14
  · rw [Array.getElem?_eq_getElem (by simpa using hi)] at h; simp at h
  · rw [Array.getElem?_eq_none (by simp; omega)] at h; cases h
theorem ct_region {w : World} {t0 : Array Value} {ds : List Deferred} {X k : Nat} {c : Co} (hS : ctS w t0 X c k) (hu : ∀ j, j < 13 → t0[59 + j]? = some undef) (m : Nat) (Q : Exit → Go.Act → World → Prop)
    (hQ : ∀ (f : Nat → Value) (w' : World) (O : Option Addr) (cap : Nat), Keeps (fun y => y = X) w w' → Bk w' X 44 (coC { c with tO := O, tl := cut c.tl k, tc := cap }).toArray → RK tlC 4 w' O (cut c.tl k) → (cut c.tl k).length ≤ cap → cap ≤ maxLen → (∀ b off, O = some ⟨b, off, none⟩ → w.heap.size ≤ b) → Q .normal ⟨setN t0 59 f 13, ds⟩ w') :
    (Code.region 7 ctOps true).wpIn Fence.wide m Tryd.prog Q ⟨t0, ds⟩ w := by
  refine wpIn_region_inv (Inv := fun listed a w' => ∃ f, ctI w t0 ds X c k f listed a w') (by kernel_rfl) (by kernel_rfl) (ct_step hS m Q) (fun listed a w' hall hIx => ?_) ⟨fun _ => undef, ?_, fun j hj hL => absurd hL Ls_none14, .a Ls_none14 Ls_none14 Ls_none14 (bd (Below.refl _ _)) (fun hL => absurd hL Ls_none14)⟩
  · obtain ⟨f, hI⟩ := hIx
    cases hI.st with
    | a h5 h11 h13 hb h0 => exact absurd (hall 5 (by decide)) h5
    | b h0 h5 h11 h13 hb ho => exact absurd (hall 11 (by decide)) h11
    | c h0 h5 h11 h13 hb ho => exact absurd (hall 13 (by decide)) h13
    | d ha wb v hb ho hw =>
      rw [hI.ac]
      obtain ⟨O, cap, rfl, l1, l2, rk⟩ := ho.form tlC_len
      have hk : Keeps (fun y => y = X) wb (wb.setCell ⟨X, 15, none⟩ (.slice O (cut c.tl k).length cap)) := Keeps.setCell (F := fun y => y = X) (p := ⟨X, 15, none⟩) rfl _
      have hX := (hS.bx.call hb).set 15 (.slice O (cut c.tl k).length cap)
      rw [← hw] at hk hX
      refine hQ f w' O cap (((Keeps.of_below (F := fun _ => False) hb).mono (fun _ h => h.elim)).after hk) ?_ ?_ l1 l2 (fun b off e => by subst e; exact (ho.lt b (by unfold Value.ownBlock; rfl)).1)
      · exact hX
      · intro h0
        obtain ⟨b, off, e, hc⟩ := rk h0
        subst e
        have hlt := ho.lt b (by unfold Value.ownBlock; rfl)
        refine ⟨b, off, rfl, fun i x hx j u hu => ?_⟩
        have := hc i x hx j u hu
        refine (World.cell?_of_block (a := ⟨b, off + i * 4 + j, none⟩) (hk.block b hlt.2 (fun e => ?_))).trans this
        have := hS.bx.lt
        have e' : b = X := e
        omega
  · congr 1
    apply Array.ext_getElem?
    intro i
    rw [setN_at t0 59 _ 13 (by have := hS.sz; omega)]
    by_cases h : 59 ≤ i ∧ i < 59 + 13
    · rw [if_pos h]
      have := hu (i - 59) (by omega)
      rw [show 59 + (i - 59) = i by omega] at this
      exact this
    · rw [if_neg h]

/-! ### The row of Cache -/
abbrev ckOps : Array Oper := #[{ dst := some 82, op := Go.Op.buildSlice 37 0 #[], type := 37, pos := "law.go:85", after := #[], guard := none }, { dst := some 83, op := Go.Op.fieldAddr 44 (Go.Operand.tmp 10) 7, type := 0, pos := "law.go:85", after := #[], guard := none }, { dst := some 84, op := Go.Op.load 37 (Go.Operand.tmp 83), type := 37, pos := "law.go:85", after := #[{ on := 1, ground := Go.Ground.data }], guard := none }, { dst := some 85, op := Go.Op.move (Go.Operand.tmp 3), type := 3, pos := "law.go:85", after := #[], guard := none }, { dst := some 86, op := Go.Op.slice 37 (Go.Operand.tmp 84) none (some (Go.Operand.tmp 85)) none, type := 37, pos := "law.go:85", after := #[{ on := 2, ground := Go.Ground.data }, { on := 3, ground := Go.Ground.data }], guard := none }, { dst := some 87, op := Go.Op.call { callee := Go.Callee.builtin Go.Builtin.append, args := #[Go.Operand.tmp 82, Go.Operand.tmp 86], argTypes := #[37, 37] }, type := 37, pos := "law.go:85", after := #[{ on := 0, ground := Go.Ground.data }, { on := 4, ground := Go.Ground.data }], guard := none }, { dst := some 88, op := Go.Op.fieldAddr 44 (Go.Operand.tmp 10) 7, type := 0, pos := "law.go:85", after := #[], guard := none }, { dst := some 89, op := Go.Op.load 37 (Go.Operand.tmp 88), type := 37, pos := "law.go:85", after := #[{ on := 6, ground := Go.Ground.data }], guard := none }, { dst := some 90, op := Go.Op.move (Go.Operand.tmp 3), type := 3, pos := "law.go:85", after := #[], guard := none }, { dst := some 91, op := Go.Op.binOp Go.BinOp.add 3 (Go.Operand.tmp 90) (Go.Operand.const (Go.Value.int Go.IntKind.i64 1)) 3, type := 3, pos := "law.go:85", after := #[{ on := 8, ground := Go.Ground.data }], guard := none }, { dst := some 92, op := Go.Op.slice 37 (Go.Operand.tmp 89) (some (Go.Operand.tmp 91)) none none, type := 37, pos := "law.go:85", after := #[{ on := 7, ground := Go.Ground.data }, { on := 9, ground := Go.Ground.data }], guard := none }, { dst := some 93, op := Go.Op.call { callee := Go.Callee.builtin Go.Builtin.append, args := #[Go.Operand.tmp 87, Go.Operand.tmp 92], argTypes := #[37, 37] }, type := 37, pos := "law.go:85", after := #[{ on := 5, ground := Go.Ground.data }, { on := 10, ground := Go.Ground.data }, { on := 5, ground := Go.Ground.chain }], guard := none }, { dst := some 94, op := Go.Op.fieldAddr 44 (Go.Operand.tmp 10) 7, type := 0, pos := "law.go:85", after := #[{ on := 0, ground := Go.Ground.phase }, { on := 1, ground := Go.Ground.phase }, { on := 2, ground := Go.Ground.phase }, { on := 3, ground := Go.Ground.phase }, { on := 4, ground := Go.Ground.phase }, { on := 5, ground := Go.Ground.phase }, { on := 6, ground := Go.Ground.phase }, { on := 7, ground := Go.Ground.phase }, { on := 8, ground := Go.Ground.phase }, { on := 9, ground := Go.Ground.phase }, { on := 10, ground := Go.Ground.phase }, { on := 11, ground := Go.Ground.phase }], guard := none }, { dst := none, op := Go.Op.store 37 (Go.Operand.tmp 94) (Go.Operand.tmp 93), type := 0, pos := "law.go:85", after := #[{ on := 12, ground := Go.Ground.data }, { on := 11, ground := Go.Ground.data }, { on := 11, ground := Go.Ground.chain }, { on := 0, ground := Go.Ground.phase }, { on := 1, ground := Go.Ground.phase }, { on := 2, ground := Go.Ground.phase }, { on := 3, ground := Go.Ground.phase }, { on := 4, ground := Go.Ground.phase }, { on := 5, ground := Go.Ground.phase }, { on := 6, ground := Go.Ground.phase }, { on := 7, ground := Go.Ground.phase }, { on := 8, ground := Go.Ground.phase }, { on := 9, ground := Go.Ground.phase }, { on := 10, ground := Go.Ground.phase }, { on := 11, ground := Go.Ground.phase }], guard := none }]
theorem infock : (Tryd.prog.info? 106).map (fun i => (i.zero, i.size, i.bytes)) = some (some (.agg #[.int .i64 0, .int .i8 0, .int .u64 0, .int .i64 0]), 4, 32) := by kernel_rfl
theorem undck : Tryd.prog.underlying 37 = some (.slice (Tryd.prog.elem 37)) := by kernel_rfl
theorem sizck (w : World) : (sizeOf (Tryd.prog.elem 37)).run Tryd.prog w = .ok 4 w := by kernel_rfl
structure ckS (w : World) (t0 : Array Value) (X : Nat) (c : Co) (k : Nat) : Prop where
  sz : t0.size = 128
  e3 : t0[3]?.getD undef = .int .i64 k
  e10 : t0[10]?.getD undef = .pointer (some ⟨X, 0, none⟩)
  bx : Bk w X 44 (coC c).toArray
  rk : RK spC4 4 w c.kO c.kl
  le : c.kl.length ≤ c.kc
  kn : k < c.kl.length
  n10 : c.kl.length ≤ 1000
def ckVal (X : Nat) (c : Co) (k : Nat) : Nat → Value
  | 2 => .slice c.kO c.kl.length c.kc
  | 3 => .int .i64 k
  | 4 => .slice c.kO k c.kc
  | 7 => .slice c.kO c.kl.length c.kc
  | 8 => .int .i64 k
  | 9 => .int .i64 ((k : Int) + 1)
  | 10 => .slice (hiO c.kO c.kc k 4) (c.kl.length - (k + 1)) (c.kc - (k + 1))
  | _ => .pointer (some ⟨X, 16, none⟩)
def ckQ (j : Nat) : Bool := j < 13 && j != 0 && j != 5 && j != 11
inductive ckSt (w : World) (X : Nat) (c : Co) (k : Nat) (f : Nat → Value) (L : Nat → Prop) (w' : World) : Prop
  | a (h5 : ¬ L 5) (h11 : ¬ L 11) (h13 : ¬ L 13) (hb : Below w.heap.size w w') (h0 : L 0 → Ow spC4 4 106 w' w.heap.size (f 0) [])
  | b (h0 : L 0) (h5 : L 5) (h11 : ¬ L 11) (h13 : ¬ L 13) (hb : Below w.heap.size w w') (ho : Ow spC4 4 106 w' w.heap.size (f 5) (c.kl.take k))
  | c (h0 : L 0) (h5 : L 5) (h11 : L 11) (h13 : ¬ L 13) (hb : Below w.heap.size w w') (ho : Ow spC4 4 106 w' w.heap.size (f 11) (cut c.kl k))
  | d (ha : ∀ j, j < 14 → L j) (wb : World) (v : Value) (hb : Below w.heap.size w wb) (ho : Ow spC4 4 106 wb w.heap.size v (cut c.kl k)) (hw : w' = wb.setCell ⟨X, 16, none⟩ v)
structure ckI (w : World) (t0 : Array Value) (ds : List Deferred) (X : Nat) (c : Co) (k : Nat) (f : Nat → Value) (listed : Array Bool) (a : Go.Act) (w' : World) : Prop where
  ac : a = ⟨setN t0 82 f 13, ds⟩
  q : ∀ j, ckQ j = true → Ls listed j → f j = ckVal X c k j
  st : ckSt w X c k f (Ls listed) w'
section
variable {w w' : World} {t0 : Array Value} {ds : List Deferred} {X k : Nat} {c : Co} {f : Nat → Value} {listed : Array Bool} {a : Go.Act}
theorem ckI.quiet (hS : ckS w t0 X c k) (h : ckI w t0 ds X c k f listed a w') (hl : listed.size = 14) {i : Nat} (hi : ckQ i = true) (hn : ¬ Ls listed i) : ckI w t0 ds X c k (updN f i (ckVal X c k i)) (listed.setIfInBounds i true) (a.put (some (82 + i)) (ckVal X c k i)) w' := by
  have hi' := hi
  simp only [ckQ, Bool.and_eq_true, decide_eq_true_eq, bne_iff_ne, ne_eq] at hi'
  obtain ⟨⟨⟨i1, i2⟩, i3⟩, i4⟩ := hi'
  have hls : ∀ j, Ls (listed.setIfInBounds i true) j ↔ j = i ∨ Ls listed j := fun j => Ls_set (by omega)
  have hf : ∀ j, j ≠ i → updN f i (ckVal X c k i) j = f j := fun j e => updN_other f _ e
  refine ⟨?_, fun j hj hL => ?_, ?_⟩
  · rw [h.ac]
    rw [act_put, setN_put t0 82 13 f _ i1 (by have := hS.sz; omega)]
  · by_cases e : j = i
    · subst e; exact updN_same _ _ _
    · rw [hf j e]
      exact h.q j hj (((hls j).1 hL).resolve_left e)
  · have hne : ∀ j, j ≠ i → ¬ Ls listed j → ¬ Ls (listed.setIfInBounds i true) j := fun j e hj hL => ((hls j).1 hL).elim e hj
    cases h.st with
    | a h5 h11 h13 hb h0 => exact .a (hne 5 (fun e => i3 e.symm) h5) (hne 11 (fun e => i4 e.symm) h11) (hne 13 (by omega) h13) hb (fun hL => by rw [hf 0 (fun e => i2 e.symm)]; exact h0 (((hls 0).1 hL).resolve_left (fun e => i2 e.symm)))
    | b h0 h5 h11 h13 hb ho => exact .b ((hls _).2 (.inr h0)) ((hls _).2 (.inr h5)) (hne 11 (fun e => i4 e.symm) h11) (hne 13 (by omega) h13) hb (by rw [hf 5 (fun e => i3 e.symm)]; exact ho)
    | c h0 h5 h11 h13 hb ho => exact .c ((hls _).2 (.inr h0)) ((hls _).2 (.inr h5)) ((hls _).2 (.inr h11)) (hne 13 (by omega) h13) hb (by rw [hf 11 (fun e => i4 e.symm)]; exact ho)
    | d ha wb v hb ho hw => exact absurd (ha i (by omega)) hn
theorem ckI.below (h : ckI w t0 ds X c k f listed a w') {i : Nat} (hi : i < 14) (hn : ¬ Ls listed i) : Below w.heap.size w w' := by
  cases h.st with
  | a h5 h11 h13 hb h0 => exact hb
  | b h0 h5 h11 h13 hb ho => exact hb
  | c h0 h5 h11 h13 hb ho => exact hb
  | d ha wb v hb ho hw => exact absurd (ha i hi) hn
theorem ckI.out (hS : ckS w t0 X c k) (h : ckI w t0 ds X c k f listed a w') (j : Nat) (hj : ¬ (82 ≤ j ∧ j < 82 + 13)) : a.tmps[j]?.getD undef = t0[j]?.getD undef := by
  rw [h.ac]
  rw [setN_at t0 82 f 13 (by have := hS.sz; omega), if_neg hj]
theorem ckI.inn (hS : ckS w t0 X c k) (h : ckI w t0 ds X c k f listed a w') (j : Nat) (hj : j < 13) : a.tmps[82 + j]?.getD undef = f j := by
  rw [h.ac]
  rw [setN_at t0 82 f 13 (by have := hS.sz; omega), if_pos (by omega)]
  simp
end
set_option maxRecDepth 100000 in
set_option maxHeartbeats 4000000 in
theorem ck_step {w : World} {t0 : Array Value} {ds : List Deferred} {X k : Nat} {c : Co} (hS : ckS w t0 X c k) (m : Nat) (Q : Exit → Go.Act → World → Prop) (listed : Array Bool) (a : Go.Act) (w' : World) (i : Nat) (o : Oper) (hl : listed.size = ckOps.size) (hIx : ∃ f, ckI w t0 ds X c k f listed a w') (hi : ckOps[i]? = some o) (hn : listed.getD i true = false)
    (hd : ∀ e ∈ o.after, Region.binds .any e = true → listed.getD e.on false = true) : wpOpIn Fence.wide m Tryd.prog ckOps Q i (fun a' w2 => ∃ f, ckI w t0 ds X c k f (listed.setIfInBounds i true) a' w2) a w' := by
  obtain ⟨f, hI⟩ := hIx
  have hl : listed.size = 14 := hl
  have hlt : i < 14 := (Array.getElem?_eq_some_iff.1 hi).1
  have hno : ¬ Ls listed i := fun h => by
    have := getD_false hn
    unfold Ls at h
    rw [Array.getD_eq_getD_getElem?, this] at h
    cases h
  have hb := hI.below hlt hno
  have hXo : w'.cell? ⟨X, 16, none⟩ = some (.slice c.kO c.kl.length c.kc) := (hS.bx.call hb).cell 16
  have hXf : w'.frozen? ⟨X, 16, none⟩ = false := (hS.bx.call hb).frozen 16
  have hrk := hS.rk.call hb
  have e3 := (hI.out hS 3 (by omega)).trans hS.e3
  have e10 := (hI.out hS 10 (by omega)).trans hS.e10
  have hk := hS.kn
  have hle := hS.le
  have hn10 := hS.n10
  have ev : ∀ j : Nat, a.eval (.tmp j) = a.tmps[j]?.getD undef := fun j => Array.getD_eq_getD_getElem? ..
  have hin := fun j hj => hI.inn hS j hj
  have hq : ∀ j, ckQ j = true → (∀ gr, { on := j, ground := gr } ∈ o.after → gr = Ground.data → a.tmps[82 + j]?.getD undef = ckVal X c k j) := fun j hj gr hm he => by
    subst he
    have hj13 : j < 13 := by simp only [ckQ, Bool.and_eq_true, decide_eq_true_eq] at hj; exact hj.1.1.1
    rw [hin j hj13]
    exact hI.q j hj (hd _ hm rfl)
  obtain ⟨i0, hi0, hz0, hz1, hz2⟩ := info_parts infock
  match i, hi, hlt, hn, hno with
  | 0, hi, _, hn, hno =>
    obtain rfl := (Option.some.inj hi)
    refine opW_of_run hi rfl (v := .slice (some ⟨w'.heap.size, 0, none⟩) 0 0) (w2 := w'.alloc (.cells #[] 106)) (by simp [go_sem]) ⟨updN f 0 (.slice (some ⟨w'.heap.size, 0, none⟩) 0 0), ?_, ?_, ?_⟩
    · rw [hI.ac]
      rw [show ckOps[0].dst = some (82 + 0) from rfl, act_put, setN_put t0 82 13 f _ (by omega) (by have := hS.sz; omega)]
    · intro j hj hL
      have h0 : j ≠ 0 := fun e => by subst e; simp [ckQ] at hj
      rw [updN_other _ _ h0]
      exact hI.q j hj (((Ls_set (by omega)).1 hL).resolve_left h0)
    · have hne : ∀ j, j ≠ 0 → ¬ Ls listed j → ¬ Ls (listed.setIfInBounds 0 true) j := fun j e hj hL => ((Ls_set (by omega)).1 hL).elim e hj
      cases hI.st with
      | a h5 h11 h13 hb h0 => exact .a (hne 5 (by omega) h5) (hne 11 (by omega) h11) (hne 13 (by omega) h13) (ba hb _) (fun _ => by rw [updN_same]; exact ⟨rfl, .inr ⟨w'.heap.size, 0, #[], rfl, hb.size, heap_alloc_new w' _, Nat.le_refl _, Nat.zero_le _, rfl, rfl⟩⟩)
      | b h0 h5 h11 h13 hb ho => exact absurd h0 hno
      | c h0 h5 h11 h13 hb ho => exact absurd h0 hno
      | d ha wb v hb ho hw => exact absurd (ha 0 (by omega)) hno
  | 1, hi, _, hn, hno =>
    obtain rfl := (Option.some.inj hi)
    exact opW_of_run hi rfl (v := .pointer (some ⟨X, 16, none⟩)) (w2 := w') (by simp [go_sem, e10]) ⟨_, hI.quiet hS hl (i := 1) rfl hno⟩
  | 2, hi, _, hn, hno =>
    obtain rfl := (Option.some.inj hi)
    have q1 := hq 1 rfl _ (by simp) rfl
    simp only [ckVal] at q1
    exact opW_of_run hi rfl (v := .slice c.kO c.kl.length c.kc) (w2 := w') (by simp [go_sem, q1, hXo]) ⟨_, hI.quiet hS hl (i := 2) rfl hno⟩
  | 3, hi, _, hn, hno =>
    obtain rfl := (Option.some.inj hi)
    exact opW_of_run hi rfl (v := .int .i64 k) (w2 := w') (by simp [go_sem, e3]) ⟨_, hI.quiet hS hl (i := 3) rfl hno⟩
  | 4, hi, _, hn, hno =>
    obtain rfl := (Option.some.inj hi)
    have q1 := hq 2 rfl _ (by simp) rfl
    have q2 := hq 3 rfl _ (by simp) rfl
    simp only [ckVal] at q1 q2
    have hr := cut_lo (w := w') undck (sizck w') hrk hk rfl hle
    refine opW_of_run hi rfl (v := .slice c.kO k c.kc) (w2 := w') ?_ ⟨_, hI.quiet hS hl (i := 4) rfl hno⟩
    have p1 := (ev _).trans q1
    have p2 := (ev _).trans q2
    simp only [Nat.reduceAdd] at p1 p2
    rw [show ckOps[4] = ⟨some 86, .slice 37 (.tmp 84) none (some (.tmp 85)) none, 37, "law.go:85", #[{ on := 2, ground := .data }, { on := 3, ground := .data }], none⟩ from rfl]
    unfold execOp
    simp only [Option.map_some, Option.map_none, p1, p2, Sem.run_bind, Sem.run_pure, Result.andThen_ok, hr]
  | 5, hi, _, hn, hno =>
    obtain rfl := (Option.some.inj hi)
    have q4 := hq 4 rfl _ (by simp) rfl
    simp only [ckVal] at q4
    have hL0 : Ls listed 0 := hd ⟨0, .data⟩ (by simp) rfl
    obtain ⟨h11, h13, hO⟩ : ¬ Ls listed 11 ∧ ¬ Ls listed 13 ∧ Ow spC4 4 106 w' w.heap.size (f 0) [] := by
      cases hI.st with
      | a h5 h11 h13 hb h0 => exact ⟨h11, h13, h0 hL0⟩
      | b h0 h5 h11 h13 hb ho => exact absurd h5 hno
      | c h0 h5 h11 h13 hb ho => exact absurd h5 hno
      | d ha wb v hb ho hw => exact absurd (ha 5 (by omega)) hno
    have q0 := hin 0 (by omega)
    obtain ⟨v', w2, hrun, ho2, hg⟩ := run_app (P := Tryd.prog) (w := w') 37 37 106 i0 _ 32 Tryd.underlying37 hi0 hz0 hz1 hz2 rfl (by decide) spC4_len spC4_one hO (O := c.kO) (m := k) (c := c.kc) (ys := c.kl.take k) (by rw [List.length_take]; omega) (rk_take hrk k) (by simp; omega) (by decide) hb.size
    have hb2 : Below w.heap.size w w2 := hb.grown hg hb.size (fun g hg => (hO.lt g hg).1)
    refine opW_of_run hi rfl (v := v') (w2 := w2) ?_ ⟨updN f 5 v', ?_, ?_, ?_⟩
    · have p1 := (ev _).trans q0
      have p2 := (ev _).trans q4
      simp only [Nat.reduceAdd] at p1 p2
      rw [show ckOps[5] = ⟨some 87, .call { callee := .builtin .append, args := #[.tmp 82, .tmp 86], argTypes := #[37, 37] }, 37, "law.go:85", #[{ on := 0, ground := .data }, { on := 4, ground := .data }], none⟩ from rfl]
      unfold execOp
      simp only [resolve, invoke, builtin, Sem.run_bind, Sem.run_pure, Result.andThen_ok, List.map_toArray, List.map_cons, List.map_nil, p1, p2, hrun]
    · rw [hI.ac]
      rw [show ckOps[5].dst = some (82 + 5) from rfl, act_put, setN_put t0 82 13 f _ (by omega) (by have := hS.sz; omega)]
    · intro j hj hL
      have h0 : j ≠ 5 := fun e => by subst e; simp [ckQ] at hj
      rw [updN_other _ _ h0]
      exact hI.q j hj (((Ls_set (by omega)).1 hL).resolve_left h0)
    · have hne : ∀ j, j ≠ 5 → ¬ Ls listed j → ¬ Ls (listed.setIfInBounds 5 true) j := fun j e hj hL => ((Ls_set (by omega)).1 hL).elim e hj
      refine .b ((Ls_set (by omega)).2 (.inr hL0)) ((Ls_set (by omega)).2 (.inl rfl)) (hne 11 (by omega) h11) (hne 13 (by omega) h13) hb2 ?_
      rw [updN_same]
      simpa using ho2
  | 6, hi, _, hn, hno =>
    obtain rfl := (Option.some.inj hi)
    exact opW_of_run hi rfl (v := .pointer (some ⟨X, 16, none⟩)) (w2 := w') (by simp [go_sem, e10]) ⟨_, hI.quiet hS hl (i := 6) rfl hno⟩
  | 7, hi, _, hn, hno =>
    obtain rfl := (Option.some.inj hi)
    have q1 := hq 6 rfl _ (by simp) rfl
    simp only [ckVal] at q1
    exact opW_of_run hi rfl (v := .slice c.kO c.kl.length c.kc) (w2 := w') (by simp [go_sem, q1, hXo]) ⟨_, hI.quiet hS hl (i := 7) rfl hno⟩
  | 8, hi, _, hn, hno =>
    obtain rfl := (Option.some.inj hi)
    exact opW_of_run hi rfl (v := .int .i64 k) (w2 := w') (by simp [go_sem, e3]) ⟨_, hI.quiet hS hl (i := 8) rfl hno⟩
  | 9, hi, _, hn, hno =>
    obtain rfl := (Option.some.inj hi)
    have q1 := hq 8 rfl _ (by simp) rfl
    simp only [ckVal] at q1
    refine opW_of_run hi rfl (v := .int .i64 ((k : Int) + 1)) (w2 := w') ?_ ⟨_, hI.quiet hS hl (i := 9) rfl hno⟩
    have hw : IntKind.i64.wrap ((k : Int) + 1) = (k : Int) + 1 := by rw [IntKind.wrap_i64]; omega
    simp [go_sem, q1, hw]
  | 10, hi, _, hn, hno =>
    obtain rfl := (Option.some.inj hi)
    have q1 := hq 7 rfl _ (by simp) rfl
    have q2 := hq 9 rfl _ (by simp) rfl
    simp only [ckVal] at q1 q2
    have hr := cut_hi (w := w') (O := c.kO) (c := c.kc) undck (sizck w') hk
    refine opW_of_run hi rfl (v := .slice (hiO c.kO c.kc k 4) (c.kl.length - (k + 1)) (c.kc - (k + 1))) (w2 := w') ?_ ⟨_, hI.quiet hS hl (i := 10) rfl hno⟩
    have p1 := (ev _).trans q1
    have p2 := (ev _).trans q2
    simp only [Nat.reduceAdd] at p1 p2
    rw [show ckOps[10] = ⟨some 92, .slice 37 (.tmp 89) (some (.tmp 91)) none none, 37, "law.go:85", #[{ on := 7, ground := .data }, { on := 9, ground := .data }], none⟩ from rfl]
    unfold execOp
    simp only [Option.map_some, Option.map_none, p1, p2, Sem.run_bind, Sem.run_pure, Result.andThen_ok, hr]
  | 11, hi, _, hn, hno =>
    obtain rfl := (Option.some.inj hi)
    have q10 := hq 10 rfl _ (by simp) rfl
    simp only [ckVal] at q10
    have hL5 : Ls listed 5 := hd ⟨5, .data⟩ (by simp) rfl
    obtain ⟨hL0, h13, hO⟩ : Ls listed 0 ∧ ¬ Ls listed 13 ∧ Ow spC4 4 106 w' w.heap.size (f 5) (c.kl.take k) := by
      cases hI.st with
      | a h5 h11 h13 hb h0 => exact absurd hL5 h5
      | b h0 h5 h11 h13 hb ho => exact ⟨h0, h13, ho⟩
      | c h0 h5 h11 h13 hb ho => exact absurd h11 hno
      | d ha wb v hb ho hw => exact absurd (ha 11 (by omega)) hno
    have q5 := hin 5 (by omega)
    obtain ⟨v', w2, hrun, ho2, hg⟩ := run_app (P := Tryd.prog) (w := w') 37 37 106 i0 _ 32 Tryd.underlying37 hi0 hz0 hz1 hz2 rfl (by decide) spC4_len spC4_one hO (O := hiO c.kO c.kc k 4) (m := c.kl.length - (k + 1)) (c := c.kc - (k + 1)) (ys := c.kl.drop (k + 1)) (by rw [List.length_drop]) (rk_hi hrk hle) (by rw [List.length_take]; omega) (by decide) hb.size
    have hb2 : Below w.heap.size w w2 := hb.grown hg hb.size (fun g hg => (hO.lt g hg).1)
    refine opW_of_run hi rfl (v := v') (w2 := w2) ?_ ⟨updN f 11 v', ?_, ?_, ?_⟩
    · have p1 := (ev _).trans q5
      have p2 := (ev _).trans q10
      simp only [Nat.reduceAdd] at p1 p2
      rw [show ckOps[11] = ⟨some 93, .call { callee := .builtin .append, args := #[.tmp 87, .tmp 92], argTypes := #[37, 37] }, 37, "law.go:85", #[{ on := 5, ground := .data }, { on := 10, ground := .data }, { on := 5, ground := .chain }], none⟩ from rfl]
      unfold execOp
      simp only [resolve, invoke, builtin, Sem.run_bind, Sem.run_pure, Result.andThen_ok, List.map_toArray, List.map_cons, List.map_nil, p1, p2, hrun]
    · rw [hI.ac]
      rw [show ckOps[11].dst = some (82 + 11) from rfl, act_put, setN_put t0 82 13 f _ (by omega) (by have := hS.sz; omega)]
    · intro j hj hL
      have h0 : j ≠ 11 := fun e => by subst e; simp [ckQ] at hj
      rw [updN_other _ _ h0]
      exact hI.q j hj (((Ls_set (by omega)).1 hL).resolve_left h0)
    · have hne : ∀ j, j ≠ 11 → ¬ Ls listed j → ¬ Ls (listed.setIfInBounds 11 true) j := fun j e hj hL => ((Ls_set (by omega)).1 hL).elim e hj
      refine .c ((Ls_set (by omega)).2 (.inr hL0)) ((Ls_set (by omega)).2 (.inr hL5)) ((Ls_set (by omega)).2 (.inl rfl)) (hne 13 (by omega) h13) hb2 ?_
      rw [updN_same]
      exact ho2
  | 12, hi, _, hn, hno =>
    obtain rfl := (Option.some.inj hi)
    exact opW_of_run hi rfl (v := .pointer (some ⟨X, 16, none⟩)) (w2 := w') (by simp [go_sem, e10]) ⟨_, hI.quiet hS hl (i := 12) rfl hno⟩
  | 13, hi, _, hn, hno =>
    obtain rfl := (Option.some.inj hi)
    have hall : ∀ j, j < 12 → Ls listed j := fun j hj => by
      refine hd ⟨j, .phase⟩ ?_ rfl
      have : j = 0 ∨ j = 1 ∨ j = 2 ∨ j = 3 ∨ j = 4 ∨ j = 5 ∨ j = 6 ∨ j = 7 ∨ j = 8 ∨ j = 9 ∨ j = 10 ∨ j = 11 := by omega
      rcases this with rfl | rfl | rfl | rfl | rfl | rfl | rfl | rfl | rfl | rfl | rfl | rfl <;> simp
    have h12 : Ls listed 12 := hd ⟨12, .data⟩ (by simp) rfl
    have q12 := hq 12 rfl _ (by simp) rfl
    simp only [ckVal] at q12
    have q11 := hin 11 (by omega)
    have hO : Ow spC4 4 106 w' w.heap.size (f 11) (cut c.kl k) := by
      cases hI.st with
      | a h5 h11 h13 hb h0 => exact absurd (hall 5 (by omega)) h5
      | b h0 h5 h11 h13 hb ho => exact absurd (hall 11 (by omega)) h11
      | c h0 h5 h11 h13 hb ho => exact ho
      | d ha wb v hb ho hw => exact absurd (ha 13 (by omega)) hno
    obtain ⟨Oc, cap, ef, -, -, -⟩ := hO.form spC4_len
    refine opW_of_skip hi rfl (w2 := w'.setCell ⟨X, 16, none⟩ (f 11)) ?_ ⟨f, hI.ac, fun j hj hL => ?_, .d (fun j hj => ?_) w' (f 11) hb hO rfl⟩
    · rw [ef] at q11 ⊢
      simp only [Nat.reduceAdd] at q11 q12
      simp [go_sem, q11, q12, hXo, hXf]
    · have h0 : j ≠ 13 := fun e => by subst e; simp [ckQ] at hj
      exact hI.q j hj (((Ls_set (by omega)).1 hL).resolve_left h0)
    · by_cases e : j = 13
      · exact (Ls_set (by omega)).2 (.inl e)
      · by_cases e' : j = 12
        · exact (Ls_set (by omega)).2 (.inr (e' ▸ h12))
        · exact (Ls_set (by omega)).2 (.inr (hall j (by omega)))
theorem ck_region {w : World} {t0 : Array Value} {ds : List Deferred} {X k : Nat} {c : Co} (hS : ckS w t0 X c k) (hu : ∀ j, j < 13 → t0[82 + j]? = some undef) (m : Nat) (Q : Exit → Go.Act → World → Prop)
    (hQ : ∀ (f : Nat → Value) (w' : World) (O : Option Addr) (cap : Nat), Keeps (fun y => y = X) w w' → Bk w' X 44 (coC { c with kO := O, kl := cut c.kl k, kc := cap }).toArray → RK spC4 4 w' O (cut c.kl k) → (cut c.kl k).length ≤ cap → cap ≤ maxLen → (∀ b off, O = some ⟨b, off, none⟩ → w.heap.size ≤ b) → Q .normal ⟨setN t0 82 f 13, ds⟩ w') :
    (Code.region 9 ckOps true).wpIn Fence.wide m Tryd.prog Q ⟨t0, ds⟩ w := by
  refine wpIn_region_inv (Inv := fun listed a w' => ∃ f, ckI w t0 ds X c k f listed a w') (by kernel_rfl) (by kernel_rfl) (ck_step hS m Q) (fun listed a w' hall hIx => ?_) ⟨fun _ => undef, ?_, fun j hj hL => absurd hL Ls_none14, .a Ls_none14 Ls_none14 Ls_none14 (bd (Below.refl _ _)) (fun hL => absurd hL Ls_none14)⟩
  · obtain ⟨f, hI⟩ := hIx
    cases hI.st with
    | a h5 h11 h13 hb h0 => exact absurd (hall 5 (by decide)) h5
    | b h0 h5 h11 h13 hb ho => exact absurd (hall 11 (by decide)) h11
    | c h0 h5 h11 h13 hb ho => exact absurd (hall 13 (by decide)) h13
    | d ha wb v hb ho hw =>
      rw [hI.ac]
      obtain ⟨O, cap, rfl, l1, l2, rk⟩ := ho.form spC4_len
      have hk : Keeps (fun y => y = X) wb (wb.setCell ⟨X, 16, none⟩ (.slice O (cut c.kl k).length cap)) := Keeps.setCell (F := fun y => y = X) (p := ⟨X, 16, none⟩) rfl _
      have hX := (hS.bx.call hb).set 16 (.slice O (cut c.kl k).length cap)
      rw [← hw] at hk hX
      refine hQ f w' O cap (((Keeps.of_below (F := fun _ => False) hb).mono (fun _ h => h.elim)).after hk) ?_ ?_ l1 l2 (fun b off e => by subst e; exact (ho.lt b (by unfold Value.ownBlock; rfl)).1)
      · exact hX
      · intro h0
        obtain ⟨b, off, e, hc⟩ := rk h0
        subst e
        have hlt := ho.lt b (by unfold Value.ownBlock; rfl)
        refine ⟨b, off, rfl, fun i x hx j u hu => ?_⟩
        have := hc i x hx j u hu
        refine (World.cell?_of_block (a := ⟨b, off + i * 4 + j, none⟩) (hk.block b hlt.2 (fun e => ?_))).trans this
        have := hS.bx.lt
        have e' : b = X := e
        omega
  · congr 1
    apply Array.ext_getElem?
    intro i
    rw [setN_at t0 82 _ 13 (by have := hS.sz; omega)]
    by_cases h : 82 ≤ i ∧ i < 82 + 13
    · rw [if_pos h]
      have := hu (i - 82) (by omega)
      rw [show 82 + (i - 82) = i by omega] at this
      exact this
    · rw [if_neg h]

/-! ### The row of Buffer -/
abbrev cbOps : Array Oper := #[{ dst := some 105, op := Go.Op.buildSlice 42 0 #[], type := 42, pos := "law.go:87", after := #[], guard := none }, { dst := some 106, op := Go.Op.fieldAddr 44 (Go.Operand.tmp 10) 10, type := 0, pos := "law.go:87", after := #[], guard := none }, { dst := some 107, op := Go.Op.load 42 (Go.Operand.tmp 106), type := 42, pos := "law.go:87", after := #[{ on := 1, ground := Go.Ground.data }], guard := none }, { dst := some 108, op := Go.Op.move (Go.Operand.tmp 3), type := 3, pos := "law.go:87", after := #[], guard := none }, { dst := some 109, op := Go.Op.slice 42 (Go.Operand.tmp 107) none (some (Go.Operand.tmp 108)) none, type := 42, pos := "law.go:87", after := #[{ on := 2, ground := Go.Ground.data }, { on := 3, ground := Go.Ground.data }], guard := none }, { dst := some 110, op := Go.Op.call { callee := Go.Callee.builtin Go.Builtin.append, args := #[Go.Operand.tmp 105, Go.Operand.tmp 109], argTypes := #[42, 42] }, type := 42, pos := "law.go:87", after := #[{ on := 0, ground := Go.Ground.data }, { on := 4, ground := Go.Ground.data }], guard := none }, { dst := some 111, op := Go.Op.fieldAddr 44 (Go.Operand.tmp 10) 10, type := 0, pos := "law.go:87", after := #[], guard := none }, { dst := some 112, op := Go.Op.load 42 (Go.Operand.tmp 111), type := 42, pos := "law.go:87", after := #[{ on := 6, ground := Go.Ground.data }], guard := none }, { dst := some 113, op := Go.Op.move (Go.Operand.tmp 3), type := 3, pos := "law.go:87", after := #[], guard := none }, { dst := some 114, op := Go.Op.binOp Go.BinOp.add 3 (Go.Operand.tmp 113) (Go.Operand.const (Go.Value.int Go.IntKind.i64 1)) 3, type := 3, pos := "law.go:87", after := #[{ on := 8, ground := Go.Ground.data }], guard := none }, { dst := some 115, op := Go.Op.slice 42 (Go.Operand.tmp 112) (some (Go.Operand.tmp 114)) none none, type := 42, pos := "law.go:87", after := #[{ on := 7, ground := Go.Ground.data }, { on := 9, ground := Go.Ground.data }], guard := none }, { dst := some 116, op := Go.Op.call { callee := Go.Callee.builtin Go.Builtin.append, args := #[Go.Operand.tmp 110, Go.Operand.tmp 115], argTypes := #[42, 42] }, type := 42, pos := "law.go:87", after := #[{ on := 5, ground := Go.Ground.data }, { on := 10, ground := Go.Ground.data }, { on := 5, ground := Go.Ground.chain }], guard := none }, { dst := some 117, op := Go.Op.fieldAddr 44 (Go.Operand.tmp 10) 10, type := 0, pos := "law.go:87", after := #[{ on := 0, ground := Go.Ground.phase }, { on := 1, ground := Go.Ground.phase }, { on := 2, ground := Go.Ground.phase }, { on := 3, ground := Go.Ground.phase }, { on := 4, ground := Go.Ground.phase }, { on := 5, ground := Go.Ground.phase }, { on := 6, ground := Go.Ground.phase }, { on := 7, ground := Go.Ground.phase }, { on := 8, ground := Go.Ground.phase }, { on := 9, ground := Go.Ground.phase }, { on := 10, ground := Go.Ground.phase }, { on := 11, ground := Go.Ground.phase }], guard := none }, { dst := none, op := Go.Op.store 42 (Go.Operand.tmp 117) (Go.Operand.tmp 116), type := 0, pos := "law.go:87", after := #[{ on := 12, ground := Go.Ground.data }, { on := 11, ground := Go.Ground.data }, { on := 11, ground := Go.Ground.chain }, { on := 0, ground := Go.Ground.phase }, { on := 1, ground := Go.Ground.phase }, { on := 2, ground := Go.Ground.phase }, { on := 3, ground := Go.Ground.phase }, { on := 4, ground := Go.Ground.phase }, { on := 5, ground := Go.Ground.phase }, { on := 6, ground := Go.Ground.phase }, { on := 7, ground := Go.Ground.phase }, { on := 8, ground := Go.Ground.phase }, { on := 9, ground := Go.Ground.phase }, { on := 10, ground := Go.Ground.phase }, { on := 11, ground := Go.Ground.phase }], guard := none }]
theorem infocb : (Tryd.prog.info? 108).map (fun i => (i.zero, i.size, i.bytes)) = some (some (.agg #[.int .i8 0, .int .u64 0, .int .u64 0, .int .i64 0, .int .i64 0]), 5, 40) := by kernel_rfl
theorem undcb : Tryd.prog.underlying 42 = some (.slice (Tryd.prog.elem 42)) := by kernel_rfl
theorem sizcb (w : World) : (sizeOf (Tryd.prog.elem 42)).run Tryd.prog w = .ok 5 w := by kernel_rfl
structure cbS (w : World) (t0 : Array Value) (X : Nat) (c : Co) (k : Nat) : Prop where
  sz : t0.size = 128
  e3 : t0[3]?.getD undef = .int .i64 k
  e10 : t0[10]?.getD undef = .pointer (some ⟨X, 0, none⟩)
  bx : Bk w X 44 (coC c).toArray
  rk : RK enC 5 w c.bO c.bl
  le : c.bl.length ≤ c.bc
  kn : k < c.bl.length
  n10 : c.bl.length ≤ 1000
def cbVal (X : Nat) (c : Co) (k : Nat) : Nat → Value
  | 2 => .slice c.bO c.bl.length c.bc
  | 3 => .int .i64 k
  | 4 => .slice c.bO k c.bc
  | 7 => .slice c.bO c.bl.length c.bc
  | 8 => .int .i64 k
  | 9 => .int .i64 ((k : Int) + 1)
  | 10 => .slice (hiO c.bO c.bc k 5) (c.bl.length - (k + 1)) (c.bc - (k + 1))
  | _ => .pointer (some ⟨X, 25, none⟩)
def cbQ (j : Nat) : Bool := j < 13 && j != 0 && j != 5 && j != 11
inductive cbSt (w : World) (X : Nat) (c : Co) (k : Nat) (f : Nat → Value) (L : Nat → Prop) (w' : World) : Prop
  | a (h5 : ¬ L 5) (h11 : ¬ L 11) (h13 : ¬ L 13) (hb : Below w.heap.size w w') (h0 : L 0 → Ow enC 5 108 w' w.heap.size (f 0) [])
  | b (h0 : L 0) (h5 : L 5) (h11 : ¬ L 11) (h13 : ¬ L 13) (hb : Below w.heap.size w w') (ho : Ow enC 5 108 w' w.heap.size (f 5) (c.bl.take k))
  | c (h0 : L 0) (h5 : L 5) (h11 : L 11) (h13 : ¬ L 13) (hb : Below w.heap.size w w') (ho : Ow enC 5 108 w' w.heap.size (f 11) (cut c.bl k))
  | d (ha : ∀ j, j < 14 → L j) (wb : World) (v : Value) (hb : Below w.heap.size w wb) (ho : Ow enC 5 108 wb w.heap.size v (cut c.bl k)) (hw : w' = wb.setCell ⟨X, 25, none⟩ v)
structure cbI (w : World) (t0 : Array Value) (ds : List Deferred) (X : Nat) (c : Co) (k : Nat) (f : Nat → Value) (listed : Array Bool) (a : Go.Act) (w' : World) : Prop where
  ac : a = ⟨setN t0 105 f 13, ds⟩
  q : ∀ j, cbQ j = true → Ls listed j → f j = cbVal X c k j
  st : cbSt w X c k f (Ls listed) w'
section
variable {w w' : World} {t0 : Array Value} {ds : List Deferred} {X k : Nat} {c : Co} {f : Nat → Value} {listed : Array Bool} {a : Go.Act}
theorem cbI.quiet (hS : cbS w t0 X c k) (h : cbI w t0 ds X c k f listed a w') (hl : listed.size = 14) {i : Nat} (hi : cbQ i = true) (hn : ¬ Ls listed i) : cbI w t0 ds X c k (updN f i (cbVal X c k i)) (listed.setIfInBounds i true) (a.put (some (105 + i)) (cbVal X c k i)) w' := by
  have hi' := hi
  simp only [cbQ, Bool.and_eq_true, decide_eq_true_eq, bne_iff_ne, ne_eq] at hi'
  obtain ⟨⟨⟨i1, i2⟩, i3⟩, i4⟩ := hi'
  have hls : ∀ j, Ls (listed.setIfInBounds i true) j ↔ j = i ∨ Ls listed j := fun j => Ls_set (by omega)
  have hf : ∀ j, j ≠ i → updN f i (cbVal X c k i) j = f j := fun j e => updN_other f _ e
  refine ⟨?_, fun j hj hL => ?_, ?_⟩
  · rw [h.ac]
    rw [act_put, setN_put t0 105 13 f _ i1 (by have := hS.sz; omega)]
  · by_cases e : j = i
    · subst e; exact updN_same _ _ _
    · rw [hf j e]
      exact h.q j hj (((hls j).1 hL).resolve_left e)
  · have hne : ∀ j, j ≠ i → ¬ Ls listed j → ¬ Ls (listed.setIfInBounds i true) j := fun j e hj hL => ((hls j).1 hL).elim e hj
    cases h.st with
    | a h5 h11 h13 hb h0 => exact .a (hne 5 (fun e => i3 e.symm) h5) (hne 11 (fun e => i4 e.symm) h11) (hne 13 (by omega) h13) hb (fun hL => by rw [hf 0 (fun e => i2 e.symm)]; exact h0 (((hls 0).1 hL).resolve_left (fun e => i2 e.symm)))
    | b h0 h5 h11 h13 hb ho => exact .b ((hls _).2 (.inr h0)) ((hls _).2 (.inr h5)) (hne 11 (fun e => i4 e.symm) h11) (hne 13 (by omega) h13) hb (by rw [hf 5 (fun e => i3 e.symm)]; exact ho)
    | c h0 h5 h11 h13 hb ho => exact .c ((hls _).2 (.inr h0)) ((hls _).2 (.inr h5)) ((hls _).2 (.inr h11)) (hne 13 (by omega) h13) hb (by rw [hf 11 (fun e => i4 e.symm)]; exact ho)
    | d ha wb v hb ho hw => exact absurd (ha i (by omega)) hn
theorem cbI.below (h : cbI w t0 ds X c k f listed a w') {i : Nat} (hi : i < 14) (hn : ¬ Ls listed i) : Below w.heap.size w w' := by
  cases h.st with
  | a h5 h11 h13 hb h0 => exact hb
  | b h0 h5 h11 h13 hb ho => exact hb
  | c h0 h5 h11 h13 hb ho => exact hb
  | d ha wb v hb ho hw => exact absurd (ha i hi) hn
theorem cbI.out (hS : cbS w t0 X c k) (h : cbI w t0 ds X c k f listed a w') (j : Nat) (hj : ¬ (105 ≤ j ∧ j < 105 + 13)) : a.tmps[j]?.getD undef = t0[j]?.getD undef := by
  rw [h.ac]
  rw [setN_at t0 105 f 13 (by have := hS.sz; omega), if_neg hj]
theorem cbI.inn (hS : cbS w t0 X c k) (h : cbI w t0 ds X c k f listed a w') (j : Nat) (hj : j < 13) : a.tmps[105 + j]?.getD undef = f j := by
  rw [h.ac]
  rw [setN_at t0 105 f 13 (by have := hS.sz; omega), if_pos (by omega)]
  simp
end
set_option maxRecDepth 100000 in
set_option maxHeartbeats 4000000 in
theorem cb_step {w : World} {t0 : Array Value} {ds : List Deferred} {X k : Nat} {c : Co} (hS : cbS w t0 X c k) (m : Nat) (Q : Exit → Go.Act → World → Prop) (listed : Array Bool) (a : Go.Act) (w' : World) (i : Nat) (o : Oper) (hl : listed.size = cbOps.size) (hIx : ∃ f, cbI w t0 ds X c k f listed a w') (hi : cbOps[i]? = some o) (hn : listed.getD i true = false)
    (hd : ∀ e ∈ o.after, Region.binds .any e = true → listed.getD e.on false = true) : wpOpIn Fence.wide m Tryd.prog cbOps Q i (fun a' w2 => ∃ f, cbI w t0 ds X c k f (listed.setIfInBounds i true) a' w2) a w' := by
  obtain ⟨f, hI⟩ := hIx
  have hl : listed.size = 14 := hl
  have hlt : i < 14 := (Array.getElem?_eq_some_iff.1 hi).1
  have hno : ¬ Ls listed i := fun h => by
    have := getD_false hn
    unfold Ls at h
    rw [Array.getD_eq_getD_getElem?, this] at h
    cases h
  have hb := hI.below hlt hno
  have hXo : w'.cell? ⟨X, 25, none⟩ = some (.slice c.bO c.bl.length c.bc) := (hS.bx.call hb).cell 25
  have hXf : w'.frozen? ⟨X, 25, none⟩ = false := (hS.bx.call hb).frozen 25
  have hrk := hS.rk.call hb
  have e3 := (hI.out hS 3 (by omega)).trans hS.e3
  have e10 := (hI.out hS 10 (by omega)).trans hS.e10
  have hk := hS.kn
  have hle := hS.le
  have hn10 := hS.n10
  have ev : ∀ j : Nat, a.eval (.tmp j) = a.tmps[j]?.getD undef := fun j => Array.getD_eq_getD_getElem? ..
  have hin := fun j hj => hI.inn hS j hj
  have hq : ∀ j, cbQ j = true → (∀ gr, { on := j, ground := gr } ∈ o.after → gr = Ground.data → a.tmps[105 + j]?.getD undef = cbVal X c k j) := fun j hj gr hm he => by
    subst he
    have hj13 : j < 13 := by simp only [cbQ, Bool.and_eq_true, decide_eq_true_eq] at hj; exact hj.1.1.1
    rw [hin j hj13]
    exact hI.q j hj (hd _ hm rfl)
  obtain ⟨i0, hi0, hz0, hz1, hz2⟩ := info_parts infocb
  match i, hi, hlt, hn, hno with
  | 0, hi, _, hn, hno =>
    obtain rfl := (Option.some.inj hi)
    refine opW_of_run hi rfl (v := .slice (some ⟨w'.heap.size, 0, none⟩) 0 0) (w2 := w'.alloc (.cells #[] 108)) (by simp [go_sem]) ⟨updN f 0 (.slice (some ⟨w'.heap.size, 0, none⟩) 0 0), ?_, ?_, ?_⟩
    · rw [hI.ac]
      rw [show cbOps[0].dst = some (105 + 0) from rfl, act_put, setN_put t0 105 13 f _ (by omega) (by have := hS.sz; omega)]
    · intro j hj hL
      have h0 : j ≠ 0 := fun e => by subst e; simp [cbQ] at hj
      rw [updN_other _ _ h0]
      exact hI.q j hj (((Ls_set (by omega)).1 hL).resolve_left h0)
    · have hne : ∀ j, j ≠ 0 → ¬ Ls listed j → ¬ Ls (listed.setIfInBounds 0 true) j := fun j e hj hL => ((Ls_set (by omega)).1 hL).elim e hj
      cases hI.st with
      | a h5 h11 h13 hb h0 => exact .a (hne 5 (by omega) h5) (hne 11 (by omega) h11) (hne 13 (by omega) h13) (ba hb _) (fun _ => by rw [updN_same]; exact ⟨rfl, .inr ⟨w'.heap.size, 0, #[], rfl, hb.size, heap_alloc_new w' _, Nat.le_refl _, Nat.zero_le _, rfl, rfl⟩⟩)
      | b h0 h5 h11 h13 hb ho => exact absurd h0 hno
      | c h0 h5 h11 h13 hb ho => exact absurd h0 hno
      | d ha wb v hb ho hw => exact absurd (ha 0 (by omega)) hno
  | 1, hi, _, hn, hno =>
    obtain rfl := (Option.some.inj hi)
    exact opW_of_run hi rfl (v := .pointer (some ⟨X, 25, none⟩)) (w2 := w') (by simp [go_sem, e10]) ⟨_, hI.quiet hS hl (i := 1) rfl hno⟩
  | 2, hi, _, hn, hno =>
    obtain rfl := (Option.some.inj hi)
    have q1 := hq 1 rfl _ (by simp) rfl
    simp only [cbVal] at q1
    exact opW_of_run hi rfl (v := .slice c.bO c.bl.length c.bc) (w2 := w') (by simp [go_sem, q1, hXo]) ⟨_, hI.quiet hS hl (i := 2) rfl hno⟩
  | 3, hi, _, hn, hno =>
    obtain rfl := (Option.some.inj hi)
    exact opW_of_run hi rfl (v := .int .i64 k) (w2 := w') (by simp [go_sem, e3]) ⟨_, hI.quiet hS hl (i := 3) rfl hno⟩
  | 4, hi, _, hn, hno =>
    obtain rfl := (Option.some.inj hi)
    have q1 := hq 2 rfl _ (by simp) rfl
    have q2 := hq 3 rfl _ (by simp) rfl
    simp only [cbVal] at q1 q2
    have hr := cut_lo (w := w') undcb (sizcb w') hrk hk rfl hle
    refine opW_of_run hi rfl (v := .slice c.bO k c.bc) (w2 := w') ?_ ⟨_, hI.quiet hS hl (i := 4) rfl hno⟩
    have p1 := (ev _).trans q1
    have p2 := (ev _).trans q2
    simp only [Nat.reduceAdd] at p1 p2
    rw [show cbOps[4] = ⟨some 109, .slice 42 (.tmp 107) none (some (.tmp 108)) none, 42, "law.go:87", #[{ on := 2, ground := .data }, { on := 3, ground := .data }], none⟩ from rfl]
    unfold execOp
    simp only [Option.map_some, Option.map_none, p1, p2, Sem.run_bind, Sem.run_pure, Result.andThen_ok, hr]
  | 5, hi, _, hn, hno =>
    obtain rfl := (Option.some.inj hi)
    have q4 := hq 4 rfl _ (by simp) rfl
    simp only [cbVal] at q4
    have hL0 : Ls listed 0 := hd ⟨0, .data⟩ (by simp) rfl
    obtain ⟨h11, h13, hO⟩ : ¬ Ls listed 11 ∧ ¬ Ls listed 13 ∧ Ow enC 5 108 w' w.heap.size (f 0) [] := by
      cases hI.st with
      | a h5 h11 h13 hb h0 => exact ⟨h11, h13, h0 hL0⟩
      | b h0 h5 h11 h13 hb ho => exact absurd h5 hno
      | c h0 h5 h11 h13 hb ho => exact absurd h5 hno
      | d ha wb v hb ho hw => exact absurd (ha 5 (by omega)) hno
    have q0 := hin 0 (by omega)
    obtain ⟨v', w2, hrun, ho2, hg⟩ := run_app (P := Tryd.prog) (w := w') 42 42 108 i0 _ 40 Tryd.underlying42 hi0 hz0 hz1 hz2 rfl (by decide) enC_len enC_one hO (O := c.bO) (m := k) (c := c.bc) (ys := c.bl.take k) (by rw [List.length_take]; omega) (rk_take hrk k) (by simp; omega) (by decide) hb.size
    have hb2 : Below w.heap.size w w2 := hb.grown hg hb.size (fun g hg => (hO.lt g hg).1)
    refine opW_of_run hi rfl (v := v') (w2 := w2) ?_ ⟨updN f 5 v', ?_, ?_, ?_⟩
    · have p1 := (ev _).trans q0
      have p2 := (ev _).trans q4
      simp only [Nat.reduceAdd] at p1 p2
      rw [show cbOps[5] = ⟨some 110, .call { callee := .builtin .append, args := #[.tmp 105, .tmp 109], argTypes := #[42, 42] }, 42, "law.go:87", #[{ on := 0, ground := .data }, { on := 4, ground := .data }], none⟩ from rfl]
      unfold execOp
      simp only [resolve, invoke, builtin, Sem.run_bind, Sem.run_pure, Result.andThen_ok, List.map_toArray, List.map_cons, List.map_nil, p1, p2, hrun]
    · rw [hI.ac]
      rw [show cbOps[5].dst = some (105 + 5) from rfl, act_put, setN_put t0 105 13 f _ (by omega) (by have := hS.sz; omega)]
    · intro j hj hL
      have h0 : j ≠ 5 := fun e => by subst e; simp [cbQ] at hj
      rw [updN_other _ _ h0]
      exact hI.q j hj (((Ls_set (by omega)).1 hL).resolve_left h0)
    · have hne : ∀ j, j ≠ 5 → ¬ Ls listed j → ¬ Ls (listed.setIfInBounds 5 true) j := fun j e hj hL => ((Ls_set (by omega)).1 hL).elim e hj
      refine .b ((Ls_set (by omega)).2 (.inr hL0)) ((Ls_set (by omega)).2 (.inl rfl)) (hne 11 (by omega) h11) (hne 13 (by omega) h13) hb2 ?_
      rw [updN_same]
      simpa using ho2
  | 6, hi, _, hn, hno =>
    obtain rfl := (Option.some.inj hi)
    exact opW_of_run hi rfl (v := .pointer (some ⟨X, 25, none⟩)) (w2 := w') (by simp [go_sem, e10]) ⟨_, hI.quiet hS hl (i := 6) rfl hno⟩
  | 7, hi, _, hn, hno =>
    obtain rfl := (Option.some.inj hi)
    have q1 := hq 6 rfl _ (by simp) rfl
    simp only [cbVal] at q1
    exact opW_of_run hi rfl (v := .slice c.bO c.bl.length c.bc) (w2 := w') (by simp [go_sem, q1, hXo]) ⟨_, hI.quiet hS hl (i := 7) rfl hno⟩
  | 8, hi, _, hn, hno =>
    obtain rfl := (Option.some.inj hi)
    exact opW_of_run hi rfl (v := .int .i64 k) (w2 := w') (by simp [go_sem, e3]) ⟨_, hI.quiet hS hl (i := 8) rfl hno⟩
  | 9, hi, _, hn, hno =>
    obtain rfl := (Option.some.inj hi)
    have q1 := hq 8 rfl _ (by simp) rfl
    simp only [cbVal] at q1
    refine opW_of_run hi rfl (v := .int .i64 ((k : Int) + 1)) (w2 := w') ?_ ⟨_, hI.quiet hS hl (i := 9) rfl hno⟩
    have hw : IntKind.i64.wrap ((k : Int) + 1) = (k : Int) + 1 := by rw [IntKind.wrap_i64]; omega
    simp [go_sem, q1, hw]
  | 10, hi, _, hn, hno =>
    obtain rfl := (Option.some.inj hi)
    have q1 := hq 7 rfl _ (by simp) rfl
    have q2 := hq 9 rfl _ (by simp) rfl
    simp only [cbVal] at q1 q2
    have hr := cut_hi (w := w') (O := c.bO) (c := c.bc) undcb (sizcb w') hk
    refine opW_of_run hi rfl (v := .slice (hiO c.bO c.bc k 5) (c.bl.length - (k + 1)) (c.bc - (k + 1))) (w2 := w') ?_ ⟨_, hI.quiet hS hl (i := 10) rfl hno⟩
    have p1 := (ev _).trans q1
    have p2 := (ev _).trans q2
    simp only [Nat.reduceAdd] at p1 p2
    rw [show cbOps[10] = ⟨some 115, .slice 42 (.tmp 112) (some (.tmp 114)) none none, 42, "law.go:87", #[{ on := 7, ground := .data }, { on := 9, ground := .data }], none⟩ from rfl]
    unfold execOp
    simp only [Option.map_some, Option.map_none, p1, p2, Sem.run_bind, Sem.run_pure, Result.andThen_ok, hr]
  | 11, hi, _, hn, hno =>
    obtain rfl := (Option.some.inj hi)
    have q10 := hq 10 rfl _ (by simp) rfl
    simp only [cbVal] at q10
    have hL5 : Ls listed 5 := hd ⟨5, .data⟩ (by simp) rfl
    obtain ⟨hL0, h13, hO⟩ : Ls listed 0 ∧ ¬ Ls listed 13 ∧ Ow enC 5 108 w' w.heap.size (f 5) (c.bl.take k) := by
      cases hI.st with
      | a h5 h11 h13 hb h0 => exact absurd hL5 h5
      | b h0 h5 h11 h13 hb ho => exact ⟨h0, h13, ho⟩
      | c h0 h5 h11 h13 hb ho => exact absurd h11 hno
      | d ha wb v hb ho hw => exact absurd (ha 11 (by omega)) hno
    have q5 := hin 5 (by omega)
    obtain ⟨v', w2, hrun, ho2, hg⟩ := run_app (P := Tryd.prog) (w := w') 42 42 108 i0 _ 40 Tryd.underlying42 hi0 hz0 hz1 hz2 rfl (by decide) enC_len enC_one hO (O := hiO c.bO c.bc k 5) (m := c.bl.length - (k + 1)) (c := c.bc - (k + 1)) (ys := c.bl.drop (k + 1)) (by rw [List.length_drop]) (rk_hi hrk hle) (by rw [List.length_take]; omega) (by decide) hb.size
    have hb2 : Below w.heap.size w w2 := hb.grown hg hb.size (fun g hg => (hO.lt g hg).1)
    refine opW_of_run hi rfl (v := v') (w2 := w2) ?_ ⟨updN f 11 v', ?_, ?_, ?_⟩
    · have p1 := (ev _).trans q5
      have p2 := (ev _).trans q10
      simp only [Nat.reduceAdd] at p1 p2
      rw [show cbOps[11] = ⟨some 116, .call { callee := .builtin .append, args := #[.tmp 110, .tmp 115], argTypes := #[42, 42] }, 42, "law.go:87", #[{ on := 5, ground := .data }, { on := 10, ground := .data }, { on := 5, ground := .chain }], none⟩ from rfl]
      unfold execOp
      simp only [resolve, invoke, builtin, Sem.run_bind, Sem.run_pure, Result.andThen_ok, List.map_toArray, List.map_cons, List.map_nil, p1, p2, hrun]
    · rw [hI.ac]
      rw [show cbOps[11].dst = some (105 + 11) from rfl, act_put, setN_put t0 105 13 f _ (by omega) (by have := hS.sz; omega)]
    · intro j hj hL
      have h0 : j ≠ 11 := fun e => by subst e; simp [cbQ] at hj
      rw [updN_other _ _ h0]
      exact hI.q j hj (((Ls_set (by omega)).1 hL).resolve_left h0)
    · have hne : ∀ j, j ≠ 11 → ¬ Ls listed j → ¬ Ls (listed.setIfInBounds 11 true) j := fun j e hj hL => ((Ls_set (by omega)).1 hL).elim e hj
      refine .c ((Ls_set (by omega)).2 (.inr hL0)) ((Ls_set (by omega)).2 (.inr hL5)) ((Ls_set (by omega)).2 (.inl rfl)) (hne 13 (by omega) h13) hb2 ?_
      rw [updN_same]
      exact ho2
  | 12, hi, _, hn, hno =>
    obtain rfl := (Option.some.inj hi)
    exact opW_of_run hi rfl (v := .pointer (some ⟨X, 25, none⟩)) (w2 := w') (by simp [go_sem, e10]) ⟨_, hI.quiet hS hl (i := 12) rfl hno⟩
  | 13, hi, _, hn, hno =>
    obtain rfl := (Option.some.inj hi)
    have hall : ∀ j, j < 12 → Ls listed j := fun j hj => by
      refine hd ⟨j, .phase⟩ ?_ rfl
      have : j = 0 ∨ j = 1 ∨ j = 2 ∨ j = 3 ∨ j = 4 ∨ j = 5 ∨ j = 6 ∨ j = 7 ∨ j = 8 ∨ j = 9 ∨ j = 10 ∨ j = 11 := by omega
      rcases this with rfl | rfl | rfl | rfl | rfl | rfl | rfl | rfl | rfl | rfl | rfl | rfl <;> simp
    have h12 : Ls listed 12 := hd ⟨12, .data⟩ (by simp) rfl
    have q12 := hq 12 rfl _ (by simp) rfl
    simp only [cbVal] at q12
    have q11 := hin 11 (by omega)
    have hO : Ow enC 5 108 w' w.heap.size (f 11) (cut c.bl k) := by
      cases hI.st with
      | a h5 h11 h13 hb h0 => exact absurd (hall 5 (by omega)) h5
      | b h0 h5 h11 h13 hb ho => exact absurd (hall 11 (by omega)) h11
      | c h0 h5 h11 h13 hb ho => exact ho
      | d ha wb v hb ho hw => exact absurd (ha 13 (by omega)) hno
    obtain ⟨Oc, cap, ef, -, -, -⟩ := hO.form enC_len
    refine opW_of_skip hi rfl (w2 := w'.setCell ⟨X, 25, none⟩ (f 11)) ?_ ⟨f, hI.ac, fun j hj hL => ?_, .d (fun j hj => ?_) w' (f 11) hb hO rfl⟩
    · rw [ef] at q11 ⊢
      simp only [Nat.reduceAdd] at q11 q12
      simp [go_sem, q11, q12, hXo, hXf]
    · have h0 : j ≠ 13 := fun e => by subst e; simp [cbQ] at hj
      exact hI.q j hj (((Ls_set (by omega)).1 hL).resolve_left h0)
    · by_cases e : j = 13
      · exact (Ls_set (by omega)).2 (.inl e)
      · by_cases e' : j = 12
        · exact (Ls_set (by omega)).2 (.inr (e' ▸ h12))
        · exact (Ls_set (by omega)).2 (.inr (hall j (by omega)))
theorem cb_region {w : World} {t0 : Array Value} {ds : List Deferred} {X k : Nat} {c : Co} (hS : cbS w t0 X c k) (hu : ∀ j, j < 13 → t0[105 + j]? = some undef) (m : Nat) (Q : Exit → Go.Act → World → Prop)
    (hQ : ∀ (f : Nat → Value) (w' : World) (O : Option Addr) (cap : Nat), Keeps (fun y => y = X) w w' → Bk w' X 44 (coC { c with bO := O, bl := cut c.bl k, bc := cap }).toArray → RK enC 5 w' O (cut c.bl k) → (cut c.bl k).length ≤ cap → cap ≤ maxLen → (∀ b off, O = some ⟨b, off, none⟩ → w.heap.size ≤ b) → Q .normal ⟨setN t0 105 f 13, ds⟩ w') :
    (Code.region 11 cbOps true).wpIn Fence.wide m Tryd.prog Q ⟨t0, ds⟩ w := by
  refine wpIn_region_inv (Inv := fun listed a w' => ∃ f, cbI w t0 ds X c k f listed a w') (by kernel_rfl) (by kernel_rfl) (cb_step hS m Q) (fun listed a w' hall hIx => ?_) ⟨fun _ => undef, ?_, fun j hj hL => absurd hL Ls_none14, .a Ls_none14 Ls_none14 Ls_none14 (bd (Below.refl _ _)) (fun hL => absurd hL Ls_none14)⟩
  · obtain ⟨f, hI⟩ := hIx
    cases hI.st with
    | a h5 h11 h13 hb h0 => exact absurd (hall 5 (by decide)) h5
    | b h0 h5 h11 h13 hb ho => exact absurd (hall 11 (by decide)) h11
    | c h0 h5 h11 h13 hb ho => exact absurd (hall 13 (by decide)) h13
    | d ha wb v hb ho hw =>
      rw [hI.ac]
      obtain ⟨O, cap, rfl, l1, l2, rk⟩ := ho.form enC_len
      have hk : Keeps (fun y => y = X) wb (wb.setCell ⟨X, 25, none⟩ (.slice O (cut c.bl k).length cap)) := Keeps.setCell (F := fun y => y = X) (p := ⟨X, 25, none⟩) rfl _
      have hX := (hS.bx.call hb).set 25 (.slice O (cut c.bl k).length cap)
      rw [← hw] at hk hX
      refine hQ f w' O cap (((Keeps.of_below (F := fun _ => False) hb).mono (fun _ h => h.elim)).after hk) ?_ ?_ l1 l2 (fun b off e => by subst e; exact (ho.lt b (by unfold Value.ownBlock; rfl)).1)
      · exact hX
      · intro h0
        obtain ⟨b, off, e, hc⟩ := rk h0
        subst e
        have hlt := ho.lt b (by unfold Value.ownBlock; rfl)
        refine ⟨b, off, rfl, fun i x hx j u hu => ?_⟩
        have := hc i x hx j u hu
        refine (World.cell?_of_block (a := ⟨b, off + i * 5 + j, none⟩) (hk.block b hlt.2 (fun e => ?_))).trans this
        have := hS.bx.lt
        have e' : b = X := e
        omega
  · congr 1
    apply Array.ext_getElem?
    intro i
    rw [setN_at t0 105 _ 13 (by have := hS.sz; omega)]
    by_cases h : 105 ≤ i ∧ i < 105 + 13
    · rw [if_pos h]
      have := hu (i - 105) (by omega)
      rw [show 105 + (i - 105) = i by omega] at this
      exact this
    · rw [if_neg h]
end Go.Proofs.YtappjiljmpgjcaaDoor
