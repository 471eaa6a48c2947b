/-
  Spaces that are the same; the loop over acts.
-/
import Derived.Test.YtgfogbifbpadoaaPcAsks
namespace Go.Proofs.Ytgfogbifbpadoaa
open Go.RowKit Go.Maps
set_option linter.unusedVariables false
set_option linter.unusedSimpArgs false
/-- Two rows that are the same. -/
theorem r19Same_same (O P : Option Addr) (c d : Nat) (l : List Reg) (w : World) (hO : RegsK w O l) (hP : RegsK w P l) (hc : l.length ≤ c) (hd : l.length ≤ d) (hm : l.length ≤ 150) :
    Calls Try.prog 15 #[.slice O l.length c, .slice P l.length d] w fun e w' => e = .returned (.bool true) ∧ Below w.heap.size w w' := by
  have HO := Lib.hid hO
  have HP := Lib.hid hP
  clear hO hP
  obtain ⟨n, hn⟩ : ∃ n, n = l.length := ⟨_, rfl⟩
  rw [← hn] at hc hd hm ⊢
  have HN := Lib.hid hn
  clear hn
  go_enter Try.func15, Try.ntmps15
  go_wp2_with fail
  go_loopw [5] (fun i wr => ∃ k : Nat, i = .int .i64 k ∧ k ≤ n ∧ Below w.heap.size w wr) (fun i _ => n - (intOf i).toNat)
  case atStart => exact ⟨0, rfl, by omega, Below.refl _ _⟩
  case round =>
    obtain ⟨k, rfl, hk, hB⟩ := hrel
    have HB := Lib.hid hB
    clear hB
    by_cases hlt : k < n
    · obtain ⟨b, off, rfl, h1⟩ := (HO.out.call HB.out) (by have := HN.out; omega)
      obtain ⟨b', off', rfl, h2⟩ := (HP.out.call HB.out) (by have := HN.out; omega)
      obtain ⟨d0, d1, d2⟩ := h1 k (by have := HN.out; omega)
      obtain ⟨e0, e1, e2⟩ := h2 k (by have := HN.out; omega)
      clear h1 h2
      go_upto_region 6 with fail
      rename_i hKJ
      have hKJ := Lib.hid hKJ
      go_region
      refine hKJ.out _ _ ?_
      clear hKJ
      go_wp2_with fail
      go_roundw
      case rel => exact ⟨k + 1, by go_num, by omega, bd HB.out⟩
      case measure => simp [intOf]; omega
    · obtain rfl : k = n := by omega
      go_wp2_with fail
      go_ret
      exact ⟨rfl, HB.out⟩
set_option maxRecDepth 100000 in
set_option maxHeartbeats 4000000 in
theorem sameSpace_any (a b : Spc) (w : World) (h : SpEq a b) (ha : RegsK w a.O a.l) (hb : RegsK w b.O b.l) (ca : a.l.length ≤ a.cap) (cb : b.l.length ≤ b.cap) (hm : a.l.length ≤ 150) :
    Calls Try.prog 14 #[.agg (spC b).toArray, .agg (spC a).toArray] w fun e w' => e = .returned (.bool true) ∧ Below w.heap.size w w' := by
  have hk := Bk.new (w.alloc (.cells (spC b).toArray 38)) 38 (spC a).toArray
  rw [World.size_alloc] at hk
  have hj := (Bk.new w 38 (spC b).toArray).call (ba (Below.refl _ _) (.cells (spC a).toArray 38))
  go_enter Try.func14, Try.ntmps14
  go_upto_region 1 with fail
  refine (show ∀ W1 : World, Below w.heap.size w W1 → Bk W1 w.heap.size 38 (spC b).toArray → Bk W1 (w.heap.size + 1) 38 (spC a).toArray → Code.wp _ _ _ _ W1 from fun W1 hb1 h1 h2 => ?_) _ (ba (ba (Below.refl _ _) _) _) hj hk
  obtain ⟨x0, x1, x2, x3, x4⟩ := h1.spc
  obtain ⟨y0, y1, y2, y3, y4⟩ := h2.spc
  have HB := Lib.hid hb1
  have HA := Lib.hid (ha.call hb1)
  have HBb := Lib.hid (hb.call hb1)
  obtain ⟨e0, e1, e2, e3, e4⟩ := h
  rw [e0] at x0 cb
  rw [e1] at x1
  rw [e2] at x2
  rw [e3] at x3
  rw [e4] at x4
  have HC := Lib.hid (show RegsK W1 b.O a.l by rw [← e0]; exact HBb.out)
  clear hk hj hb1 h1 h2 ha hb e0 e1 e2 e3 e4 HBb
  go_wp2_with fail
  refine (r19Same_same b.O a.O b.cap a.cap a.l _ HC.out HA.out cb ca hm).mono ?_
  rintro e w2 ⟨rfl, hb2⟩
  have HB2 := Lib.hid (bthen HB.out hb2)
  clear hb2 x0 x1 x2 x3 x4 y0 y1 y2 y3 y4
  go_wp2_with fail
  go_ret
  exact ⟨rfl, HB2.out⟩
theorem rf_given {W : Nat → Prop} {w : World} {O : Option Addr} {l : List Reg} (h : RegsK w O l) (hW : ∀ y, W y → w.heap.size ≤ y) : Rf W w O l := by
  refine ⟨h, fun h0 b off e hWb => ?_⟩
  obtain ⟨b', off', e', hc⟩ := h h0
  rw [e] at e'
  cases e'
  have h1 : b < w.heap.size := World.block_lt_of_cell? w ⟨b, off + 0 * 3, none⟩ (hc 0 h0).1
  have h2 := hW b hWb
  omega
theorem actInfo : (Try.prog.info? 40).map (·.size) = some 21 := by kernel_rfl
theorem acC_one (x : Ac) : ∀ v ∈ acC x, v.oneCell' = true := by
  intro v hv
  simp only [acC, List.mem_cons, List.mem_append] at hv
  rcases hv with h | h | h | h | h | h
  · subst h; rfl
  · subst h; rfl
  · subst h; rfl
  · subst h; rfl
  · exact thC_one _ v h
  · exact spC_one _ v h
/-- An act of a row, in any later world. -/
theorem act_range {w w' : World} {O : Option Addr} {xs : List Ac} (h : RK acC 21 w O xs) (hb : Below w.heap.size w w') {k : Nat} {x : Ac} (hx : xs[k]? = some x) : ∃ b off : Nat, O = some ⟨b, off, none⟩ ∧ w'.rangeAt b (off + k * 21) (acC x) := by
  obtain ⟨b, off, e, hc⟩ := (h.call hb) (by have := (List.getElem?_eq_some_iff.1 hx).1; omega)
  exact ⟨b, off, e, fun j u hu => hc k x hx j u hu⟩
abbrev azC : Array Value := #[.int .i64 0, .int .i64 0, .int .i64 0, .slice none 0 0, .int .i64 0, .int .u64 0, .int .u64 0, .int .u64 0, .int .u64 0, .int .u64 0, .int .u64 0, .int .u64 0, .int .u64 0, .int .i64 0, .int .i64 0, .bool false, .slice none 0 0, .int .i64 0, .int .i64 0, .int .i64 0, .int .i64 0]
section
variable {w : World} {ops : Array Oper} {rest : List Oper} {o : Oper} {a : Go.Act} {QQ : Exit → Go.Act → World → Prop}
theorem get_act (hgd : o.guard = none) (y : Operand) (ho : o.op = .load 40 y) (b off : Nat) (x : Ac) (hx : a.eval y = .pointer (some ⟨b, off, none⟩)) (hr : w.rangeAt b off (acC x))
    (h : wpList Try.prog ops QQ rest (a.put o.dst (.agg (acC x).toArray)) w) : wpList Try.prog ops QQ (o :: rest) a w :=
  wpList_load_mid hgd 40 y ho b _ hx _ _ hr Try.underlying40 rfl actInfo h
theorem box_act (hgd : o.guard = none) (y z : Operand) (ho : o.op = .store 40 y z) (g : Nat) (x : Ac) (old : Array Value) (hx : a.eval y = .pointer (some ⟨g, 0, none⟩)) (hy : a.eval z = .agg (acC x).toArray) (hb : Bk w g 40 old) (hs : old.size = 21)
    (h : wpList Try.prog ops QQ rest (a.put o.dst undef) (w.setRow g (acC x).toArray)) : wpList Try.prog ops QQ (o :: rest) a w :=
  wpList_store_row hgd 40 y z ho g _ hx hy 40 old hb actInfo hs (all_oneCell_toArray (acC_one x)) h
theorem unbox_act (hgd : o.guard = none) (y : Operand) (ho : o.op = .load 40 y) (g : Nat) (x : Ac) (hx : a.eval y = .pointer (some ⟨g, 0, none⟩)) (hb : Bk w g 40 (acC x).toArray)
    (h : wpList Try.prog ops QQ rest (a.put o.dst (.agg (acC x).toArray)) w) : wpList Try.prog ops QQ (o :: rest) a w :=
  wpList_load_row hgd 40 y ho g hx 40 _ (0, 0) _ hb Try.underlying40 rfl (by exact actInfo) h
end
end Go.Proofs.Ytgfogbifbpadoaa
