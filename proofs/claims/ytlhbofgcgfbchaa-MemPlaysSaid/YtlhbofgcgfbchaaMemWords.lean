/-
  The words of a frame that are not 0 (mem.Words), and two rows of them held against each other (tenementref08.SameWords).
-/
import Derived.Test.YtlhbofgcgfbchaaMemLaws
import Derived.Deep.AppendLies
import Derived.Laws.OwnMore
namespace Go.Proofs.Ytlhbofgcgfbchaa
open Go.RowKit Go.Maps
set_option linter.unusedVariables false
set_option linter.unusedSimpArgs false

theorem Bk.below2 {w w' : World} {g B : Nat} {t : TypeId} {cs : Array Value} (h : Bk w g t cs) (hb : Below B w w') (hg : g < B) : Bk w' g t cs := (hb.block g hg).trans h
theorem bdN {B : Nat} {a w : World} (h : Below B a w) (n : Nat) : Below B a (w.drewN n) := ⟨h.os, h.tape, h.output, h.size, h.block⟩
/-- Rows of places and values as cells. -/
def cwCells (xs : List (Int × Int)) : List Value := xs.flatMap fun x => [Value.int .i64 x.1, Value.int .u64 x.2]
theorem cwCells_len : ∀ xs : List (Int × Int), (cwCells xs).length = xs.length * 2
  | [] => rfl
  | x :: r => by have := cwCells_len r; simp [cwCells] at this ⊢; omega
theorem cwCells_snoc (xs : List (Int × Int)) (a b : Int) : cwCells (xs ++ [(a, b)]) = cwCells xs ++ [.int .i64 a, .int .u64 b] := by simp [cwCells]
theorem cwCells_at : ∀ (xs : List (Int × Int)) (k : Nat) (x : Int × Int), xs[k]? = some x → (cwCells xs)[k * 2]? = some (.int .i64 x.1) ∧ (cwCells xs)[k * 2 + 1]? = some (.int .u64 x.2)
  | [], k, x, h => by simp at h
  | y :: r, 0, x, h => by
    simp at h
    subst h
    simp [cwCells]
  | y :: r, k + 1, x, h => by
    have := cwCells_at r k x (by simpa using h)
    have e : cwCells (y :: r) = [Value.int .i64 y.1, Value.int .u64 y.2] ++ cwCells r := by simp [cwCells]
    rw [e, show (k + 1) * 2 = 2 + k * 2 by omega, show 2 + k * 2 + 1 = 2 + (k * 2 + 1) by omega]
    rw [List.getElem?_append_right (by simp), List.getElem?_append_right (by simp)]
    simpa using this
/-- The words below k that are not 0. -/
def nzTo (g : Nat → Int) : Nat → List (Int × Int)
  | 0 => []
  | k + 1 => if g k = 0 then nzTo g k else nzTo g k ++ [((k : Int), g k)]
theorem nzTo_len (g : Nat → Int) : ∀ k, (nzTo g k).length ≤ k
  | 0 => Nat.le_refl _
  | k + 1 => by
    have := nzTo_len g k
    unfold nzTo
    split
    · omega
    · simp; omega
theorem nzTo_zero {g : Nat → Int} : ∀ k, (∀ i, i < k → g i = 0) → nzTo g k = []
  | 0, _ => rfl
  | k + 1, h => by rw [nzTo, if_pos (h k (by omega))]; exact nzTo_zero k (fun i hi => h i (by omega))
theorem nzTo_congr {g g' : Nat → Int} : ∀ k, (∀ i, i < k → g i = g' i) → nzTo g k = nzTo g' k
  | 0, _ => rfl
  | k + 1, h => by rw [nzTo, nzTo, h k (by omega), nzTo_congr k (fun i hi => h i (by omega))]
theorem nzTo_some {g : Nat → Int} {i : Nat} (h0 : g i ≠ 0) : ∀ k, i < k → 0 < (nzTo g k).length
  | 0, h => by omega
  | k + 1, h => by
    unfold nzTo
    split
    · rename_i e
      refine nzTo_some h0 k ?_
      rcases Nat.lt_or_ge i k with hl | hl
      · exact hl
      · have : i = k := by omega
        subst this; exact absurd e h0
    · simp
/-- A row of words of the call's own. -/
def Cw (w : World) (B : Nat) (v : Value) (xs : List (Int × Int)) : Prop := w.ownsRow B 78 2 v xs.length (cwCells xs)
theorem Cw.keep {w w' : World} {B : Nat} {v : Value} {xs : List (Int × Int)} {F : Nat → Prop} (h : Cw w B v xs) (hk : Keeps F w w') (hF : ∀ g, v.ownBlock = some g → ¬ F g) : Cw w' B v xs := by
  obtain ⟨hl, h⟩ := h
  refine ⟨hl, h.imp id fun ⟨g, cap, cur, e, hb, hh, r⟩ => ⟨g, cap, cur, e, hb, ?_, r⟩⟩
  subst e
  exact (hk.block g (Array.getElem?_eq_some_iff.1 hh).1 (hF g rfl)).trans hh
theorem Cw.call {w w' : World} {B : Nat} {v : Value} {xs : List (Int × Int)} (h : Cw w B v xs) (hb : Below w.heap.size w w') : Cw w' B v xs := h.keep (Keeps.of_below (F := fun _ => False) hb) (fun _ _ h => h)
theorem Cw.form {w : World} {B : Nat} {v : Value} {xs : List (Int × Int)} (h : Cw w B v xs) : ∃ O cap, v = .slice O xs.length cap ∧ xs.length ≤ cap ∧ cap ≤ maxLen ∧ (0 < xs.length → ∃ g, O = some ⟨g, 0, none⟩ ∧ ∀ k x, xs[k]? = some x → w.cell? ⟨g, k * 2, none⟩ = some (.int .i64 x.1) ∧ w.cell? ⟨g, k * 2 + 1, none⟩ = some (.int .u64 x.2)) := by
  have hcells := fun g hg => World.ownsRow.cells h (g := g) hg
  obtain ⟨hl, h⟩ := h
  rcases h with ⟨rfl, hx⟩ | ⟨g, cap, cur, rfl, hb, hh, c1, c2, c3, c4⟩
  · exact ⟨none, 0, by rw [hx], by omega, by unfold maxLen; omega, fun h => by omega⟩
  · refine ⟨_, cap, rfl, c1, c2, fun _ => ⟨g, rfl, fun k x hx => ?_⟩⟩
    obtain ⟨a1, a2⟩ := cwCells_at xs k x hx
    have e : ∀ j, (⟨g, 0, none⟩ : Addr).add j = ⟨g, j, none⟩ := fun j => by unfold Addr.add; split <;> simp_all
    have b1 := hcells g rfl _ _ a1
    have b2 := hcells g rfl _ _ a2
    rw [e] at b1 b2
    exact ⟨b1, b2⟩
theorem Cw.lt {w : World} {B : Nat} {v : Value} {xs : List (Int × Int)} (h : Cw w B v xs) : ∀ g, v.ownBlock = some g → B ≤ g ∧ g < w.heap.size := World.ownsRow.lt h
theorem cwInfo : ∃ i, Try.prog.info? 78 = some i ∧ i.zero = some (.agg #[.int .i64 0, .int .u64 0]) ∧ i.size = 2 ∧ i.bytes = 16 := by
  have h : (Try.prog.info? 78).map (fun i => (i.zero, i.size, i.bytes)) = some (some (.agg #[.int .i64 0, .int .u64 0]), 2, 16) := by kernel_rfl
  cases hq : Try.prog.info? 78 with
  | none => simp [hq] at h
  | some i => simp [hq] at h; exact ⟨i, rfl, h.1, h.2.1, h.2.2⟩
/-- What holds at the head of Words' loop. -/
def WdRel (w : World) (g : Nat → Int) (v i : Value) (wr : World) : Prop := ∃ k : Nat, i = .int .i64 k ∧ k ≤ 512 ∧ Cw wr w.heap.size v (nzTo g k) ∧ Below w.heap.size w wr
set_option maxRecDepth 100000 in
set_option maxHeartbeats 2000000 in
theorem words_yes (p n k f : Nat) (c : Nat → Nat → Int) (F : Nat → Prop) (w : World) (hM : MemS w p n c F k) (hf : f < 64) :
    Calls Try.prog 15 #[.pointer (some ⟨p, 0, none⟩), .int .i64 f] w fun e w' => ∃ v, e = .returned v ∧ Cw w' w.heap.size v (nzTo (c f) 512) ∧ Below w.heap.size w w' := by
  obtain ⟨m, D, hM⟩ := hM
  obtain ⟨v, ps, hrun, hv⟩ := hM.map.look_ok (t := 68) (e := 74) keyed Try.underlying68 (z := .pointer none) (by kernel_rfl) (zd := .lit (.int .i64 (-1))) (zp := []) rfl (keyLit f (by omega))
  have c1 : w.cell? ⟨p, 1, none⟩ = some (.map (some m)) := hM.str.cell 1
  rcases hM.row f with ⟨a1, a2⟩ | ⟨b, a1, a2, a3, a4⟩
  · rw [a1] at hrun
    have HZ := Lib.hid (nzTo_zero 512 a2)
    clear a1 a2 hv hM
    go_enter Try.func15, Try.ntmps15
    go_wp2_with fail
    go_ret
    exact ⟨_, rfl, by rw [HZ.out]; exact World.ownsRow_nil _ _ _ _, Below.refl _ _⟩
  · rw [a1] at hrun
    rw [a2] at hv
    obtain rfl := ptrElem_inv hv
    obtain ⟨i0, hi, hz0, hz1, hz2⟩ := cwInfo
    have HA := Lib.hid a3
    have hlt := a3.lt
    clear a1 a2 a3 hv hM
    go_enter Try.func15, Try.ntmps15
    go_wp2_with fail
    go_loopw [7, 24] (fun v i wr => WdRel w (c f) v i wr) (fun _ i _ => 512 - (intOf i).toNat)
    case atStart => exact ⟨0, rfl, by omega, World.ownsRow_nil _ _ _ _, Below.refl _ _⟩
    case round =>
      clear hrun c1
      obtain ⟨j, rfl, hj, hO, hB⟩ := hrel
      by_cases hlt2 : j < 512
      · have hc : wr.cell? ⟨b, j, none⟩ = some (.int .u64 (c f j)) := ((HA.out.below2 hB hlt).cell j).trans (rowOf_at _ _ hlt2)
        have hnl := nzTo_len (c f) j
        have HN := Lib.hid (show nzTo (c f) (j + 1) = if c f j = 0 then nzTo (c f) j else nzTo (c f) j ++ [((j : Int), c f j)] from rfl)
        have HO := Lib.hid hO
        have HB := Lib.hid hB
        clear hO hB
        rcases h0 : (c f j != 0) with _ | _
        · have HE := Lib.hid (show c f j = 0 by simpa using h0)
          go_wp2_with fail
          go_quiet (fail)
          go_wp2_with fail
          go_roundw
          case rel => exact ⟨j + 1, by go_num, by omega, by rw [HN.out, if_pos HE.out]; exact HO.out, bdN HB.out nq⟩
          case measure => simp [intOf]; omega
        · have HE := Lib.hid (show ¬ c f j = 0 by simpa using h0)
          go_wp2_with fail
          go_quiet (fail)
          have HO2 := Lib.hid (show Cw ((wr.drewN nq).alloc (.cells #[.int .i64 j, .int .u64 (c f j)] 78)) w.heap.size u7 (nzTo (c f) j) from (Cw.call (w' := wr.drewN nq) HO.out (bdN (Below.refl _ _) nq)).call (ba (Below.refl _ _) _))
          have HB2 := Lib.hid (show Below w.heap.size w ((wr.drewN nq).alloc (.cells #[.int .i64 j, .int .u64 (c f j)] 78)) from ba (bdN HB.out nq) _)
          have HNW := Lib.hid (Bk.new (wr.drewN nq) 78 #[.int .i64 j, .int .u64 (c f j)])
          clear hc
          generalize wr.drewN nq = wn at *
          go_wp2_with (at_builtin; refine wpList_append_own _ rfl _ _ 37 rfl w.heap.size 78 i0 (.agg #[.int .i64 0, .int .u64 0]) 2 16 Try.underlying37 hi hz0 hz1 hz2 rfl (by decide) _ _ _ rfl HO2.out ⟨wn.heap.size, 0, none⟩ 1 1 [.int .i64 j, .int .u64 (c f j)] rfl rfl ?c1 ?c2 ?c3 ?c4 ?c5 ?_)
          case c1 =>
            intro x u hx
            have e : (⟨wn.heap.size, 0, none⟩ : Addr).add x = ⟨wn.heap.size, x, none⟩ := by unfold Addr.add; split <;> simp_all
            rw [e, HNW.out.cell x]
            simpa using hx
          case c2 => intro u hu; simp at hu; rcases hu with rfl | rfl <;> rfl
          case c3 => unfold maxLen; omega
          case c4 => omega
          case c5 => exact HB2.out.size
          intro v' w1 hown hgrow _
          have HO3 := Lib.hid (show Cw w1 w.heap.size v' (nzTo (c f) j ++ [((j : Int), c f j)]) from by unfold Cw; rw [cwCells_snoc]; simpa using hown)
          have HB3 := Lib.hid (show Below w.heap.size w w1 from HB2.out.grown hgrow HB2.out.size (fun g hg => (HO2.out.lt g hg).1))
          clear hown hgrow
          go_wp2_with fail
          go_roundw
          case rel => exact ⟨j + 1, by go_num, by omega, by rw [HN.out, if_neg HE.out]; exact HO3.out, HB3.out⟩
          case measure => simp [intOf]; omega
      · have e : j = 512 := by omega
        have HO := Lib.hid hO
        have HB := Lib.hid hB
        have HE := Lib.hid e
        clear hO hB e
        go_wp2_with fail
        go_ret
        exact ⟨_, rfl, by rw [← HE.out]; exact HO.out, HB.out⟩
set_option maxRecDepth 100000 in
set_option maxHeartbeats 2000000 in
theorem same_yes (w : World) (v1 v2 : Value) (B1 B2 : Nat) (xs : List (Int × Int)) (h1 : Cw w B1 v1 xs) (h2 : Cw w B2 v2 xs) :
    Calls Try.prog 16 #[v1, v2] w fun e w' => e = .returned (.bool true) ∧ Below w.heap.size w w' := by
  obtain ⟨O1, p1, rfl, l1, m1, f1⟩ := h1.form
  obtain ⟨O2, p2, rfl, l2, m2, f2⟩ := h2.form
  have F1 := Lib.hid f1
  have F2 := Lib.hid f2
  have hlen : xs.length ≤ 9223372036854775807 := by unfold maxLen at m1; omega
  clear h1 h2 f1 f2 m1 m2
  go_enter Try.func16, Try.ntmps16
  go_wp2_with fail
  go_loopw [5] (fun i wr => ∃ k : Nat, i = .int .i64 k ∧ k ≤ xs.length ∧ Below w.heap.size w wr) (fun i _ => xs.length - (intOf i).toNat)
  case atStart => exact ⟨0, rfl, by omega, Below.refl _ _⟩
  case round =>
    obtain ⟨k, rfl, hk, hB⟩ := hrel
    have kc : ∀ (b o : Nat) (u : Value), w.cell? ⟨b, o, none⟩ = some u → wr.cell? ⟨b, o, none⟩ = some u := fun b o u h => (hB.cell (p := ⟨b, o, none⟩) (World.block_lt_of_cell? w ⟨b, o, none⟩ h)).trans h
    by_cases hlt : k < xs.length
    · obtain ⟨g1, rfl, d1⟩ := F1.out (by omega)
      obtain ⟨g2, rfl, d2⟩ := F2.out (by omega)
      have e1 := d1 k xs[k] (List.getElem?_eq_getElem hlt)
      have e2 := d2 k xs[k] (List.getElem?_eq_getElem hlt)
      obtain ⟨xa, xb⟩ := xs[k]
      have e11 := kc _ _ _ e1.1
      have e12 := kc _ _ _ e1.2
      have e21 := kc _ _ _ e2.1
      have e22 := kc _ _ _ e2.2
      have HB := Lib.hid hB
      clear d1 d2 e1 e2 kc hB
      go_wp2_with fail
      go_quiet (fail)
      go_wp2_with fail
      go_roundw
      case rel => exact ⟨k + 1, by go_num, by omega, bdN HB.out nq⟩
      case measure => simp [intOf]; omega
    · have HB := Lib.hid hB
      clear hB kc
      go_wp2_with fail
      go_ret
      exact ⟨rfl, HB.out⟩
end Go.Proofs.Ytlhbofgcgfbchaa
