/-
  A pool of frames (package frames) in the world; math/bits's two functions as numbers.
-/
import Derived.Test.YtiaebfccgolbgaaDoorCommon
import Derived.Test.YtiaebfccgolbgaaDoorArr
import Derived.RegionTactic
import Derived.Deep.QuietTactic
import Derived.BigQuiet
import Derived.Laws.Bits64
import Derived.Deep.Cut
namespace Go.Proofs.YtiaebfccgolbgaaDoor
open Go.RowKit
set_option linter.unusedVariables false
set_option linter.unusedSimpArgs false

/-- Block b of w begins with the cells cs. -/
def Has (w : World) (b : Nat) (cs : List Value) : Prop := b < w.heap.size ∧ ∀ i v, cs[i]? = some v → w.cell? ⟨b, i, none⟩ = some v
theorem Has.call {w w' : World} {b : Nat} {cs : List Value} (h : Has w b cs) (hb : Below w.heap.size w w') : Has w' b cs :=
  ⟨Nat.lt_of_lt_of_le h.1 hb.size, fun i v hi => (hb.cell (p := ⟨b, i, none⟩) h.1).trans (h.2 i v hi)⟩
/-- math/bits's table. -/
def tabN : List Int := [0, 1, 56, 2, 57, 49, 28, 3, 61, 58, 42, 50, 38, 29, 17, 4, 62, 47, 59, 36, 45, 43, 51, 22, 53, 39, 33, 30, 24, 18, 12, 5, 63, 55, 48, 27, 60, 41, 37, 16, 46, 35, 44, 21, 52, 32, 23, 11, 54, 26, 40, 15, 34, 20, 31, 10, 25, 14, 19, 9, 13, 8, 7, 6]
def tabL : List Value := tabN.map (Value.int .u8)
/-- The table is as its text lays it. -/
def G (w : World) : Prop := Has w 0 tabL
theorem G.call {w w' : World} (h : G w) (hb : Below w.heap.size w w') : G w' := Has.call h hb
/-- Where the table is asked. -/
def tzI (x : Int) : Int := IntKind.u64.wrap (bits .and .u64 x (IntKind.u64.wrap (-x)) * 285870213051353865) / 288230376151711744
/-- math/bits.TrailingZeros64 of a word that is not 0. -/
def tzV (x : Int) : Int := tabN.getD (tzI x).toNat 0
/-- math/bits.OnesCount64, step by step. -/
def pcV1 (x : Int) : Int := IntKind.u64.wrap (bits .and .u64 (x / 2) 6148914691236517205 + bits .and .u64 x 6148914691236517205)
def pcV2 (x : Int) : Int := IntKind.u64.wrap (bits .and .u64 (x / 4) 3689348814741910323 + bits .and .u64 x 3689348814741910323)
def pcV3 (x : Int) : Int := bits .and .u64 (IntKind.u64.wrap (x / 16 + x)) 1085102592571150095
theorem tzI_bd (x : Int) : 0 ≤ tzI x ∧ tzI x < 64 := by
  unfold tzI
  rw [IntKind.wrap_u64]
  omega
theorem tab_bd : ∀ i : Fin 64, 0 ≤ tabN.getD i.val 0 ∧ tabN.getD i.val 0 ≤ 63 := by decide
theorem tzV_bd (x : Int) : 0 ≤ tzV x ∧ tzV x ≤ 63 := by
  obtain ⟨a, b⟩ := tzI_bd x
  exact tab_bd ⟨(tzI x).toNat, by omega⟩
theorem tabN_len : tabN.length = 64 := rfl
theorem tab_cell (i : Nat) (hi : i < 64) : tabL[i]? = some (.int .u8 (tabN.getD i 0)) := by
  have hl : i < tabN.length := by rw [tabN_len]; exact hi
  unfold tabL
  rw [List.getElem?_map, List.getD_eq_getElem?_getD, List.getElem?_eq_getElem hl, Option.map_some, Option.getD_some]
theorem tz_at (x v i : Int) (w : World) (h0 : x ≠ 0) (hi : i = IntKind.u64.wrap (bits .and .u64 x (IntKind.u64.wrap (-x)) * 285870213051353865) / 288230376151711744) (b0 : 0 ≤ i) (b1 : i < 64) (v0 : 0 ≤ v) (v1 : v ≤ 63) (hc : w.cell? ⟨0, i.toNat, none⟩ = some (.int .u8 v)) :
    Calls Tryd.prog 9 #[.int .u64 x] w fun e w' => e = .returned (.int .i64 v) ∧ w = w' := by
  have n0 : (x == 0) = false := beq_eq_false_iff_ne.2 h0
  clear h0
  rw [hi] at b0 b1 hc
  clear hi
  go_enter Tryd.func9, Tryd.ntmps9
  go_wp2_with fail
  go_ret
  exact ⟨rfl, rfl⟩
theorem tz_any (x : Int) (w : World) (hG : G w) (hx : U64 x) (h0 : x ≠ 0) :
    Calls Tryd.prog 9 #[.int .u64 x] w fun e w' => e = .returned (.int .i64 (tzV x)) ∧ w = w' := by
  obtain ⟨b0, b1⟩ := tzI_bd x
  obtain ⟨v0, v1⟩ := tzV_bd x
  exact tz_at x (tzV x) (tzI x) w h0 rfl b0 b1 v0 v1 (hG.2 _ _ (tab_cell _ (by omega)))
def pcV4 (x : Int) : Int := IntKind.u64.wrap (x + x / 256)
def pcV5 (x : Int) : Int := IntKind.u64.wrap (x + x / 65536)
def pcV6 (x : Int) : Int := IntKind.u64.wrap (x + x / 4294967296)
def pcV (x : Int) : Int := bits .and .i64 (wrap64 (pcV6 (pcV5 (pcV4 (pcV3 (pcV2 (pcV1 x))))))) 127
theorem pcV1_bd (x : Int) : U64 (pcV1 x) := by unfold pcV1 U64; rw [IntKind.wrap_u64]; omega
theorem pcV2_bd (x : Int) : U64 (pcV2 x) := by unfold pcV2 U64; rw [IntKind.wrap_u64]; omega
theorem and_bd (a b : Int) (ha : U64 a) (hb : U64 b) : U64 (bits .and .u64 a b) := by
  obtain ⟨n, rfl, hn⟩ := u64_nat ha
  obtain ⟨m, rfl, hm⟩ := u64_nat hb
  rw [u64_and_nat n m hn hm]
  have := Nat.and_le_left (n := n) (m := m)
  exact ⟨by omega, by omega⟩
theorem pcV3_bd (x : Int) : U64 (pcV3 x) := and_bd _ _ (by unfold U64; rw [IntKind.wrap_u64]; omega) ⟨by omega, by omega⟩
theorem pcV4_bd (x : Int) : U64 (pcV4 x) := by unfold pcV4 U64; rw [IntKind.wrap_u64]; omega
theorem pcV5_bd (x : Int) : U64 (pcV5 x) := by unfold pcV5 U64; rw [IntKind.wrap_u64]; omega
theorem pcV6_bd (x : Int) : U64 (pcV6 x) := by unfold pcV6 U64; rw [IntKind.wrap_u64]; omega
/-- Outside the blocks of F, w' is as w was. -/
structure Keeps (F : Nat → Prop) (w w' : World) : Prop where
  os : w'.os = w.os
  tape : w'.tape = w.tape
  output : w'.output = w.output
  size : w.heap.size ≤ w'.heap.size
  block : ∀ k, k < w.heap.size → ¬ F k → w'.heap[k]? = w.heap[k]?
theorem Keeps.refl (F : Nat → Prop) (w : World) : Keeps F w w := ⟨rfl, rfl, rfl, Nat.le_refl _, fun _ _ _ => rfl⟩
theorem Keeps.trans {F G : Nat → Prop} {a b c : World} (h : Keeps F a b) (k : Keeps G b c) (hG : ∀ x, G x → F x ∨ a.heap.size ≤ x) : Keeps F a c :=
  ⟨k.os.trans h.os, k.tape.trans h.tape, k.output.trans h.output, Nat.le_trans h.size k.size, fun i hi hn =>
    (k.block i (Nat.lt_of_lt_of_le hi h.size) (fun hg => (hG i hg).elim hn (fun hle => by omega))).trans (h.block i hi hn)⟩
theorem Keeps.of_below {F : Nat → Prop} {w w' : World} (h : Below w.heap.size w w') : Keeps F w w' := ⟨h.os, h.tape, h.output, h.size, fun k hk _ => h.block k hk⟩
theorem Keeps.mono {F G : Nat → Prop} {w w' : World} (h : Keeps F w w') (hFG : ∀ x, F x → G x) : Keeps G w w' := ⟨h.os, h.tape, h.output, h.size, fun k hk hn => h.block k hk (fun hf => hn (hFG k hf))⟩
theorem Keeps.below {F : Nat → Prop} {w0 w w' : World} (h : Keeps F w w') (h0 : Below w0.heap.size w0 w) (hF : ∀ x, F x → w0.heap.size ≤ x) : Below w0.heap.size w0 w' :=
  ⟨h.os.trans h0.os, h.tape.trans h0.tape, h.output.trans h0.output, Nat.le_trans h0.size h.size, fun k hk => (h.block k (Nat.lt_of_lt_of_le hk h0.size) (fun hf => by have := hF k hf; omega)).trans (h0.block k hk)⟩
theorem Keeps.alloc {F : Nat → Prop} {a w : World} (h : Keeps F a w) (o : Obj) : Keeps F a (w.alloc o) :=
  h.trans (Keeps.of_below (F := fun _ => False) (ba (Below.refl _ _) o)) (fun _ hf => hf.elim)
theorem Keeps.drew {F : Nat → Prop} {a w : World} (h : Keeps F a w) : Keeps F a w.drew := ⟨h.os, h.tape, h.output, h.size, h.block⟩
theorem Keeps.cell {F : Nat → Prop} {w w' : World} (h : Keeps F w w') {b : Nat} (hb : b < w.heap.size) (hF : ¬ F b) (o : Nat) : w'.cell? ⟨b, o, none⟩ = w.cell? ⟨b, o, none⟩ :=
  World.cell?_of_block (h.block b hb hF)
theorem Keeps.setCell {F : Nat → Prop} {w : World} {p : Addr} (hp : F p.block) (u : Value) : Keeps F w (w.setCell p u) :=
  ⟨rfl, rfl, rfl, by simp, fun k _ hn => RowKit.Below.heap_setCell _ _ _ _ (fun e => hn (by rw [e]; exact hp))⟩
theorem Keeps.grown {F : Nat → Prop} {w w' : World} {b : Nat} (h : w.grownBy w' (some b)) (hb : F b) : Keeps F w w' :=
  ⟨h.os, h.tape, h.output, h.size, fun k hk hn => h.block k hk (fun e => hn (by injection e with e; rw [e]; exact hb))⟩

/-- Block g is just the cells cs of type t, none of them frozen. -/
def Bk (w : World) (g : Nat) (t : TypeId) (cs : Array Value) : Prop := w.heap[g]? = some (.cells cs t (0, 0))
section
variable {w w' : World} {g : Nat} {t : TypeId} {cs : Array Value}
theorem Bk.lt (h : Bk w g t cs) : g < w.heap.size := (Array.getElem?_eq_some_iff.1 h).1
theorem Bk.cell (h : Bk w g t cs) (i : Nat) : w.cell? ⟨g, i, none⟩ = cs[i]? := cell_of_row w g i cs t (0, 0) h
theorem Bk.frozen (h : Bk w g t cs) (i : Nat) : w.frozen? ⟨g, i, none⟩ = false := frozen_of_row w g i cs t h
theorem Bk.new (w : World) (t : TypeId) (cs : Array Value) : Bk (w.alloc (.cells cs t)) w.heap.size t cs := heap_alloc_new w _
theorem Bk.keep {F : Nat → Prop} (h : Bk w g t cs) (hk : Keeps F w w') (hg : ¬ F g) : Bk w' g t cs := (hk.block g h.lt hg).trans h
theorem Bk.call (h : Bk w g t cs) (hb : Below w.heap.size w w') : Bk w' g t cs := (hb.block g h.lt).trans h
theorem Bk.set (h : Bk w g t cs) (i : Nat) (u : Value) : Bk (w.setCell ⟨g, i, none⟩ u) g t (cs.setIfInBounds i u) := heap_setCell_same w g i cs t u h
end

theorem Bk.far {w : World} {g : Nat} {t : TypeId} {cs : Array Value} (h : Bk w g t cs) {p : Addr} (hp : g ≠ p.block) (u : Value) : Bk (w.setCell p u) g t cs :=
  (RowKit.Below.heap_setCell _ _ _ _ hp).trans h
def upd (g : Nat → Int) (i : Nat) (v : Int) : Nat → Int := fun j => if j = i then v else g j
theorem upd_same (g : Nat → Int) (i : Nat) (v : Int) : upd g i v i = v := by simp [upd]
theorem upd_other (g : Nat → Int) {i j : Nat} (v : Int) (h : j ≠ i) : upd g i v j = g j := by simp [upd, h]
/-- A pool's cells. -/
def poolC (n : Int) (ct : Nat → Int) (fr : Int) : Array Value := Array.ofFn (n := 66) fun i => if i.val = 0 then Value.int .i64 n else if i.val = 65 then Value.int .u64 fr else Value.int .i64 (ct (i.val - 1))
theorem poolC_n (n : Int) (ct : Nat → Int) (fr : Int) : (poolC n ct fr)[0]? = some (.int .i64 n) := by simp [poolC]
theorem poolC_ct (n : Int) (ct : Nat → Int) (fr : Int) {i : Nat} (hi : i < 64) : (poolC n ct fr)[1 + i]? = some (.int .i64 (ct i)) := by
  unfold poolC
  rw [Array.getElem?_ofFn, dif_pos (by omega)]
  simp only []
  rw [if_neg (by omega), if_neg (by omega), show 1 + i - 1 = i by omega]
theorem poolC_fr (n : Int) (ct : Nat → Int) (fr : Int) : (poolC n ct fr)[65]? = some (.int .u64 fr) := by simp [poolC]
theorem poolC_size (n : Int) (ct : Nat → Int) (fr : Int) : (poolC n ct fr).size = 66 := by simp [poolC]
theorem poolC_get (n : Int) (ct : Nat → Int) (fr : Int) (j : Nat) : (poolC n ct fr)[j]? = if j < 66 then some (if j = 0 then Value.int .i64 n else if j = 65 then Value.int .u64 fr else Value.int .i64 (ct (j - 1))) else none := by
  unfold poolC
  rw [Array.getElem?_ofFn]
  split
  · rfl
  · rfl
theorem poolC_setn (n m : Int) (ct : Nat → Int) (fr : Int) : (poolC n ct fr).setIfInBounds 0 (.int .i64 m) = poolC m ct fr := by
  apply Array.ext_getElem?
  intro j
  rw [Array.getElem?_setIfInBounds, poolC_size, poolC_get, poolC_get]
  by_cases e : 0 = j
  · subst e; simp
  · rw [if_neg e]
    have e' : j ≠ 0 := fun h => e h.symm
    simp [e']
theorem poolC_setc (n : Int) (ct : Nat → Int) (fr : Int) {i : Nat} (hi : i < 64) (v : Int) : (poolC n ct fr).setIfInBounds (1 + i) (.int .i64 v) = poolC n (upd ct i v) fr := by
  apply Array.ext_getElem?
  intro j
  rw [Array.getElem?_setIfInBounds, poolC_size, poolC_get, poolC_get]
  by_cases e : 1 + i = j
  · subst e
    rw [if_pos rfl, if_pos (by omega), if_pos (by omega), if_neg (by omega), if_neg (by omega), show 1 + i - 1 = i by omega, upd_same]
  · rw [if_neg e]
    by_cases h0 : j = 0
    · simp [h0]
    · by_cases h65 : j = 65
      · simp [h65]
      · rw [upd_other _ _ (show j - 1 ≠ i by omega)]
theorem poolC_setf (n : Int) (ct : Nat → Int) (fr v : Int) : (poolC n ct fr).setIfInBounds 65 (.int .u64 v) = poolC n ct v := by
  apply Array.ext_getElem?
  intro j
  rw [Array.getElem?_setIfInBounds, poolC_size, poolC_get, poolC_get]
  by_cases e : 65 = j
  · subst e; simp
  · rw [if_neg e]
    have e' : j ≠ 65 := fun h => e h.symm
    simp [e']
/-- The free frames of a new pool. -/
def fr0 (n : Nat) : Int := bits .andNot .u64 (18446744073709551615 / 2 ^ (64 - n)) 1
/-- A frame's bit struck, a frame's bit set. -/
def clrB (fr : Int) (k : Nat) : Int := bits .andNot .u64 fr (IntKind.u64.wrap (2 ^ k))
def setB (fr : Int) (k : Nat) : Int := bits .or .u64 fr (IntKind.u64.wrap (2 ^ k))
end Go.Proofs.YtiaebfccgolbgaaDoor
