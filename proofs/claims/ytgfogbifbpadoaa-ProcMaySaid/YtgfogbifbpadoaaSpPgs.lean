/-
  The pages of regions: the document's row, the iterator.
-/
import Derived.Test.YtgfogbifbpadoaaSpWhole
import Derived.Test.YtgfogbifbpadoaaKeep
import Derived.LoopTactic
import Derived.LoopN
import Derived.OwnWalk
import Derived.RangeFuncNested
import Derived.RangeFuncBound
import Derived.RangeFuncCalls
import Derived.RangeFuncLeaves
import Derived.Shelf.Abstract
import Derived.Shelf.RegionOpen
import Derived.OwnWalkIn
import Derived.TacticsInMore
import Derived.LoopNIn
import Derived.LoopIn
namespace Go.Proofs.Ytgfogbifbpadoaa
open Go.RowKit Go.Shelf
set_option linter.unusedVariables false
set_option linter.unusedSimpArgs false
def stretch (f : Int) (n : Nat) : List Int := (List.range n).map fun k : Nat => f + (k : Int)
theorem stretch_snoc (f : Int) (n : Nat) : stretch f (n + 1) = stretch f n ++ [f + n] := by simp [stretch, List.range_succ]
theorem stretch_len (f : Int) (n : Nat) : (stretch f n).length = n := by simp [stretch]
def pgL : List Reg → List Int
  | [] => []
  | r :: l => stretch r.f r.c.toNat ++ pgL l
theorem pgL_app (l m : List Reg) : pgL (l ++ m) = pgL l ++ pgL m := by
  induction l with
  | nil => rfl
  | cons r l ih => simp [pgL, ih]
theorem pgL_take {l : List Reg} {k : Nat} (h : k < l.length) : pgL (l.take (k + 1)) = pgL (l.take k) ++ stretch (rg l k).f (rg l k).c.toNat := by
  rw [List.take_add_one, rg_some h, Option.toList_some, pgL_app]
  simp [pgL]
theorem pgL_len : ∀ (l : List Reg) (a : Int), chainB a l = true → ((pgL l).length : Int) = pgs l
  | [], _, _ => rfl
  | r :: l, a, h => by
    simp only [chainB, Bool.and_eq_true, decide_eq_true_eq, eB_iff] at h
    have := pgL_len l _ h.2.2
    simp only [pgL, pgs, List.length_append, stretch_len]
    omega
def pagesL (l : List Reg) : List Int := if chk l then pgL l else []
theorem pagesL_len (l : List Reg) : (pagesL l).length ≤ 16 := by
  unfold pagesL
  split
  · rename_i h
    obtain ⟨-, h2, h3⟩ := chk_parts h
    have := pgL_len l 0 h2
    omega
  · simp
def encV (p : Int) : List Value := [.int .u64 p]
theorem encV_len (p : Int) : (encV p).length = 1 := rfl
theorem encV_one (p : Int) : ∀ u ∈ encV p, u.oneCell' = true := by simp [encV, Value.oneCell']
theorem infoU64 : (Try.prog.info? 33).map (fun i => (i.zero, i.size, i.bytes)) = some (some (.int .u64 0), 1, 8) := by kernel_rfl
theorem infoReg : (Try.prog.info? 79).map (fun i => (i.zero, i.size, i.bytes)) = some (some (.agg #[.int .u64 0, .int .i64 0, .bool false]), 3, 24) := by kernel_rfl
theorem pgL_take_len {l : List Reg} (h : chk l = true) (k m : Nat) (hk : k < l.length) (hm : m ≤ (rg l k).c.toNat) : (pgL (l.take k) ++ stretch (rg l k).f m).length ≤ 16 := by
  obtain ⟨-, h2, h3⟩ := chk_parts h
  have h4 := pgL_len l 0 h2
  have h5 : pgL l = pgL (l.take (k + 1)) ++ pgL (l.drop (k + 1)) := by rw [← pgL_app, List.take_append_drop]
  rw [pgL_take hk] at h5
  have h6 := congrArg List.length h5
  simp only [List.length_append, stretch_len] at h6 ⊢
  omega
set_option maxHeartbeats 2000000 in
theorem srclone_any (O : Option Addr) (len cap : Nat) (l : List Reg) (w : World) (hI : RegsK w O l) (hl : l.length = len) (hcap : len ≤ cap) (hm : len ≤ 1000) :
    Calls Try.prog 36 #[.slice O len cap] w fun e w' => ∃ v, e = .returned v ∧ Ow encG 3 79 w' w.heap.size v l ∧ Below w.heap.size w w' := by
  obtain ⟨i0, hi, hz0, hz1, hz2⟩ := info_parts infoReg
  have q22 : ∀ (w : World) (a : Option Addr) (n c n' c' : Nat), (binOp .eql 32 (.slice a n c) (.slice none n' c')).run Try.prog w = .ok (.bool a.isNone) w := fun w a n c n' c' => Lib.run_eql_slice_nil w _ _ a n c n' c' Try.underlying32
  subst hl
  rcases O with _ | a
  · have hx0 : l = [] := by
      cases l with
      | nil => rfl
      | cons x xs => obtain ⟨b, off, e, -⟩ := hI (by simp); cases e
    subst hx0
    go_enter Try.func36, Try.ntmps36
    go_wp2_with fail
    go_ret
    exact ⟨_, rfl, Ow.nil _ _ _, Below.refl _ _⟩
  · have HR := Lib.hid hI.rk
    clear hI
    go_enter Try.func36, Try.ntmps36
    go_wp2_with (at_builtin; refine wp_app (enc := encG) (k := 3) rfl _ _ 32 rfl w.heap.size 79 i0 _ 24 Try.underlying32 hi hz0 hz1 hz2 rfl (by decide) encG_len encG_one _ [] rfl ?c1 l _ l.length cap rfl rfl ?c2 (by simp; omega) (by decide) w ?c3 (Nat.le_refl _) ?_)
    case c1 => exact World.ownsRow_made w #[] 0 (Nat.le_refl _) (Nat.zero_le _) (by simp)
    case c2 => exact HR.out.call (ba (Below.refl _ _) _)
    case c3 => exact ba (Below.refl _ _) _
    intro v' w1 hown hb
    go_wp2_with fail
    go_ret
    exact ⟨v', rfl, by simpa using hown, hb⟩
/-- The regions that the iterator goes over. -/
def ownL (l : List Reg) : List Reg := if chk l then l else []
theorem ownL_pages (l : List Reg) : pgL (ownL l) = pagesL l := by unfold ownL pagesL; split <;> rfl
/-- The iterator's box. -/
def Bx (w : World) (R : Nat) (l : List Reg) : Prop := ∃ O cap, Arr w R [.slice O l.length cap] ∧ RK encG 3 w O l ∧ l.length ≤ cap
theorem Bx.call {w w' : World} {R : Nat} {l : List Reg} (h : Bx w R l) (hb : Below w.heap.size w w') : Bx w' R l := by
  obtain ⟨O, cap, h1, h2, h3⟩ := h
  exact ⟨O, cap, h1.call hb, h2.call hb, h3⟩
/-- What a round keeps: all below n0, and every row of cells from n1 on. -/
def KpC (n0 n1 : Nat) (X Y : World) : Prop := Below n0 X Y ∧ ∀ (k : Nat) (o : Obj), n1 ≤ k → X.heap[k]? = some o → o.isCells = true → Y.heap[k]? = some o
theorem KpC.refl (n0 n1 : Nat) (X : World) : KpC n0 n1 X X := ⟨Below.refl _ _, fun _ _ _ h _ => h⟩
theorem KpC.trans {n0 n1 : Nat} {X Y Z : World} (h : KpC n0 n1 X Y) (k : KpC n0 n1 Y Z) : KpC n0 n1 X Z := ⟨h.1.trans k.1, fun i o h1 h2 h3 => k.2 i o h1 (h.2 i o h1 h2 h3) h3⟩
theorem KpC.putObj {n0 n1 : Nat} {w : World} (hn : n0 ≤ w.heap.size) (W : World) (l : Nat) (o o' : Obj) (hl : w.heap.size ≤ l) (h : W.heap[l]? = some o) (h1 : o.isCells = false) (h2 : o.isWalk = false) : KpC n0 n1 W (W.putObj l o') := by
  refine ⟨belowK_b hn W l o o' hl h h1 h2, fun k ob hk hob hc => ?_⟩
  have : k ≠ l := fun e => by rw [e, h] at hob; cases hob; rw [h1] at hc; cases hc
  exact (World.putObj_heap_other this).trans hob
theorem KpC.setCell {n0 n1 : Nat} (W : World) {p : Addr} (v : Value) (h0 : n0 ≤ p.block) (h1 : p.block < n1) : KpC n0 n1 W (W.setCell p v) :=
  ⟨(Below.refl _ W).setCell h0 v, fun k ob hk hob hc => (RowKit.Below.heap_setCell _ _ _ _ (by omega)).trans hob⟩
theorem grow_alloc (w : World) (o : Obj) : w.grownBy (w.alloc o) none := ⟨rfl, rfl, rfl, by simp, fun k hk _ => RowKit.Below.heap_alloc w o k hk⟩
theorem grow_below {w w' : World} (h : Below w.heap.size w w') : w.grownBy w' none := ⟨h.os, h.tape, h.output, h.size, fun k hk _ => h.block k hk⟩
theorem stretch_pref (f : Int) {m n : Nat} (h : m ≤ n) : stretch f m <+: stretch f n := by
  refine ⟨(stretch f n).drop m, ?_⟩
  have : stretch f m = (stretch f n).take m := by
    unfold stretch
    rw [← List.map_take, List.take_range, Nat.min_eq_left h]
  rw [this, List.take_append_drop]
theorem pgL_part {l : List Reg} {k m : Nat} (hk : k < l.length) (hm : m ≤ (rg l k).c.toNat) : (pgL (l.take k) ++ stretch (rg l k).f m) <+: pgL l := by
  have h1 : pgL (l.take (k + 1)) <+: pgL l := ⟨pgL (l.drop (k + 1)), by rw [← pgL_app, List.take_append_drop]⟩
  rw [pgL_take hk] at h1
  exact ((List.prefix_append_right_inj _).2 (stretch_pref _ hm)).trans h1
def encU (p : Int) : Array Value := #[.int .u64 p]
end Go.Proofs.Ytgfogbifbpadoaa
