/-
  The pages of regions: the document's row, the iterator.
-/
import Derived.Test.YtaikkdlphfmgiaaSpWhole
import Derived.Test.YtaikkdlphfmgiaaKeep
import Derived.LoopTactic
import Derived.LoopN
import Derived.OwnWalk
import Derived.RangeFuncNested
import Derived.RangeFuncBound
import Derived.RangeFuncCalls
import Derived.RangeFuncLeaves
import Derived.Shelf.Abstract
import Derived.Shelf.RegionOpen
import Derived.OwnWalkIn
import Derived.TacticsInMore
import Derived.LoopNIn
import Derived.LoopIn
namespace Go.Proofs.Ytaikkdlphfmgiaa
open Go.RowKit Go.Shelf
set_option linter.unusedVariables false
set_option linter.unusedSimpArgs false
def stretch (f : Int) (n : Nat) : List Int := (List.range n).map fun k : Nat => f + (k : Int)
theorem stretch_snoc (f : Int) (n : Nat) : stretch f (n + 1) = stretch f n ++ [f + n] := by simp [stretch, List.range_succ]
theorem stretch_len (f : Int) (n : Nat) : (stretch f n).length = n := by simp [stretch]
def pgL : List Reg → List Int
  | [] => []
  | r :: l => stretch r.f r.c.toNat ++ pgL l
theorem pgL_app (l m : List Reg) : pgL (l ++ m) = pgL l ++ pgL m := by
  induction l with
  | nil => rfl
  | cons r l ih => simp [pgL, ih]
theorem pgL_take {l : List Reg} {k : Nat} (h : k < l.length) : pgL (l.take (k + 1)) = pgL (l.take k) ++ stretch (rg l k).f (rg l k).c.toNat := by
  rw [List.take_add_one, rg_some h, Option.toList_some, pgL_app]
  simp [pgL]
theorem pgL_len : ∀ (l : List Reg) (a : Int), chainB a l = true → ((pgL l).length : Int) = pgs l
  | [], _, _ => rfl
  | r :: l, a, h => by
    simp only [chainB, Bool.and_eq_true, decide_eq_true_eq, eB_iff] at h
    have := pgL_len l _ h.2.2
    simp only [pgL, pgs, List.length_append, stretch_len]
    omega
def pagesL (l : List Reg) : List Int := if chk l then pgL l else []
theorem pagesL_len (l : List Reg) : (pagesL l).length ≤ 16 := by
  unfold pagesL
  split
  · rename_i h
    obtain ⟨-, h2, h3⟩ := chk_parts h
    have := pgL_len l 0 h2
    omega
  · simp
def encV (p : Int) : List Value := [.int .u64 p]
theorem encV_len (p : Int) : (encV p).length = 1 := rfl
theorem encV_one (p : Int) : ∀ u ∈ encV p, u.oneCell' = true := by simp [encV, Value.oneCell']
theorem infoU64 : (Try.prog.info? 23).map (fun i => (i.zero, i.size, i.bytes)) = some (some (.int .u64 0), 1, 8) := by kernel_rfl
theorem infoReg : (Try.prog.info? 25).map (fun i => (i.zero, i.size, i.bytes)) = some (some (.agg #[.int .u64 0, .int .i64 0, .bool false]), 3, 24) := by kernel_rfl
theorem pgL_take_len {l : List Reg} (h : chk l = true) (k m : Nat) (hk : k < l.length) (hm : m ≤ (rg l k).c.toNat) : (pgL (l.take k) ++ stretch (rg l k).f m).length ≤ 16 := by
  obtain ⟨-, h2, h3⟩ := chk_parts h
  have h4 := pgL_len l 0 h2
  have h5 : pgL l = pgL (l.take (k + 1)) ++ pgL (l.drop (k + 1)) := by rw [← pgL_app, List.take_append_drop]
  rw [pgL_take hk] at h5
  have h6 := congrArg List.length h5
  simp only [List.length_append, stretch_len] at h6 ⊢
  omega
set_option maxHeartbeats 4000000 in
/-- The document's pages. -/
theorem r19Pages_any (O : Option Addr) (len cap : Nat) (l : List Reg) (w : World) (hI : RegsK w O l) (hl : l.length = len) (hcap : len ≤ cap) (hm : len ≤ 1000) (hwf : ∀ i, i < len → (rg l i).wf) :
    Calls Try.prog 23 #[.slice O len cap] w fun e w' => ∃ v, e = .returned v ∧ Ow encV 1 23 w' w.heap.size v (pagesL l) ∧ Below w.heap.size w w' := by
  obtain ⟨i0, hi, hz0, hz1, hz2⟩ := info_parts infoU64
  have HI := Lib.hid hI
  have HL := Lib.hid hl
  have HW := Lib.hid hwf
  clear hI hl hwf
  rcases hc : chk l with _ | _
  · rw [show pagesL l = [] by simp [pagesL, hc]]
    have HV := Lib.hid (ck_no' hc)
    clear hc
    by_cases h0 : 0 < len
    · go_enter Try.func23, Try.ntmps23
      go_wp2_with fail
      go_loopw [3, 4] (fun v i wr => v = .slice none 0 0 ∧ i = .int .i64 0 ∧ wr = w) (fun _ _ _ => 0)
      case atStart => exact ⟨rfl, rfl, rfl⟩
      case round =>
        obtain ⟨rfl, rfl, rfl⟩ := hrel
        go_wp2_with fail
        refine (r19Check_any O len cap l _ HI.out HL.out hcap HW.out).mono ?_
        rintro e w1 ⟨rfl, hb1⟩
        rw [HV.out]
        go_wp2_with fail
        go_ret
        exact ⟨_, rfl, Ow.nil _ _ _, hb1⟩
    · obtain rfl : len = 0 := by omega
      go_enter Try.func23, Try.ntmps23
      go_wp2_with fail
      go_loopw [3, 4] (fun v i wr => v = .slice none 0 0 ∧ i = .int .i64 0 ∧ wr = w) (fun _ _ _ => 0)
      case atStart => exact ⟨rfl, rfl, rfl⟩
      case round =>
        obtain ⟨rfl, rfl, rfl⟩ := hrel
        go_wp2_with fail
        go_ret
        exact ⟨_, rfl, Ow.nil _ _ _, Below.refl _ _⟩
  · rw [show pagesL l = pgL l by simp [pagesL, hc]]
    have HV := Lib.hid (ck_yes hc)
    have HC := Lib.hid hc
    have HCH := Lib.hid (chk_parts hc).2.1
    clear hc
    go_enter Try.func23, Try.ntmps23
    go_wp2_with fail
    go_loopw [3, 4] (fun v i wr => ∃ k : Nat, i = .int .i64 k ∧ k ≤ len ∧ Ow encV 1 23 wr w.heap.size v (pgL (l.take k)) ∧ Below w.heap.size w wr) (fun _ i _ => len - (intOf i).toNat)
    case atStart => exact ⟨0, rfl, by omega, Ow.nil _ _ _, Below.refl _ _⟩
    case round =>
      obtain ⟨k, rfl, hk, hO, hB⟩ := hrel
      have HO := Lib.hid hO
      have HB := Lib.hid hB
      clear hO hB
      by_cases hlt : k < len
      · go_wp2_with fail
        refine (r19Check_any O len cap l _ (HI.out.call HB.out) HL.out hcap HW.out).mono ?_
        rintro e w1 ⟨rfl, hb1⟩
        rw [HV.out]
        have HO1 := Lib.hid (HO.out.call hb1)
        have HB1 := Lib.hid (bthen HB.out hb1)
        clear hb1 HO HB
        go_wp2_with fail
        have hkl : k < l.length := by have := HL.out; omega
        obtain ⟨q0, q1, q2, q3⟩ := chain_at l 0 HCH.out k hkl
        have HT := Lib.hid (pgL_take hkl)
        have HTL := Lib.hid (fun m => pgL_take_len HC.out k m hkl)
        clear hkl
        obtain ⟨c, hcn⟩ := Int.eq_ofNat_of_zero_le (show 0 ≤ (rg l k).c by omega)
        have HCN := Lib.hid hcn
        rw [hcn] at q1 q2 q3
        clear hcn
        go_loopw [3, 5] (fun v i wr => ∃ m : Nat, i = .int .i64 m ∧ m ≤ c ∧ Ow encV 1 23 wr w.heap.size v (pgL (l.take k) ++ stretch (rg l k).f m) ∧ Below w.heap.size w wr) (fun _ i _ => c - (intOf i).toNat)
        case atStart => exact ⟨0, rfl, by omega, by simpa [stretch] using HO1.out, HB1.out⟩
        case round =>
          clear HO1 HB1
          obtain ⟨m, rfl, hmc, hO, hB⟩ := hrel
          obtain ⟨b, off, rfl, hcell⟩ := (HI.out.call hB) (by have := HL.out; omega)
          obtain ⟨d0, d1, d2⟩ := hcell k (by have := HL.out; omega)
          rw [HCN.out] at d1
          have HO := Lib.hid hO
          have HB := Lib.hid hB
          have HN0 := Lib.hid (HTL.out m (by rw [HCN.out]; omega))
          clear hO hB hcell d2
          generalize (rg l k).f = f at *
          by_cases hlt2 : m < c
          · have HOA := Lib.hid (HO.out.call (ba (Below.refl _ _) (.cells #[.int .u64 (f + m)] 23)))
            have HBA := Lib.hid (ba HB.out (.cells #[.int .u64 (f + m)] 23))
            have HN := Lib.hid (show ∀ (j : Nat) (u : Value), (encV (f + m))[j]? = some u → (wr.alloc (.cells #[.int .u64 (f + m)] 23)).cell? ⟨wr.heap.size, j, none⟩ = some u from fun j u hu => (Arr.new wr #[.int .u64 (f + m)] 23).cell j u hu)
            go_wp2_with (at_builtin; refine wp_snoc (enc := encV) rfl _ _ 41 rfl w.heap.size 23 i0 _ 8 Try.underlying41 hi hz0 hz1 hz2 rfl (by decide) encV_len _ _ rfl HOA.out (f + m) wr.heap.size rfl HN.out (encV_one _) (Nat.le_trans HN0.out (by decide)) (by decide) w HBA.out (Nat.le_refl _) ?_; intro v' w' o1 o2; have HO2 := Lib.hid o1; have HB2 := Lib.hid o2; clear o1 o2)
            go_roundw
            case rel => exact ⟨m + 1, by go_num, by omega, by rw [stretch_snoc, ← List.append_assoc]; exact HO2.out, HB2.out⟩
            case measure => simp [intOf]; omega
          · obtain rfl : m = c := by omega
            go_wp2_with fail
            go_roundw
            case rel => exact ⟨k + 1, by go_num, by omega, by rw [HT.out, HCN.out]; exact HO.out, HB.out⟩
            case measure => simp [intOf]; omega
      · obtain rfl : k = len := by omega
        have HT := Lib.hid (show l.take k = l by rw [← HL.out, List.take_length])
        go_wp2_with fail
        go_ret
        exact ⟨_, rfl, by have := HO.out; rwa [HT.out] at this, HB.out⟩
set_option maxHeartbeats 2000000 in
theorem srclone_any (O : Option Addr) (len cap : Nat) (l : List Reg) (w : World) (hI : RegsK w O l) (hl : l.length = len) (hcap : len ≤ cap) (hm : len ≤ 1000) :
    Calls Try.prog 29 #[.slice O len cap] w fun e w' => ∃ v, e = .returned v ∧ Ow encG 3 25 w' w.heap.size v l ∧ Below w.heap.size w w' := by
  obtain ⟨i0, hi, hz0, hz1, hz2⟩ := info_parts infoReg
  have q22 : ∀ (w : World) (a : Option Addr) (n c n' c' : Nat), (binOp .eql 22 (.slice a n c) (.slice none n' c')).run Try.prog w = .ok (.bool a.isNone) w := fun w a n c n' c' => Lib.run_eql_slice_nil w _ _ a n c n' c' Try.underlying22
  subst hl
  rcases O with _ | a
  · have hx0 : l = [] := by
      cases l with
      | nil => rfl
      | cons x xs => obtain ⟨b, off, e, -⟩ := hI (by simp); cases e
    subst hx0
    go_enter Try.func29, Try.ntmps29
    go_wp2_with fail
    go_ret
    exact ⟨_, rfl, Ow.nil _ _ _, Below.refl _ _⟩
  · have HR := Lib.hid hI.rk
    clear hI
    go_enter Try.func29, Try.ntmps29
    go_wp2_with (at_builtin; refine wp_app (enc := encG) (k := 3) rfl _ _ 22 rfl w.heap.size 25 i0 _ 24 Try.underlying22 hi hz0 hz1 hz2 rfl (by decide) encG_len encG_one _ [] rfl ?c1 l _ l.length cap rfl rfl ?c2 (by simp; omega) (by decide) w ?c3 (Nat.le_refl _) ?_)
    case c1 => exact World.ownsRow_made w #[] 0 (Nat.le_refl _) (Nat.zero_le _) (by simp)
    case c2 => exact HR.out.call (ba (Below.refl _ _) _)
    case c3 => exact ba (Below.refl _ _) _
    intro v' w1 hown hb
    go_wp2_with fail
    go_ret
    exact ⟨v', rfl, by simpa using hown, hb⟩
/-- The regions that the iterator goes over. -/
def ownL (l : List Reg) : List Reg := if chk l then l else []
theorem ownL_pages (l : List Reg) : pgL (ownL l) = pagesL l := by unfold ownL pagesL; split <;> rfl
/-- The iterator's box. -/
def Bx (w : World) (R : Nat) (l : List Reg) : Prop := ∃ O cap, Arr w R [.slice O l.length cap] ∧ RK encG 3 w O l ∧ l.length ≤ cap
theorem Bx.call {w w' : World} {R : Nat} {l : List Reg} (h : Bx w R l) (hb : Below w.heap.size w w') : Bx w' R l := by
  obtain ⟨O, cap, h1, h2, h3⟩ := h
  exact ⟨O, cap, h1.call hb, h2.call hb, h3⟩
set_option maxHeartbeats 2000000 in
theorem spPagesS_any (O : Option Addr) (len cap : Nat) (l : List Reg) (w : World) (hI : RegsK w O l) (hl : l.length = len) (hcap : len ≤ cap) (hm : len ≤ 1000) (hwf : ∀ i, i < len → (rg l i).wf) :
    Calls Try.prog 24 #[.slice O len cap] w fun e w' => ∃ R, e = .returned (.func (.func 36) #[] #[.pointer (some ⟨R, 0, none⟩)]) ∧ Bx w' R (ownL l) ∧ w.heap.size ≤ R ∧ Below w.heap.size w w' := by
  have HI := Lib.hid hI
  have HL := Lib.hid hl
  have HW := Lib.hid hwf
  clear hI hl hwf
  have HA := Lib.hid (Arr.new w #[.slice none 0 0] 22)
  have HB := Lib.hid (ba (Below.refl w.heap.size w) (.cells #[.slice none 0 0] 22))
  rcases hc : chk l with _ | _
  · rw [show ownL l = [] by simp [ownL, hc]]
    have HV := Lib.hid (ck_no' hc)
    clear hc
    go_enter Try.func24, Try.ntmps24
    go_wp2_with fail
    refine (spCheck_any O len cap l _ (HI.out.call HB.out) HL.out hcap HW.out).mono ?_
    rintro e w1 ⟨rfl, hb1⟩
    rw [HV.out]
    go_wp2_with fail
    go_ret
    exact ⟨_, rfl, ⟨none, 0, HA.out.call hb1, fun h => by simp at h, Nat.le_refl _⟩, Nat.le_refl _, bthen HB.out hb1⟩
  · rw [show ownL l = l by simp [ownL, hc]]
    have HV := Lib.hid (ck_yes hc)
    clear hc
    go_enter Try.func24, Try.ntmps24
    go_wp2_with fail
    refine (spCheck_any O len cap l _ (HI.out.call HB.out) HL.out hcap HW.out).mono ?_
    rintro e w1 ⟨rfl, hb1⟩
    rw [HV.out]
    have HB1 := Lib.hid (bthen HB.out hb1)
    have HA1 := Lib.hid (HA.out.call hb1)
    clear hb1
    go_wp2_with fail
    refine (srclone_any O len cap l _ (HI.out.call HB1.out) HL.out hcap hm).mono ?_
    rintro e w2 ⟨v, rfl, ho, hb2⟩
    obtain ⟨O2, cap2, rfl, h1, h2, h3⟩ := ho.form encG_len
    have HB2 := Lib.hid (bthen HB1.out hb2)
    have hA2 := HA1.out.call hb2
    have hRW := h3.call (ba (Below.refl _ _) (.cells #[] 0))
    have f0 := hA2.frozen 0 (by simp)
    have c0 := hA2.cell 0 _ rfl
    have hlt : w.heap.size < w1.heap.size := HA1.out.lt
    have hO2 := ho.lt
    go_wp2_with fail
    go_ret
    refine ⟨_, rfl, ⟨O2, cap2, hA2.set 0 (by simp) _, ?_, h1⟩, Nat.le_refl _, bs HB2.out (Nat.le_refl _) _⟩
    intro h0
    obtain ⟨b, off, e, hcell⟩ := h3 h0
    refine ⟨b, off, e, fun i x hx j u hu => ?_⟩
    subst e
    have hbk := (hO2 b rfl).1
    rw [World.cell?_of_block (RowKit.Below.heap_setCell _ _ _ _ (by show b ≠ w.heap.size; omega))]
    exact hcell i x hx j u hu
/-- What a round keeps: all below n0, and every row of cells from n1 on. -/
def KpC (n0 n1 : Nat) (X Y : World) : Prop := Below n0 X Y ∧ ∀ (k : Nat) (o : Obj), n1 ≤ k → X.heap[k]? = some o → o.isCells = true → Y.heap[k]? = some o
theorem KpC.refl (n0 n1 : Nat) (X : World) : KpC n0 n1 X X := ⟨Below.refl _ _, fun _ _ _ h _ => h⟩
theorem KpC.trans {n0 n1 : Nat} {X Y Z : World} (h : KpC n0 n1 X Y) (k : KpC n0 n1 Y Z) : KpC n0 n1 X Z := ⟨h.1.trans k.1, fun i o h1 h2 h3 => k.2 i o h1 (h.2 i o h1 h2 h3) h3⟩
theorem KpC.putObj {n0 n1 : Nat} {w : World} (hn : n0 ≤ w.heap.size) (W : World) (l : Nat) (o o' : Obj) (hl : w.heap.size ≤ l) (h : W.heap[l]? = some o) (h1 : o.isCells = false) (h2 : o.isWalk = false) : KpC n0 n1 W (W.putObj l o') := by
  refine ⟨belowK_b hn W l o o' hl h h1 h2, fun k ob hk hob hc => ?_⟩
  have : k ≠ l := fun e => by rw [e, h] at hob; cases hob; rw [h1] at hc; cases hc
  exact (World.putObj_heap_other this).trans hob
theorem KpC.setCell {n0 n1 : Nat} (W : World) {p : Addr} (v : Value) (h0 : n0 ≤ p.block) (h1 : p.block < n1) : KpC n0 n1 W (W.setCell p v) :=
  ⟨(Below.refl _ W).setCell h0 v, fun k ob hk hob hc => (RowKit.Below.heap_setCell _ _ _ _ (by omega)).trans hob⟩
theorem grow_alloc (w : World) (o : Obj) : w.grownBy (w.alloc o) none := ⟨rfl, rfl, rfl, by simp, fun k hk _ => RowKit.Below.heap_alloc w o k hk⟩
theorem grow_below {w w' : World} (h : Below w.heap.size w w') : w.grownBy w' none := ⟨h.os, h.tape, h.output, h.size, fun k hk _ => h.block k hk⟩
theorem stretch_pref (f : Int) {m n : Nat} (h : m ≤ n) : stretch f m <+: stretch f n := by
  refine ⟨(stretch f n).drop m, ?_⟩
  have : stretch f m = (stretch f n).take m := by
    unfold stretch
    rw [← List.map_take, List.take_range, Nat.min_eq_left h]
  rw [this, List.take_append_drop]
theorem pgL_part {l : List Reg} {k m : Nat} (hk : k < l.length) (hm : m ≤ (rg l k).c.toNat) : (pgL (l.take k) ++ stretch (rg l k).f m) <+: pgL l := by
  have h1 : pgL (l.take (k + 1)) <+: pgL l := ⟨pgL (l.drop (k + 1)), by rw [← pgL_app, List.take_append_drop]⟩
  rw [pgL_take hk] at h1
  exact ((List.prefix_append_right_inj _).2 (stretch_pref _ hm)).trans h1
def encU (p : Int) : Array Value := #[.int .u64 p]
set_option maxRecDepth 100000 in
set_option maxHeartbeats 4000000 in
theorem pgs1_in (n : Nat) (hn : 1 ≤ n) (yl R : Nat) (l : List Reg) (W2 w0 : World) (hR : Bx W2 R l) (hlen : l.length ≤ 8) (hch : chainB 0 l = true) (hB0 : Below W2.heap.size W2 w0) (J Jx : List Int → World → Prop)
    (W : World) (hW : Below w0.heap.size w0 W) (hJ : AbidesFrom W.heap.size J)
    (hY : ∀ pre k W1, J pre W1 → pre.length < (pgL l).length → YieldAt Fence.wide (n - 1) Try.prog yl (encU k) W1 fun e W' =>
      (e = .returned (.bool true) ∧ J (pre ++ [k]) W' ∧ KpC W2.heap.size w0.heap.size W1 W') ∨ (e = .returned (.bool false) ∧ Jx (pre ++ [k]) W')) (h0 : J [] W) :
    CallsIn Fence.wide n Try.prog 36 #[.func (.yield yl) #[] #[], .pointer (some ⟨R, 0, none⟩)] W fun e W' => (∃ v, e = .returned v) ∧
      ((∃ ys, ys = pgL l ∧ J ys W') ∨ (∃ pre, pre <+: pgL l ∧ Jx pre W')) := by
  obtain ⟨O, cap, hA, hRK, hcap⟩ := hR
  have hBW := hB0.trans (hW.mono hB0.size)
  have u0 := (hA.call hBW).cell 0 _ rfl
  have HCH := Lib.hid hch
  have HRK := Lib.hid hRK
  have HWs := Lib.hid hW.size
  have HJ := Lib.hid hJ
  have HY := Lib.hid hY
  clear hA hch hW hRK hB0 hJ hY
  refine callsIn_of_wp Try.func36 rfl trivial ?_ rfl
  simp only [Try.ntmps36, List.size_toArray, List.length_cons, List.length_nil, Nat.reduceAdd, Nat.reduceSub, Array.replicate_succ, Array.replicate_zero, List.push_toArray, List.append_toArray, List.nil_append, List.cons_append]
  gi_wp2
  clear u0
  gi_loopw [8] (fun i wr => ∃ k : Nat, k ≤ l.length ∧ i = .int .i64 k ∧ J (pgL (l.take k)) wr ∧ Below W2.heap.size W2 wr ∧ W.heap.size ≤ wr.heap.size) (fun i _ => l.length - (intOf i).toNat)
  case atStart => exact ⟨0, Nat.zero_le _, rfl, h0, hBW, Nat.le_refl _⟩
  case round =>
    clear hBW h0
    obtain ⟨k, hk, rfl, hJs, hB, hsz⟩ := hrel
    by_cases hlt : k < l.length
    · obtain ⟨b, off, rfl, hcell⟩ := (RK.regs (HRK.out.call hB)) (by omega)
      obtain ⟨d0, d1, d2⟩ := hcell k hlt
      obtain ⟨q0, q1, q2, q3⟩ := chain_at l 0 HCH.out k hlt
      have HT := Lib.hid (pgL_take hlt)
      have HPT := Lib.hid (fun m (hm : m ≤ (rg l k).c.toNat) => pgL_part hlt hm)
      generalize hr : rg l k = r at *
      obtain ⟨rf, rc, rw'⟩ := r
      simp only at d0 d1 d2 q0 q1 q2 q3
      obtain ⟨c, rfl⟩ := Int.eq_ofNat_of_zero_le (show 0 ≤ rc by omega)
      have HK := Lib.hid (show Bk (wr.alloc (.cells #[.int .u64 rf, .int .i64 c, .bool rw'] 25)) wr.heap.size 25 #[.int .u64 rf, .int .i64 c, .bool rw'] from Bk.new _ _ _)
      have HJ1 := Lib.hid (HJ.out _ _ _ none hJs (grow_alloc wr (.cells #[.int .u64 rf, .int .i64 c, .bool rw'] 25)) (fun r e => by cases e))
      have HB1 := Lib.hid (hB.alloc (o := .cells #[.int .u64 rf, .int .i64 c, .bool rw'] 25) hB.size)
      have HSZ1 := Lib.hid (show W.heap.size ≤ (wr.alloc (.cells #[.int .u64 rf, .int .i64 c, .bool rw'] 25)).heap.size by simp; omega)
      have HRB := Lib.hid (show w0.heap.size ≤ wr.heap.size by have := HWs.out; omega)
      clear hJs hB hsz hcell hr
      gi_wp2
      generalize wr.alloc (.cells #[.int .u64 rf, .int .i64 c, .bool rw'] 25) = wa at *
      generalize wr.heap.size = Rb at *
      clear d0 d1 d2
      gi_loopw [5] (fun i wr => ∃ m : Nat, m ≤ c ∧ i = .int .u64 (rf + m) ∧ J (pgL (l.take k) ++ stretch rf m) wr ∧ Bk wr Rb 25 #[.int .u64 rf, .int .i64 c, .bool rw'] ∧ Below W2.heap.size W2 wr ∧ W.heap.size ≤ wr.heap.size) (fun i _ => (rf + c - intOf i).toNat)
      case atStart => exact ⟨0, by omega, by simp, by simpa [stretch] using HJ1.out, HK.out, HB1.out, HSZ1.out⟩
      case round =>
        clear HJ1 HK HB1 HSZ1
        obtain ⟨m, hm, rfl, hJs, hK, hB, hsz⟩ := hrel
        have e0 := hK.cell 0
        have e1 := hK.cell 1
        have e2 := hK.cell 2
        simp only [List.getElem?_toArray, List.getElem?_cons_zero, List.getElem?_cons_succ] at e0 e1 e2
        have HJs := Lib.hid hJs
        have HK := Lib.hid hK
        have HB := Lib.hid hB
        have HSZ := Lib.hid hsz
        clear hJs hK hB hsz
        gi_wp2
        refine ⟨trivial, callsIn_wide.2 ((spBehind_any rf c rw' _ q0 q1 (by omega)).mono ?_)⟩
        rintro e w1 ⟨rfl, hb1⟩
        have HJ1 := Lib.hid (HJ.out _ _ _ none HJs.out (grow_below hb1) (fun r e => by cases e))
        have HK1 := Lib.hid (HK.out.call hb1)
        have HB1 := Lib.hid (bthen HB.out hb1)
        have HSZ1 := Lib.hid (Nat.le_trans HSZ.out hb1.size)
        clear hb1 HJs HK HB HSZ e0 e1 e2
        by_cases hlt2 : m < c
        · have hpl : (pgL (l.take k) ++ stretch rf m).length < (pgL l).length := by
            have h1 := (HPT.out (m + 1) (by simp; omega)).length_le
            simp only [stretch_snoc, ← List.append_assoc, List.length_append, List.length_cons, List.length_nil] at h1 ⊢
            omega
          obtain ⟨fn, tmps, assign, body, hy, hRd⟩ := HY.out _ (rf + m) _ HJ1.out hpl
          dsimp only [encU] at hy
          gi_wp2
          refine hRd.mono ?_
          rintro e W3 (⟨rfl, hJ3, hk3⟩ | ⟨rfl, hJx3⟩)
          · gi_wp2
            go_roundw
            case rel => exact ⟨m + 1, by omega, by go_num, by rw [stretch_snoc, ← List.append_assoc]; exact hJ3, hk3.2 _ _ HRB.out HK1.out rfl, HB1.out.trans hk3.1, by have := hk3.1.size; have := HSZ1.out; omega⟩
            case measure => simp [intOf]; omega
          · gi_wp2
            refine bodyPost_ret (results_none rfl _ _ _) rfl ?_
            exact ⟨⟨_, rfl⟩, .inr ⟨_, by rw [List.append_assoc, ← stretch_snoc]; exact HPT.out (m + 1) (by simp; omega), hJx3⟩⟩
        · obtain rfl : m = c := by omega
          gi_wp2
          go_roundw
          case rel => exact ⟨k + 1, by omega, by go_num, by rw [HT.out]; exact HJ1.out, HB1.out, HSZ1.out⟩
          case measure => simp [intOf]; omega
    · obtain rfl : k = l.length := by omega
      rw [List.take_length] at hJs
      gi_wp2
      go_end0
      exact ⟨⟨_, rfl⟩, .inl ⟨_, rfl, hJs⟩⟩
theorem pgs1_stops (n : Nat) (hn : 1 ≤ n) (R : Nat) (l : List Reg) (W2 w0 : World) (hR : Bx W2 R l) (hlen : l.length ≤ 8) (hch : chainB 0 l = true) (hB0 : Below W2.heap.size W2 w0) :
    SeqStopsK Fence.wide n Try.prog 36 #[.pointer (some ⟨R, 0, none⟩)] encU (KpC W2.heap.size w0.heap.size) (fun ys => ys = pgL l) (fun pre => pre <+: pgL l) (pgL l).length w0 := by
  intro yl J Jx W hW hJ hJx hY h0
  refine (pgs1_in n hn yl R l W2 w0 hR hlen hch hB0 J Jx W hW hJ hY h0).mono ?_
  rintro e W' ⟨h1, h2⟩
  exact ⟨h1, h2⟩
end Go.Proofs.Ytaikkdlphfmgiaa
