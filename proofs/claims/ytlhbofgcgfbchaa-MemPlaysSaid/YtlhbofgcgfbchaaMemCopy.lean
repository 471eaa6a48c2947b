/-
  mem.Copy: another memory that is the same.
-/
import Derived.Test.YtlhbofgcgfbchaaMemLaws
import Derived.Maps.RangeWalk
import Derived.Maps.Ext
import Derived.Laws.Tables
import Derived.Laws.CopyOwn
import Derived.Deep.DeepCutAuto
namespace Go.Proofs.Ytlhbofgcgfbchaa
open Go.RowKit Go.Maps
set_option linter.unusedVariables false
set_option linter.unusedSimpArgs false

theorem Bk.row {w : World} {g : Nat} {t : TypeId} {cs : Array Value} (h : Bk w g t cs) (cs' : Array Value) : Bk (w.setRow g cs') g t cs' := setRow_heap w g cs cs' t (0, 0) h
theorem Bk.farRow {w : World} {g b : Nat} {t : TypeId} {cs : Array Value} (h : Bk w g t cs) (hne : g ≠ b) (cs' : Array Value) : Bk (w.setRow b cs') g t cs := (setRow_other w b g cs' hne).trans h
theorem brow {a W : World} (h : Below a.heap.size a W) {g : Nat} (hg : a.heap.size ≤ g) (cs : Array Value) : Below a.heap.size a (W.setRow g cs) := below_setRow h hg cs
/-- A row that lies beside comes to be a frame. -/
theorem Mm.lay {w w' : World} {p n k m : Nat} {c : Nat → Nat → Int} {F : Nat → Prop} {D : DataW Unit} (h : Mm w p n c F k m D) {f b : Nat} {g : Nat → Int} (hf64 : f < 64) (hh : Maps.has D (fk f) = false) (hb : Bk w b 83 (rowOf g)) (hnb : ¬ F b)
    (hm : w'.ownsMap Try.prog 3 ptrElem m (k + 1) (D.put (fk f) (.lit (.int .i64 b)))) (hg : w.grownBy w' (some m)) :
    Mm w' p n (fun y => if y = f then g else c y) (fun x => F x ∨ x = b) (k + 1) m (D.put (fk f) (.lit (.int .i64 b))) := by
  have hkeep : Keeps (fun y => y = m) w w' := Keeps.grown hg rfl
  have hM := h.map.isMap
  have hbm : b ≠ m := bk_map_ne hb h.map
  refine ⟨h.str.keep hkeep h.ne, hm, .inl h.pF, .inl h.mF, ?_, ?_, ?_, fun l hl => ?_⟩
  · rintro x (hx | rfl)
    · exact Nat.lt_of_lt_of_le (h.lt x hx) hkeep.size
    · exact Nat.lt_of_lt_of_le hb.lt hkeep.size
  · intro y
    by_cases e : y = f
    · subst e
      rw [if_pos rfl]
      exact .inr ⟨b, Maps.has_put_same hM (isKey y) _, fun z => Maps.atKey_put_same hM (isKey y) _ z, hb.keep hkeep hbm, .inr rfl⟩
    · have e' := fk_ne e
      rw [if_neg e]
      exact (h.row y).imp (fun ⟨a1, a2⟩ => ⟨by rw [Maps.has_put_other e']; exact a1, a2⟩) fun ⟨b', a1, a2, a3, a4⟩ => ⟨b', by rw [Maps.has_put_other e']; exact a1, fun z => by rw [Maps.atKey_put_other e']; exact a2 z, a3.keep hkeep (bk_map_ne a3 h.map), .inl a4⟩
  · intro y y' b0 e1 e2
    have key : ∀ z, z ≠ f → (∀ zz, (D.put (fk f) (.lit (.int .i64 b))).atKey (fk z) zz = .lit (.int .i64 b)) → False := fun z hz hq => by
      replace hq := fun zz => (Maps.atKey_put_other (D := D) (fk_ne hz) _ zz).symm.trans (hq zz)
      rcases h.row z with ⟨y, _⟩ | ⟨b', y1, y2, y3, y4⟩
      · have := (Maps.atKey_of_not_has y .nil).symm.trans (hq .nil); cases this
      · have hb' := (y2 .nil).symm.trans (hq .nil)
        simp at hb'
        have hbb : b' = b := by omega
        rw [hbb] at y4
        exact hnb y4
    by_cases x1 : y = f <;> by_cases x2 : y' = f
    · rw [x1, x2]
    · have := (e1 .nil).symm.trans (show _ = DataW.lit _ from (congrArg (fun q => (D.put (fk f) (.lit (.int .i64 b))).atKey (fk q) .nil) x1).trans (Maps.atKey_put_same hM (isKey f) _ .nil))
      simp at this
      have hb0 : b0 = b := by omega
      subst hb0
      exact (key y' x2 e2).elim
    · have := (e2 .nil).symm.trans (show _ = DataW.lit _ from (congrArg (fun q => (D.put (fk f) (.lit (.int .i64 b))).atKey (fk q) .nil) x2).trans (Maps.atKey_put_same hM (isKey f) _ .nil))
      simp at this
      have hb0 : b0 = b := by omega
      subst hb0
      exact (key y x1 e1).elim
    · exact h.inj y y' b0 (fun z => by rw [← e1 z, Maps.atKey_put_other (fk_ne x1)]) (fun z => by rw [← e2 z, Maps.atKey_put_other (fk_ne x2)])
  · by_cases e : l = fk f
    · exact ⟨f, hf64, e⟩
    · rw [Maps.has_put_other e] at hl
      exact h.keys l hl
theorem ptr_inv (v : Value) (y : DataW Unit × List MemPlace) (h : ptrElem v = some y) : ∃ c : Option Nat, v = .pointer (c.map fun b => ⟨b, 0, none⟩) := by
  unfold ptrElem at h
  split at h
  · exact ⟨none, rfl⟩
  · split at h
    · rename_i a e
      exact ⟨some a.block, by rw [Option.map_some, ← e]⟩
    · cases h
  · cases h
theorem key_inv (key : Value) (kl : Lit) (h : keyOf Try.prog 3 key = some kl) : ∃ x : Int, key = .int .i64 x := by
  obtain ⟨x, e, -⟩ := Maps.keyOf_int_inv Try.underlying3 h
  exact ⟨x, e⟩
section
variable {w : World} {ops : Array Oper} {rest : List Oper} {o : Oper} {a : Act} {Q : Exit → Act → World → Prop}
theorem get_arr (hgd : o.guard = none) (y : Operand) (ho : o.op = .load 83 y) (b : Nat) (R : Array Value) (hx : a.eval y = .pointer (some ⟨b, 0, none⟩)) (hr : Bk w b 83 R) (hs : R.size = 512)
    (h : wpList Try.prog ops Q rest (a.put o.dst (.agg R)) w) : wpList Try.prog ops Q (o :: rest) a w :=
  wpList_load_row hgd 83 y ho b hx 83 _ (0, 0) _ hr Try.underlying83 rfl (by rw [hs]; kernel_rfl) h
theorem put_arr (hgd : o.guard = none) (y z : Operand) (ho : o.op = .store 83 y z) (b : Nat) (R Z : Array Value) (hx : a.eval y = .pointer (some ⟨b, 0, none⟩)) (hy : a.eval z = .agg R) (hr : Bk w b 83 Z) (hs : R.size = 512) (hz : Z.size = 512) (h1 : R.all (·.oneCell') = true)
    (h : wpList Try.prog ops Q rest (a.put o.dst undef) (w.setRow b R)) : wpList Try.prog ops Q (o :: rest) a w :=
  wpList_store_row hgd 83 y z ho b _ hx hy 83 _ hr (by rw [hs]; kernel_rfl) (by rw [hs, hz]) h1 h
end
theorem make_hint (n : Int) (w : World) : (Instr.makeMap 68 (some (.int .i64 n))).run Try.prog w = .ok (.map (some w.heap.size)) (w.alloc (.map #[] 0)) := by
  simp [Instr.makeMap, run_underlying Try.underlying68, asInt, asIntOf, Result.andThen]
theorem same_self (f : Nat) : (fk f).sameKey (fk f) = true := by simp [fk, Lit.sameKey]
theorem same_other {a f : Nat} (h : a ≠ f) : (fk a).sameKey (fk f) = false := by simp [fk, Lit.sameKey]; omega
/-- What Copy leaves. -/
def Copied (w : World) (n k : Nat) (c : Nat → Nat → Int) (e : Ending) (w' : World) : Prop :=
  ∃ q F' k', e = .returned (.pointer (some ⟨q, 0, none⟩)) ∧ MemS w' q n c F' k' ∧ k' ≤ k ∧ Below w.heap.size w w' ∧ ∀ x, F' x → w.heap.size ≤ x
def lefts (left : Lit → Bool) (c : Nat → Nat → Int) : Nat → Nat → Int := fun f => if left (fk f) then fun _ => 0 else c f
/-- What holds at the head of Copy's loop. -/
def CpRel (w : World) (n k m m2 r q : Nat) (c : Nat → Nat → Int) (D : DataW Unit) (wr : World) : Prop :=
  ∃ (left : Lit → Bool) (cnt : Nat) (Dout : DataW Unit) (F' : Nat → Prop) (k' : Nat), wr.ranges Try.prog 3 ptrElem m r k D left cnt ∧ k' + cnt ≤ Maps.size D ∧ Mm wr q n (lefts left c) F' k' m2 Dout ∧
    (∀ l, left l = true → Maps.has D l = true ∧ Maps.has Dout l = false) ∧ (∀ x, F' x → w.heap.size ≤ x ∧ x ≠ r) ∧ Below w.heap.size w wr
set_option maxRecDepth 100000 in
set_option maxHeartbeats 2000000 in
theorem copy_any (p n k : Nat) (c : Nat → Nat → Int) (F : Nat → Prop) (w : World) (hM : MemS w p n c F k) (hk : k < 1000000) :
    Calls Try.prog 19 #[.pointer (some ⟨p, 0, none⟩)] w (Copied w n k c) := by
  obtain ⟨m, D, hM⟩ := hM
  have hmm := make_hint
  have c0 : w.cell? ⟨p, 0, none⟩ = some (.int .i64 n) := hM.str.cell 0
  have c1 : w.cell? ⟨p, 1, none⟩ = some (.map (some m)) := hM.str.cell 1
  have hp := hM.str.lt
  have HM := Lib.hid hM
  have hlen : ∀ ty, (Builtin.len_ #[68] ty #[.map (some m)]).run Try.prog w.drew = .ok (.int .i64 (Maps.size D)) w.drew := fun ty => hM.drew.map.len (t := 68) (e := 74) Try.underlying68 ty
  have d1 := hM.map.size_le
  go_enter Try.func19, Try.ntmps19
  have HZ := Lib.hid hM.map.isMap
  have hmade := (Mm.made w n).drew
  have hB0 : Below w.heap.size w ((w.alloc (.map #[] 0)).alloc (.cells #[.int .i64 n, .map (some w.heap.size)] 70)).drew := bd (ba (ba (Below.refl _ _) _) _)
  have hsz : ((w.alloc (.map #[] 0)).alloc (.cells #[.int .i64 n, .map (some w.heap.size)] 70)).drew.heap.size = w.heap.size + 2 := by show (_ : World).heap.size = _; simp
  have HMade := Lib.hid hmade
  have HB0 := Lib.hid hB0
  have HSZ := Lib.hid hsz
  clear hmade hB0 hsz hM
  go_wp2_with fail
  go_region
  clear hlen hmm
  go_upto_region 4 with fail
  generalize ((w.alloc (.map #[] 0)).alloc (.cells #[.int .i64 n, .map (some w.heap.size)] 70)).drew = W0 at *
  have HS0 := Lib.hid (HM.out.call HB0.out)
  have c1' : W0.cell? ⟨p, 1, none⟩ = some (.map (some m)) := HS0.out.str.cell 1
  clear c0 c1
  go_wp2_with (at_range; refine wpList_range_own _ rfl _ 68 rfl 3 74 keyed Try.underlying68 ptrElem m k _ rfl HS0.out.map ?_; intro w0 hrg0 hg0 hs0)
  go_frame
  rw [HSZ.out] at hrg0 hs0 ⊢
  have hk0 : Keeps (fun _ => False) W0 w0 := ⟨hg0.os, hg0.tape, hg0.output, hg0.size, fun i hi _ => hg0.block i hi (by simp)⟩
  have hz := zeroRow
  go_loopw [4] (fun _ wr => CpRel w n k m w.heap.size (w.heap.size + 2) (w.heap.size + 1) c D wr) (fun _ wr => wr.rangeLeft m (w.heap.size + 2))
  case atStart =>
    refine ⟨Maps.has D, Maps.size D, .map [], fun b => b = w.heap.size ∨ b = w.heap.size + 1, 0, hrg0, by omega, (HMade.out.keep hk0 (fun _ _ h => h)).congr ?_, fun l hl => ⟨hl, rfl⟩, fun x hx => by omega, bthen HB0.out (hk0.below (Below.refl _ _) (fun _ h => h.elim))⟩
    intro f i hi
    unfold lefts
    split
    · rfl
    · rename_i h
      rcases HM.out.row f with ⟨a1, a2⟩ | ⟨b, a1, _⟩
      · exact (a2 i hi).symm
      · exact absurd a1 h
  case round =>
    clear hrg0 hg0 hs0 hk0
    obtain ⟨left, cnt, Dout, F', k', hrg, hcs, hout, hL, hF', hB⟩ := hrel
    have HRG := Lib.hid hrg
    have HO := Lib.hid hout
    have HL := Lib.hid hL
    have HF := Lib.hid hF'
    have HB := Lib.hid hB
    clear hrg hout hL hF' hB
    go_wp2_with (at_next; refine wpList_next_ranges _ rfl _ rfl 3 keyed ptrElem (Value.int .i64) (fun o : Option Nat => .pointer (o.map fun b => ⟨b, 0, none⟩)) key_inv ptr_inv m (w.heap.size + 2) k _ _ _ rfl HRG.out ?_ ?_)
    · intro hc0 hl0
      have HL0 := Lib.hid hl0
      clear hl0
      go_wp2_with fail
      go_ret
      exact ⟨w.heap.size + 1, F', k', rfl, ⟨w.heap.size, Dout, HO.out.congr (fun f i _ => by unfold lefts; rw [HL0.out]; rfl)⟩, by omega, HB.out, fun x hx => (HF.out x hx).1⟩
    · intro x o kl y1 y2 w1 cnt1 hkey hlk hR hat hrg1 hlt hg1 hs1 hen
      obtain ⟨hD, hDo⟩ := HL.out kl hlk
      obtain ⟨f, hf, rfl⟩ := HM.out.keys kl hD
      obtain ⟨x', ex, ekl, -⟩ := Maps.keyOf_int_inv Try.underlying3 hkey
      have hxf : x = f := by injection ex with _ ex; injection ekl with _ ekl; omega
      subst hxf
      clear ex ekl
      rcases HM.out.row f with ⟨a1, _⟩ | ⟨b, a1, a2, a3, a4⟩
      · rw [a1] at hD; cases hD
      · have hy := (hat .nil).symm.trans (a2 .nil)
        subst hy
        have ho := ptrElem_inv hR
        have hob : o = some b := by
          cases o with
          | none => cases ho
          | some b' => injection ho with ho; injection ho with ho; injection ho with ho; rw [ho]
        subst hob
        have hbw : b < w.heap.size := a3.lt
        have hk1 : Keeps (fun z => z = w.heap.size + 2) wr w1 := Keeps.grown hg1 rfl
        have HRow := Lib.hid ((a3.call HB.out).keep hk1 (by omega))
        have HO1 := Lib.hid (HO.out.keep hk1 (fun z hz he => (HF.out z hz).2 he))
        have HB1 := Lib.hid (hk1.below HB.out (fun z hz => by omega))
        have HRG1 := Lib.hid hrg1
        have HDo := Lib.hid hDo
        have HKey := Lib.hid hkey
        have HS1 := Lib.hid hs1
        clear hs1
        have HNew := Lib.hid (Bk.new w1 83 (rowOf fun _ => 0))
        have HFl : ¬ F' w1.heap.size := fun h => by have := HO1.out.lt _ h; omega
        clear hat hR ho a1 a2 a3 a4 hD hDo hk1 hg1 hrg1 hkey
        simp only [Option.map_some] at hen ⊢
        obtain ⟨R, hR⟩ : ∃ R, rowOf (c f) = R := ⟨_, rfl⟩
        obtain ⟨Z, hZ⟩ : ∃ Z, rowOf (fun _ => 0) = Z := ⟨_, rfl⟩
        have HRS := Lib.hid (show R.size = 512 by rw [← hR]; exact rowOf_size _)
        have HZS := Lib.hid (show Z.size = 512 by rw [← hZ]; exact rowOf_size _)
        have HR1 := Lib.hid (show R.all (·.oneCell') = true by rw [← hR]; exact row_one _)
        have HRE := Lib.hid hR
        rw [hR] at HRow
        rw [hZ] at HNew hz
        clear hR hZ
        go_upto_region 8 with (first | refine get_arr rfl _ rfl b R rfl HRow.out HRS.out ?_ | refine put_arr rfl _ _ rfl w1.heap.size R Z rfl rfl HNew.out HRS.out HZS.out HR1.out ?_)
        refine (show ∀ W8 : World, Below w1.heap.size w1 W8 → Bk W8 w1.heap.size 83 R → Code.wp _ _ _ _ W8 from fun W8 hb8 hk8 => ?_) _ (brow (ba (Below.refl _ _) _) (Nat.le_refl _) _) (HNew.out.row _)
        rw [← HRE.out] at hk8
        have HO8 := Lib.hid (HO1.out.call hb8)
        have HB8 := Lib.hid (bthen HB1.out hb8)
        have hg8 : w1.grownBy W8 none := ⟨hb8.os, hb8.tape, hb8.output, hb8.size, fun i hi _ => hb8.block i hi⟩
        have HRG8 := Lib.hid (HRG1.out.kept hg8 (by simp) (by simp))
        have HK8 := Lib.hid hk8
        have c1q : W8.cell? ⟨w.heap.size + 1, 1, none⟩ = some (.map (some w.heap.size)) := HO8.out.str.cell 1
        clear hb8 hk8 hg8 hen HNew HRow HO1 HB1 HRG1
        go_wp2_with (at_mapUpdate; refine wpList_mapUpdate_own _ rfl _ _ _ 68 rfl 3 74 keyed Try.underlying68 _ w.heap.size _ _ rfl HO8.out.map (by unfold maxLen; omega) _ _ _ rfl rfl HKey.out _ [] (ptrElem_mk w1.heap.size) ?_; intro w9 hm9 hg9; go_frame)
        have hmw := HM.out.lt m HM.out.mF
        have hrw := HRG.out.lt
        have hs1' := HS1.out
        have hrg9 := HRG8.out.kept hg9 (fun e => by have := Option.some.inj e; omega) (fun e => by have := Option.some.inj e; omega)
        go_roundw
        case rel =>
          refine ⟨_, cnt1, _, _, _, hrg9, ?_, (HO8.out.lay hf HDo.out HK8.out HFl hm9 hg9).congr ?_, ?_, ?_, ?_⟩
          · omega
          · intro f1 i hi
            unfold lefts
            dsimp only
            by_cases e : f1 = f
            · subst e
              simp only [if_pos, same_self, Bool.not_true, Bool.and_false]
              rfl
            · simp only [if_neg e, same_other e, Bool.not_false, Bool.and_true]
          · intro l hl
            rw [Bool.and_eq_true, Bool.not_eq_true'] at hl
            obtain ⟨h1, h2⟩ := HL.out l hl.1
            refine ⟨h1, ?_⟩
            rw [Maps.has_put_other (fun e => by rw [e, same_self] at hl; cases hl.2)]
            exact h2
          · rintro x (hx | rfl)
            · exact HF.out x hx
            · have := HB.out.size
              omega
          · exact (Keeps.grown (F := fun y => y = w.heap.size) hg9 rfl).below HB8.out (fun z hz => by omega)
        case measure => rw [hrg9.left_eq, HRG.out.left_eq]; exact hlt
end Go.Proofs.Ytlhbofgcgfbchaa
