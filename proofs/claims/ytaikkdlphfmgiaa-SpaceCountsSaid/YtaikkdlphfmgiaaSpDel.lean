/-
  slices.DeleteFunc at regions (there): those with no page are left out.
-/
import Derived.Test.YtaikkdlphfmgiaaSpWhole
import Derived.Test.YtaikkdlphfmgiaaKeep
import Derived.Lib.SliceRun
import Derived.RegionTactic
import Derived.Deep.DeepCutAuto
namespace Go.Proofs.Ytaikkdlphfmgiaa
open Go.RowKit
set_option linter.unusedVariables false
set_option linter.unusedSimpArgs false
theorem flat_set3 {α : Type} {enc : α → List Value} (hk : ∀ x, (enc x).length = 3) : ∀ (xs : List α) (n : Nat) (e : α) (u0 u1 u2 : Value), n < xs.length → enc e = [u0, u1, u2] → flat enc (xs.set n e) = (((flat enc xs).set (n * 3) u0).set (n * 3 + 1) u1).set (n * 3 + 2) u2
  | [], n, e, u0, u1, u2, hn, he => by simp at hn
  | x :: r, 0, e, u0, u1, u2, hn, he => by
    obtain ⟨a, b, c, hx⟩ : ∃ a b c, enc x = [a, b, c] := by
      have := hk x
      match h : enc x, this with
      | [a, b, c], _ => exact ⟨a, b, c, rfl⟩
    simp [flat, hx, he]
  | x :: r, n + 1, e, u0, u1, u2, hn, he => by
    have ih := flat_set3 hk r n e u0 u1 u2 (by simpa using hn) he
    have h4 := hk x
    simp only [flat, List.set_cons_succ, List.flatMap_cons] at ih ⊢
    rw [ih]
    rw [show (n + 1) * 3 = (enc x).length + n * 3 by rw [h4]; omega]
    simp only [Nat.add_assoc]
    rw [List.set_append_right _ _ (by omega), List.set_append_right _ _ (by omega), List.set_append_right _ _ (by omega)]
    simp only [Nat.add_sub_cancel_left]
/-- A block of regions. -/
def Rg (w : World) (g : Nat) (ys : List Reg) : Prop := Bk w g 25 (flat encG ys).toArray
section
variable {w w' : World} {g : Nat} {ys : List Reg}
theorem Rg.call (h : Rg w g ys) (hb : Below w.heap.size w w') : Rg w' g ys := Bk.call h hb
theorem Rg.keep {F : Nat → Prop} (h : Rg w g ys) (hk : Keeps F w w') (hg : ¬ F g) : Rg w' g ys := Bk.keep h hk hg
theorem Rg.lt (h : Rg w g ys) : g < w.heap.size := Bk.lt h
theorem Rg.frozen (h : Rg w g ys) (i : Nat) : w.frozen? ⟨g, i, none⟩ = false := Bk.frozen h i
theorem Rg.cells (h : Rg w g ys) {i : Nat} (hi : i < ys.length) : w.cell? ⟨g, i * 3, none⟩ = some (.int .u64 (rg ys i).f) ∧ w.cell? ⟨g, i * 3 + 1, none⟩ = some (.int .i64 (rg ys i).c) ∧ w.cell? ⟨g, i * 3 + 2, none⟩ = some (.bool (rg ys i).w) := by
  have hx := rg_some hi
  have hf := flat_at encG_len ys i _ hx
  refine ⟨?_, ?_, ?_⟩
  · rw [Bk.cell h]; simpa using hf 0 _ rfl
  · rw [Bk.cell h]; simpa using hf 1 _ rfl
  · rw [Bk.cell h]; simpa using hf 2 _ rfl
theorem Rg.put (h : Rg w g ys) {i : Nat} (hi : i < ys.length) (e : Reg) : Rg (((w.setCell ⟨g, i * 3, none⟩ (.int .u64 e.f)).setCell ⟨g, i * 3 + 1, none⟩ (.int .i64 e.c)).setCell ⟨g, i * 3 + 2, none⟩ (.bool e.w)) g (ys.set i e) := by
  unfold Rg at h ⊢
  rw [flat_set3 encG_len ys i e _ _ _ hi rfl]
  have := ((h.set (i * 3) (.int .u64 e.f)).set (i * 3 + 1) (.int .i64 e.c)).set (i * 3 + 2) (.bool e.w)
  simpa using this
theorem Rg.rk (h : Rg w g ys) : RK encG 3 w (some ⟨g, 0, none⟩) ys := fun h0 => ⟨g, 0, rfl, fun i x hx j u hu => by
  rw [Bk.cell h]
  simpa using flat_at encG_len ys i x hx j u hu⟩
end
def hasP (r : Reg) : Bool := r.c != 0
def keepL (ys : List Reg) : List Reg := ys.filter hasP
theorem there1_any (r : Reg) (w : World) : Calls Try.prog 46 #[.agg #[.int .u64 r.f, .int .i64 r.c, .bool r.w]] w fun e w' => e = .returned (.bool (r.c == 0)) ∧ Below w.heap.size w w' := by
  go_enter Try.func46, Try.ntmps46
  go_wp2_with fail
  go_ret
  exact ⟨rfl, ba (Below.refl _ _) _⟩
set_option maxHeartbeats 2000000 in
theorem indexFunc_any (g : Nat) (ys : List Reg) (w : World) (h : Rg w g ys) (hlen : ys.length ≤ 100) :
    Calls Try.prog 49 #[.slice (some ⟨g, 0, none⟩) ys.length ys.length, .func (.func 46) #[] #[]] w fun e w' =>
      ((e = .returned (.int .i64 (-1)) ∧ ∀ j, j < ys.length → (rg ys j).c ≠ 0) ∨ (∃ i : Nat, i < ys.length ∧ e = .returned (.int .i64 i) ∧ (rg ys i).c = 0 ∧ ∀ j, j < i → (rg ys j).c ≠ 0)) ∧ Below w.heap.size w w' := by
  have HR := Lib.hid h
  clear h
  go_enter Try.func49, Try.ntmps49
  go_wp2_with fail
  go_loopw [8] (fun i wr => ∃ k : Nat, i = .int .i64 k ∧ k ≤ ys.length ∧ (∀ j, j < k → (rg ys j).c ≠ 0) ∧ Below w.heap.size w wr) (fun i _ => ys.length - (intOf i).toNat)
  case atStart => exact ⟨0, rfl, by omega, fun j hj => by omega, Below.refl _ _⟩
  case round =>
    obtain ⟨k, rfl, hk, hz, hB⟩ := hrel
    have HZ := Lib.hid hz
    have HB := Lib.hid hB
    clear hz
    by_cases hlt : k < ys.length
    · obtain ⟨d0, d1, d2⟩ := (HR.out.call hB).cells hlt
      clear hB
      go_wp2_with fail
      refine (there1_any (rg ys k) _).mono ?_
      rintro e w1 ⟨rfl, hb1⟩
      have HB1 := Lib.hid (bthen HB.out hb1)
      clear hb1 d0 d1 d2
      by_cases hc : (rg ys k).c = 0
      · have hc' : ((rg ys k).c == 0) = true := by simpa using hc
        go_wp2_with fail
        go_ret
        exact ⟨.inr ⟨k, hlt, rfl, hc, HZ.out⟩, HB1.out⟩
      · have hc' : ((rg ys k).c == 0) = false := by simpa using hc
        go_wp2_with fail
        go_roundw
        case rel => exact ⟨k + 1, by go_num, by omega, fun j hj => by
          by_cases e : j = k
          · rw [e]; exact hc
          · exact HZ.out j (by omega), HB1.out⟩
        case measure => simp [intOf]; omega
    · obtain rfl : k = ys.length := by omega
      go_wp2_with fail
      go_ret
      exact ⟨.inl ⟨rfl, HZ.out⟩, HB.out⟩
theorem run_clear_many {P : Program} (w : World) (t e ty : TypeId) (z : Value) (cs : List Value) (ht : P.underlying t = some (.slice e)) (hv : ∀ w, (zeroValue e).run P w = .ok z w) (b o m c : Nat) (hm : 0 < m) (hz : (Builtin.zeroCells z.cells m).toList = cs) (h1 : ∀ u ∈ cs, u.oneCell' = true)
    (hc : ∀ j, j < cs.length → (w.cell? ⟨b, o + j, none⟩).isSome = true) (hf : ∀ j, j < cs.length → w.frozen? ⟨b, o + j, none⟩ = false) :
    (Builtin.clear_ #[t] ty #[.slice (some ⟨b, o, none⟩) m c]).run P w = .ok (.tuple #[]) (w.setCells b o cs) := by
  obtain ⟨m, rfl⟩ : ∃ k, m = k + 1 := ⟨m - 1, by omega⟩
  have hst := run_storeCells_cells (P := P) b o cs 0 w (by simpa using hc) (by simpa using hf) h1
  simp only [Nat.add_zero] at hst
  simp [Builtin.clear_, run_underlying ht, hv, hz, hst]
theorem keepL_take {ys : List Reg} {j : Nat} (hj : j < ys.length) : keepL (ys.take (j + 1)) = keepL (ys.take j) ++ if hasP (rg ys j) then [rg ys j] else [] := by
  unfold keepL
  rw [List.take_add_one, rg_some hj, Option.toList_some, List.filter_append]
  congr 1
  simp [List.filter_cons]
theorem keepL_all {ys : List Reg} : ∀ {j : Nat}, j ≤ ys.length → (∀ k, k < j → (rg ys k).c ≠ 0) → keepL (ys.take j) = ys.take j
  | 0, _, _ => by simp [keepL]
  | j + 1, hj, h => by
    rw [keepL_take (by omega), keepL_all (by omega) (fun k hk => h k (by omega))]
    have : hasP (rg ys j) = true := by simpa [hasP] using h j (by omega)
    rw [this, List.take_add_one, rg_some (by omega)]
    rfl
theorem rk_after {w : World} {g : Nat} {zs : List Reg} (h : Rg w g zs) (i : Nat) (hi : i ≤ zs.length) (cs : List Value) : RK encG 3 (w.setCells g (i * 3) cs) (some ⟨g, 0, none⟩) (zs.take i) := fun h0 => ⟨g, 0, rfl, fun k x hx j u hu => by
  have hx' : zs[k]? = some x := by
    rw [List.getElem?_take] at hx
    split at hx
    · exact hx
    · cases hx
  have hk : k < i := by
    have := (List.getElem?_eq_some_iff.1 hx).1
    rw [List.length_take] at this
    omega
  have hj : j < 3 := by
    have := (List.getElem?_eq_some_iff.1 hu).1
    rwa [encG_len] at this
  have hf := flat_at encG_len zs k x hx' j u hu
  have hlt := (List.getElem?_eq_some_iff.1 hf).1
  have hb := Bk.setAll cs (i * 3) w _ h
  rw [Nat.zero_add, hb.cell, putAll_get _ _ _ _ (by simpa using hlt), if_neg (by omega)]
  simpa using hf⟩
def zG : Value := .agg #[.int .u64 0, .int .i64 0, .bool false]
theorem zG_cells (m : Nat) : ∀ u ∈ (Builtin.zeroCells zG.cells m).toList, u.oneCell' = true := by
  intro u hu
  unfold Builtin.zeroCells at hu
  simp only [Array.toList_map, List.mem_map] at hu
  obtain ⟨i, -, rfl⟩ := hu
  have h3 : zG.cells = #[.int .u64 0, .int .i64 0, .bool false] := rfl
  rw [h3]
  have hlt : i % 3 < 3 := Nat.mod_lt _ (by omega)
  show (#[Value.int .u64 0, .int .i64 0, .bool false][i % 3]!).oneCell' = true
  rcases (show i % 3 = 0 ∨ i % 3 = 1 ∨ i % 3 = 2 by omega) with h | h | h <;> rw [h] <;> rfl
theorem zG_len (m : Nat) : (Builtin.zeroCells zG.cells m).toList.length = m * 3 := by
  have h3 : zG.cells.size = 3 := rfl
  simp [Builtin.zeroCells, h3]
set_option maxHeartbeats 4000000 in
theorem delFunc_any (g : Nat) (ys : List Reg) (w : World) (h : Rg w g ys) (hlen : ys.length ≤ 100) :
    Calls Try.prog 45 #[.slice (some ⟨g, 0, none⟩) ys.length ys.length, .func (.func 46) #[] #[]] w fun e w' =>
      e = .returned (.slice (some ⟨g, 0, none⟩) (keepL ys).length ys.length) ∧ RK encG 3 w' (some ⟨g, 0, none⟩) (keepL ys) ∧ Keeps (fun b => b = g) w w' := by
  have HR := Lib.hid h
  clear h
  go_enter Try.func45, Try.ntmps45
  go_wp2_with fail
  refine (indexFunc_any g ys w HR.out hlen).mono ?_
  rintro e w1 ⟨⟨rfl, hn⟩ | ⟨i0, hi0, rfl, hz, hn⟩, hb1⟩
  · have HE := Lib.hid (show keepL ys = ys by have := keepL_all (Nat.le_refl _) hn; rwa [List.take_length] at this)
    have HR1 := Lib.hid (HR.out.call hb1)
    have HK := Lib.hid (Keeps.of_below (F := fun b => b = g) hb1)
    clear hn hb1
    go_wp2_with fail
    go_ret
    exact ⟨by rw [HE.out]; rfl, by rw [HE.out]; exact HR1.out.rk, HK.out⟩
  · have HST := Lib.hid (show keepL (ys.take (i0 + 1)) = ys.take i0 by
      rw [keepL_take hi0, keepL_all (by omega) hn]
      simp [hasP, hz])
    have HR1 := Lib.hid (HR.out.call hb1)
    have HK := Lib.hid (Keeps.of_below (F := fun b => b = g) hb1)
    clear hn hb1 hz
    have hne1 : ((i0 : Int) == -1) = false := by simp
    go_wp2_with fail
    go_loopw [5, 6] (fun iv jv wr => ∃ (i j : Nat) (zs : List Reg), iv = .int .i64 i ∧ jv = .int .i64 j ∧ i < j ∧ j ≤ ys.length ∧ Rg wr g zs ∧ zs.length = ys.length ∧ zs.take i = keepL (ys.take j) ∧ (keepL (ys.take j)).length = i ∧ zs.drop j = ys.drop j ∧ Keeps (fun b => b = g) w wr) (fun _ jv _ => ys.length - (intOf jv).toNat)
    case atStart => exact ⟨i0, i0 + 1, ys, rfl, by simp, by omega, by omega, HR1.out, rfl, HST.out.symm, by rw [HST.out, List.length_take]; omega, rfl, HK.out⟩
    case round =>
      clear HR1 HK HST
      obtain ⟨i, j, zs, rfl, rfl, hij, hj, hRg, hzl, htk, hki, hdr, hK⟩ := hrel
      have HTK := Lib.hid htk
      have HKI := Lib.hid hki
      have HDR := Lib.hid hdr
      have HK := Lib.hid hK
      have HRg := Lib.hid hRg
      have HZL := Lib.hid hzl
      clear htk hki hdr hK hzl
      by_cases hlt : j < ys.length
      · obtain ⟨d0, d1, d2⟩ := hRg.cells (i := j) (by have := HZL.out; omega)
        clear hRg
        have HBX := Lib.hid (Arr.new wr #[.int .u64 (rg zs j).f, .int .i64 (rg zs j).c, .bool (rg zs j).w] 25)
        have HRA := Lib.hid (HRg.out.call (ba (Below.refl _ _) (.cells #[.int .u64 (rg zs j).f, .int .i64 (rg zs j).c, .bool (rg zs j).w] 25)))
        have HKA := Lib.hid (HK.out.alloc (.cells #[.int .u64 (rg zs j).f, .int .i64 (rg zs j).c, .bool (rg zs j).w] 25))
        have hgw : g < wr.heap.size := HRg.out.lt
        clear HRg HK
        have hdj : rg zs j = rg ys j := by
          have h1 := congrArg (fun l => l[0]?) HDR.out
          simp only [List.getElem?_drop, Nat.add_zero] at h1
          unfold rg
          rw [List.getD_eq_getElem?_getD, List.getD_eq_getElem?_getD, h1]
        have hdr1 : zs.drop (j + 1) = ys.drop (j + 1) := by
          have h1 := congrArg (List.drop 1) HDR.out
          simpa [List.drop_drop, Nat.add_comm] using h1
        have HDR1 := Lib.hid hdr1
        have HTJ := Lib.hid (keepL_take hlt)
        rw [← hdj] at HTJ
        clear hdj hdr1 HDR
        generalize rg zs j = v at *
        go_wp2_with fail
        refine (there1_any v _).mono ?_
        rintro e w2 ⟨rfl, hb2⟩
        have hx := HBX.out.call hb2
        have HR2 := Lib.hid (HRA.out.call hb2)
        have HK2 := Lib.hid (HKA.out.trans (Keeps.of_below (F := fun _ => False) hb2) (fun x hx => hx.elim))
        have x0 := hx.cell 0 _ rfl
        have x1 := hx.cell 1 _ rfl
        have x2 := hx.cell 2 _ rfl
        clear hb2 HBX HRA HKA d0 d1 d2 hx
        by_cases hc : v.c = 0
        · have hc' : (v.c == 0) = true := by simpa using hc
          have HN := Lib.hid (show keepL (ys.take (j + 1)) = keepL (ys.take j) by rw [HTJ.out]; simp [hasP, hc])
          go_wp2_with fail
          go_roundw
          case rel => exact ⟨i, j + 1, zs, rfl, by go_num, by omega, by omega, HR2.out, HZL.out, by rw [HN.out]; exact HTK.out, by rw [HN.out]; exact HKI.out, HDR1.out, HK2.out⟩
          case measure => simp [intOf]; omega
        · have hc' : (v.c == 0) = false := by simpa using hc
          have HN := Lib.hid (show keepL (ys.take (j + 1)) = keepL (ys.take j) ++ [v] by rw [HTJ.out]; simp [hasP, hc])
          have hin : i < zs.length := by have := HZL.out; omega
          have HPUT := Lib.hid (HR2.out.put hin v)
          have g0 := HR2.out.frozen (i * 3)
          have g1 := HR2.out.frozen (i * 3 + 1)
          have g2 := HR2.out.frozen (i * 3 + 2)
          obtain ⟨p0, p1, p2⟩ := HR2.out.cells hin
          have HK3 := Lib.hid (((HK2.out.trans (Keeps.setCell (F := fun b => b = g) (p := ⟨g, i * 3, none⟩) rfl (.int .u64 v.f)) (fun x hx => .inl hx)).trans (Keeps.setCell (F := fun b => b = g) (p := ⟨g, i * 3 + 1, none⟩) rfl (.int .i64 v.c)) (fun x hx => .inl hx)).trans (Keeps.setCell (F := fun b => b = g) (p := ⟨g, i * 3 + 2, none⟩) rfl (.bool v.w)) (fun x hx => .inl hx))
          go_wp2_with fail
          go_roundw
          case rel =>
            refine ⟨i + 1, j + 1, zs.set i v, by go_num, by go_num, by omega, by omega, HPUT.out, by rw [List.length_set]; exact HZL.out, ?_, ?_, ?_, HK3.out⟩
            · rw [HN.out, ← HTK.out, List.take_add_one, List.getElem?_set_self hin, Option.toList_some, List.take_set_of_le (Nat.le_refl _)]
            · rw [HN.out, List.length_append, HKI.out]; rfl
            · rw [List.drop_set_of_lt (by omega)]; exact HDR1.out
          case measure => simp [intOf]; omega
      · obtain rfl : j = ys.length := by omega
        have hile : i < ys.length := hij
        have hclr : ∀ ty, (Builtin.clear_ #[22] ty #[.slice (some ⟨g, i * 3, none⟩) (ys.length - i) (ys.length - i)]).run Try.prog wr = .ok (.tuple #[]) (wr.setCells g (i * 3) (Builtin.zeroCells zG.cells (ys.length - i)).toList) := fun ty =>
          run_clear_many wr _ 25 ty zG _ Try.underlying22 Try.zeroValue25 g (i * 3) _ _ (by omega) rfl (zG_cells _) (fun k hk => by
            rw [zG_len] at hk
            have hl := flat_len encG_len zs
            rw [Bk.cell hRg, Array.getElem?_eq_getElem (by simp [hl, HZL.out]; omega)]
            rfl) (fun k hk => hRg.frozen _)
        clear hRg
        have HKY := Lib.hid (show keepL (ys.take ys.length) = keepL ys by rw [List.take_length])
        generalize (Builtin.zeroCells zG.cells (ys.length - i)).toList = zc at hclr
        have HRK := Lib.hid (rk_after HRg.out i (by have := HZL.out; omega) zc)
        go_wp2_with fail
        go_ret
        refine ⟨?_, ?_, ?_⟩
        · rw [← HKY.out, HKI.out]; rfl
        · rw [← HKY.out, ← HTK.out]; exact HRK.out
        · exact HK.out.trans (Keeps.setAll (F := fun b => b = g) rfl _ _ _) (fun x hx => .inl hx)
/-- there: the regions that have a page. -/
theorem there_any (g : Nat) (ys : List Reg) (w : World) (h : Rg w g ys) (hlen : ys.length ≤ 100) :
    Calls Try.prog 32 #[.slice (some ⟨g, 0, none⟩) ys.length ys.length] w fun e w' =>
      e = .returned (.slice (some ⟨g, 0, none⟩) (keepL ys).length ys.length) ∧ RK encG 3 w' (some ⟨g, 0, none⟩) (keepL ys) ∧ Keeps (fun b => b = g) w w' := by
  go_enter Try.func32, Try.ntmps32
  go_wp2_with fail
  refine (delFunc_any g ys w h hlen).mono ?_
  rintro e w1 ⟨rfl, h1, h2⟩
  go_wp2_with fail
  go_ret
  exact ⟨rfl, h1, h2⟩
end Go.Proofs.Ytaikkdlphfmgiaa
