/-
  Layer 20's rows: the calls themselves; the document's Close.
-/
import Derived.Test.YtaikkdlphfmgiaaDoorShRowsB
import Derived.Test.YtaikkdlphfmgiaaDoorShRowsC
import Derived.Test.YtaikkdlphfmgiaaDoorShRowsT
namespace Go.Proofs.YtaikkdlphfmgiaaDoor
open Go.RowKit
set_option linter.unusedVariables false
set_option linter.unusedSimpArgs false
theorem Ow.low {α : Type} {enc : α → List Value} {k : Nat} {t : TypeId} {w : World} {B B' : Nat} {v : Value} {xs : List α} (h : Ow enc k t w B v xs) (hB : B' ≤ B) : Ow enc k t w B' v xs := by
  obtain ⟨hl, h⟩ := h
  exact ⟨hl, h.imp id fun ⟨g, cap, cur, e, hb, r⟩ => ⟨g, cap, cur, e, Nat.le_trans hB hb, r⟩⟩
/-- One item more, at a step of a region that draws its order. -/
theorem step_snoc {α : Type} {enc : α → List Value} {k : Nat} {P : Program} {w : World} {ops : Array Oper} {o : Oper} {a : Go.Act} {K : Go.Act → World → Prop} {Q : Exit → Go.Act → World → Prop} {E : Prop} (hgd : o.guard = none) (s x : Operand) (t : TypeId)
    (ho : o.op = .call { callee := .builtin .append, args := #[s, x], argTypes := #[t, t] })
    (B : Nat) (e : TypeId) (i : TypeInfo) (z : Value) (bytes : Nat) (ht : P.underlying t = some (.slice e)) (hi : P.info? e = some i) (hz : i.zero = some z)
    (hsize : i.size = k) (hby : i.bytes = bytes) (hzs : z.cells.size = k) (hsz : 0 < k) (hk : ∀ x, (enc x).length = k)
    (v : Value) (xs : List α) (hs : a.eval s = v) (hO : Ow enc k e w B v xs) (y : α) (g : Nat) (hx : a.eval x = .slice (some ⟨g, 0, none⟩) 1 1)
    (hN : ∀ (j : Nat) (u : Value), (enc y)[j]? = some u → w.cell? ⟨g, j, none⟩ = some u) (h1 : ∀ u ∈ enc y, u.oneCell' = true) (hlen : xs.length ≤ 100000) (hb8 : bytes ≤ 100) (w0 : World) (hB : Below B w0 w) (hb : B ≤ w0.heap.size)
    (h : ∀ v' w', Ow enc k e w' B v' (xs ++ [y]) → Below B w0 w' → K (a.put o.dst v') w') : if Region.wanted o (yielded ops a.tmps) = true then Oper.wp P o a w K Q else E := by
  have hw : Region.wanted o (yielded ops a.tmps) = true := by simp [Region.wanted, hgd]
  rw [if_pos hw]
  refine wp_append_own _ s x t ho B e i z k bytes ht hi hz hsize hby hzs hsz v xs.length (flat enc xs) hs hO ⟨g, 0, none⟩ 1 1 (enc y) hx (by rw [hk]; omega) (fun j u hu => ?_) h1 (by unfold maxLen; omega) ?_ (Nat.le_trans hb hB.size) (fun v' w' hown hgrow _ => ?_)
  · have e : (⟨g, 0, none⟩ : Addr).add j = ⟨g, j, none⟩ := by unfold Addr.add; split <;> simp_all
    rw [e]
    exact hN j u hu
  · have : (xs.length + 1) * bytes ≤ 100001 * 100 := Nat.mul_le_mul (by omega) hb8
    omega
  · exact h v' w' (by unfold Ow; rw [flat_snoc]; simpa using hown) (hB.grown hgrow (Nat.le_trans hb hB.size) (fun g hg => (hO.lt g hg).1))
theorem shOpen_any (O : Option Addr) (cap : Nat) (xs : List Mp) (w : World) (hI : RK encM 4 w O xs) (hcap : xs.length ≤ cap) (h8 : xs.length ≤ 1000) :
    Calls Tryd.prog 18 #[.slice O xs.length cap] w fun e w' => ∃ v, e = .returned v ∧ Ow encM 4 61 w' w.heap.size v (xs.filter (fun y : Mp => !y.ro)) ∧ Below w.heap.size w w' := by
  have HI := Lib.hid hI
  clear hI
  go_enter Tryd.func18, Tryd.ntmps18
  go_wp2_with fail
  refine (those_open O cap xs _ HI.out hcap h8).mono ?_
  rintro e w1 ⟨v, rfl, hO, hb⟩
  have HO := Lib.hid hO
  have HB := Lib.hid hb
  clear hO hb
  go_wp2_with fail
  go_ret
  exact ⟨_, rfl, HO.out, HB.out⟩
theorem shPart_any (first count : Int) (O : Option Addr) (cap : Nat) (xs : List Mp) (w : World) (hI : RK encM 4 w O xs) (hcap : xs.length ≤ cap) (h8 : xs.length ≤ 1000) (wx : ∀ (i : Nat) (x : Mp), xs[i]? = some x → U64 x.p) (wf : U64 first) (wc : count < 9223372036854775808) :
    Calls Tryd.prog 16 #[.slice O xs.length cap, .int .u64 first, .int .i64 count] w fun e w' => ∃ v, e = .returned v ∧ Ow encM 4 61 w' w.heap.size v (xs.filter (fun y : Mp => inP first count y.p)) ∧ Below w.heap.size w w' := by
  have HI := Lib.hid hI
  have HW := Lib.hid wx
  have HF := Lib.hid wf
  clear hI wx wf
  have hB := ba (ba (Below.refl w.heap.size w) (.cells #[.int .u64 first] 23)) (.cells #[.int .i64 count] 3)
  have hF := (Arr.new w #[.int .u64 first] 23).alloc (.cells #[.int .i64 count] 3)
  have hC := Arr.new (w.alloc (.cells #[.int .u64 first] 23)) #[.int .i64 count] 3
  have hS : (w.alloc (.cells #[.int .u64 first] 23)).heap.size = w.heap.size + 1 := by simp
  rw [hS] at hC
  have HB0 := Lib.hid hB
  have HC := Lib.hid (show PCaught _ (w.heap.size + 1) w.heap.size first count from ⟨hC.cell 0 _ rfl, hF.cell 0 _ rfl⟩)
  clear hB hF hC hS
  go_enter Tryd.func16, Tryd.ntmps16
  go_wp2_with fail
  refine (those_part first count (w.heap.size + 1) w.heap.size O cap xs _ (HI.out.call HB0.out) hcap h8 HC.out HW.out HF.out wc).mono ?_
  rintro e w1 ⟨v, rfl, hO, hb⟩
  have HO := Lib.hid (hO.low HB0.out.size)
  have HB := Lib.hid (bthen HB0.out hb)
  clear hO hb
  go_wp2_with fail
  go_ret
  exact ⟨_, rfl, HO.out, HB.out⟩
theorem shClear_any (O : Option Addr) (cap : Nat) (xs : List Mp) (w : World) (hI : RK encM 4 w O xs) (hcap : xs.length ≤ cap) (h8 : xs.length ≤ 1000) :
    Calls Tryd.prog 23 #[.slice O xs.length cap] w fun e w' => ∃ v, e = .returned v ∧ Ow encW 2 65 w' w.heap.size v (xs.map (fun y : Mp => (y.w, (0 : Int)))) ∧ Below w.heap.size w w' := by
  have HI := Lib.hid hI
  clear hI
  go_enter Tryd.func23, Tryd.ntmps23
  go_wp2_with fail
  refine (told_clear O cap xs _ HI.out hcap h8).mono ?_
  rintro e w1 ⟨v, rfl, hO, hb⟩
  have HO := Lib.hid hO
  have HB := Lib.hid hb
  clear hO hb
  go_wp2_with fail
  go_ret
  exact ⟨_, rfl, HO.out, HB.out⟩
theorem shFrames_any (O : Option Addr) (cap : Nat) (xs : List Mp) (w : World) (hI : RK encM 4 w O xs) (hcap : xs.length ≤ cap) (h8 : xs.length ≤ 1000) :
    Calls Tryd.prog 26 #[.slice O xs.length cap] w fun e w' => ∃ v, e = .returned v ∧ Ow encI 1 3 w' w.heap.size v (xs.map (fun y : Mp => y.f)) ∧ Below w.heap.size w w' := by
  have HI := Lib.hid hI
  clear hI
  go_enter Tryd.func26, Tryd.ntmps26
  go_wp2_with fail
  refine (told_frames O cap xs _ HI.out hcap h8).mono ?_
  rintro e w1 ⟨v, rfl, hO, hb⟩
  have HO := Lib.hid hO
  have HB := Lib.hid hb
  clear hO hb
  go_wp2_with fail
  go_ret
  exact ⟨_, rfl, HO.out, HB.out⟩
theorem shClose_any (O : Option Addr) (cap : Nat) (xs : List Mp) (w : World) (hI : RK encM 4 w O xs) (hcap : xs.length ≤ cap) (h8 : xs.length ≤ 1000) (hG : G w) :
    Calls Tryd.prog 21 #[.slice O xs.length cap] w fun e w' => ∃ v, e = .returned v ∧ Ow encW 2 65 w' w.heap.size v ((xs.filter (fun y : Mp => !y.ro)).map (fun y : Mp => (y.w, lfV y.f))) ∧ Below w.heap.size w w' := by
  have HI := Lib.hid hI
  have HG := Lib.hid hG
  clear hI hG
  have HL := Lib.hid (show (xs.filter (fun y : Mp => !y.ro)).length ≤ 1000 from Nat.le_trans (List.length_filter_le _ _) h8)
  go_enter Tryd.func21, Tryd.ntmps21
  go_wp2_with fail
  refine (those_open O cap xs _ HI.out hcap h8).mono ?_
  rintro e w1 ⟨v, rfl, hO, hb⟩
  obtain ⟨O1, p1, rfl, l1, m1, r1⟩ := hO.form encM_len
  have HR := Lib.hid r1
  have HB := Lib.hid hb
  clear hO hb r1
  go_wp2_with fail
  refine (told_close O1 p1 (xs.filter (fun y : Mp => !y.ro)) _ HR.out l1 HL.out (HG.out.call HB.out)).mono ?_
  rintro e w2 ⟨v, rfl, hO, hb⟩
  have HO := Lib.hid (hO.low HB.out.size)
  have HB2 := Lib.hid (bthen HB.out hb)
  clear hO hb
  go_wp2_with fail
  go_ret
  exact ⟨_, rfl, HO.out, HB2.out⟩
set_option maxRecDepth 100000 in
set_option maxHeartbeats 4000000 in
theorem r20Close_any (O : Option Addr) (cap : Nat) (xs : List Mp) (w : World) (hI : RK encM 4 w O xs) (hcap : xs.length ≤ cap) (h8 : xs.length ≤ 1000) :
    Calls Tryd.prog 22 #[.slice O xs.length cap] w fun e w' => ∃ v, e = .returned v ∧ Ow encW 2 65 w' w.heap.size v ((xs.filter (fun y : Mp => !y.ro)).map (fun y : Mp => (y.w, lfV y.f))) ∧ Below w.heap.size w w' := by
  have HI0 := Lib.hid hI
  clear hI
  obtain ⟨i0, hi, hz0, hz1, hz2⟩ := wrInfo
  have HL0 := Lib.hid (show (xs.filter (fun y : Mp => !y.ro)).length ≤ 1000 from Nat.le_trans (List.length_filter_le _ _) h8)
  go_enter Tryd.func22, Tryd.ntmps22
  go_wp2_with fail
  refine (r20Open_any O cap xs _ HI0.out hcap h8).mono ?_
  rintro e w0 ⟨v, rfl, hO, hb⟩
  obtain ⟨O1, p1, rfl, l1, m1, r1⟩ := hO.form encM_len
  have HI := Lib.hid r1
  have HBa := Lib.hid hb
  clear hO hb r1 HI0 hcap h8
  generalize hys : xs.filter (fun y : Mp => !y.ro) = ys at *
  have HYS := Lib.hid hys
  clear hys
  obtain ⟨len, hlen⟩ : ∃ len, len = ys.length := ⟨_, rfl⟩
  have h8 : len ≤ 1000 := by have := HL0.out; omega
  rw [← hlen] at l1 ⊢
  have HL := Lib.hid hlen
  clear hlen HL0 m1
  go_wp2_with fail
  go_loopw [3, 4] (fun v i wr => ∃ j : Nat, i = .int .i64 j ∧ j ≤ len ∧ Ow encW 2 65 wr w0.heap.size v ((ys.map (fun y : Mp => (y.w, lfV y.f))).take j) ∧ Below w0.heap.size w0 wr) (fun _ i _ => len - (intOf i).toNat)
  case atStart => exact ⟨0, rfl, by omega, Ow.nil _ _ _, Below.refl _ _⟩
  case round =>
    obtain ⟨j, rfl, hj, hO, hB⟩ := hrel
    by_cases hlt : j < len
    · obtain ⟨b, off, rfl, hcell⟩ := HI.out (by have := HL.out; omega)
      obtain ⟨x, hx⟩ : ∃ x, ys[j]? = some x := ⟨ys[j]'(by have := HL.out; omega), List.getElem?_eq_getElem _⟩
      obtain ⟨c0, c1, c2, c3⟩ := mp_cells hx hcell
      have lb : b < w0.heap.size := World.block_lt_of_cell? w0 ⟨b, off + j * 4, none⟩ c0
      have HT := Lib.hid (take_map_succ (fun y : Mp => (y.w, lfV y.f)) ys j x hx)
      have HK := Lib.hid (show ∀ w', Below w0.heap.size w0 w' → (Below w0.heap.size w0 w' ∧ w'.cell? ⟨b, off + j * 4 + 1, none⟩ = some (.int .i64 x.f) ∧ w'.cell? ⟨b, off + j * 4 + 3, none⟩ = some (.int .u64 x.w)) from fun w' hb => ⟨hb, (hb.cell (p := ⟨b, off + j * 4 + 1, none⟩) lb).trans c1, (hb.cell (p := ⟨b, off + j * 4 + 3, none⟩) lb).trans c3⟩)
      have HO := Lib.hid hO
      have HB := Lib.hid hB
      clear hcell hB hO hx c0 c1 c2 c3
      go_upto_region 6 with fail
      go_region_held3 (fun w' => Below w0.heap.size w0 w' ∧ w'.cell? ⟨b, off + j * 4 + 1, none⟩ = some (.int .i64 x.f) ∧ w'.cell? ⟨b, off + j * 4 + 3, none⟩ = some (.int .u64 x.w))
        (first | exact HK.out _ HB.out.drew | exact HK.out _ HB1.out | exact HK.out _ HB2.out | exact HK.out _ HB8.out | exact HK.out _ (ba HB1.out _))
        (first
          | (go_at_call 11; refine (r16Leaf_any x.f _).mono ?_; rintro e w1 ⟨rfl, hb1⟩; have HB1 := Lib.hid (show Below w0.heap.size w0 w1 from bthen HB.out.drew hb1); have HO1 := Lib.hid (show Ow encW 2 65 w1 w0.heap.size _ _ from (HO.out.call (Below.refl _ _).drew).call hb1); have HO2 := Lib.hid (Ow.call HO1.out (ba (Below.refl _ _) (.cells #[.int .u64 x.w, .int .u64 (lfV x.f)] 65))); have HB2 := Lib.hid (ba HB1.out (.cells #[.int .u64 x.w, .int .u64 (lfV x.f)] 65)); have HN9 := Lib.hid (Arr.new w1 #[.int .u64 x.w, .int .u64 (lfV x.f)] 65); clear hb1)
          | (refine step_snoc (enc := encW) (by rfl) _ _ 46 (by rfl) w0.heap.size 65 i0 _ 16 Tryd.underlying46 hi hz0 hz1 hz2 rfl (by decide) encW_len _ _ (by rfl) HO2.out (x.w, lfV x.f) w1.heap.size (by rfl) (fun q u hu => HN9.out.cell q u hu) (by intro u hu; simp [encW] at hu; rcases hu with rfl | rfl <;> rfl) (by have := HL.out; simp; omega) (by decide) w0 HB2.out (Nat.le_refl _) ?_; intro v9 w9 hO9 hB9; have HO8 := Lib.hid hO9; have HB8 := Lib.hid hB9; clear hO9 hB9))
      all_goals
        go_wp2_with fail
        go_roundw
        case rel => exact ⟨j + 1, by go_num, by omega, by rw [HT.out]; exact HO8.out, HB8.out⟩
        case measure => simp [intOf]; omega
    · have e : j = len := by omega
      have HE := Lib.hid (show (ys.map (fun y : Mp => (y.w, lfV y.f))).take j = ys.map (fun y : Mp => (y.w, lfV y.f)) from by rw [List.take_of_length_le (by have := HL.out; rw [List.length_map]; omega)])
      have HO := Lib.hid hO
      have HB := Lib.hid hB
      clear hO hB
      go_wp2_with fail
      go_ret
      exact ⟨_, rfl, by rw [HYS.out, ← HE.out]; exact HO.out.low HBa.out.size, bthen HBa.out HB.out⟩
end Go.Proofs.YtaikkdlphfmgiaaDoor
