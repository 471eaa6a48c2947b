/-
  slices.Clone of a row of pairs; All.
-/
import Derived.Test.YtokmcelmodoeoaaCsSent
import Derived.LoopTactic
import Derived.Lib.SliceRun
import Derived.Deep.DeepCutAuto
namespace Go.Proofs.Ytokmcelmodoeoaa
open Go.RowKit
set_option linter.unusedVariables false
set_option linter.unusedSimpArgs false
set_option maxHeartbeats 1000000 in
theorem clone_any (v : Value) (xs : List Pr) (w : World) (h : Ow encP 4 66 w 0 v xs) (hlen : xs.length ≤ 1000) :
    Calls Try.prog 27 #[v] w fun e w' => ∃ v', e = .returned v' ∧ Ow encP 4 66 w' w.heap.size v' xs ∧ Below w.heap.size w w' := by
  obtain ⟨i0, hi, hz0, hz1, hz2⟩ := info_parts pairInfo
  have q22 : ∀ (w : World) (a : Option Addr) (n c n' c' : Nat), (binOp .eql 58 (.slice a n c) (.slice none n' c')).run Try.prog w = .ok (.bool a.isNone) w := fun w a n c n' c' => Lib.run_eql_slice_nil w _ _ a n c n' c' Try.underlying58
  rcases h.2 with ⟨rfl, hx⟩ | ⟨g, cap, cur, rfl, hb, hh, c1, c2, c3, c4⟩
  · have hx0 : xs = [] := List.eq_nil_of_length_eq_zero hx
    subst hx0
    clear h hx
    go_enter Try.func27, Try.ntmps27
    go_wp2_with fail
    go_ret
    exact ⟨_, rfl, Ow.nil _ _ _, Below.refl _ _⟩
  · have HR := Lib.hid (show RK encP 4 w (some ⟨g, 0, none⟩) xs by
      obtain ⟨O, cap', hv, -, -, hR⟩ := h.form encP_len
      simp only [Value.slice.injEq] at hv
      rw [hv.1]; exact hR)
    have hlt : g < w.heap.size := (h.lt g rfl).2
    clear h hh c3 c4 hb cur
    go_enter Try.func27, Try.ntmps27
    go_wp2_with (at_builtin; refine wp_app (enc := encP) (k := 4) rfl _ _ 58 rfl w.heap.size 66 i0 _ 32 Try.underlying58 hi hz0 hz1 hz2 rfl (by decide) encP_len encP_one _ [] rfl ?c1 xs _ xs.length cap rfl rfl ?c2 (by simp; omega) (by decide) w ?c3 (Nat.le_refl _) ?_)
    case c1 => exact World.ownsRow_made w #[] 0 (Nat.le_refl _) (Nat.zero_le _) (by simp)
    case c2 => exact HR.out.call (ba (Below.refl _ _) _)
    case c3 => exact ba (Below.refl _ _) _
    intro v' w1 hown hb
    go_wp2_with fail
    go_ret
    exact ⟨v', rfl, by simpa using hown, hb⟩
def r8 (us : Nat → Value) : Array Value := #[us 0, us 1, us 2, us 3, us 4, us 5, us 6, us 7]
theorem r8_at (us : Nat → Value) {k : Nat} (hk : k < 8) : (r8 us)[k]? = some (us k) := by
  rcases lt8 hk with rfl | rfl | rfl | rfl | rfl | rfl | rfl | rfl <;> rfl
theorem r8_set (us : Nat → Value) {k : Nat} (hk : k < 8) (v : Value) : (r8 us).setIfInBounds k v = r8 (upV us k v) := by
  rcases lt8 hk with rfl | rfl | rfl | rfl | rfl | rfl | rfl | rfl <;> simp [r8, upV]
/-- Eight rows, read. -/
def Rd (w : World) (R : Nat) (rows : Nat → List Pr) (m : Nat) : Prop :=
  ∃ us : Nat → Value, Bk w R 59 (r8 us) ∧ ∀ k, k < m → ∃ O cap, us k = .slice O (rows k).length cap ∧ RK encP 4 w O (rows k)
theorem Rd.call {w w' : World} {R m : Nat} {rows : Nat → List Pr} (h : Rd w R rows m) (hb : Below w.heap.size w w') : Rd w' R rows m := by
  obtain ⟨us, h1, h2⟩ := h
  refine ⟨us, h1.call hb, fun k hk => ?_⟩
  obtain ⟨O, cap, e1, e2⟩ := h2 k hk
  exact ⟨O, cap, e1, e2.call hb⟩
set_option maxHeartbeats 2000000 in
set_option maxRecDepth 100000 in
theorem call_any (b n : Nat) (rows : Nat → List Pr) (vs : Nat → Value) (F : Nat → Prop) (w : World) (h : Cs w b n rows vs F) (hlen : ∀ k, k < 8 → (rows k).length ≤ 100) :
    Calls Try.prog 20 #[.pointer (some ⟨b, 0, none⟩)] w fun e w' => ∃ R, e = .returned (.func (.func 28) #[] #[.pointer (some ⟨R, 0, none⟩)]) ∧ Rd w' R rows 8 ∧ w.heap.size ≤ R ∧ Below w.heap.size w w' := by
  have h' := h.alloc (.cells (r8 nilVs) 59)
  have hA := Bk.new w 59 (r8 nilVs)
  have HC := Lib.hid h
  have HL := Lib.hid hlen
  have HLT := Lib.hid h.lt
  clear h hlen
  go_enter Try.func20, Try.ntmps20
  go_upto_region 2 with fail
  refine (show ∀ W : World, Cs W b n rows vs F → Bk W w.heap.size 59 (r8 nilVs) → Below w.heap.size w W → Code.wp _ _ _ _ W from fun W hC hA hB => ?_) _ h' hA (ba (Below.refl _ _) _)
  clear h'
  have hRw : w.heap.size < W.heap.size := hA.lt
  generalize hR : w.heap.size = R at *
  have k0 := hC.cellk (show 0 < 8 by omega)
  have k1 := hC.cellk (show 1 < 8 by omega)
  have k2 := hC.cellk (show 2 < 8 by omega)
  have k3 := hC.cellk (show 3 < 8 by omega)
  have k4 := hC.cellk (show 4 < 8 by omega)
  have k5 := hC.cellk (show 5 < 8 by omega)
  have k6 := hC.cellk (show 6 < 8 by omega)
  have k7 := hC.cellk (show 7 < 8 by omega)
  simp only [Nat.reduceAdd, Nat.add_zero] at k0 k1 k2 k3 k4 k5 k6 k7
  have HA := Lib.hid hA
  have HCW := Lib.hid hC
  have HB := Lib.hid hB
  clear hA hC hB HC
  go_wp2_with fail
  go_loopw [12] (fun iv wr => ∃ (k : Nat) (us : Nat → Value), iv = .int .i64 k ∧ k ≤ 8 ∧ Bk wr R 59 (r8 us) ∧ (∀ j, j < k → ∃ O cap, us j = .slice O (rows j).length cap ∧ RK encP 4 wr O (rows j) ∧ ∀ g o, O = some ⟨g, o, none⟩ → g ≠ R) ∧ Keeps (fun y => y = R) W wr) (fun iv _ => 8 - (intOf iv).toNat)
  case atStart => exact ⟨0, nilVs, rfl, by omega, HA.out, fun j hj => by omega, Keeps.refl _ _⟩
  case round =>
    obtain ⟨k, us, rfl, hk, hb, hu, hkp⟩ := hrel
    have HB2 := Lib.hid hb
    have HU := Lib.hid hu
    have HK := Lib.hid hkp
    have hRr : R < wr.heap.size := hb.lt
    clear hb hu hkp k0 k1 k2 k3 k4 k5 k6 k7
    by_cases hlt : k < 8
    · have hRF : ¬ F R := fun hf => by have := HLT.out R hf; omega
      obtain ⟨O, cap, hv, hl, hmx, -⟩ := HCW.out.form hlt
      have hix : ∀ w' : World, (Instr.index 59 (.agg #[vs 0, vs 1, vs 2, vs 3, vs 4, vs 5, vs 6, vs 7]) (.int .i64 k)).run Try.prog w' = .ok (.slice O (rows k).length cap) w' := by
        intro w'
        rw [← hv]
        rcases lt8 hlt with rfl | rfl | rfl | rfl | rfl | rfl | rfl | rfl <;> simp [go_sem, Try.underlying59, Instr.index]
      have HV := Lib.hid hv
      have hkI : (k : Int) < 8 := by omega
      clear hv
      go_wp2_with fail
      have hCr := HCW.out.keep HK.out (fun g hg e => hRF (by rw [← e]; exact hg))
      have hOw := hCr.row k hlt
      rw [HV.out] at hOw
      refine (clone_any _ (rows k) _ hOw (by have := HL.out k hlt; omega)).mono ?_
      rintro e w2 ⟨v', rfl, ho, hb2⟩
      have hc2 : w2.cell? ⟨R, k, none⟩ = some (us k) := (hb2.cell (p := ⟨R, k, none⟩) hRr).trans ((HB2.out.cell k).trans (r8_at us hlt))
      have hf2 : w2.frozen? ⟨R, k, none⟩ = false := (hb2.frozen (p := ⟨R, k, none⟩) hRr).trans (HB2.out.frozen k)
      have hkp2 : Keeps (fun y => y = R) w2 (w2.setCell ⟨R, k, none⟩ v') := Keeps.setCell (F := fun y => y = R) (p := ⟨R, k, none⟩) rfl v'
      have HBk := Lib.hid (show Bk (w2.setCell ⟨R, k, none⟩ v') R 59 (r8 (upV us k v')) by
        have := (HB2.out.call hb2).set k v'
        rwa [r8_set us hlt] at this)
      have HUk := Lib.hid (show ∀ j, j < k + 1 → ∃ O cap, upV us k v' j = .slice O (rows j).length cap ∧ RK encP 4 (w2.setCell ⟨R, k, none⟩ v') O (rows j) ∧ ∀ g o, O = some ⟨g, o, none⟩ → g ≠ R from fun j hj => by
        by_cases e : j = k
        · subst e
          obtain ⟨O3, cap3, e1, -, -, e4⟩ := ho.form encP_len
          have hg : ∀ g o, O3 = some ⟨g, o, none⟩ → g ≠ R := fun g o hO => by
            subst hO
            have := (ho.lt g (by rw [e1]; rfl)).1
            omega
          exact ⟨O3, cap3, by simp only [upV, if_pos]; exact e1, e4.keep hkp2 (fun g o hO => hg g o hO), hg⟩
        · obtain ⟨O3, cap3, e1, e2, e3⟩ := HU.out j (by omega)
          exact ⟨O3, cap3, by simp only [upV, if_neg e]; exact e1, (e2.call hb2).keep hkp2 (fun g o hO => e3 g o hO), e3⟩)
      have HKk := Lib.hid (show Keeps (fun y => y = R) W (w2.setCell ⟨R, k, none⟩ v') from (HK.out.trans (Keeps.of_below (F := fun y => y = R) hb2) (fun x hx => Or.inl hx)).trans hkp2 (fun x hx => Or.inl hx))
      obtain ⟨O3, cap3, rfl, -, -, -⟩ := ho.form encP_len
      clear ho hb2 hkp2 hOw hCr
      go_wp2_with fail
      go_roundw
      case rel => exact ⟨k + 1, _, by go_num, by omega, HBk.out, HUk.out, HKk.out⟩
      case measure => simp [intOf]; omega
    · obtain rfl : k = 8 := by omega
      go_wp2_with fail
      go_ret
      exact ⟨R, rfl, ⟨us, HB2.out, fun k hk => by obtain ⟨O3, cap3, e1, e2, -⟩ := HU.out k hk; exact ⟨O3, cap3, e1, e2⟩⟩, by omega, HK.out.below (w0 := w) (by rw [hR]; exact HB.out) (fun x hx => by rw [hx]; omega)⟩
end Go.Proofs.Ytokmcelmodoeoaa
