/-
  The document's cut.
-/
import Derived.Test.YtaikkdlphfmgiaaSpSnoc
namespace Go.Proofs.Ytaikkdlphfmgiaa
open Go.RowKit
set_option linter.unusedVariables false
set_option linter.unusedSimpArgs false
def kpS (st wr : Bool) (a i r : Reg) : List Reg := if st then [a, ⟨i.f, i.c, wr⟩, r] else [a, r]
theorem kpS_u (wr : Bool) : kpS false wr = kpU := rfl
theorem kpS_p (wr : Bool) : kpS true wr = kpP wr := rfl
theorem kpS_3 (st wr : Bool) (a i r : Reg) : (kpS st wr a i r).length ≤ 3 := by cases st <;> simp [kpS]
section
variable {r : Reg} {f c : Int} {wr : Bool}
theorem pcs_ab {st : Bool} (a b : Int) (ha : paA r f = a) (hb : paB r f (f + c) = b) : pcs (kpS st wr) f (f + c) r = keepL (kpS st wr ⟨r.f, a - r.f, r.w⟩ ⟨a, b - a, r.w⟩ ⟨b, r.f + r.c - b, r.w⟩) := by
  unfold pcs pAhead pIn pRest
  rw [ha, hb]
theorem hasP_y {f c : Int} {w : Bool} (h : c ≠ 0) : hasP ⟨f, c, w⟩ = true := by simpa [hasP] using h
theorem hasP_n {f c : Int} {w : Bool} (h : c = 0) : hasP ⟨f, c, w⟩ = false := by simp [hasP, h]
theorem pcs_f11 (h1 : r.f < f) (h2 : f + c < r.f + r.c) (hr : Rok r) (hc : 1 ≤ c) : pcs (kpS false wr) f (f + c) r = [⟨r.f, f - r.f, r.w⟩, ⟨f + c, r.f + r.c - (f + c), r.w⟩] := by
  obtain ⟨k0, k1, k2⟩ := hr
  rw [pcs_ab f (f + c) (by unfold paA; omega) (by unfold paB paA; omega)]
  simp [keepL, kpS, List.filter_cons, hasP, show ¬ (f - r.f = 0) by omega, show ¬ (r.f + r.c - (f + c) = 0) by omega]
theorem pcs_t11 (h1 : r.f < f) (h2 : f + c < r.f + r.c) (hr : Rok r) (hc : 1 ≤ c) : pcs (kpS true wr) f (f + c) r = [⟨r.f, f - r.f, r.w⟩, ⟨f, f + c - f, wr⟩, ⟨f + c, r.f + r.c - (f + c), r.w⟩] := by
  obtain ⟨k0, k1, k2⟩ := hr
  rw [pcs_ab f (f + c) (by unfold paA; omega) (by unfold paB paA; omega)]
  simp only [keepL, kpS, List.filter_cons, hasP_y (show f - r.f ≠ 0 by omega), hasP_y (show f + c - f ≠ 0 by omega), hasP_y (show r.f + r.c - (f + c) ≠ 0 by omega), if_true, List.filter_nil]
theorem pcs_f10 (h1 : r.f < f) (h2 : ¬ f + c < r.f + r.c) (h3 : f < r.f + r.c) (hr : Rok r) (hc : 1 ≤ c) : pcs (kpS false wr) f (f + c) r = [⟨r.f, f - r.f, r.w⟩] := by
  obtain ⟨k0, k1, k2⟩ := hr
  rw [pcs_ab f (r.f + r.c) (by unfold paA; omega) (by unfold paB paA; omega)]
  simp [keepL, kpS, List.filter_cons, hasP, show ¬ (f - r.f = 0) by omega]
theorem pcs_t10 (h1 : r.f < f) (h2 : ¬ f + c < r.f + r.c) (h3 : f < r.f + r.c) (hr : Rok r) (hc : 1 ≤ c) : pcs (kpS true wr) f (f + c) r = [⟨r.f, f - r.f, r.w⟩, ⟨f, r.f + r.c - f, wr⟩] := by
  obtain ⟨k0, k1, k2⟩ := hr
  rw [pcs_ab f (r.f + r.c) (by unfold paA; omega) (by unfold paB paA; omega)]
  simp [keepL, kpS, List.filter_cons, hasP, show ¬ (f - r.f = 0) by omega, show ¬ (r.f + r.c - f = 0) by omega]
theorem pcs_f01 (h1 : ¬ r.f < f) (h2 : f + c < r.f + r.c) (h3 : r.f < f + c) (hr : Rok r) (hc : 1 ≤ c) : pcs (kpS false wr) f (f + c) r = [⟨f + c, r.f + r.c - (f + c), r.w⟩] := by
  obtain ⟨k0, k1, k2⟩ := hr
  rw [pcs_ab r.f (f + c) (by unfold paA; omega) (by unfold paB paA; omega)]
  simp [keepL, kpS, List.filter_cons, hasP, show ¬ (r.f + r.c - (f + c) = 0) by omega]
theorem pcs_t01 (h1 : ¬ r.f < f) (h2 : f + c < r.f + r.c) (h3 : r.f < f + c) (hr : Rok r) (hc : 1 ≤ c) : pcs (kpS true wr) f (f + c) r = [⟨r.f, f + c - r.f, wr⟩, ⟨f + c, r.f + r.c - (f + c), r.w⟩] := by
  obtain ⟨k0, k1, k2⟩ := hr
  rw [pcs_ab r.f (f + c) (by unfold paA; omega) (by unfold paB paA; omega)]
  simp [keepL, kpS, List.filter_cons, hasP, show ¬ (f + c - r.f = 0) by omega, show ¬ (r.f + r.c - (f + c) = 0) by omega]
theorem pcs_f00 (h1 : ¬ r.f < f) (h2 : ¬ f + c < r.f + r.c) (hr : Rok r) (hc : 1 ≤ c) : pcs (kpS false wr) f (f + c) r = [] := by
  obtain ⟨k0, k1, k2⟩ := hr
  rw [pcs_ab r.f (r.f + r.c) (by unfold paA; omega) (by unfold paB paA; omega)]
  simp [keepL, kpS, List.filter_cons, hasP]
theorem pcs_t00 (h1 : ¬ r.f < f) (h2 : ¬ f + c < r.f + r.c) (hr : Rok r) (hc : 1 ≤ c) : pcs (kpS true wr) f (f + c) r = [⟨r.f, r.f + r.c - r.f, wr⟩] := by
  obtain ⟨k0, k1, k2⟩ := hr
  rw [pcs_ab r.f (r.f + r.c) (by unfold paA; omega) (by unfold paB paA; omega)]
  have e : r.f + r.c - r.f = r.c := by omega
  simp [keepL, kpS, List.filter_cons, hasP, e, show ¬ (r.c = 0) by omega]
theorem pcs_no0 (st wr : Bool) (h3 : ¬ f < r.f + r.c) (hr : Rok r) (hc : 1 ≤ c) : pcs (kpS st wr) f (f + c) r = [⟨r.f, r.c, r.w⟩] := by
  obtain ⟨k0, k1, k2⟩ := hr
  rw [pcs_ab (r.f + r.c) (r.f + r.c) (by unfold paA; omega) (by unfold paB paA; omega)]
  have e : r.f + r.c - r.f = r.c := by omega
  cases st <;> simp [keepL, kpS, List.filter_cons, hasP, e, show ¬ (r.c = 0) by omega]
theorem pcs_no1 (st wr : Bool) (h3 : ¬ r.f < f + c) (hr : Rok r) (hc : 1 ≤ c) : pcs (kpS st wr) f (f + c) r = [⟨r.f, r.c, r.w⟩] := by
  obtain ⟨k0, k1, k2⟩ := hr
  rw [pcs_ab r.f r.f (by unfold paA; omega) (by unfold paB paA; omega)]
  have e : r.f + r.c - r.f = r.c := by omega
  cases st <;> simp [keepL, kpS, List.filter_cons, hasP, e, show ¬ (r.c = 0) by omega]
end
set_option maxHeartbeats 8000000 in
set_option maxRecDepth 100000 in
theorem r19cut_any (O : Option Addr) (len cap : Nat) (l : List Reg) (f c : Int) (st wt : Bool) (w : World) (hI : RegsK w O l) (hl : l.length = len) (hcap : len ≤ cap) (h8 : len ≤ 8) (hok : ∀ k, k < l.length → Rok (rg l k))
    (hf0 : 0 ≤ f) (hc1 : 1 ≤ c) (hfc : f + c ≤ 34359738368) :
    Calls Try.prog 47 #[.slice O len cap, .int .u64 f, .int .i64 c, .bool st, .bool wt] w fun e w' => ∃ v, e = .returned v ∧ Ow encG 3 25 w' w.heap.size v (l.flatMap (pcs (kpS st wt) f (f + c))) ∧ Below w.heap.size w w' := by
  have HI := Lib.hid hI
  have HL := Lib.hid hl
  have HOK := Lib.hid hok
  clear hI hl hok
  go_enter Try.func47, Try.ntmps47
  go_wp2_with fail
  go_loopw [11, 13] (fun v i wr' => ∃ k : Nat, i = .int .i64 k ∧ k ≤ len ∧ Ow encG 3 25 wr' w.heap.size v ((l.take k).flatMap (pcs (kpS st wt) f (f + c))) ∧ Below w.heap.size w wr') (fun _ i _ => len - (intOf i).toNat)
  case atStart => exact ⟨0, by simp, by omega, Ow.nil _ _ _, Below.refl _ _⟩
  case round =>
    obtain ⟨k, rfl, hk, hO, hB⟩ := hrel
    have HO := Lib.hid hO
    have HB := Lib.hid hB
    clear hO hB
    by_cases hlt : k < len
    · have hlt' : k < l.length := by rw [HL.out]; exact hlt
      have HLE := Lib.hid (Nat.le_trans (flatMap_le (pcs (kpS st wt) f (f + c)) 3 (fun r => Nat.le_trans (keepL_le _) (kpS_3 st wt _ _ _)) (l.take k)) (show (l.take k).length * 3 ≤ 24 by rw [List.length_take]; omega))
      have HTK := Lib.hid (flatMap_take (pcs (kpS st wt) f (f + c)) hlt')
      have hk0 := HOK.out k hlt'
      obtain ⟨q0, q1, q2⟩ := hk0
      have hk0 : Rok (rg l k) := ⟨q0, q1, q2⟩
      obtain ⟨b, off, rfl, hc⟩ := (HI.out.call HB.out) (by rw [HL.out]; omega)
      obtain ⟨c0, c1, c2⟩ := hc k hlt'
      clear hc
      go_upto_region 7 with fail
      refine (show ∀ W : World, Cx w W u11 ((l.take k).flatMap (pcs (kpS st wt) f (f + c))) wr.heap.size (rg l k) → Code.wp _ _ _ _ W from fun W hC => ?_) _ ⟨HO.out.call (ba (Below.refl _ _) _), Arr.new _ #[.int .u64 (rg l k).f, .int .i64 (rg l k).c, .bool (rg l k).w] _, fun e => by have := (HO.out.lt _ e).2; omega, ba HB.out _⟩
      have HC0 := Lib.hid hC
      have y00 := hC.a.cell 0 _ rfl
      have y01 := hC.a.cell 1 _ rfl
      have y02 := hC.a.cell 2 _ rfl
      clear hC HO HB c0 c1 c2
      by_cases h1 : (rg l k).f < f
      · skip
        by_cases h2 : f + c < (rg l k).f + (rg l k).c
        · skip
          cases st
          · skip
            have HP := Lib.hid (show pcs (kpS false wt) f (f + c) (rg l k) = [⟨(rg l k).f, f - (rg l k).f, (rg l k).w⟩, ⟨(f + c), (rg l k).f + (rg l k).c - (f + c), (rg l k).w⟩] from pcs_f11 h1 h2 hk0 hc1)
            go_wp2_with (first
                | (at_builtin; refine wp_snocC rfl _ _ rfl rfl HC0.out ⟨(rg l k).f, f - (rg l k).f, (rg l k).w⟩ rfl (by have := HLE.out; (try simp only [List.length_append, List.length_cons, List.length_nil]); omega) ?_; intro v1 w1 hc1; have HC1 := Lib.hid hc1; have y10 := hc1.a.cell 0 _ rfl; have y11 := hc1.a.cell 1 _ rfl; have y12 := hc1.a.cell 2 _ rfl; clear hc1)
                | (at_builtin; refine wp_snocC rfl _ _ rfl rfl HC1.out ⟨(f + c), (rg l k).f + (rg l k).c - (f + c), (rg l k).w⟩ rfl (by have := HLE.out; (try simp only [List.length_append, List.length_cons, List.length_nil]); omega) ?_; intro v2 w2 hc2; have HC2 := Lib.hid hc2; have y20 := hc2.a.cell 0 _ rfl; have y21 := hc2.a.cell 1 _ rfl; have y22 := hc2.a.cell 2 _ rfl; clear hc2))
            go_roundw
            case rel => exact ⟨k + 1, by go_num, by omega, by rw [HTK.out, HP.out]; simpa using HC2.out.o, HC2.out.b⟩
            case measure => simp [intOf]; omega
          · skip
            have HP := Lib.hid (show pcs (kpS true wt) f (f + c) (rg l k) = [⟨(rg l k).f, f - (rg l k).f, (rg l k).w⟩, ⟨f, (f + c) - f, wt⟩, ⟨(f + c), (rg l k).f + (rg l k).c - (f + c), (rg l k).w⟩] from pcs_t11 h1 h2 hk0 hc1)
            go_wp2_with (first
                | (at_builtin; refine wp_snocC rfl _ _ rfl rfl HC0.out ⟨(rg l k).f, f - (rg l k).f, (rg l k).w⟩ rfl (by have := HLE.out; (try simp only [List.length_append, List.length_cons, List.length_nil]); omega) ?_; intro v1 w1 hc1; have HC1 := Lib.hid hc1; have y10 := hc1.a.cell 0 _ rfl; have y11 := hc1.a.cell 1 _ rfl; have y12 := hc1.a.cell 2 _ rfl; clear hc1)
                | (at_builtin; refine wp_snocC rfl _ _ rfl rfl HC1.out ⟨f, (f + c) - f, wt⟩ rfl (by have := HLE.out; (try simp only [List.length_append, List.length_cons, List.length_nil]); omega) ?_; intro v2 w2 hc2; have HC2 := Lib.hid hc2; have y20 := hc2.a.cell 0 _ rfl; have y21 := hc2.a.cell 1 _ rfl; have y22 := hc2.a.cell 2 _ rfl; clear hc2)
                | (at_builtin; refine wp_snocC rfl _ _ rfl rfl HC2.out ⟨(f + c), (rg l k).f + (rg l k).c - (f + c), (rg l k).w⟩ rfl (by have := HLE.out; (try simp only [List.length_append, List.length_cons, List.length_nil]); omega) ?_; intro v3 w3 hc3; have HC3 := Lib.hid hc3; have y30 := hc3.a.cell 0 _ rfl; have y31 := hc3.a.cell 1 _ rfl; have y32 := hc3.a.cell 2 _ rfl; clear hc3))
            go_roundw
            case rel => exact ⟨k + 1, by go_num, by omega, by rw [HTK.out, HP.out]; simpa using HC3.out.o, HC3.out.b⟩
            case measure => simp [intOf]; omega
        · skip
          by_cases h3 : f < (rg l k).f + (rg l k).c
          · skip
            cases st
            · skip
              have HP := Lib.hid (show pcs (kpS false wt) f (f + c) (rg l k) = [⟨(rg l k).f, f - (rg l k).f, (rg l k).w⟩] from pcs_f10 h1 h2 h3 hk0 hc1)
              go_wp2_with (first
                | (at_builtin; refine wp_snocC rfl _ _ rfl rfl HC0.out ⟨(rg l k).f, f - (rg l k).f, (rg l k).w⟩ rfl (by have := HLE.out; (try simp only [List.length_append, List.length_cons, List.length_nil]); omega) ?_; intro v1 w1 hc1; have HC1 := Lib.hid hc1; have y10 := hc1.a.cell 0 _ rfl; have y11 := hc1.a.cell 1 _ rfl; have y12 := hc1.a.cell 2 _ rfl; clear hc1))
              go_roundw
              case rel => exact ⟨k + 1, by go_num, by omega, by rw [HTK.out, HP.out]; simpa using HC1.out.o, HC1.out.b⟩
              case measure => simp [intOf]; omega
            · skip
              have HP := Lib.hid (show pcs (kpS true wt) f (f + c) (rg l k) = [⟨(rg l k).f, f - (rg l k).f, (rg l k).w⟩, ⟨f, (rg l k).f + (rg l k).c - f, wt⟩] from pcs_t10 h1 h2 h3 hk0 hc1)
              go_wp2_with (first
                | (at_builtin; refine wp_snocC rfl _ _ rfl rfl HC0.out ⟨(rg l k).f, f - (rg l k).f, (rg l k).w⟩ rfl (by have := HLE.out; (try simp only [List.length_append, List.length_cons, List.length_nil]); omega) ?_; intro v1 w1 hc1; have HC1 := Lib.hid hc1; have y10 := hc1.a.cell 0 _ rfl; have y11 := hc1.a.cell 1 _ rfl; have y12 := hc1.a.cell 2 _ rfl; clear hc1)
                | (at_builtin; refine wp_snocC rfl _ _ rfl rfl HC1.out ⟨f, (rg l k).f + (rg l k).c - f, wt⟩ rfl (by have := HLE.out; (try simp only [List.length_append, List.length_cons, List.length_nil]); omega) ?_; intro v2 w2 hc2; have HC2 := Lib.hid hc2; have y20 := hc2.a.cell 0 _ rfl; have y21 := hc2.a.cell 1 _ rfl; have y22 := hc2.a.cell 2 _ rfl; clear hc2))
              go_roundw
              case rel => exact ⟨k + 1, by go_num, by omega, by rw [HTK.out, HP.out]; simpa using HC2.out.o, HC2.out.b⟩
              case measure => simp [intOf]; omega
          · skip
            have HP := Lib.hid (show pcs (kpS st wt) f (f + c) (rg l k) = [⟨(rg l k).f, (rg l k).c, (rg l k).w⟩] from pcs_no0 st wt h3 hk0 hc1)
            go_wp2_with (first
                | (at_builtin; refine wp_snocC rfl _ _ rfl rfl HC0.out ⟨(rg l k).f, (rg l k).c, (rg l k).w⟩ rfl (by have := HLE.out; (try simp only [List.length_append, List.length_cons, List.length_nil]); omega) ?_; intro v1 w1 hc1; have HC1 := Lib.hid hc1; have y10 := hc1.a.cell 0 _ rfl; have y11 := hc1.a.cell 1 _ rfl; have y12 := hc1.a.cell 2 _ rfl; clear hc1))
            go_roundw
            case rel => exact ⟨k + 1, by go_num, by omega, by rw [HTK.out, HP.out]; simpa using HC1.out.o, HC1.out.b⟩
            case measure => simp [intOf]; omega
      · skip
        by_cases h2 : f + c < (rg l k).f + (rg l k).c
        · skip
          by_cases h3 : (rg l k).f < f + c
          · skip
            cases st
            · skip
              have HP := Lib.hid (show pcs (kpS false wt) f (f + c) (rg l k) = [⟨(f + c), (rg l k).f + (rg l k).c - (f + c), (rg l k).w⟩] from pcs_f01 h1 h2 h3 hk0 hc1)
              go_wp2_with (first
                | (at_builtin; refine wp_snocC rfl _ _ rfl rfl HC0.out ⟨(f + c), (rg l k).f + (rg l k).c - (f + c), (rg l k).w⟩ rfl (by have := HLE.out; (try simp only [List.length_append, List.length_cons, List.length_nil]); omega) ?_; intro v1 w1 hc1; have HC1 := Lib.hid hc1; have y10 := hc1.a.cell 0 _ rfl; have y11 := hc1.a.cell 1 _ rfl; have y12 := hc1.a.cell 2 _ rfl; clear hc1))
              go_roundw
              case rel => exact ⟨k + 1, by go_num, by omega, by rw [HTK.out, HP.out]; simpa using HC1.out.o, HC1.out.b⟩
              case measure => simp [intOf]; omega
            · skip
              have HP := Lib.hid (show pcs (kpS true wt) f (f + c) (rg l k) = [⟨(rg l k).f, (f + c) - (rg l k).f, wt⟩, ⟨(f + c), (rg l k).f + (rg l k).c - (f + c), (rg l k).w⟩] from pcs_t01 h1 h2 h3 hk0 hc1)
              go_wp2_with (first
                | (at_builtin; refine wp_snocC rfl _ _ rfl rfl HC0.out ⟨(rg l k).f, (f + c) - (rg l k).f, wt⟩ rfl (by have := HLE.out; (try simp only [List.length_append, List.length_cons, List.length_nil]); omega) ?_; intro v1 w1 hc1; have HC1 := Lib.hid hc1; have y10 := hc1.a.cell 0 _ rfl; have y11 := hc1.a.cell 1 _ rfl; have y12 := hc1.a.cell 2 _ rfl; clear hc1)
                | (at_builtin; refine wp_snocC rfl _ _ rfl rfl HC1.out ⟨(f + c), (rg l k).f + (rg l k).c - (f + c), (rg l k).w⟩ rfl (by have := HLE.out; (try simp only [List.length_append, List.length_cons, List.length_nil]); omega) ?_; intro v2 w2 hc2; have HC2 := Lib.hid hc2; have y20 := hc2.a.cell 0 _ rfl; have y21 := hc2.a.cell 1 _ rfl; have y22 := hc2.a.cell 2 _ rfl; clear hc2))
              go_roundw
              case rel => exact ⟨k + 1, by go_num, by omega, by rw [HTK.out, HP.out]; simpa using HC2.out.o, HC2.out.b⟩
              case measure => simp [intOf]; omega
          · skip
            have HP := Lib.hid (show pcs (kpS st wt) f (f + c) (rg l k) = [⟨(rg l k).f, (rg l k).c, (rg l k).w⟩] from pcs_no1 st wt h3 hk0 hc1)
            go_wp2_with (first
                | (at_builtin; refine wp_snocC rfl _ _ rfl rfl HC0.out ⟨(rg l k).f, (rg l k).c, (rg l k).w⟩ rfl (by have := HLE.out; (try simp only [List.length_append, List.length_cons, List.length_nil]); omega) ?_; intro v1 w1 hc1; have HC1 := Lib.hid hc1; have y10 := hc1.a.cell 0 _ rfl; have y11 := hc1.a.cell 1 _ rfl; have y12 := hc1.a.cell 2 _ rfl; clear hc1))
            go_roundw
            case rel => exact ⟨k + 1, by go_num, by omega, by rw [HTK.out, HP.out]; simpa using HC1.out.o, HC1.out.b⟩
            case measure => simp [intOf]; omega
        · skip
          cases st
          · skip
            have HP := Lib.hid (show pcs (kpS false wt) f (f + c) (rg l k) = [] from pcs_f00 h1 h2 hk0 hc1)
            go_wp2_with fail
            go_roundw
            case rel => exact ⟨k + 1, by go_num, by omega, by rw [HTK.out, HP.out]; simpa using HC0.out.o, HC0.out.b⟩
            case measure => simp [intOf]; omega
          · skip
            have HP := Lib.hid (show pcs (kpS true wt) f (f + c) (rg l k) = [⟨(rg l k).f, (rg l k).f + (rg l k).c - (rg l k).f, wt⟩] from pcs_t00 h1 h2 hk0 hc1)
            go_wp2_with (first
                | (at_builtin; refine wp_snocC rfl _ _ rfl rfl HC0.out ⟨(rg l k).f, (rg l k).f + (rg l k).c - (rg l k).f, wt⟩ rfl (by have := HLE.out; (try simp only [List.length_append, List.length_cons, List.length_nil]); omega) ?_; intro v1 w1 hc1; have HC1 := Lib.hid hc1; have y10 := hc1.a.cell 0 _ rfl; have y11 := hc1.a.cell 1 _ rfl; have y12 := hc1.a.cell 2 _ rfl; clear hc1))
            go_roundw
            case rel => exact ⟨k + 1, by go_num, by omega, by rw [HTK.out, HP.out]; simpa using HC1.out.o, HC1.out.b⟩
            case measure => simp [intOf]; omega
    · obtain rfl : k = len := by omega
      have HT := Lib.hid (show l.take k = l by rw [← HL.out, List.take_length])
      go_wp2_with fail
      go_ret
      rw [HT.out] at HO
      exact ⟨_, rfl, HO.out, HB.out⟩
end Go.Proofs.Ytaikkdlphfmgiaa
