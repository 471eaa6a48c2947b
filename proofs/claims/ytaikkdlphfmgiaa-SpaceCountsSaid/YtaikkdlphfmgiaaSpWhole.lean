/-
  Whole stretches: the walks of the two Whole.
-/
import Derived.Test.YtaikkdlphfmgiaaSpFind2
import Derived.Test.YtaikkdlphfmgiaaRwMore
namespace Go.Proofs.Ytaikkdlphfmgiaa
open Go.RowKit
set_option linter.unusedVariables false
set_option linter.unusedSimpArgs false
def encG (r : Reg) : List Value := [.int .u64 r.f, .int .i64 r.c, .bool r.w]
theorem encG_len (r : Reg) : (encG r).length = 3 := rfl
theorem encG_one (r : Reg) : ∀ u ∈ encG r, u.oneCell' = true := by simp [encG, Value.oneCell']
theorem rg_get {l : List Reg} {k : Nat} {r : Reg} (h : l[k]? = some r) : rg l k = r := by
  unfold rg
  rw [List.getD_eq_getElem?_getD, h, Option.getD_some]
theorem rg_some {l : List Reg} {k : Nat} (h : k < l.length) : l[k]? = some (rg l k) := by
  unfold rg
  rw [List.getD_eq_getElem?_getD, List.getElem?_eq_getElem h, Option.getD_some]
theorem RegsK.rk {w : World} {O : Option Addr} {l : List Reg} (h : RegsK w O l) : RK encG 3 w O l := fun h0 => by
  obtain ⟨b, off, e, hc⟩ := h h0
  refine ⟨b, off, e, fun i x hx j u hu => ?_⟩
  obtain ⟨h1, h2, h3⟩ := hc i (List.getElem?_eq_some_iff.1 hx).1
  rw [rg_get hx] at h1 h2 h3
  match j, hu with
  | 0, hu => simp [encG] at hu; subst hu; exact h1
  | 1, hu => simp [encG] at hu; subst hu; exact h2
  | 2, hu => simp [encG] at hu; subst hu; exact h3
  | j + 3, hu => simp [encG] at hu
theorem RK.regs {w : World} {O : Option Addr} {l : List Reg} (h : RK encG 3 w O l) : RegsK w O l := fun h0 => by
  obtain ⟨b, off, e, hc⟩ := h h0
  refine ⟨b, off, e, fun i hi => ?_⟩
  have hx := rg_some hi
  exact ⟨hc i _ hx 0 _ rfl, hc i _ hx 1 _ rfl, hc i _ hx 2 _ rfl⟩
/-- All pages of a stretch are in the regions. -/
def whB (l : List Reg) (f : Int) : Nat → Bool
  | 0 => true
  | k + 1 => whB l f k && (fnd l (f + k)).isSome
def whl (l : List Reg) (f c : Int) : Bool := (eB f c && decide (c ≤ 16)) && whB l f c.toNat
theorem whB_no {l : List Reg} {f : Int} : ∀ {n k : Nat}, k < n → fnd l (f + k) = none → whB l f n = false
  | n + 1, k, h, e => by
    unfold whB
    by_cases hk : k = n
    · subst hk; simp [e]
    · rw [whB_no (n := n) (k := k) (by omega) e]; rfl
theorem fndV_isSome (o : Option Reg) : ∃ r : Reg, fndV o = .tuple #[.agg #[.int .u64 r.f, .int .i64 r.c, .bool r.w], .bool o.isSome] := by
  cases o with
  | none => exact ⟨⟨0, 0, false⟩, rfl⟩
  | some r => exact ⟨r, rfl⟩
set_option maxHeartbeats 2000000 in
theorem spWhole_any (O : Option Addr) (len cap : Nat) (f c : Int) (l : List Reg) (w : World) (hI : RegsK w O l) (hl : l.length = len) (hcap : len ≤ cap) (hwf : ∀ i, i < len → (rg l i).wf) (hf : U64 f) (hc : -9223372036854775808 ≤ c ∧ c < 9223372036854775808) :
    Calls Try.prog 21 #[.slice O len cap, .int .u64 f, .int .i64 c] w fun e w' => e = .returned (.bool (whl l f c)) ∧ Below w.heap.size w w' := by
  have HI := Lib.hid hI
  have HL := Lib.hid hl
  have HW := Lib.hid hwf
  clear hI hl hwf
  rcases he : eB f c with _ | _
  · have HE := Lib.hid he
    rw [show whl l f c = false by simp [whl, he]]
    clear he
    go_enter Try.func21, Try.ntmps21
    go_wp2_with fail
    refine (spEnd_no f c _ hf hc HE.out).mono ?_
    rintro e w1 ⟨rfl, rfl⟩
    go_wp2_with fail
    go_ret
    exact ⟨rfl, Below.refl _ _⟩
  · have HE := Lib.hid he
    obtain ⟨c1, c2, c3⟩ := (eB_iff f c).1 he
    have hf0 := hf.1
    by_cases h16 : c ≤ 16
    · obtain ⟨c, rfl⟩ := Int.eq_ofNat_of_zero_le (show 0 ≤ c by omega)
      rw [show whl l f c = whB l f c by unfold whl; rw [he, decide_eq_true h16]; simp]
      clear he
      go_enter Try.func21, Try.ntmps21
      go_wp2_with fail
      refine (spEnd_yes f c _ hf HE.out).mono ?_
      rintro e w1 ⟨rfl, rfl⟩
      go_wp2_with fail
      go_loopw [9] (fun i wr => ∃ k : Nat, i = .int .u64 (f + k) ∧ k ≤ c ∧ whB l f k = true ∧ Below w.heap.size w wr) (fun i _ => (f + c - intOf i).toNat)
      case atStart => exact ⟨0, by simp, by omega, rfl, Below.refl _ _⟩
      case round =>
        obtain ⟨k, rfl, hk, hw, hB⟩ := hrel
        have HWB := Lib.hid hw
        have HB := Lib.hid hB
        clear hw hB
        by_cases hlt : k < c
        · go_wp2_with fail
          refine (spFind_any O len cap (f + k) l _ (HI.out.call HB.out) HL.out hcap HW.out).mono ?_
          rintro e w1 ⟨rfl, hb1⟩
          have HB1 := Lib.hid (bthen HB.out hb1)
          clear hb1
          rcases hp : fnd l (f + k) with _ | r
          · have HN := Lib.hid (whB_no hlt hp)
            simp only [fndV]
            go_wp2_with fail
            rw [HN.out]
            go_ret
            exact ⟨rfl, ba HB1.out _⟩
          · have HN := Lib.hid (show whB l f (k + 1) = true by unfold whB; rw [HWB.out, hp]; rfl)
            simp only [fndV]
            go_wp2_with fail
            go_roundw
            case rel => exact ⟨k + 1, by go_num, by omega, HN.out, ba HB1.out _⟩
            case measure => simp [intOf]; omega
        · obtain rfl : k = c := by omega
          go_wp2_with fail
          rw [HWB.out]
          go_ret
          exact ⟨rfl, HB.out⟩
    · rw [show whl l f c = false by simp [whl, h16]]
      clear he
      go_enter Try.func21, Try.ntmps21
      go_wp2_with fail
      refine (spEnd_yes f c _ hf HE.out).mono ?_
      rintro e w1 ⟨rfl, rfl⟩
      go_wp2_with fail
      go_ret
      exact ⟨rfl, Below.refl _ _⟩
set_option maxHeartbeats 2000000 in
theorem r19Whole_any (O : Option Addr) (len cap : Nat) (f c : Int) (l : List Reg) (w : World) (hI : RegsK w O l) (hl : l.length = len) (hcap : len ≤ cap) (hm : len ≤ 1000) (hwf : ∀ i, i < len → (rg l i).wf) (hf : U64 f) :
    Calls Try.prog 22 #[.slice O len cap, .int .u64 f, .int .i64 c] w fun e w' => e = .returned (.bool (whl l f c)) ∧ Below w.heap.size w w' := by
  have HI := Lib.hid hI
  have HL := Lib.hid hl
  have HW := Lib.hid hwf
  clear hI hl hwf
  have hf0 := hf.1
  have hf1 := hf.2
  by_cases he : 1 ≤ c ∧ c ≤ 16
  · obtain ⟨c, rfl⟩ := Int.eq_ofNat_of_zero_le (show 0 ≤ c by omega)
    obtain ⟨c1, c2⟩ := he
    by_cases c3 : f ≤ 34359738368 - c
    · rw [show whl l f c = whB l f c by simp [whl, eB]; omega]
      go_enter Try.func22, Try.ntmps22
      go_wp2_with fail
      go_loopw [7] (fun i wr => ∃ k : Nat, i = .int .i64 k ∧ k ≤ c ∧ whB l f k = true ∧ Below w.heap.size w wr) (fun i _ => c - (intOf i).toNat)
      case atStart => exact ⟨0, by simp, by omega, rfl, Below.refl _ _⟩
      case round =>
        obtain ⟨k, rfl, hk, hw, hB⟩ := hrel
        have HWB := Lib.hid hw
        have HB := Lib.hid hB
        clear hw hB
        by_cases hlt : k < c
        · go_wp2_with fail
          refine (r19Find_any O len cap (f + k) l _ (HI.out.call HB.out) HL.out hcap hm ⟨by omega, by omega⟩ HW.out).mono ?_
          rintro e w1 ⟨rfl, hb1⟩
          have HB1 := Lib.hid (bthen HB.out hb1)
          clear hb1
          rcases hp : fnd l (f + k) with _ | r
          · have HN := Lib.hid (whB_no hlt hp)
            simp only [fndV]
            go_wp2_with fail
            rw [HN.out]
            go_ret
            exact ⟨rfl, ba HB1.out _⟩
          · have HN := Lib.hid (show whB l f (k + 1) = true by unfold whB; rw [HWB.out, hp]; rfl)
            simp only [fndV]
            go_wp2_with fail
            go_roundw
            case rel => exact ⟨k + 1, by go_num, by omega, HN.out, ba HB1.out _⟩
            case measure => simp [intOf]; omega
        · obtain rfl : k = c := by omega
          go_wp2_with fail
          rw [HWB.out]
          go_ret
          exact ⟨rfl, HB.out⟩
    · rw [show whl l f c = false by simp [whl, eB]; omega]
      go_enter Try.func22, Try.ntmps22
      go_wp2_with fail
      go_ret
      exact ⟨rfl, Below.refl _ _⟩
  · rw [show whl l f c = false by simp [whl, eB]; omega]
    by_cases h1 : c < 1
    · go_enter Try.func22, Try.ntmps22
      go_wp2_with fail
      go_ret
      exact ⟨rfl, Below.refl _ _⟩
    · go_enter Try.func22, Try.ntmps22
      go_wp2_with fail
      go_ret
      exact ⟨rfl, Below.refl _ _⟩
end Go.Proofs.Ytaikkdlphfmgiaa
