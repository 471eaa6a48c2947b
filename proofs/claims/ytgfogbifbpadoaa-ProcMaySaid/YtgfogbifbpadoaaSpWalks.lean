/-
  Package space: which regions may be, and where a page is; the document's answers beside it.
-/
import Derived.Test.YtgfogbifbpadoaaSpPlain
import Derived.Test.YtgfogbifbpadoaaOpenRegs
import Derived.Test.YtgfogbifbpadoaaArr
import Derived.Deep.QuietTactic
import Derived.BigQuiet
import Derived.Deep.RegionHeld3
import Derived.Deep.Cut
namespace Go.Proofs.Ytgfogbifbpadoaa
open Go.RowKit
set_option linter.unusedVariables false
set_option linter.unusedSimpArgs false
theorem spEnd_yes (f c : Int) (w : World) (hf : U64 f) (h : eB f c = true) : Calls Try.prog 51 #[.int .u64 f, .int .i64 c] w fun e w' => e = .returned (.tuple #[.int .u64 (f + c), .bool true]) ∧ w = w' := by
  obtain ⟨h1, h2, h3⟩ := (eB_iff f c).1 h
  obtain ⟨f0, f1⟩ := hf
  clear h
  go_enter Try.func51, Try.ntmps51
  go_wp2_with fail
  go_ret2
  exact ⟨rfl, rfl⟩
theorem spEnd_no (f c : Int) (w : World) (hf : U64 f) (hc : -9223372036854775808 ≤ c ∧ c < 9223372036854775808) (h : eB f c = false) : Calls Try.prog 51 #[.int .u64 f, .int .i64 c] w fun e w' => e = .returned (.tuple #[.int .u64 0, .bool false]) ∧ w = w' := by
  have h' : ¬ (1 ≤ c ∧ c ≤ 34359738368 ∧ f ≤ 34359738368 - c) := fun a => by rw [(eB_iff f c).2 a] at h; cases h
  obtain ⟨f0, f1⟩ := hf
  obtain ⟨c0, c1⟩ := hc
  clear h
  by_cases a1 : c < 1
  · clear h'
    go_enter Try.func51, Try.ntmps51
    go_wp2_with fail
    go_ret2
    exact ⟨rfl, rfl⟩
  · have a1' : 1 ≤ c := by omega
    by_cases a2 : 34359738368 < c
    · clear h' a1
      go_enter Try.func51, Try.ntmps51
      go_wp2_with fail
      go_ret2
      exact ⟨rfl, rfl⟩
    · have a3 : 34359738368 - c < f := by omega
      have a2' : c ≤ 34359738368 := by omega
      clear h' a1 a2
      go_enter Try.func51, Try.ntmps51
      go_wp2_with fail
      go_ret2
      exact ⟨rfl, rfl⟩
theorem pgs_drop (l : List Reg) (k : Nat) (h : k < l.length) : pgs (l.drop k) = (rg l k).c + pgs (l.drop (k + 1)) := by
  rw [rg_drop l k h, pgs]
theorem pgs_bd : ∀ (l : List Reg), (∀ r ∈ l, 0 ≤ r.c ∧ r.c ≤ 34359738368) → 0 ≤ pgs l ∧ pgs l ≤ 34359738368 * l.length
  | [], _ => by simp [pgs]
  | r :: l, h => by
    have h1 := h r (by simp)
    have h2 := pgs_bd l (fun x hx => h x (by simp [hx]))
    simp only [pgs, List.length_cons]
    omega
/-- What holds at the head of the loop that adds up pages. -/
def PgRel (w0 : World) (l : List Reg) (s i : Value) (w : World) : Prop :=
  ∃ (k : Nat) (n : Int), s = .int .i64 n ∧ i = .int .i64 k ∧ k ≤ l.length ∧ n + pgs (l.drop k) = pgs l ∧ 0 ≤ n ∧ Below w0.heap.size w0 w
set_option maxHeartbeats 400000 in
theorem spPages_any (O : Option Addr) (len cap : Nat) (l : List Reg) (w : World) (hI : RegsK w O l) (hl : l.length = len) (hcap : len ≤ cap) (h8 : len ≤ 1000) (hb : ∀ k, k < len → 0 ≤ (rg l k).c ∧ (rg l k).c ≤ 34359738368) :
    Calls Try.prog 52 #[.slice O len cap] w fun e w' => e = .returned (.int .i64 (pgs l)) ∧ Below w.heap.size w w' := by
  have HI := Lib.hid hI
  have HL := Lib.hid hl
  have HB := Lib.hid hb
  clear hI hl hb
  go_enter Try.func52, Try.ntmps52
  go_wp2_with fail
  go_loopw [3, 8] (fun s i wr => PgRel w l s i wr) (fun _ i _ => len - (intOf i).toNat)
  case atStart => exact ⟨0, 0, rfl, rfl, by omega, by simp, by omega, Below.refl _ _⟩
  case round =>
    obtain ⟨k, n, rfl, rfl, hk, hn, hn0, hB⟩ := hrel
    have hl := HL.out
    by_cases hlt : k < len
    · have hd := pgs_drop l k (by omega)
      have hbk := HB.out k hlt
      have hrest : 0 ≤ pgs (l.drop (k + 1)) ∧ pgs (l.drop (k + 1)) ≤ 34359738368 * (l.drop (k + 1)).length := pgs_bd _ (fun r hr => by
        obtain ⟨j, hj, rfl⟩ := List.mem_iff_getElem.1 hr
        have := HB.out (k + 1 + j) (by simp at hj; omega)
        unfold rg at this
        rw [List.getD_eq_getElem?_getD, List.getElem?_eq_getElem (by simp at hj; omega), Option.getD_some] at this
        rw [List.getElem_drop]
        exact this)
      have hall : pgs l ≤ 34359738368 * len := by
        have := (pgs_bd l (fun r hr => by
          obtain ⟨j, hj, rfl⟩ := List.mem_iff_getElem.1 hr
          have := HB.out j (by omega)
          unfold rg at this
          rw [List.getD_eq_getElem?_getD, List.getElem?_eq_getElem hj, Option.getD_some] at this
          exact this)).2
        rw [hl] at this
        exact this
      have hn1 : n + (rg l k).c ≤ 34359738368 * 1000 := by omega
      have HN := Lib.hid (show n + (rg l k).c + pgs (l.drop (k + 1)) = pgs l by omega)
      obtain ⟨b, off, rfl, hcell⟩ := (HI.out.call hB) (by omega)
      obtain ⟨c0, c1, c2⟩ := hcell k (by omega)
      have lb : b < wr.heap.size := World.block_lt_of_cell? wr ⟨b, off + k * 3, none⟩ c0
      have HBl := Lib.hid hB
      clear hcell hB hd hrest hall hn hl
      generalize rg l k = r at *
      obtain ⟨rf, rc, rw'⟩ := r
      simp only at c0 c1 c2 hbk hn1
      go_wp2_with fail
      go_roundw
      case rel => exact ⟨k + 1, n + rc, rfl, by go_num, by have := HL.out; omega, HN.out, by omega, ba HBl.out _⟩
      case measure => simp [intOf]; omega
    · have ek : k = len := by omega
      subst ek
      have HE := Lib.hid (show n = pgs l by rw [List.drop_of_length_le (by omega)] at hn; simpa [pgs] using hn)
      have HBl := Lib.hid hB
      clear hn hB hl
      go_wp2_with fail
      go_ret
      exact ⟨ret_int HE.out, HBl.out⟩
/-- What holds at the head of the loop that checks. -/
def CkRel (w0 : World) (l : List Reg) (s i : Value) (w : World) : Prop :=
  ∃ (k : Nat) (a : Int), s = .int .u64 a ∧ i = .int .i64 k ∧ k ≤ l.length ∧ 0 ≤ a ∧ a ≤ 34359738368 ∧ chainB 0 l = chainB a (l.drop k) ∧ Below w0.heap.size w0 w
def ckV (l : List Reg) : Int := if chk l then 0 else 2
theorem ck_no {l : List Reg} (h : chainB 0 l = false) : ckV l = 2 := by simp [ckV, chk, h]
theorem chain_step (l : List Reg) (k : Nat) (a : Int) (h : k < l.length) : chainB a (l.drop k) = (eB (rg l k).f (rg l k).c && (decide (a ≤ (rg l k).f) && chainB ((rg l k).f + (rg l k).c) (l.drop (k + 1)))) := by
  rw [rg_drop l k h, chainB]
set_option maxHeartbeats 1000000 in
theorem spCheck_any (O : Option Addr) (len cap : Nat) (l : List Reg) (w : World) (hI : RegsK w O l) (hl : l.length = len) (hcap : len ≤ cap) (hwf : ∀ i, i < len → (rg l i).wf) :
    Calls Try.prog 39 #[.slice O len cap] w fun e w' => e = .returned (.int .i64 (ckV l)) ∧ Below w.heap.size w w' := by
  have HI := Lib.hid hI
  have HL := Lib.hid hl
  have HW := Lib.hid hwf
  clear hI hl hwf
  by_cases h8 : 8 < len
  · have HE := Lib.hid (show ckV l = 2 by have := HL.out; simp [ckV, chk]; omega)
    go_enter Try.func39, Try.ntmps39
    go_wp2_with fail
    go_ret
    exact ⟨ret_int HE.out.symm, Below.refl _ _⟩
  · have h8' : len ≤ 8 := by omega
    clear h8
    go_enter Try.func39, Try.ntmps39
    go_wp2_with fail
    go_loopw [3, 13] (fun s i wr => CkRel w l s i wr) (fun _ i _ => len - (intOf i).toNat)
    case atStart => exact ⟨0, 0, rfl, rfl, by omega, by omega, by omega, by simp, Below.refl _ _⟩
    case round =>
      obtain ⟨k, a, rfl, rfl, hk, ha0, ha1, hch, hB⟩ := hrel
      have hl := HL.out
      by_cases hlt : k < len
      · have hst := chain_step l k a (by omega)
        obtain ⟨⟨w1, w2⟩, w3, w4⟩ := HW.out k hlt
        obtain ⟨b, off, rfl, hcell⟩ := (HI.out.call hB) (by omega)
        obtain ⟨c0, c1, c2⟩ := hcell k (by omega)
        have lb : b < wr.heap.size := World.block_lt_of_cell? wr ⟨b, off + k * 3, none⟩ c0
        have HBl := Lib.hid hB
        have HC := Lib.hid hch
        have HS := Lib.hid hst
        clear hcell hB hch hst hl
        generalize rg l k = r at *
        obtain ⟨rf, rc, rw'⟩ := r
        simp only at c0 c1 c2 w1 w2 w3 w4
        by_cases he : eB rf rc = true
        · have hec := (eB_iff rf rc).1 he
          have HE := Lib.hid he
          clear he
          obtain ⟨e1, e2, e3⟩ := hec
          by_cases hle : a ≤ rf
          · have HN := Lib.hid (show chainB 0 l = chainB (rf + rc) (l.drop (k + 1)) by rw [HC.out, HS.out]; simp [HE.out, hle])
            clear HC HS
            go_wp2_with fail
            refine (spEnd_yes rf rc _ ⟨w1, w2⟩ HE.out).mono ?_
            rintro e wz ⟨rfl, rfl⟩
            go_wp2_with fail
            go_roundw
            case rel => exact ⟨k + 1, rf + rc, rfl, by go_num, by have := HL.out; omega, by omega, by omega, HN.out, ba HBl.out _⟩
            case measure => simp [intOf]; omega
          · have HN := Lib.hid (show ckV l = 2 from ck_no (by rw [HC.out, HS.out]; simp [hle]))
            have hgt : rf < a := by omega
            clear HC HS hle
            go_wp2_with fail
            refine (spEnd_yes rf rc _ ⟨w1, w2⟩ HE.out).mono ?_
            rintro e wz ⟨rfl, rfl⟩
            go_wp2_with fail
            go_ret
            exact ⟨ret_int HN.out.symm, ba HBl.out _⟩
        · have he' : eB rf rc = false := by simpa using he
          have HE := Lib.hid he'
          have HN := Lib.hid (show ckV l = 2 from ck_no (by rw [HC.out, HS.out]; simp [he']))
          clear HC HS he he'
          go_wp2_with fail
          refine (spEnd_no rf rc _ ⟨w1, w2⟩ ⟨w3, w4⟩ HE.out).mono ?_
          rintro e wz ⟨rfl, rfl⟩
          go_wp2_with fail
          go_ret
          exact ⟨ret_int HN.out.symm, ba HBl.out _⟩
      · have ek : k = len := by omega
        subst ek
        have hct : chainB 0 l = true := by rw [hch, List.drop_of_length_le (by omega)]; rfl
        have hbd : ∀ j, j < k → 0 ≤ (rg l j).c ∧ (rg l j).c ≤ 34359738368 := fun j hj => by
          have := chain_at l 0 hct j (by omega)
          omega
        have HBl := Lib.hid hB
        have HC := Lib.hid hct
        have HBd := Lib.hid hbd
        clear hch hB hct hbd hl
        by_cases hp : pgs l ≤ 16
        all_goals
          have HV := Lib.hid (show ckV l = if pgs l ≤ 16 then 0 else 2 by have := HL.out; simp [ckV, chk, HC.out, this, h8'])
          go_wp2_with fail
          refine (spPages_any O k cap l _ (HI.out.call HBl.out) HL.out hcap (by omega) HBd.out).mono ?_
          rintro e wz ⟨rfl, hbz⟩
          have HZ := Lib.hid hbz
          clear hbz
          go_wp2_with fail
          go_ret
          exact ⟨ret_int (by rw [HV.out]; first | rw [if_pos (by omega)] | rw [if_neg (by omega)]), bthen HBl.out HZ.out⟩
end Go.Proofs.Ytgfogbifbpadoaa
