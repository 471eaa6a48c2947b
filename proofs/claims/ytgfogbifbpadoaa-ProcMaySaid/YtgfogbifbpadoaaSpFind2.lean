/-
  Package space: the region in which a page is; the document's answers beside it.
-/
import Derived.Test.YtgfogbifbpadoaaSpFind
namespace Go.Proofs.Ytgfogbifbpadoaa
open Go.RowKit
set_option linter.unusedVariables false
set_option linter.unusedSimpArgs false
theorem ck_yes {l : List Reg} (h : chk l = true) : ckV l = 0 := by simp [ckV, h]
theorem ck_no' {l : List Reg} (h : chk l = false) : ckV l = 2 := by simp [ckV, h]
/-- What holds at the head of the document's loop. -/
def RkRel (w0 : World) (l : List Reg) (n s i : Value) (w : World) : Prop :=
  ∃ (k : Nat) (a m : Int), n = .int .i64 m ∧ s = .int .u64 a ∧ i = .int .i64 k ∧ k ≤ l.length ∧ 0 ≤ a ∧ a ≤ 34359738368 ∧ (k = 0 → a = 0) ∧ rchainB 0 l = rchainB a (l.drop k) ∧ m + pgs (l.drop k) = pgs l ∧ 0 ≤ m ∧ m ≤ 16 * k ∧ Below w0.heap.size w0 w
theorem rck_no {l : List Reg} (h : rchainB 0 l = false) : ckV l = 2 := by rw [ckV, ← chk_eq]; simp [chkR, h]
theorem rchain_step (l : List Reg) (k : Nat) (a : Int) (h : k < l.length) : rchainB a (l.drop k) = ((decide (1 ≤ (rg l k).c) && decide ((rg l k).c ≤ 16) && decide ((rg l k).f ≤ 34359738368 - (rg l k).c)) && (decide (a ≤ (rg l k).f) && rchainB ((rg l k).f + (rg l k).c) (l.drop (k + 1)))) := by
  rw [rg_drop l k h, rchainB]
set_option maxHeartbeats 2000000 in
theorem r19Check_any (O : Option Addr) (len cap : Nat) (l : List Reg) (w : World) (hI : RegsK w O l) (hl : l.length = len) (hcap : len ≤ cap) (hwf : ∀ i, i < len → (rg l i).wf) :
    Calls Try.prog 17 #[.slice O len cap] w fun e w' => e = .returned (.int .i64 (ckV l)) ∧ Below w.heap.size w w' := by
  have HI := Lib.hid hI
  have HL := Lib.hid hl
  have HW := Lib.hid hwf
  clear hI hl hwf
  by_cases h8 : 8 < len
  · have HE := Lib.hid (show ckV l = 2 by have := HL.out; simp [ckV, chk]; omega)
    go_enter Try.func17, Try.ntmps17
    go_wp2_with fail
    go_ret
    exact ⟨ret_int HE.out.symm, Below.refl _ _⟩
  · have h8' : len ≤ 8 := by omega
    clear h8
    go_enter Try.func17, Try.ntmps17
    go_wp2_with fail
    go_loopw [3, 4, 5] (fun n s i wr => RkRel w l n s i wr) (fun _ _ i _ => len - (intOf i).toNat)
    case atStart => exact ⟨0, 0, 0, rfl, rfl, rfl, by omega, by omega, by omega, fun _ => rfl, by simp, by simp, by omega, by omega, Below.refl _ _⟩
    case round =>
      obtain ⟨k, a, m, rfl, rfl, rfl, hk, ha0, ha1, hk0, hch, hm, hm0, hm1, hB⟩ := hrel
      have hl := HL.out
      by_cases hlt : k < len
      · have hst := rchain_step l k a (by omega)
        have hps := pgs_drop l k (by omega)
        obtain ⟨⟨w1, w2⟩, w3, w4⟩ := HW.out k hlt
        obtain ⟨b, off, rfl, hcell⟩ := (HI.out.call hB) (by omega)
        obtain ⟨c0, c1, c2⟩ := hcell k (by omega)
        have lb : b < wr.heap.size := World.block_lt_of_cell? wr ⟨b, off + k * 3, none⟩ c0
        have HBl := Lib.hid hB
        have HC := Lib.hid hch
        have HS := Lib.hid hst
        have HM := Lib.hid (hm.symm.trans (by rw [hps]))
        have HK0 := Lib.hid hk0
        clear hcell hB hch hst hl hm hps hk0
        generalize rg l k = r at *
        obtain ⟨rf, rc, rw'⟩ := r
        simp only at c0 c1 c2 w1 w2 w3 w4
        by_cases e1 : rc < 1
        · have HN := Lib.hid (show ckV l = 2 from rck_no (by rw [HC.out, HS.out]; simp; omega))
          clear HC HS HM
          go_wp2_with fail
          go_ret
          exact ⟨ret_int HN.out.symm, ba HBl.out _⟩
        · have e1' : 1 ≤ rc := by omega
          clear e1
          by_cases e2 : 16 < rc
          · have HN := Lib.hid (show ckV l = 2 from rck_no (by rw [HC.out, HS.out]; simp; omega))
            clear HC HS HM
            go_wp2_with fail
            go_ret
            exact ⟨ret_int HN.out.symm, ba HBl.out _⟩
          · have e2' : rc ≤ 16 := by omega
            clear e2
            by_cases e3 : 34359738368 - rc < rf
            · have HN := Lib.hid (show ckV l = 2 from rck_no (by rw [HC.out, HS.out]; simp; omega))
              clear HC HS HM
              go_wp2_with fail
              go_ret
              exact ⟨ret_int HN.out.symm, ba HBl.out _⟩
            · have e3' : rf ≤ 34359738368 - rc := by omega
              clear e3
              by_cases e4 : a ≤ rf
              · have HN := Lib.hid (show rchainB 0 l = rchainB (rf + rc) (l.drop (k + 1)) by rw [HC.out, HS.out]; simp [e1', e2', e3', e4])
                clear HC HS
                by_cases k0 : 0 < k
                all_goals
                  go_wp2_with fail
                  go_roundw
                  case rel => exact ⟨k + 1, rf + rc, m + rc, rfl, rfl, by go_num, by have := HL.out; omega, by omega, by omega, fun h => by omega, HN.out, by have := HM.out; simp only at this; omega, by omega, by omega, ba HBl.out _⟩
                  case measure => simp [intOf]; omega
              · have HN := Lib.hid (show ckV l = 2 from rck_no (by rw [HC.out, HS.out]; simp; omega))
                have k0 : 0 < k := by
                  by_cases e : k = 0
                  · have := HK0.out e; omega
                  · omega
                have e4' : rf < a := by omega
                clear HC HS HM e4
                go_wp2_with fail
                go_ret
                exact ⟨ret_int HN.out.symm, ba HBl.out _⟩
      · have ek : k = len := by omega
        subst ek
        have hct : rchainB 0 l = true := by rw [hch, List.drop_of_length_le (by omega)]; rfl
        have hmm : m = pgs l := by rw [List.drop_of_length_le (by omega)] at hm; simpa [pgs] using hm
        have HV := Lib.hid (show ckV l = if m ≤ 16 then 0 else 2 by rw [ckV, ← chk_eq, hmm]; simp [chkR, hct, hl, h8'])
        have HBl := Lib.hid hB
        clear hch hB hct hl hm hmm hk0
        by_cases hp : m ≤ 16
        all_goals
          go_wp2_with fail
          go_ret
          exact ⟨ret_int (by rw [HV.out]; first | rw [if_pos (by omega)] | rw [if_neg (by omega)]), HBl.out⟩
/-- What holds at the head of the document's search. -/
def RfRel (w0 : World) (R : Nat) (l : List Reg) (p : Int) (i : Value) (w : World) : Prop :=
  ∃ k : Nat, i = .int .i64 k ∧ k ≤ l.length ∧ (chk l = true → l.find? (inR p) = (l.drop k).find? (inR p)) ∧ Arr w R [.int .u64 0, .int .i64 0, .bool false] ∧ Below w0.heap.size w0 w
end Go.Proofs.Ytgfogbifbpadoaa
