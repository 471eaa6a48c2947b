/-
  Package space: the region in which a page is; the document's answers beside it.
-/
import Derived.Test.YtaikkdlphfmgiaaSpFind
namespace Go.Proofs.Ytaikkdlphfmgiaa
open Go.RowKit
set_option linter.unusedVariables false
set_option linter.unusedSimpArgs false
theorem ck_yes {l : List Reg} (h : chk l = true) : ckV l = 0 := by simp [ckV, h]
theorem ck_no' {l : List Reg} (h : chk l = false) : ckV l = 2 := by simp [ckV, h]
set_option maxHeartbeats 1000000 in
theorem spFind_any (O : Option Addr) (len cap : Nat) (p : Int) (l : List Reg) (w : World) (hI : RegsK w O l) (hl : l.length = len) (hcap : len ≤ cap) (hwf : ∀ i, i < len → (rg l i).wf) :
    Calls Try.prog 16 #[.slice O len cap, .int .u64 p] w fun e w' => e = .returned (fndV (fnd l p)) ∧ Below w.heap.size w w' := by
  have HI := Lib.hid hI
  have HL := Lib.hid hl
  have HW := Lib.hid hwf
  clear hI hl hwf
  have HA0 := Lib.hid (Arr.new w #[.int .u64 0, .int .i64 0, .bool false] 25)
  have HB0 := Lib.hid (ba (Below.refl w.heap.size w) (.cells #[.int .u64 0, .int .i64 0, .bool false] 25))
  rcases hc : chk l with _ | _
  · have HF := Lib.hid (fnd_no (p := p) hc)
    have HV := Lib.hid (ck_no' hc)
    clear hc
    go_enter Try.func16, Try.ntmps16
    go_wp2_with fail
    generalize w.alloc (.cells #[.int .u64 0, .int .i64 0, .bool false] 25) = w0 at *
    refine (spCheck_any O len cap l _ (HI.out.call HB0.out) HL.out hcap HW.out).mono ?_
    rintro e w1 ⟨rfl, hb1⟩
    have ha := HA0.out.call hb1
    have c0 : w1.cell? ⟨w.heap.size, 0, none⟩ = some (.int .u64 0) := ha.cell 0 _ rfl
    have c1 : w1.cell? ⟨w.heap.size, 1, none⟩ = some (.int .i64 0) := ha.cell 1 _ rfl
    have c2 : w1.cell? ⟨w.heap.size, 2, none⟩ = some (.bool false) := ha.cell 2 _ rfl
    have f0 : w1.frozen? ⟨w.heap.size, 0, none⟩ = false := ha.frozen 0 (by simp)
    have f1 : w1.frozen? ⟨w.heap.size, 1, none⟩ = false := ha.frozen 1 (by simp)
    have f2 : w1.frozen? ⟨w.heap.size, 2, none⟩ = false := ha.frozen 2 (by simp)
    have HB1 := Lib.hid (bthen HB0.out hb1)
    clear hb1 ha
    rw [HV.out]
    go_wp2_with fail
    rw [HF.out]
    refine bodyPost_ret (v := fndV none) (by simp [results, Try.results16, go_sem, fndV, c0, c1, c2]) rfl ⟨rfl, ?_⟩
    exact bs (bs (bs HB1.out (Nat.le_refl _) _) (Nat.le_refl _) _) (Nat.le_refl _) _
  · obtain ⟨h8, hch, hp16⟩ := chk_parts hc
    have HV := Lib.hid (ck_yes hc)
    have HCk := Lib.hid hc
    have HCh := Lib.hid hch
    clear hc hch hp16
    have h8' : len ≤ 8 := by have := HL.out; omega
    clear h8
    go_enter Try.func16, Try.ntmps16
    go_wp2_with fail
    generalize w.alloc (.cells #[.int .u64 0, .int .i64 0, .bool false] 25) = w0 at *
    refine (spCheck_any O len cap l _ (HI.out.call HB0.out) HL.out hcap HW.out).mono ?_
    rintro e w1 ⟨rfl, hb1⟩
    have HA1 := Lib.hid (HA0.out.call hb1)
    have HB1 := Lib.hid (bthen HB0.out hb1)
    clear hb1 HA0 HB0
    rw [HV.out]
    go_wp2_with fail
    refine (spPlace_any O len cap p l _ (HI.out.call HB1.out) HL.out hcap h8' HCh.out).mono ?_
    rintro e w2 ⟨k, rfl, hk, hb2⟩
    have ha := HA1.out.call hb2
    have hI2 := HI.out.call (bthen HB1.out hb2)
    have c0 : w2.cell? ⟨w.heap.size, 0, none⟩ = some (.int .u64 0) := ha.cell 0 _ rfl
    have c1 : w2.cell? ⟨w.heap.size, 1, none⟩ = some (.int .i64 0) := ha.cell 1 _ rfl
    have c2 : w2.cell? ⟨w.heap.size, 2, none⟩ = some (.bool false) := ha.cell 2 _ rfl
    have f0 : w2.frozen? ⟨w.heap.size, 0, none⟩ = false := ha.frozen 0 (by simp)
    have f1 : w2.frozen? ⟨w.heap.size, 1, none⟩ = false := ha.frozen 1 (by simp)
    have f2 : w2.frozen? ⟨w.heap.size, 2, none⟩ = false := ha.frozen 2 (by simp)
    have HB2 := Lib.hid (bthen HB1.out hb2)
    have hkl : k ≤ len := by have := HL.out; have := hk.1; omega
    have HK := Lib.hid hk
    clear hb2 ha hk
    by_cases hkn : k < len
    · have hkn' : ((k : Int) == (len : Int)) = false := beq_eq_false_iff_ne.2 (by omega)
      obtain ⟨b, off, rfl, hcell⟩ := hI2 (by have := HL.out; omega)
      obtain ⟨d0, d1, d2⟩ := hcell k (by have := HL.out; omega)
      have lb : b < w.heap.size := by
        obtain ⟨b', off', e, hc'⟩ := HI.out (by have := HL.out; omega)
        cases e
        exact World.block_lt_of_cell? w ⟨b, off + k * 3, none⟩ (hc' k (by have := HL.out; omega)).1
      clear hcell
      by_cases hp : (rg l k).f ≤ p
      · have HF := Lib.hid (plc_some HCk.out HK.out (by have := HL.out; omega) hp)
        clear HI
        generalize rg l k = r at *
        obtain ⟨rf, rc, rw'⟩ := r
        simp only at d0 d1 d2 hp
        go_wp2_with fail
        rw [HF.out]
        refine bodyPost_ret (v := fndV (some ⟨rf, rc, rw'⟩)) (by simp [results, Try.results16, go_sem, fndV, c0, c1, c2]) rfl ⟨rfl, ?_⟩
        exact bs (bs (bs HB2.out (Nat.le_refl _) _) (Nat.le_refl _) _) (Nat.le_refl _) _
      · have hp' : p < (rg l k).f := by omega
        have HF := Lib.hid (plc_none HCk.out HK.out (.inr hp'))
        clear HI hp
        generalize rg l k = r at *
        obtain ⟨rf, rc, rw'⟩ := r
        simp only at d0 d1 d2 hp'
        go_wp2_with fail
        rw [HF.out]
        refine bodyPost_ret (v := fndV none) (by simp [results, Try.results16, go_sem, fndV, c0, c1, c2]) rfl ⟨rfl, ?_⟩
        exact bs (bs (bs HB2.out (Nat.le_refl _) _) (Nat.le_refl _) _) (Nat.le_refl _) _
    · have ek : k = len := by omega
      subst ek
      have HF := Lib.hid (plc_none HCk.out HK.out (.inl HL.out.symm))
      go_wp2_with fail
      rw [HF.out]
      refine bodyPost_ret (v := fndV none) (by simp [results, Try.results16, go_sem, fndV, c0, c1, c2]) rfl ⟨rfl, ?_⟩
      exact bs (bs (bs HB2.out (Nat.le_refl _) _) (Nat.le_refl _) _) (Nat.le_refl _) _
theorem r19In_any (f c p : Int) (b : Bool) (w : World) (h0 : 0 ≤ f) (h1 : 1 ≤ c) (h2 : f + c ≤ 34359738368) (hp : U64 p) : Calls Try.prog 35 #[.agg #[.int .u64 f, .int .i64 c, .bool b], .int .u64 p] w fun e w' => e = .returned (.bool (inR p ⟨f, c, b⟩)) ∧ Below w.heap.size w w' := by
  obtain ⟨p0, p1⟩ := hp
  unfold inR
  by_cases a1 : f ≤ p
  · by_cases a2 : p - f < c
    · have a3 : p < f + c := by omega
      go_enter Try.func35, Try.ntmps35
      go_wp2_with fail
      go_ret
      exact ⟨by simp [a1, a3], ba (Below.refl _ _) _⟩
    · have a3 : ¬ p < f + c := by omega
      have a2' : c ≤ p - f := by omega
      go_enter Try.func35, Try.ntmps35
      go_wp2_with fail
      go_ret
      exact ⟨by simp [a3], ba (Below.refl _ _) _⟩
  · have a1' : p < f := by omega
    go_enter Try.func35, Try.ntmps35
    go_wp2_with fail
    go_ret
    exact ⟨ret_bool (by simp; omega), ba (Below.refl _ _) _⟩
/-- What holds at the head of the document's loop. -/
def RkRel (w0 : World) (l : List Reg) (n s i : Value) (w : World) : Prop :=
  ∃ (k : Nat) (a m : Int), n = .int .i64 m ∧ s = .int .u64 a ∧ i = .int .i64 k ∧ k ≤ l.length ∧ 0 ≤ a ∧ a ≤ 34359738368 ∧ (k = 0 → a = 0) ∧ rchainB 0 l = rchainB a (l.drop k) ∧ m + pgs (l.drop k) = pgs l ∧ 0 ≤ m ∧ m ≤ 16 * k ∧ Below w0.heap.size w0 w
theorem rck_no {l : List Reg} (h : rchainB 0 l = false) : ckV l = 2 := by rw [ckV, ← chk_eq]; simp [chkR, h]
theorem rchain_step (l : List Reg) (k : Nat) (a : Int) (h : k < l.length) : rchainB a (l.drop k) = ((decide (1 ≤ (rg l k).c) && decide ((rg l k).c ≤ 16) && decide ((rg l k).f ≤ 34359738368 - (rg l k).c)) && (decide (a ≤ (rg l k).f) && rchainB ((rg l k).f + (rg l k).c) (l.drop (k + 1)))) := by
  rw [rg_drop l k h, rchainB]
set_option maxHeartbeats 2000000 in
theorem r19Check_any (O : Option Addr) (len cap : Nat) (l : List Reg) (w : World) (hI : RegsK w O l) (hl : l.length = len) (hcap : len ≤ cap) (hwf : ∀ i, i < len → (rg l i).wf) :
    Calls Try.prog 20 #[.slice O len cap] w fun e w' => e = .returned (.int .i64 (ckV l)) ∧ Below w.heap.size w w' := by
  have HI := Lib.hid hI
  have HL := Lib.hid hl
  have HW := Lib.hid hwf
  clear hI hl hwf
  by_cases h8 : 8 < len
  · have HE := Lib.hid (show ckV l = 2 by have := HL.out; simp [ckV, chk]; omega)
    go_enter Try.func20, Try.ntmps20
    go_wp2_with fail
    go_ret
    exact ⟨ret_int HE.out.symm, Below.refl _ _⟩
  · have h8' : len ≤ 8 := by omega
    clear h8
    go_enter Try.func20, Try.ntmps20
    go_wp2_with fail
    go_loopw [3, 4, 5] (fun n s i wr => RkRel w l n s i wr) (fun _ _ i _ => len - (intOf i).toNat)
    case atStart => exact ⟨0, 0, 0, rfl, rfl, rfl, by omega, by omega, by omega, fun _ => rfl, by simp, by simp, by omega, by omega, Below.refl _ _⟩
    case round =>
      obtain ⟨k, a, m, rfl, rfl, rfl, hk, ha0, ha1, hk0, hch, hm, hm0, hm1, hB⟩ := hrel
      have hl := HL.out
      by_cases hlt : k < len
      · have hst := rchain_step l k a (by omega)
        have hps := pgs_drop l k (by omega)
        obtain ⟨⟨w1, w2⟩, w3, w4⟩ := HW.out k hlt
        obtain ⟨b, off, rfl, hcell⟩ := (HI.out.call hB) (by omega)
        obtain ⟨c0, c1, c2⟩ := hcell k (by omega)
        have lb : b < wr.heap.size := World.block_lt_of_cell? wr ⟨b, off + k * 3, none⟩ c0
        have HBl := Lib.hid hB
        have HC := Lib.hid hch
        have HS := Lib.hid hst
        have HM := Lib.hid (hm.symm.trans (by rw [hps]))
        have HK0 := Lib.hid hk0
        clear hcell hB hch hst hl hm hps hk0
        generalize rg l k = r at *
        obtain ⟨rf, rc, rw'⟩ := r
        simp only at c0 c1 c2 w1 w2 w3 w4
        by_cases e1 : rc < 1
        · have HN := Lib.hid (show ckV l = 2 from rck_no (by rw [HC.out, HS.out]; simp; omega))
          clear HC HS HM
          go_wp2_with fail
          go_ret
          exact ⟨ret_int HN.out.symm, ba HBl.out _⟩
        · have e1' : 1 ≤ rc := by omega
          clear e1
          by_cases e2 : 16 < rc
          · have HN := Lib.hid (show ckV l = 2 from rck_no (by rw [HC.out, HS.out]; simp; omega))
            clear HC HS HM
            go_wp2_with fail
            go_ret
            exact ⟨ret_int HN.out.symm, ba HBl.out _⟩
          · have e2' : rc ≤ 16 := by omega
            clear e2
            by_cases e3 : 34359738368 - rc < rf
            · have HN := Lib.hid (show ckV l = 2 from rck_no (by rw [HC.out, HS.out]; simp; omega))
              clear HC HS HM
              go_wp2_with fail
              go_ret
              exact ⟨ret_int HN.out.symm, ba HBl.out _⟩
            · have e3' : rf ≤ 34359738368 - rc := by omega
              clear e3
              by_cases e4 : a ≤ rf
              · have HN := Lib.hid (show rchainB 0 l = rchainB (rf + rc) (l.drop (k + 1)) by rw [HC.out, HS.out]; simp [e1', e2', e3', e4])
                clear HC HS
                by_cases k0 : 0 < k
                all_goals
                  go_wp2_with fail
                  go_roundw
                  case rel => exact ⟨k + 1, rf + rc, m + rc, rfl, rfl, by go_num, by have := HL.out; omega, by omega, by omega, fun h => by omega, HN.out, by have := HM.out; simp only at this; omega, by omega, by omega, ba HBl.out _⟩
                  case measure => simp [intOf]; omega
              · have HN := Lib.hid (show ckV l = 2 from rck_no (by rw [HC.out, HS.out]; simp; omega))
                have k0 : 0 < k := by
                  by_cases e : k = 0
                  · have := HK0.out e; omega
                  · omega
                have e4' : rf < a := by omega
                clear HC HS HM e4
                go_wp2_with fail
                go_ret
                exact ⟨ret_int HN.out.symm, ba HBl.out _⟩
      · have ek : k = len := by omega
        subst ek
        have hct : rchainB 0 l = true := by rw [hch, List.drop_of_length_le (by omega)]; rfl
        have hmm : m = pgs l := by rw [List.drop_of_length_le (by omega)] at hm; simpa [pgs] using hm
        have HV := Lib.hid (show ckV l = if m ≤ 16 then 0 else 2 by rw [ckV, ← chk_eq, hmm]; simp [chkR, hct, hl, h8'])
        have HBl := Lib.hid hB
        clear hch hB hct hl hm hmm hk0
        by_cases hp : m ≤ 16
        all_goals
          go_wp2_with fail
          go_ret
          exact ⟨ret_int (by rw [HV.out]; first | rw [if_pos (by omega)] | rw [if_neg (by omega)]), HBl.out⟩
/-- What holds at the head of the document's search. -/
def RfRel (w0 : World) (R : Nat) (l : List Reg) (p : Int) (i : Value) (w : World) : Prop :=
  ∃ k : Nat, i = .int .i64 k ∧ k ≤ l.length ∧ (chk l = true → l.find? (inR p) = (l.drop k).find? (inR p)) ∧ Arr w R [.int .u64 0, .int .i64 0, .bool false] ∧ Below w0.heap.size w0 w
set_option maxHeartbeats 2000000 in
theorem r19Find_any (O : Option Addr) (len cap : Nat) (p : Int) (l : List Reg) (w : World) (hI : RegsK w O l) (hl : l.length = len) (hcap : len ≤ cap) (hm : len ≤ 1000) (hp : U64 p) (hwf : ∀ i, i < len → (rg l i).wf) :
    Calls Try.prog 19 #[.slice O len cap, .int .u64 p] w fun e w' => e = .returned (fndV (fnd l p)) ∧ Below w.heap.size w w' := by
  have HI := Lib.hid hI
  have HL := Lib.hid hl
  have HW := Lib.hid hwf
  have HP := Lib.hid hp
  clear hI hl hwf hp
  have HA0 := Lib.hid (Arr.new w #[.int .u64 0, .int .i64 0, .bool false] 25)
  have HB0 := Lib.hid (ba (Below.refl w.heap.size w) (.cells #[.int .u64 0, .int .i64 0, .bool false] 25))
  go_enter Try.func19, Try.ntmps19
  go_wp2_with fail
  generalize w.alloc (.cells #[.int .u64 0, .int .i64 0, .bool false] 25) = w0 at *
  go_loopw [6] (fun i wr => RfRel w w.heap.size l p i wr) (fun i _ => len - (intOf i).toNat)
  case atStart => exact ⟨0, rfl, by omega, fun _ => by simp, HA0.out, HB0.out⟩
  case round =>
    clear HA0 HB0
    obtain ⟨k, rfl, hk, hfd, hA, hB⟩ := hrel
    have hl := HL.out
    by_cases hlt : k < len
    · have HF := Lib.hid hfd
      have HA := Lib.hid hA
      have HB := Lib.hid hB
      clear hfd hA hB
      have HD := Lib.hid (rg_drop l k (by omega))
      clear hl
      go_wp2_with fail
      refine (r19Check_any O len cap l _ (HI.out.call HB.out) HL.out hcap HW.out).mono ?_
      rintro e w1 ⟨rfl, hb1⟩
      have HA1 := Lib.hid (HA.out.call hb1)
      have HB1 := Lib.hid (bthen HB.out hb1)
      have hI1 := HI.out.call (bthen HB.out hb1)
      clear hb1 HA HB
      obtain ⟨b, off, rfl, hcell⟩ := hI1 (by have := HL.out; omega)
      obtain ⟨d0, d1, d2⟩ := hcell k (by have := HL.out; omega)
      clear hcell
      rcases hc : chk l with _ | _
      · have HV := Lib.hid (ck_no' hc)
        have HN := Lib.hid (fnd_no (p := p) hc)
        clear hc d0 d1 d2
        rw [HV.out]
        have c0 : w1.cell? ⟨w.heap.size, 0, none⟩ = some (.int .u64 0) := HA1.out.cell 0 _ rfl
        have c1 : w1.cell? ⟨w.heap.size, 1, none⟩ = some (.int .i64 0) := HA1.out.cell 1 _ rfl
        have c2 : w1.cell? ⟨w.heap.size, 2, none⟩ = some (.bool false) := HA1.out.cell 2 _ rfl
        have f0 : w1.frozen? ⟨w.heap.size, 0, none⟩ = false := HA1.out.frozen 0 (by simp)
        have f1 : w1.frozen? ⟨w.heap.size, 1, none⟩ = false := HA1.out.frozen 1 (by simp)
        have f2 : w1.frozen? ⟨w.heap.size, 2, none⟩ = false := HA1.out.frozen 2 (by simp)
        go_wp2_with fail
        rw [HN.out]
        refine bodyPost_ret (v := fndV none) (by simp [results, Try.results19, go_sem, fndV, c0, c1, c2]) rfl ⟨rfl, ?_⟩
        exact bs (bs (bs HB1.out (Nat.le_refl _) _) (Nat.le_refl _) _) (Nat.le_refl _) _
      · obtain ⟨h8, hch, hp16⟩ := chk_parts hc
        obtain ⟨q0, q1, q2, q3⟩ := chain_at l 0 hch k (by have := HL.out; omega)
        have HV := Lib.hid (ck_yes hc)
        have HCk := Lib.hid hc
        clear hc hch hp16 h8
        rw [HV.out]
        generalize hr : rg l k = r at *
        have HR := Lib.hid hr
        clear hr
        obtain ⟨rf, rc, rw'⟩ := r
        simp only at d0 d1 d2 q0 q1 q2 q3
        go_wp2_with fail
        refine (r19In_any rf rc p rw' _ q0 q1 (by omega) HP.out).mono ?_
        rintro e w2 ⟨rfl, hb2⟩
        have HA2 := Lib.hid (HA1.out.call hb2)
        have HB2 := Lib.hid (bthen HB1.out hb2)
        have e0 : w2.cell? ⟨b, off + k * 3, none⟩ = some (.int .u64 rf) := (hb2.cell (p := ⟨b, off + k * 3, none⟩) (World.block_lt_of_cell? w1 ⟨b, off + k * 3, none⟩ d0)).trans d0
        have e1 : w2.cell? ⟨b, off + k * 3 + 1, none⟩ = some (.int .i64 rc) := (hb2.cell (p := ⟨b, off + k * 3 + 1, none⟩) (World.block_lt_of_cell? w1 ⟨b, off + k * 3 + 1, none⟩ d1)).trans d1
        have e2 : w2.cell? ⟨b, off + k * 3 + 2, none⟩ = some (.bool rw') := (hb2.cell (p := ⟨b, off + k * 3 + 2, none⟩) (World.block_lt_of_cell? w1 ⟨b, off + k * 3 + 2, none⟩ d2)).trans d2
        have lb : b < w.heap.size := by
          obtain ⟨b', off', e, hc'⟩ := HI.out (by have := HL.out; omega)
          cases e
          exact World.block_lt_of_cell? w ⟨b, off + k * 3, none⟩ (hc' k (by have := HL.out; omega)).1
        clear hb2 d0 d1 d2 HA1 HB1
        rcases hin : inR p ⟨rf, rc, rw'⟩ with _ | _
        · have HN := Lib.hid (show chk l = true → l.find? (inR p) = (l.drop (k + 1)).find? (inR p) from fun hc => by rw [HF.out hc, HD.out, List.find?_cons_of_neg (by simp [hin])])
          clear hin
          go_wp2_with fail
          go_roundw
          case rel => exact ⟨k + 1, by go_num, by have := HL.out; omega, HN.out, HA2.out, HB2.out⟩
          case measure => simp [intOf]; omega
        · have HN := Lib.hid (show fnd l p = some ⟨rf, rc, rw'⟩ by unfold fnd; rw [if_pos HCk.out, HF.out HCk.out, HD.out, List.find?_cons_of_pos hin])
          clear hin
          have c0 : w2.cell? ⟨w.heap.size, 0, none⟩ = some (.int .u64 0) := HA2.out.cell 0 _ rfl
          have c1 : w2.cell? ⟨w.heap.size, 1, none⟩ = some (.int .i64 0) := HA2.out.cell 1 _ rfl
          have c2 : w2.cell? ⟨w.heap.size, 2, none⟩ = some (.bool false) := HA2.out.cell 2 _ rfl
          have f0 : w2.frozen? ⟨w.heap.size, 0, none⟩ = false := HA2.out.frozen 0 (by simp)
          have f1 : w2.frozen? ⟨w.heap.size, 1, none⟩ = false := HA2.out.frozen 1 (by simp)
          have f2 : w2.frozen? ⟨w.heap.size, 2, none⟩ = false := HA2.out.frozen 2 (by simp)
          go_wp2_with fail
          rw [HN.out]
          refine bodyPost_ret (v := fndV (some ⟨rf, rc, rw'⟩)) (by simp [results, Try.results19, go_sem, fndV, c0, c1, c2]) rfl ⟨rfl, ?_⟩
          exact bs (bs (bs HB2.out (Nat.le_refl _) _) (Nat.le_refl _) _) (Nat.le_refl _) _
    · have ek : k = len := by omega
      subst ek
      have HN := Lib.hid (show fnd l p = none by
        unfold fnd
        by_cases hc : chk l = true
        · rw [if_pos hc, hfd hc, List.drop_of_length_le (by omega)]; rfl
        · rw [if_neg hc])
      have c0 : wr.cell? ⟨w.heap.size, 0, none⟩ = some (.int .u64 0) := hA.cell 0 _ rfl
      have c1 : wr.cell? ⟨w.heap.size, 1, none⟩ = some (.int .i64 0) := hA.cell 1 _ rfl
      have c2 : wr.cell? ⟨w.heap.size, 2, none⟩ = some (.bool false) := hA.cell 2 _ rfl
      have f0 : wr.frozen? ⟨w.heap.size, 0, none⟩ = false := hA.frozen 0 (by simp)
      have f1 : wr.frozen? ⟨w.heap.size, 1, none⟩ = false := hA.frozen 1 (by simp)
      have f2 : wr.frozen? ⟨w.heap.size, 2, none⟩ = false := hA.frozen 2 (by simp)
      have HB := Lib.hid hB
      clear hfd hA hB hl
      go_wp2_with fail
      rw [HN.out]
      refine bodyPost_ret (v := fndV none) (by simp [results, Try.results19, go_sem, fndV, c0, c1, c2]) rfl ⟨rfl, ?_⟩
      exact bs (bs (bs HB.out (Nat.le_refl _) _) (Nat.le_refl _) _) (Nat.le_refl _) _
end Go.Proofs.Ytaikkdlphfmgiaa
