/-
  What a fault comes to: share.Decide and the document's Decide, case by case.
-/
import Derived.Test.YtaikkdlphfmgiaaDoorSpFind2
import Derived.Test.YtaikkdlphfmgiaaDoorDescPlain
namespace Go.Proofs.YtaikkdlphfmgiaaDoor
open Go.RowKit
set_option linter.unusedVariables false
set_option linter.unusedSimpArgs false
/-- A page's word that users may use. -/
def pgOk (x : Int) : Bool := (de x 3 == 0) && ((dk x 3 == 2) && dfl x 3 6)
/-- The decision's kind and fault, and the error. -/
def dcs (l : List Reg) (p : Int) (st : Bool) (x ct : Int) : Int × Int × Int :=
  if chk l = false ∨ ct < 0 then (0, 0, 2)
  else match fnd l p with
    | none => (0, 1, 0)
    | some r => if (st && !r.w) = true then (0, 2, 0) else if pgOk x = false then (2, 0, 0) else if (!st || !dfl x 3 7) = true then (1, 0, 0) else if ct = 1 then (3, 0, 0) else (4, 0, 0)
def dcV (t : Int × Int × Int) : Value := .tuple #[.agg #[.int .i8 t.1, .int .i8 t.2.1], .int .i64 t.2.2]
theorem dcs_no {l : List Reg} {p : Int} {st : Bool} {x ct : Int} (h : chk l = false ∨ ct < 0) : dcs l p st x ct = (0, 0, 2) := by unfold dcs; rw [if_pos h]
theorem dcs_none {l : List Reg} {p : Int} {st : Bool} {x ct : Int} (h : chk l = true) (h0 : 0 ≤ ct) (hf : fnd l p = none) : dcs l p st x ct = (0, 1, 0) := by
  unfold dcs; rw [if_neg (by simp [h]; omega), hf]
theorem dcs_some {l : List Reg} {p : Int} {st : Bool} {x ct : Int} {r : Reg} (h : chk l = true) (h0 : 0 ≤ ct) (hf : fnd l p = some r) : dcs l p st x ct = if (st && !r.w) = true then (0, 2, 0) else if pgOk x = false then (2, 0, 0) else if (!st || !dfl x 3 7) = true then (1, 0, 0) else if ct = 1 then (3, 0, 0) else (4, 0, 0) := by
  unfold dcs; rw [if_neg (by simp [h]; omega), hf]
set_option maxHeartbeats 2000000 in
theorem shDecide_ck (O : Option Addr) (len cap : Nat) (p x ct : Int) (st : Bool) (l : List Reg) (w : World) (hG : G w) (hI : RegsK w O l) (hl : l.length = len) (hcap : len ≤ cap) (hm : len ≤ 1000) (hwf : ∀ i, i < len → (rg l i).wf) (hp : U64 p) (hx : U64 x) (h : chk l = false) :
    Calls Tryd.prog 8 #[.slice O len cap, .int .u64 p, .bool st, .int .u64 x, .int .i64 ct] w fun e w' => e = .returned (dcV (dcs l p st x ct)) ∧ Below w.heap.size w w' := by
  have HI := Lib.hid hI
  have HL := Lib.hid hl
  have HW := Lib.hid hwf
  have HG := Lib.hid hG
  have HP := Lib.hid hp
  have HX := Lib.hid hx
  clear hI hl hwf hG hp hx
  have HA0 := Lib.hid (Arr.new w #[.int .i8 0, .int .i8 0] 27)
  have HB0 := Lib.hid (ba (Below.refl w.heap.size w) (.cells #[.int .i8 0, .int .i8 0] 27))
  have HR := Lib.hid (dcs_no (p := p) (st := st) (x := x) (ct := ct) (.inl h))
  have HV := Lib.hid (ck_no' h)
  clear h
  go_enter Tryd.func8, Tryd.ntmps8
  go_wp2_with fail
  generalize w.alloc (.cells #[.int .i8 0, .int .i8 0] 27) = w0 at *
  refine (spCheck_any O len cap l _ (HI.out.call HB0.out) HL.out hcap HW.out).mono ?_
  rintro e w1 ⟨rfl, hb1⟩
  have HA1 := Lib.hid (HA0.out.call hb1)
  have HB1 := Lib.hid (bthen HB0.out hb1)
  clear hb1 HA0 HB0
  rw [HV.out]
  have c0 : w1.cell? ⟨w.heap.size, 0, none⟩ = some (.int .i8 0) := HA1.out.cell 0 _ rfl
  have c1 : w1.cell? ⟨w.heap.size, 1, none⟩ = some (.int .i8 0) := HA1.out.cell 1 _ rfl
  have f0 : w1.frozen? ⟨w.heap.size, 0, none⟩ = false := HA1.out.frozen 0 (by simp)
  have f1 : w1.frozen? ⟨w.heap.size, 1, none⟩ = false := HA1.out.frozen 1 (by simp)
  have lR : w.heap.size < w1.heap.size := HA1.out.lt
  go_wp2_with fail
  rw [HR.out]
  refine bodyPost_ret (v := dcV (0, 0, 2)) (by simp [results, Tryd.results8, go_sem, dcV, c0, c1]) rfl ⟨rfl, ?_⟩
  exact bs (bs HB1.out (Nat.le_refl _) _) (Nat.le_refl _) _
set_option maxHeartbeats 2000000 in
theorem shDecide_ct (O : Option Addr) (len cap : Nat) (p x ct : Int) (st : Bool) (l : List Reg) (w : World) (hG : G w) (hI : RegsK w O l) (hl : l.length = len) (hcap : len ≤ cap) (hm : len ≤ 1000) (hwf : ∀ i, i < len → (rg l i).wf) (hp : U64 p) (hx : U64 x) (h : chk l = true) (h0 : ct < 0) :
    Calls Tryd.prog 8 #[.slice O len cap, .int .u64 p, .bool st, .int .u64 x, .int .i64 ct] w fun e w' => e = .returned (dcV (dcs l p st x ct)) ∧ Below w.heap.size w w' := by
  have HI := Lib.hid hI
  have HL := Lib.hid hl
  have HW := Lib.hid hwf
  have HG := Lib.hid hG
  have HP := Lib.hid hp
  have HX := Lib.hid hx
  clear hI hl hwf hG hp hx
  have HA0 := Lib.hid (Arr.new w #[.int .i8 0, .int .i8 0] 27)
  have HB0 := Lib.hid (ba (Below.refl w.heap.size w) (.cells #[.int .i8 0, .int .i8 0] 27))
  have HR := Lib.hid (dcs_no (l := l) (p := p) (st := st) (x := x) (.inr h0))
  have HV := Lib.hid (ck_yes h)
  clear h
  go_enter Tryd.func8, Tryd.ntmps8
  go_wp2_with fail
  generalize w.alloc (.cells #[.int .i8 0, .int .i8 0] 27) = w0 at *
  refine (spCheck_any O len cap l _ (HI.out.call HB0.out) HL.out hcap HW.out).mono ?_
  rintro e w1 ⟨rfl, hb1⟩
  have HA1 := Lib.hid (HA0.out.call hb1)
  have HB1 := Lib.hid (bthen HB0.out hb1)
  clear hb1 HA0 HB0
  rw [HV.out]
  have c0 : w1.cell? ⟨w.heap.size, 0, none⟩ = some (.int .i8 0) := HA1.out.cell 0 _ rfl
  have c1 : w1.cell? ⟨w.heap.size, 1, none⟩ = some (.int .i8 0) := HA1.out.cell 1 _ rfl
  have f0 : w1.frozen? ⟨w.heap.size, 0, none⟩ = false := HA1.out.frozen 0 (by simp)
  have f1 : w1.frozen? ⟨w.heap.size, 1, none⟩ = false := HA1.out.frozen 1 (by simp)
  have lR : w.heap.size < w1.heap.size := HA1.out.lt
  go_wp2_with fail
  rw [HR.out]
  refine bodyPost_ret (v := dcV (0, 0, 2)) (by simp [results, Tryd.results8, go_sem, dcV, c0, c1]) rfl ⟨rfl, ?_⟩
  exact bs (bs HB1.out (Nat.le_refl _) _) (Nat.le_refl _) _
set_option maxHeartbeats 2000000 in
theorem shDecide_none (O : Option Addr) (len cap : Nat) (p x ct : Int) (st : Bool) (l : List Reg) (w : World) (hG : G w) (hI : RegsK w O l) (hl : l.length = len) (hcap : len ≤ cap) (hm : len ≤ 1000) (hwf : ∀ i, i < len → (rg l i).wf) (hp : U64 p) (hx : U64 x) (h : chk l = true) (h0 : 0 ≤ ct) (hf : fnd l p = none) :
    Calls Tryd.prog 8 #[.slice O len cap, .int .u64 p, .bool st, .int .u64 x, .int .i64 ct] w fun e w' => e = .returned (dcV (dcs l p st x ct)) ∧ Below w.heap.size w w' := by
  have HI := Lib.hid hI
  have HL := Lib.hid hl
  have HW := Lib.hid hwf
  have HG := Lib.hid hG
  have HP := Lib.hid hp
  have HX := Lib.hid hx
  clear hI hl hwf hG hp hx
  have HA0 := Lib.hid (Arr.new w #[.int .i8 0, .int .i8 0] 27)
  have HB0 := Lib.hid (ba (Below.refl w.heap.size w) (.cells #[.int .i8 0, .int .i8 0] 27))
  have HR := Lib.hid (dcs_none (st := st) (x := x) h h0 hf)
  have HV := Lib.hid (ck_yes h)
  have HF := Lib.hid hf
  clear h hf
  go_enter Tryd.func8, Tryd.ntmps8
  go_wp2_with fail
  generalize w.alloc (.cells #[.int .i8 0, .int .i8 0] 27) = w0 at *
  refine (spCheck_any O len cap l _ (HI.out.call HB0.out) HL.out hcap HW.out).mono ?_
  rintro e w1 ⟨rfl, hb1⟩
  have HA1 := Lib.hid (HA0.out.call hb1)
  have HB1 := Lib.hid (bthen HB0.out hb1)
  clear hb1 HA0 HB0
  rw [HV.out]
  go_wp2_with fail
  refine (spFind_any O len cap p l _ (HI.out.call HB1.out) HL.out hcap HW.out).mono ?_
  rintro e w2 ⟨rfl, hb2⟩
  have HA2 := Lib.hid (HA1.out.call hb2)
  have HB2 := Lib.hid (bthen HB1.out hb2)
  clear hb2 HA1 HB1
  rw [HF.out]
  unfold fndV
  go_upto_region 5 with fail
  have HA9 := Lib.hid (HA2.out.alloc (.cells #[.int .u64 0, .int .i64 0, .bool false] 32))
  have HB9 := Lib.hid (ba HB2.out (.cells #[.int .u64 0, .int .i64 0, .bool false] 32))
  generalize w2.alloc (.cells #[.int .u64 0, .int .i64 0, .bool false] 32) = w9 at *
  have c0 : w9.cell? ⟨w.heap.size, 0, none⟩ = some (.int .i8 0) := HA9.out.cell 0 _ rfl
  have c1 : w9.cell? ⟨w.heap.size, 1, none⟩ = some (.int .i8 0) := HA9.out.cell 1 _ rfl
  have f0 : w9.frozen? ⟨w.heap.size, 0, none⟩ = false := HA9.out.frozen 0 (by simp)
  have f1 : w9.frozen? ⟨w.heap.size, 1, none⟩ = false := HA9.out.frozen 1 (by simp)
  have lR : w.heap.size < w9.heap.size := HA9.out.lt
  go_wp2_with fail
  rw [HR.out]
  refine bodyPost_ret (v := dcV (0, 1, 0)) (by simp [results, Tryd.results8, go_sem, dcV, c0, c1]) rfl ⟨rfl, ?_⟩
  exact bs (bs HB9.out (Nat.le_refl _) _) (Nat.le_refl _) _
set_option maxHeartbeats 2000000 in
theorem shDecide_perm (O : Option Addr) (len cap : Nat) (p x ct : Int) (st : Bool) (l : List Reg) (w : World) (hG : G w) (hI : RegsK w O l) (hl : l.length = len) (hcap : len ≤ cap) (hm : len ≤ 1000) (hwf : ∀ i, i < len → (rg l i).wf) (hp : U64 p) (hx : U64 x) (rf rc : Int) (h : chk l = true) (h0 : 0 ≤ ct) (hf : fnd l p = some ⟨rf, rc, false⟩) (hs : st = true) :
    Calls Tryd.prog 8 #[.slice O len cap, .int .u64 p, .bool st, .int .u64 x, .int .i64 ct] w fun e w' => e = .returned (dcV (dcs l p st x ct)) ∧ Below w.heap.size w w' := by
  have HI := Lib.hid hI
  have HL := Lib.hid hl
  have HW := Lib.hid hwf
  have HG := Lib.hid hG
  have HP := Lib.hid hp
  have HX := Lib.hid hx
  clear hI hl hwf hG hp hx
  have HA0 := Lib.hid (Arr.new w #[.int .i8 0, .int .i8 0] 27)
  have HB0 := Lib.hid (ba (Below.refl w.heap.size w) (.cells #[.int .i8 0, .int .i8 0] 27))
  subst hs
  have HR := Lib.hid (show dcs l p true x ct = (0, 2, 0) by rw [dcs_some h h0 hf]; rfl)
  have HV := Lib.hid (ck_yes h)
  have HF := Lib.hid hf
  clear h hf
  go_enter Tryd.func8, Tryd.ntmps8
  go_wp2_with fail
  generalize w.alloc (.cells #[.int .i8 0, .int .i8 0] 27) = w0 at *
  refine (spCheck_any O len cap l _ (HI.out.call HB0.out) HL.out hcap HW.out).mono ?_
  rintro e w1 ⟨rfl, hb1⟩
  have HA1 := Lib.hid (HA0.out.call hb1)
  have HB1 := Lib.hid (bthen HB0.out hb1)
  clear hb1 HA0 HB0
  rw [HV.out]
  go_wp2_with fail
  refine (spFind_any O len cap p l _ (HI.out.call HB1.out) HL.out hcap HW.out).mono ?_
  rintro e w2 ⟨rfl, hb2⟩
  have HA2 := Lib.hid (HA1.out.call hb2)
  have HB2 := Lib.hid (bthen HB1.out hb2)
  clear hb2 HA1 HB1
  rw [HF.out]
  unfold fndV
  go_upto_region 7 with fail
  have HA9 := Lib.hid (HA2.out.alloc (.cells #[.int .u64 rf, .int .i64 rc, .bool false] 32))
  have HB9 := Lib.hid (ba HB2.out (.cells #[.int .u64 rf, .int .i64 rc, .bool false] 32))
  generalize w2.alloc (.cells #[.int .u64 rf, .int .i64 rc, .bool false] 32) = w9 at *
  have c0 : w9.cell? ⟨w.heap.size, 0, none⟩ = some (.int .i8 0) := HA9.out.cell 0 _ rfl
  have c1 : w9.cell? ⟨w.heap.size, 1, none⟩ = some (.int .i8 0) := HA9.out.cell 1 _ rfl
  have f0 : w9.frozen? ⟨w.heap.size, 0, none⟩ = false := HA9.out.frozen 0 (by simp)
  have f1 : w9.frozen? ⟨w.heap.size, 1, none⟩ = false := HA9.out.frozen 1 (by simp)
  have lR : w.heap.size < w9.heap.size := HA9.out.lt
  go_wp2_with fail
  rw [HR.out]
  refine bodyPost_ret (v := dcV (0, 2, 0)) (by simp [results, Tryd.results8, go_sem, dcV, c0, c1]) rfl ⟨rfl, ?_⟩
  exact bs (bs HB9.out (Nat.le_refl _) _) (Nat.le_refl _) _
set_option maxHeartbeats 2000000 in
theorem shDecide_ze (O : Option Addr) (len cap : Nat) (p x ct : Int) (st : Bool) (l : List Reg) (w : World) (hG : G w) (hI : RegsK w O l) (hl : l.length = len) (hcap : len ≤ cap) (hm : len ≤ 1000) (hwf : ∀ i, i < len → (rg l i).wf) (hp : U64 p) (hx : U64 x) (rf rc : Int) (rw' : Bool) (h : chk l = true) (h0 : 0 ≤ ct) (hf : fnd l p = some ⟨rf, rc, rw'⟩) (hs : (st && !rw') = false) (hz : (de x 3 == 0) = false) :
    Calls Tryd.prog 8 #[.slice O len cap, .int .u64 p, .bool st, .int .u64 x, .int .i64 ct] w fun e w' => e = .returned (dcV (dcs l p st x ct)) ∧ Below w.heap.size w w' := by
  have HI := Lib.hid hI
  have HL := Lib.hid hl
  have HW := Lib.hid hwf
  have HG := Lib.hid hG
  have HP := Lib.hid hp
  have HX := Lib.hid hx
  clear hI hl hwf hG hp hx
  have HA0 := Lib.hid (Arr.new w #[.int .i8 0, .int .i8 0] 27)
  have HB0 := Lib.hid (ba (Below.refl w.heap.size w) (.cells #[.int .i8 0, .int .i8 0] 27))
  have HR := Lib.hid (show dcs l p st x ct = (2, 0, 0) by rw [dcs_some h h0 hf, if_neg (by simpa using hs), if_pos (by simp [pgOk, hz])])
  have HV := Lib.hid (ck_yes h)
  have HF := Lib.hid hf
  clear h hf
  have z1 : (de x 3 != 0) = true := by simpa [bne] using hz
  cases st <;> cases rw' <;> simp only [Bool.and_true, Bool.and_false, Bool.not_true, Bool.not_false, Bool.true_and, Bool.false_and] at hs
  all_goals try (exact absurd hs (by decide))
  all_goals
    go_enter Tryd.func8, Tryd.ntmps8
    go_wp2_with fail
    generalize w.alloc (.cells #[.int .i8 0, .int .i8 0] 27) = w0 at *
    refine (spCheck_any O len cap l _ (HI.out.call HB0.out) HL.out hcap HW.out).mono ?_
    rintro e w1 ⟨rfl, hb1⟩
    have HA1 := Lib.hid (HA0.out.call hb1)
    have HB1 := Lib.hid (bthen HB0.out hb1)
    clear hb1 HA0 HB0
    rw [HV.out]
    go_wp2_with fail
    refine (spFind_any O len cap p l _ (HI.out.call HB1.out) HL.out hcap HW.out).mono ?_
    rintro e w2 ⟨rfl, hb2⟩
    have HA2 := Lib.hid (HA1.out.call hb2)
    have HB2 := Lib.hid (bthen HB1.out hb2)
    clear hb2 HA1 HB1
    rw [HF.out]
    unfold fndV
    go_wp2_with fail
    refine (dDecode_any x 3 _ (HG.out.call (ba HB2.out _)) HX.out).mono ?_
    rintro e w3 ⟨rfl, hb3⟩
    have HA3 := Lib.hid ((HA2.out.alloc _).call hb3)
    have HB3 := Lib.hid (bthen (ba HB2.out _) hb3)
    clear hb3 HA2 HB2
    generalize dk x 3 = k3 at *
    generalize df x 3 = v3 at *
    generalize dfl x 3 10 = b10 at *
    generalize dfl x 3 7 = b7 at *
    generalize dfl x 3 6 = b6 at *
    generalize dfl x 3 11 = b11 at *
    generalize de x 3 = e3 at *
    go_upto_region 10 with fail
    have HA9 := Lib.hid (HA3.out.alloc (.cells #[.int .i8 k3, .int .i64 v3, .bool b10, .bool b7, .bool b6, .bool b11] 54))
    have HB9 := Lib.hid (ba HB3.out (.cells #[.int .i8 k3, .int .i64 v3, .bool b10, .bool b7, .bool b6, .bool b11] 54))
    generalize w3.alloc (.cells #[.int .i8 k3, .int .i64 v3, .bool b10, .bool b7, .bool b6, .bool b11] 54) = w9 at *
    have c0 : w9.cell? ⟨w.heap.size, 0, none⟩ = some (.int .i8 0) := HA9.out.cell 0 _ rfl
    have c1 : w9.cell? ⟨w.heap.size, 1, none⟩ = some (.int .i8 0) := HA9.out.cell 1 _ rfl
    have f0 : w9.frozen? ⟨w.heap.size, 0, none⟩ = false := HA9.out.frozen 0 (by simp)
    have f1 : w9.frozen? ⟨w.heap.size, 1, none⟩ = false := HA9.out.frozen 1 (by simp)
    have lR : w.heap.size < w9.heap.size := HA9.out.lt
    go_wp2_with fail
    rw [HR.out]
    refine bodyPost_ret (v := dcV (2, 0, 0)) (by simp [results, Tryd.results8, go_sem, dcV, c0, c1]) rfl ⟨rfl, ?_⟩
    exact bs (bs HB9.out (Nat.le_refl _) _) (Nat.le_refl _) _
set_option maxHeartbeats 2000000 in
theorem shDecide_zk (O : Option Addr) (len cap : Nat) (p x ct : Int) (st : Bool) (l : List Reg) (w : World) (hG : G w) (hI : RegsK w O l) (hl : l.length = len) (hcap : len ≤ cap) (hm : len ≤ 1000) (hwf : ∀ i, i < len → (rg l i).wf) (hp : U64 p) (hx : U64 x) (rf rc : Int) (rw' : Bool) (h : chk l = true) (h0 : 0 ≤ ct) (hf : fnd l p = some ⟨rf, rc, rw'⟩) (hs : (st && !rw') = false) (hz0 : de x 3 = 0) (hz : (dk x 3 == 2) = false) :
    Calls Tryd.prog 8 #[.slice O len cap, .int .u64 p, .bool st, .int .u64 x, .int .i64 ct] w fun e w' => e = .returned (dcV (dcs l p st x ct)) ∧ Below w.heap.size w w' := by
  have HI := Lib.hid hI
  have HL := Lib.hid hl
  have HW := Lib.hid hwf
  have HG := Lib.hid hG
  have HP := Lib.hid hp
  have HX := Lib.hid hx
  clear hI hl hwf hG hp hx
  have HA0 := Lib.hid (Arr.new w #[.int .i8 0, .int .i8 0] 27)
  have HB0 := Lib.hid (ba (Below.refl w.heap.size w) (.cells #[.int .i8 0, .int .i8 0] 27))
  have HR := Lib.hid (show dcs l p st x ct = (2, 0, 0) by rw [dcs_some h h0 hf, if_neg (by simpa using hs), if_pos (by simp [pgOk, hz])])
  have HV := Lib.hid (ck_yes h)
  have HF := Lib.hid hf
  clear h hf
  have z1 : (dk x 3 != 2) = true := by simpa [bne] using hz
  have HZ0 := Lib.hid hz0
  clear hz0
  cases st <;> cases rw' <;> simp only [Bool.and_true, Bool.and_false, Bool.not_true, Bool.not_false, Bool.true_and, Bool.false_and] at hs
  all_goals try (exact absurd hs (by decide))
  all_goals
    go_enter Tryd.func8, Tryd.ntmps8
    go_wp2_with fail
    generalize w.alloc (.cells #[.int .i8 0, .int .i8 0] 27) = w0 at *
    refine (spCheck_any O len cap l _ (HI.out.call HB0.out) HL.out hcap HW.out).mono ?_
    rintro e w1 ⟨rfl, hb1⟩
    have HA1 := Lib.hid (HA0.out.call hb1)
    have HB1 := Lib.hid (bthen HB0.out hb1)
    clear hb1 HA0 HB0
    rw [HV.out]
    go_wp2_with fail
    refine (spFind_any O len cap p l _ (HI.out.call HB1.out) HL.out hcap HW.out).mono ?_
    rintro e w2 ⟨rfl, hb2⟩
    have HA2 := Lib.hid (HA1.out.call hb2)
    have HB2 := Lib.hid (bthen HB1.out hb2)
    clear hb2 HA1 HB1
    rw [HF.out]
    unfold fndV
    go_wp2_with fail
    refine (dDecode_any x 3 _ (HG.out.call (ba HB2.out _)) HX.out).mono ?_
    rintro e w3 ⟨rfl, hb3⟩
    have HA3 := Lib.hid ((HA2.out.alloc _).call hb3)
    have HB3 := Lib.hid (bthen (ba HB2.out _) hb3)
    clear hb3 HA2 HB2
    rw [HZ0.out]
    generalize dk x 3 = k3 at *
    generalize df x 3 = v3 at *
    generalize dfl x 3 10 = b10 at *
    generalize dfl x 3 7 = b7 at *
    generalize dfl x 3 6 = b6 at *
    generalize dfl x 3 11 = b11 at *
    generalize de x 3 = e3 at *
    go_upto_region 10 with fail
    have HA9 := Lib.hid (HA3.out.alloc (.cells #[.int .i8 k3, .int .i64 v3, .bool b10, .bool b7, .bool b6, .bool b11] 54))
    have HB9 := Lib.hid (ba HB3.out (.cells #[.int .i8 k3, .int .i64 v3, .bool b10, .bool b7, .bool b6, .bool b11] 54))
    generalize w3.alloc (.cells #[.int .i8 k3, .int .i64 v3, .bool b10, .bool b7, .bool b6, .bool b11] 54) = w9 at *
    have c0 : w9.cell? ⟨w.heap.size, 0, none⟩ = some (.int .i8 0) := HA9.out.cell 0 _ rfl
    have c1 : w9.cell? ⟨w.heap.size, 1, none⟩ = some (.int .i8 0) := HA9.out.cell 1 _ rfl
    have f0 : w9.frozen? ⟨w.heap.size, 0, none⟩ = false := HA9.out.frozen 0 (by simp)
    have f1 : w9.frozen? ⟨w.heap.size, 1, none⟩ = false := HA9.out.frozen 1 (by simp)
    have lR : w.heap.size < w9.heap.size := HA9.out.lt
    go_wp2_with fail
    rw [HR.out]
    refine bodyPost_ret (v := dcV (2, 0, 0)) (by simp [results, Tryd.results8, go_sem, dcV, c0, c1]) rfl ⟨rfl, ?_⟩
    exact bs (bs HB9.out (Nat.le_refl _) _) (Nat.le_refl _) _
set_option maxHeartbeats 2000000 in
theorem shDecide_zu (O : Option Addr) (len cap : Nat) (p x ct : Int) (st : Bool) (l : List Reg) (w : World) (hG : G w) (hI : RegsK w O l) (hl : l.length = len) (hcap : len ≤ cap) (hm : len ≤ 1000) (hwf : ∀ i, i < len → (rg l i).wf) (hp : U64 p) (hx : U64 x) (rf rc : Int) (rw' : Bool) (h : chk l = true) (h0 : 0 ≤ ct) (hf : fnd l p = some ⟨rf, rc, rw'⟩) (hs : (st && !rw') = false) (hz0 : de x 3 = 0) (hz1 : dk x 3 = 2) (hz : dfl x 3 6 = false) :
    Calls Tryd.prog 8 #[.slice O len cap, .int .u64 p, .bool st, .int .u64 x, .int .i64 ct] w fun e w' => e = .returned (dcV (dcs l p st x ct)) ∧ Below w.heap.size w w' := by
  have HI := Lib.hid hI
  have HL := Lib.hid hl
  have HW := Lib.hid hwf
  have HG := Lib.hid hG
  have HP := Lib.hid hp
  have HX := Lib.hid hx
  clear hI hl hwf hG hp hx
  have HA0 := Lib.hid (Arr.new w #[.int .i8 0, .int .i8 0] 27)
  have HB0 := Lib.hid (ba (Below.refl w.heap.size w) (.cells #[.int .i8 0, .int .i8 0] 27))
  have HR := Lib.hid (show dcs l p st x ct = (2, 0, 0) by rw [dcs_some h h0 hf, if_neg (by simpa using hs), if_pos (by simp [pgOk, hz])])
  have HV := Lib.hid (ck_yes h)
  have HF := Lib.hid hf
  clear h hf
  have HZ0 := Lib.hid hz0
  have HZ1 := Lib.hid hz1
  have HZ := Lib.hid hz
  clear hz0 hz1 hz
  cases st <;> cases rw' <;> simp only [Bool.and_true, Bool.and_false, Bool.not_true, Bool.not_false, Bool.true_and, Bool.false_and] at hs
  all_goals try (exact absurd hs (by decide))
  all_goals
    go_enter Tryd.func8, Tryd.ntmps8
    go_wp2_with fail
    generalize w.alloc (.cells #[.int .i8 0, .int .i8 0] 27) = w0 at *
    refine (spCheck_any O len cap l _ (HI.out.call HB0.out) HL.out hcap HW.out).mono ?_
    rintro e w1 ⟨rfl, hb1⟩
    have HA1 := Lib.hid (HA0.out.call hb1)
    have HB1 := Lib.hid (bthen HB0.out hb1)
    clear hb1 HA0 HB0
    rw [HV.out]
    go_wp2_with fail
    refine (spFind_any O len cap p l _ (HI.out.call HB1.out) HL.out hcap HW.out).mono ?_
    rintro e w2 ⟨rfl, hb2⟩
    have HA2 := Lib.hid (HA1.out.call hb2)
    have HB2 := Lib.hid (bthen HB1.out hb2)
    clear hb2 HA1 HB1
    rw [HF.out]
    unfold fndV
    go_wp2_with fail
    refine (dDecode_any x 3 _ (HG.out.call (ba HB2.out _)) HX.out).mono ?_
    rintro e w3 ⟨rfl, hb3⟩
    have HA3 := Lib.hid ((HA2.out.alloc _).call hb3)
    have HB3 := Lib.hid (bthen (ba HB2.out _) hb3)
    clear hb3 HA2 HB2
    rw [HZ0.out, HZ1.out, HZ.out]
    generalize dk x 3 = k3 at *
    generalize df x 3 = v3 at *
    generalize dfl x 3 10 = b10 at *
    generalize dfl x 3 7 = b7 at *
    generalize dfl x 3 6 = b6 at *
    generalize dfl x 3 11 = b11 at *
    generalize de x 3 = e3 at *
    go_upto_region 10 with fail
    have HA9 := Lib.hid (HA3.out.alloc (.cells #[.int .i8 2, .int .i64 v3, .bool b10, .bool b7, .bool false, .bool b11] 54))
    have HB9 := Lib.hid (ba HB3.out (.cells #[.int .i8 2, .int .i64 v3, .bool b10, .bool b7, .bool false, .bool b11] 54))
    generalize w3.alloc (.cells #[.int .i8 2, .int .i64 v3, .bool b10, .bool b7, .bool false, .bool b11] 54) = w9 at *
    have c0 : w9.cell? ⟨w.heap.size, 0, none⟩ = some (.int .i8 0) := HA9.out.cell 0 _ rfl
    have c1 : w9.cell? ⟨w.heap.size, 1, none⟩ = some (.int .i8 0) := HA9.out.cell 1 _ rfl
    have f0 : w9.frozen? ⟨w.heap.size, 0, none⟩ = false := HA9.out.frozen 0 (by simp)
    have f1 : w9.frozen? ⟨w.heap.size, 1, none⟩ = false := HA9.out.frozen 1 (by simp)
    have lR : w.heap.size < w9.heap.size := HA9.out.lt
    go_wp2_with fail
    rw [HR.out]
    refine bodyPost_ret (v := dcV (2, 0, 0)) (by simp [results, Tryd.results8, go_sem, dcV, c0, c1]) rfl ⟨rfl, ?_⟩
    exact bs (bs HB9.out (Nat.le_refl _) _) (Nat.le_refl _) _
set_option maxHeartbeats 2000000 in
theorem shDecide_wellL (O : Option Addr) (len cap : Nat) (p x ct : Int) (st : Bool) (l : List Reg) (w : World) (hG : G w) (hI : RegsK w O l) (hl : l.length = len) (hcap : len ≤ cap) (hm : len ≤ 1000) (hwf : ∀ i, i < len → (rg l i).wf) (hp : U64 p) (hx : U64 x) (rf rc : Int) (rw' : Bool) (h : chk l = true) (h0 : 0 ≤ ct) (hf : fnd l p = some ⟨rf, rc, rw'⟩) (hs : st = false) (hz0 : de x 3 = 0) (hz1 : dk x 3 = 2) (hz : dfl x 3 6 = true) :
    Calls Tryd.prog 8 #[.slice O len cap, .int .u64 p, .bool st, .int .u64 x, .int .i64 ct] w fun e w' => e = .returned (dcV (dcs l p st x ct)) ∧ Below w.heap.size w w' := by
  have HI := Lib.hid hI
  have HL := Lib.hid hl
  have HW := Lib.hid hwf
  have HG := Lib.hid hG
  have HP := Lib.hid hp
  have HX := Lib.hid hx
  clear hI hl hwf hG hp hx
  have HA0 := Lib.hid (Arr.new w #[.int .i8 0, .int .i8 0] 27)
  have HB0 := Lib.hid (ba (Below.refl w.heap.size w) (.cells #[.int .i8 0, .int .i8 0] 27))
  subst hs
  have HR := Lib.hid (show dcs l p false x ct = (1, 0, 0) by rw [dcs_some h h0 hf, if_neg (by simp), if_neg (by simp [pgOk, hz0, hz1, hz]), if_pos (by simp)])
  have HV := Lib.hid (ck_yes h)
  have HF := Lib.hid hf
  clear h hf
  have HZ0 := Lib.hid hz0
  have HZ1 := Lib.hid hz1
  have HZ := Lib.hid hz
  clear hz0 hz1 hz
  go_enter Tryd.func8, Tryd.ntmps8
  go_wp2_with fail
  generalize w.alloc (.cells #[.int .i8 0, .int .i8 0] 27) = w0 at *
  refine (spCheck_any O len cap l _ (HI.out.call HB0.out) HL.out hcap HW.out).mono ?_
  rintro e w1 ⟨rfl, hb1⟩
  have HA1 := Lib.hid (HA0.out.call hb1)
  have HB1 := Lib.hid (bthen HB0.out hb1)
  clear hb1 HA0 HB0
  rw [HV.out]
  go_wp2_with fail
  refine (spFind_any O len cap p l _ (HI.out.call HB1.out) HL.out hcap HW.out).mono ?_
  rintro e w2 ⟨rfl, hb2⟩
  have HA2 := Lib.hid (HA1.out.call hb2)
  have HB2 := Lib.hid (bthen HB1.out hb2)
  clear hb2 HA1 HB1
  rw [HF.out]
  unfold fndV
  go_wp2_with fail
  refine (dDecode_any x 3 _ (HG.out.call (ba HB2.out _)) HX.out).mono ?_
  rintro e w3 ⟨rfl, hb3⟩
  have HA3 := Lib.hid ((HA2.out.alloc _).call hb3)
  have HB3 := Lib.hid (bthen (ba HB2.out _) hb3)
  clear hb3 HA2 HB2
  rw [HZ0.out, HZ1.out, HZ.out]
  generalize df x 3 = v3 at *
  generalize dfl x 3 10 = b10 at *
  generalize dfl x 3 7 = b7 at *
  generalize dfl x 3 11 = b11 at *
  go_upto_region 12 with fail
  have HA9 := Lib.hid (HA3.out.alloc (.cells #[.int .i8 2, .int .i64 v3, .bool b10, .bool b7, .bool true, .bool b11] 54))
  have HB9 := Lib.hid (ba HB3.out (.cells #[.int .i8 2, .int .i64 v3, .bool b10, .bool b7, .bool true, .bool b11] 54))
  generalize w3.alloc (.cells #[.int .i8 2, .int .i64 v3, .bool b10, .bool b7, .bool true, .bool b11] 54) = w9 at *
  have c0 : w9.cell? ⟨w.heap.size, 0, none⟩ = some (.int .i8 0) := HA9.out.cell 0 _ rfl
  have c1 : w9.cell? ⟨w.heap.size, 1, none⟩ = some (.int .i8 0) := HA9.out.cell 1 _ rfl
  have f0 : w9.frozen? ⟨w.heap.size, 0, none⟩ = false := HA9.out.frozen 0 (by simp)
  have f1 : w9.frozen? ⟨w.heap.size, 1, none⟩ = false := HA9.out.frozen 1 (by simp)
  have lR : w.heap.size < w9.heap.size := HA9.out.lt
  go_wp2_with fail
  rw [HR.out]
  refine bodyPost_ret (v := dcV (1, 0, 0)) (by simp [results, Tryd.results8, go_sem, dcV, c0, c1]) rfl ⟨rfl, ?_⟩
  exact bs (bs HB9.out (Nat.le_refl _) _) (Nat.le_refl _) _
set_option maxHeartbeats 2000000 in
theorem shDecide_wellS (O : Option Addr) (len cap : Nat) (p x ct : Int) (st : Bool) (l : List Reg) (w : World) (hG : G w) (hI : RegsK w O l) (hl : l.length = len) (hcap : len ≤ cap) (hm : len ≤ 1000) (hwf : ∀ i, i < len → (rg l i).wf) (hp : U64 p) (hx : U64 x) (rf rc : Int) (h : chk l = true) (h0 : 0 ≤ ct) (hf : fnd l p = some ⟨rf, rc, true⟩) (hs : st = true) (hz0 : de x 3 = 0) (hz1 : dk x 3 = 2) (hz : dfl x 3 6 = true) (h7 : dfl x 3 7 = false) :
    Calls Tryd.prog 8 #[.slice O len cap, .int .u64 p, .bool st, .int .u64 x, .int .i64 ct] w fun e w' => e = .returned (dcV (dcs l p st x ct)) ∧ Below w.heap.size w w' := by
  have HI := Lib.hid hI
  have HL := Lib.hid hl
  have HW := Lib.hid hwf
  have HG := Lib.hid hG
  have HP := Lib.hid hp
  have HX := Lib.hid hx
  clear hI hl hwf hG hp hx
  have HA0 := Lib.hid (Arr.new w #[.int .i8 0, .int .i8 0] 27)
  have HB0 := Lib.hid (ba (Below.refl w.heap.size w) (.cells #[.int .i8 0, .int .i8 0] 27))
  subst hs
  have HR := Lib.hid (show dcs l p true x ct = (1, 0, 0) by rw [dcs_some h h0 hf, if_neg (by simp), if_neg (by simp [pgOk, hz0, hz1, hz]), if_pos (by simp [h7])])
  have HV := Lib.hid (ck_yes h)
  have HF := Lib.hid hf
  have H7 := Lib.hid h7
  clear h hf h7
  have HZ0 := Lib.hid hz0
  have HZ1 := Lib.hid hz1
  have HZ := Lib.hid hz
  clear hz0 hz1 hz
  go_enter Tryd.func8, Tryd.ntmps8
  go_wp2_with fail
  generalize w.alloc (.cells #[.int .i8 0, .int .i8 0] 27) = w0 at *
  refine (spCheck_any O len cap l _ (HI.out.call HB0.out) HL.out hcap HW.out).mono ?_
  rintro e w1 ⟨rfl, hb1⟩
  have HA1 := Lib.hid (HA0.out.call hb1)
  have HB1 := Lib.hid (bthen HB0.out hb1)
  clear hb1 HA0 HB0
  rw [HV.out]
  go_wp2_with fail
  refine (spFind_any O len cap p l _ (HI.out.call HB1.out) HL.out hcap HW.out).mono ?_
  rintro e w2 ⟨rfl, hb2⟩
  have HA2 := Lib.hid (HA1.out.call hb2)
  have HB2 := Lib.hid (bthen HB1.out hb2)
  clear hb2 HA1 HB1
  rw [HF.out]
  unfold fndV
  go_wp2_with fail
  refine (dDecode_any x 3 _ (HG.out.call (ba HB2.out _)) HX.out).mono ?_
  rintro e w3 ⟨rfl, hb3⟩
  have HA3 := Lib.hid ((HA2.out.alloc _).call hb3)
  have HB3 := Lib.hid (bthen (ba HB2.out _) hb3)
  clear hb3 HA2 HB2
  rw [HZ0.out, HZ1.out, HZ.out, H7.out]
  generalize df x 3 = v3 at *
  generalize dfl x 3 10 = b10 at *
  generalize dfl x 3 11 = b11 at *
  go_upto_region 12 with fail
  have HA9 := Lib.hid (HA3.out.alloc (.cells #[.int .i8 2, .int .i64 v3, .bool b10, .bool false, .bool true, .bool b11] 54))
  have HB9 := Lib.hid (ba HB3.out (.cells #[.int .i8 2, .int .i64 v3, .bool b10, .bool false, .bool true, .bool b11] 54))
  generalize w3.alloc (.cells #[.int .i8 2, .int .i64 v3, .bool b10, .bool false, .bool true, .bool b11] 54) = w9 at *
  have c0 : w9.cell? ⟨w.heap.size, 0, none⟩ = some (.int .i8 0) := HA9.out.cell 0 _ rfl
  have c1 : w9.cell? ⟨w.heap.size, 1, none⟩ = some (.int .i8 0) := HA9.out.cell 1 _ rfl
  have f0 : w9.frozen? ⟨w.heap.size, 0, none⟩ = false := HA9.out.frozen 0 (by simp)
  have f1 : w9.frozen? ⟨w.heap.size, 1, none⟩ = false := HA9.out.frozen 1 (by simp)
  have lR : w.heap.size < w9.heap.size := HA9.out.lt
  go_wp2_with fail
  rw [HR.out]
  refine bodyPost_ret (v := dcV (1, 0, 0)) (by simp [results, Tryd.results8, go_sem, dcV, c0, c1]) rfl ⟨rfl, ?_⟩
  exact bs (bs HB9.out (Nat.le_refl _) _) (Nat.le_refl _) _
set_option maxHeartbeats 2000000 in
theorem shDecide_open (O : Option Addr) (len cap : Nat) (p x ct : Int) (st : Bool) (l : List Reg) (w : World) (hG : G w) (hI : RegsK w O l) (hl : l.length = len) (hcap : len ≤ cap) (hm : len ≤ 1000) (hwf : ∀ i, i < len → (rg l i).wf) (hp : U64 p) (hx : U64 x) (rf rc : Int) (h : chk l = true) (h0 : 0 ≤ ct) (hf : fnd l p = some ⟨rf, rc, true⟩) (hs : st = true) (hz0 : de x 3 = 0) (hz1 : dk x 3 = 2) (hz : dfl x 3 6 = true) (h7 : dfl x 3 7 = true) (hc : ct = 1) :
    Calls Tryd.prog 8 #[.slice O len cap, .int .u64 p, .bool st, .int .u64 x, .int .i64 ct] w fun e w' => e = .returned (dcV (dcs l p st x ct)) ∧ Below w.heap.size w w' := by
  have HI := Lib.hid hI
  have HL := Lib.hid hl
  have HW := Lib.hid hwf
  have HG := Lib.hid hG
  have HP := Lib.hid hp
  have HX := Lib.hid hx
  clear hI hl hwf hG hp hx
  have HA0 := Lib.hid (Arr.new w #[.int .i8 0, .int .i8 0] 27)
  have HB0 := Lib.hid (ba (Below.refl w.heap.size w) (.cells #[.int .i8 0, .int .i8 0] 27))
  subst hc
  subst hs
  have HR := Lib.hid (show dcs l p true x 1 = (3, 0, 0) by rw [dcs_some h h0 hf, if_neg (by simp), if_neg (by simp [pgOk, hz0, hz1, hz]), if_neg (by simp [h7]), if_pos rfl])
  have HV := Lib.hid (ck_yes h)
  have HF := Lib.hid hf
  have H7 := Lib.hid h7
  clear h hf h7
  have HZ0 := Lib.hid hz0
  have HZ1 := Lib.hid hz1
  have HZ := Lib.hid hz
  clear hz0 hz1 hz
  go_enter Tryd.func8, Tryd.ntmps8
  go_wp2_with fail
  generalize w.alloc (.cells #[.int .i8 0, .int .i8 0] 27) = w0 at *
  refine (spCheck_any O len cap l _ (HI.out.call HB0.out) HL.out hcap HW.out).mono ?_
  rintro e w1 ⟨rfl, hb1⟩
  have HA1 := Lib.hid (HA0.out.call hb1)
  have HB1 := Lib.hid (bthen HB0.out hb1)
  clear hb1 HA0 HB0
  rw [HV.out]
  go_wp2_with fail
  refine (spFind_any O len cap p l _ (HI.out.call HB1.out) HL.out hcap HW.out).mono ?_
  rintro e w2 ⟨rfl, hb2⟩
  have HA2 := Lib.hid (HA1.out.call hb2)
  have HB2 := Lib.hid (bthen HB1.out hb2)
  clear hb2 HA1 HB1
  rw [HF.out]
  unfold fndV
  go_wp2_with fail
  refine (dDecode_any x 3 _ (HG.out.call (ba HB2.out _)) HX.out).mono ?_
  rintro e w3 ⟨rfl, hb3⟩
  have HA3 := Lib.hid ((HA2.out.alloc _).call hb3)
  have HB3 := Lib.hid (bthen (ba HB2.out _) hb3)
  clear hb3 HA2 HB2
  rw [HZ0.out, HZ1.out, HZ.out, H7.out]
  generalize df x 3 = v3 at *
  generalize dfl x 3 10 = b10 at *
  generalize dfl x 3 11 = b11 at *
  go_upto_region 14 with fail
  have HA9 := Lib.hid (HA3.out.alloc (.cells #[.int .i8 2, .int .i64 v3, .bool b10, .bool true, .bool true, .bool b11] 54))
  have HB9 := Lib.hid (ba HB3.out (.cells #[.int .i8 2, .int .i64 v3, .bool b10, .bool true, .bool true, .bool b11] 54))
  generalize w3.alloc (.cells #[.int .i8 2, .int .i64 v3, .bool b10, .bool true, .bool true, .bool b11] 54) = w9 at *
  have c0 : w9.cell? ⟨w.heap.size, 0, none⟩ = some (.int .i8 0) := HA9.out.cell 0 _ rfl
  have c1 : w9.cell? ⟨w.heap.size, 1, none⟩ = some (.int .i8 0) := HA9.out.cell 1 _ rfl
  have f0 : w9.frozen? ⟨w.heap.size, 0, none⟩ = false := HA9.out.frozen 0 (by simp)
  have f1 : w9.frozen? ⟨w.heap.size, 1, none⟩ = false := HA9.out.frozen 1 (by simp)
  have lR : w.heap.size < w9.heap.size := HA9.out.lt
  go_wp2_with fail
  rw [HR.out]
  refine bodyPost_ret (v := dcV (3, 0, 0)) (by simp [results, Tryd.results8, go_sem, dcV, c0, c1]) rfl ⟨rfl, ?_⟩
  exact bs (bs HB9.out (Nat.le_refl _) _) (Nat.le_refl _) _
set_option maxHeartbeats 2000000 in
theorem shDecide_copy (O : Option Addr) (len cap : Nat) (p x ct : Int) (st : Bool) (l : List Reg) (w : World) (hG : G w) (hI : RegsK w O l) (hl : l.length = len) (hcap : len ≤ cap) (hm : len ≤ 1000) (hwf : ∀ i, i < len → (rg l i).wf) (hp : U64 p) (hx : U64 x) (rf rc : Int) (h : chk l = true) (h0 : 0 ≤ ct) (hf : fnd l p = some ⟨rf, rc, true⟩) (hs : st = true) (hz0 : de x 3 = 0) (hz1 : dk x 3 = 2) (hz : dfl x 3 6 = true) (h7 : dfl x 3 7 = true) (hc : ct ≠ 1) :
    Calls Tryd.prog 8 #[.slice O len cap, .int .u64 p, .bool st, .int .u64 x, .int .i64 ct] w fun e w' => e = .returned (dcV (dcs l p st x ct)) ∧ Below w.heap.size w w' := by
  have HI := Lib.hid hI
  have HL := Lib.hid hl
  have HW := Lib.hid hwf
  have HG := Lib.hid hG
  have HP := Lib.hid hp
  have HX := Lib.hid hx
  clear hI hl hwf hG hp hx
  have HA0 := Lib.hid (Arr.new w #[.int .i8 0, .int .i8 0] 27)
  have HB0 := Lib.hid (ba (Below.refl w.heap.size w) (.cells #[.int .i8 0, .int .i8 0] 27))
  have hc1 : (ct == 1) = false := beq_eq_false_iff_ne.2 hc
  subst hs
  have HR := Lib.hid (show dcs l p true x ct = (4, 0, 0) by rw [dcs_some h h0 hf, if_neg (by simp), if_neg (by simp [pgOk, hz0, hz1, hz]), if_neg (by simp [h7]), if_neg hc])
  have HV := Lib.hid (ck_yes h)
  have HF := Lib.hid hf
  have H7 := Lib.hid h7
  clear h hf h7
  have HZ0 := Lib.hid hz0
  have HZ1 := Lib.hid hz1
  have HZ := Lib.hid hz
  clear hz0 hz1 hz
  go_enter Tryd.func8, Tryd.ntmps8
  go_wp2_with fail
  generalize w.alloc (.cells #[.int .i8 0, .int .i8 0] 27) = w0 at *
  refine (spCheck_any O len cap l _ (HI.out.call HB0.out) HL.out hcap HW.out).mono ?_
  rintro e w1 ⟨rfl, hb1⟩
  have HA1 := Lib.hid (HA0.out.call hb1)
  have HB1 := Lib.hid (bthen HB0.out hb1)
  clear hb1 HA0 HB0
  rw [HV.out]
  go_wp2_with fail
  refine (spFind_any O len cap p l _ (HI.out.call HB1.out) HL.out hcap HW.out).mono ?_
  rintro e w2 ⟨rfl, hb2⟩
  have HA2 := Lib.hid (HA1.out.call hb2)
  have HB2 := Lib.hid (bthen HB1.out hb2)
  clear hb2 HA1 HB1
  rw [HF.out]
  unfold fndV
  go_wp2_with fail
  refine (dDecode_any x 3 _ (HG.out.call (ba HB2.out _)) HX.out).mono ?_
  rintro e w3 ⟨rfl, hb3⟩
  have HA3 := Lib.hid ((HA2.out.alloc _).call hb3)
  have HB3 := Lib.hid (bthen (ba HB2.out _) hb3)
  clear hb3 HA2 HB2
  rw [HZ0.out, HZ1.out, HZ.out, H7.out]
  generalize df x 3 = v3 at *
  generalize dfl x 3 10 = b10 at *
  generalize dfl x 3 11 = b11 at *
  go_upto_region 15 with fail
  have HA9 := Lib.hid (HA3.out.alloc (.cells #[.int .i8 2, .int .i64 v3, .bool b10, .bool true, .bool true, .bool b11] 54))
  have HB9 := Lib.hid (ba HB3.out (.cells #[.int .i8 2, .int .i64 v3, .bool b10, .bool true, .bool true, .bool b11] 54))
  generalize w3.alloc (.cells #[.int .i8 2, .int .i64 v3, .bool b10, .bool true, .bool true, .bool b11] 54) = w9 at *
  have c0 : w9.cell? ⟨w.heap.size, 0, none⟩ = some (.int .i8 0) := HA9.out.cell 0 _ rfl
  have c1 : w9.cell? ⟨w.heap.size, 1, none⟩ = some (.int .i8 0) := HA9.out.cell 1 _ rfl
  have f0 : w9.frozen? ⟨w.heap.size, 0, none⟩ = false := HA9.out.frozen 0 (by simp)
  have f1 : w9.frozen? ⟨w.heap.size, 1, none⟩ = false := HA9.out.frozen 1 (by simp)
  have lR : w.heap.size < w9.heap.size := HA9.out.lt
  go_wp2_with fail
  rw [HR.out]
  refine bodyPost_ret (v := dcV (4, 0, 0)) (by simp [results, Tryd.results8, go_sem, dcV, c0, c1]) rfl ⟨rfl, ?_⟩
  exact bs (bs HB9.out (Nat.le_refl _) _) (Nat.le_refl _) _
theorem shDecide_any (O : Option Addr) (len cap : Nat) (p x ct : Int) (st : Bool) (l : List Reg) (w : World) (hG : G w) (hI : RegsK w O l) (hl : l.length = len) (hcap : len ≤ cap) (hm : len ≤ 1000) (hwf : ∀ i, i < len → (rg l i).wf) (hp : U64 p) (hx : U64 x) :
    Calls Tryd.prog 8 #[.slice O len cap, .int .u64 p, .bool st, .int .u64 x, .int .i64 ct] w fun e w' => e = .returned (dcV (dcs l p st x ct)) ∧ Below w.heap.size w w' := by
  rcases hc : chk l with _ | _
  · exact shDecide_ck O len cap p x ct st l w hG hI hl hcap hm hwf hp hx hc
  · by_cases h0 : ct < 0
    · exact shDecide_ct O len cap p x ct st l w hG hI hl hcap hm hwf hp hx hc h0
    · have h0' : 0 ≤ ct := by omega
      rcases hf : fnd l p with _ | ⟨rf, rc, rw'⟩
      · exact shDecide_none O len cap p x ct st l w hG hI hl hcap hm hwf hp hx hc h0' hf
      · rcases hs : (st && !rw') with _ | _
        · rcases he : (de x 3 == 0) with _ | _
          · exact shDecide_ze O len cap p x ct st l w hG hI hl hcap hm hwf hp hx rf rc rw' hc h0' hf hs he
          · have he' : de x 3 = 0 := by simpa using he
            rcases hk : (dk x 3 == 2) with _ | _
            · exact shDecide_zk O len cap p x ct st l w hG hI hl hcap hm hwf hp hx rf rc rw' hc h0' hf hs he' hk
            · have hk' : dk x 3 = 2 := by simpa using hk
              rcases hu : dfl x 3 6 with _ | _
              · exact shDecide_zu O len cap p x ct st l w hG hI hl hcap hm hwf hp hx rf rc rw' hc h0' hf hs he' hk' hu
              · rcases hw : (!st || !dfl x 3 7) with _ | _
                · have hst : st = true := by cases st <;> simp_all
                  have h7 : dfl x 3 7 = true := by cases h : dfl x 3 7 <;> simp_all
                  have hrw : rw' = true := by cases rw' <;> simp_all
                  subst hrw
                  by_cases h1 : ct = 1
                  · exact shDecide_open O len cap p x ct st l w hG hI hl hcap hm hwf hp hx rf rc hc h0' hf hst he' hk' hu h7 h1
                  · exact shDecide_copy O len cap p x ct st l w hG hI hl hcap hm hwf hp hx rf rc hc h0' hf hst he' hk' hu h7 h1
                · cases st with
                  | false => exact shDecide_wellL O len cap p x ct false l w hG hI hl hcap hm hwf hp hx rf rc rw' hc h0' hf rfl he' hk' hu
                  | true =>
                    have h7 : dfl x 3 7 = false := by cases h : dfl x 3 7 <;> simp_all
                    have hrw : rw' = true := by cases rw' <;> simp_all
                    subst hrw
                    exact shDecide_wellS O len cap p x ct true l w hG hI hl hcap hm hwf hp hx rf rc hc h0' hf rfl he' hk' hu h7
        · have hst : st = true := by cases st <;> simp_all
          have hrw : rw' = false := by cases rw' <;> simp_all
          subst hrw
          exact shDecide_perm O len cap p x ct st l w hG hI hl hcap hm hwf hp hx rf rc hc h0' hf hst
end Go.Proofs.YtaikkdlphfmgiaaDoor
