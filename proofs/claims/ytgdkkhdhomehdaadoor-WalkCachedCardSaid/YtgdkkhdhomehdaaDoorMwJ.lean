/-
  Package tlb's greatest: the walk.
  Package tlb's Find and Best, as they are called.
  Layer 11's wakes: what the document says of an entry that is put in another one's place.
  Rows of entries, plain: the laws.
  Rows of entries held against each other.
  The document's check of a TLB.
  A row of the call's own, cut at its head, and an item more at its end.
-/
import Derived.Test.YtgdkkhdhomehdaaDoorMwI
import Derived.Test.YtgdkkhdhomehdaaDoorMwH
import Derived.Deep.QuietTactic
import Derived.BigQuiet
import Derived.Deep.RegionHeld
import Derived.ArgAppend
namespace Go.Proofs.YtgdkkhdhomehdaaDoor
section
open Go.RowKit
set_option linter.unusedVariables false
set_option linter.unusedSimpArgs false
theorem Arr.put4 {w : World} {b : Nat} {c0 c1 c2 c3 : Value} (h : Arr w b [c0, c1, c2, c3]) (u0 u1 u2 u3 : Value) :
    Arr ((((w.setCell ⟨b, 0, none⟩ u0).setCell ⟨b, 1, none⟩ u1).setCell ⟨b, 2, none⟩ u2).setCell ⟨b, 3, none⟩ u3) b [u0, u1, u2, u3] :=
  (((h.set 0 (by simp) u0).set 1 (by simp) u1).set 2 (by simp) u2).set 3 (by simp) u3
theorem Arr.far4 {w : World} {b d : Nat} {cs : List Value} (h : Arr w b cs) (hd : d ≠ b) (u0 u1 u2 u3 : Value) :
    Arr ((((w.setCell ⟨d, 0, none⟩ u0).setCell ⟨d, 1, none⟩ u1).setCell ⟨d, 2, none⟩ u2).setCell ⟨d, 3, none⟩ u3) b cs :=
  (((h.far (p := ⟨d, 0, none⟩) hd u0).far (p := ⟨d, 1, none⟩) hd u1).far (p := ⟨d, 2, none⟩) hd u2).far (p := ⟨d, 3, none⟩) hd u3
theorem bs4 {a W : World} (h : Below a.heap.size a W) {d : Nat} (hp : a.heap.size ≤ d) (u0 u1 u2 u3 : Value) : Below a.heap.size a ((((W.setCell ⟨d, 0, none⟩ u0).setCell ⟨d, 1, none⟩ u1).setCell ⟨d, 2, none⟩ u2).setCell ⟨d, 3, none⟩ u3) :=
  bs (bs (bs (bs h (p := ⟨d, 0, none⟩) hp u0) (p := ⟨d, 1, none⟩) hp u1) (p := ⟨d, 2, none⟩) hp u2) (p := ⟨d, 3, none⟩) hp u3
/-- What holds at the head of a round. -/
def GRel (w : World) (of : Sb → Bool) (xs : List Sb) (len : Nat) (found i : Value) (wr : World) : Prop :=
  ∃ j : Nat, i = .int .i64 j ∧ j ≤ len ∧ found = .bool (bst of (xs.take j)).isSome ∧ Below w.heap.size w wr ∧ Arr wr (w.heap.size + 1) [.int .i64 0, .int .i8 0, .int .u64 0, .int .i64 0] ∧ Arr wr (w.heap.size + 2) (encS ((bst of (xs.take j)).getD zS))
set_option maxRecDepth 100000 in
set_option maxHeartbeats 4000000 in
theorem greatest_any (O : Option Addr) (cap : Nat) (xs : List Sb) (asid page : Int) (C D : Nat) (w : World) (hI : RK encS 4 w O xs) (hcap : xs.length ≤ cap) (hC : BCaught w C D asid page) :
    Calls Tryd.prog 63 #[.agg #[.int .i64 4, .func (.func 87) #[] #[], .func (.func 89) #[] #[]], .slice O xs.length cap, .func (.func 60) #[] #[.pointer (some ⟨C, 0, none⟩), .pointer (some ⟨D, 0, none⟩)], .func (.func 62) #[] #[]] w
      fun e w' => e = .returned (.tuple #[.agg #[.int .i64 ((bestO xs asid page).getD zS).a, .int .i8 ((bestO xs asid page).getD zS).l, .int .u64 ((bestO xs asid page).getD zS).p, .int .i64 ((bestO xs asid page).getD zS).f], .bool (bestO xs asid page).isSome]) ∧ Below w.heap.size w w' := by
  have hB0 := ba (ba (ba (Below.refl w.heap.size w) (.cells #[.int .i64 4, .func (.func 87) #[] #[], .func (.func 89) #[] #[]] 137)) (.cells #[.int .i64 0, .int .i8 0, .int .u64 0, .int .i64 0] 36)) (.cells #[.int .i64 0, .int .i8 0, .int .u64 0, .int .i64 0] 36)
  have e1 : (w.alloc (.cells #[.int .i64 4, .func (.func 87) #[] #[], .func (.func 89) #[] #[]] 137)).heap.size = w.heap.size + 1 := by simp
  have e2 : ((w.alloc (.cells #[.int .i64 4, .func (.func 87) #[] #[], .func (.func 89) #[] #[]] 137)).alloc (.cells #[.int .i64 0, .int .i8 0, .int .u64 0, .int .i64 0] 36)).heap.size = w.heap.size + 2 := by simp
  have hR := e1 ▸ (Arr.new (w.alloc (.cells #[.int .i64 4, .func (.func 87) #[] #[], .func (.func 89) #[] #[]] 137)) #[.int .i64 0, .int .i8 0, .int .u64 0, .int .i64 0] 36).alloc (.cells #[.int .i64 0, .int .i8 0, .int .u64 0, .int .i64 0] 36)
  have hT := e2 ▸ Arr.new ((w.alloc (.cells #[.int .i64 4, .func (.func 87) #[] #[], .func (.func 89) #[] #[]] 137)).alloc (.cells #[.int .i64 0, .int .i8 0, .int .u64 0, .int .i64 0] 36)) #[.int .i64 0, .int .i8 0, .int .u64 0, .int .i64 0] 36
  have HB0 := Lib.hid hB0
  have HR0 := Lib.hid hR
  have HT0 := Lib.hid hT
  have HI0 := Lib.hid hI
  have HC0 := Lib.hid hC
  have HI := Lib.hid (hI.call hB0)
  have HC := Lib.hid (hC.call hB0)
  clear hI hC hB0 hR hT e1 e2
  go_enter Tryd.func63, Tryd.ntmps63
  go_wp2_with fail
  generalize ((w.alloc (.cells #[.int .i64 4, .func (.func 87) #[] #[], .func (.func 89) #[] #[]] 137)).alloc (.cells #[.int .i64 0, .int .i8 0, .int .u64 0, .int .i64 0] 36)).alloc (.cells #[.int .i64 0, .int .i8 0, .int .u64 0, .int .i64 0] 36) = W0 at *
  refine (checkS_any O cap xs _ HI.out hcap).mono ?_
  rintro e Wc ⟨rfl, hb⟩
  have HBc := Lib.hid (bthen HB0.out hb)
  have HIc := Lib.hid (HI.out.call hb)
  have HCc := Lib.hid (HC.out.call hb)
  have HRc := Lib.hid (HR0.out.call hb)
  have HTc := Lib.hid (HT0.out.call hb)
  clear hb HB0 HI HC HR0 HT0
  rcases ckE_cases mayS plS 4 xs with ⟨hk, h2⟩ | ⟨hk, h2⟩
  · rw [h2]
    have HE := Lib.hid (show bestO xs asid page = bst (ofB asid page) xs from if_pos hk)
    have HM := Lib.hid hk.2
    have h8 := hk.1
    clear hk h2
    obtain ⟨len, hlen⟩ : ∃ len, len = xs.length := ⟨_, rfl⟩
    rw [← hlen] at hcap h8 ⊢
    have HL := Lib.hid hlen
    clear hlen
    go_wp2_with fail
    go_loopw [11, 21] (fun found i wr => GRel w (ofB asid page) xs len found i wr) (fun _ i _ => len - (intOf i).toNat)
    case atStart => exact ⟨0, rfl, by omega, rfl, HBc.out, HRc.out, HTc.out⟩
    case round =>
      obtain ⟨j, rfl, hj, hf, hB, hR, hT⟩ := hrel
      have hI := HI0.out.call hB
      have hC := HC0.out.call hB
      by_cases hlt : j < len
      · obtain ⟨b, off, hO, hcell⟩ := hI (by have := HL.out; omega)
        subst hO
        obtain ⟨x, hx⟩ : ∃ x, xs[j]? = some x := ⟨xs[j]'(by have := HL.out; omega), List.getElem?_eq_getElem _⟩
        obtain ⟨c0, c1, c2, c3⟩ := sb_cells hx hcell
        have HS := Lib.hid (bst_succ (ofB asid page) xs j x hx)
        have hmx := (HM.out j x (by have := HL.out; omega) hx).1
        obtain ⟨-, -, -, -, hl1, hl3, -⟩ := of_decide_eq_true hmx
        generalize ho : bst (ofB asid page) (xs.take j) = o at *
        have HF := Lib.hid hf
        have HB := Lib.hid hB
        have HR := Lib.hid hR
        have HT := Lib.hid hT
        have HI2 := Lib.hid hI
        have HC2 := Lib.hid hC
        clear hcell hB hR hT hx hmx ho hI hC hf
        go_wp2_with fail
        have HA1 := Lib.hid (Arr.new wr #[.int .i64 x.a, .int .i8 x.l, .int .u64 x.p, .int .i64 x.f] 36)
        have HB1 := Lib.hid (ba HB.out (.cells #[.int .i64 x.a, .int .i8 x.l, .int .u64 x.p, .int .i64 x.f] 36))
        have HR1 := Lib.hid (HR.out.alloc (.cells #[.int .i64 x.a, .int .i8 x.l, .int .u64 x.p, .int .i64 x.f] 36))
        have HT1 := Lib.hid (HT.out.alloc (.cells #[.int .i64 x.a, .int .i8 x.l, .int .u64 x.p, .int .i64 x.f] 36))
        have HI3 := Lib.hid (HI2.out.call (ba (Below.refl _ _) (.cells #[.int .i64 x.a, .int .i8 x.l, .int .u64 x.p, .int .i64 x.f] 36)))
        have HC3 := Lib.hid (HC2.out.call (ba (Below.refl _ _) (.cells #[.int .i64 x.a, .int .i8 x.l, .int .u64 x.p, .int .i64 x.f] 36)))
        have hY : w.heap.size + 2 < wr.heap.size := HT.out.lt
        clear c0 c1 c2 c3 HB HR HT HI2 HC2
        generalize wr.heap.size = Y at *
        generalize wr.alloc (.cells #[.int .i64 x.a, .int .i8 x.l, .int .u64 x.p, .int .i64 x.f] 36) = W1 at *
        refine (best1_any x asid page C D _ HC3.out hl1 hl3).mono ?_
        rintro e w1 ⟨rfl, hb1⟩
        have HA2 := Lib.hid (HA1.out.call hb1)
        have HB2 := Lib.hid (bthen HB1.out hb1)
        have HR2 := Lib.hid (HR1.out.call hb1)
        have HT2 := Lib.hid (HT1.out.call hb1)
        have HI4 := Lib.hid (HI3.out.call hb1)
        have HC4 := Lib.hid (HC3.out.call hb1)
        clear HA1 HB1 HR1 HT1 HI3 HC3 hb1
        rcases hq : ofB asid page x with _ | _
        · have HN := Lib.hid (HS.out.trans (bstep_no hq))
          clear hq HS
          go_wp2_with fail
          go_roundw
          case rel => exact ⟨j + 1, by go_num, by omega, by rw [HN.out]; exact HF.out, HB2.out, HR2.out, by rw [HN.out]; exact HT2.out⟩
          case measure => simp [intOf]; omega
        · rcases o with _ | bb
          · have HN := Lib.hid (HS.out.trans (bstep_first hq))
            have hf := HF.out
            simp only [Option.isSome_none] at hf
            subst hf
            clear hq HS HF
            have hT := HT2.out
            simp only [Option.getD_none, encS, zS] at hT
            have a0 := HA2.out.cell 0 _ rfl
            have a1 := HA2.out.cell 1 _ rfl
            have a2 := HA2.out.cell 2 _ rfl
            have a3 := HA2.out.cell 3 _ rfl
            have t0 := hT.cell 0 _ rfl
            have t1 := hT.cell 1 _ rfl
            have t2 := hT.cell 2 _ rfl
            have t3 := hT.cell 3 _ rfl
            have f0 := hT.frozen 0 (by simp)
            have f1 := hT.frozen 1 (by simp)
            have f2 := hT.frozen 2 (by simp)
            have f3 := hT.frozen 3 (by simp)
            have lA := HA2.out.lt
            have lT := hT.lt
            have n1 : ¬ w.heap.size + 2 = Y := by omega
            have HT3 := Lib.hid (hT.put4 (.int .i64 x.a) (.int .i8 x.l) (.int .u64 x.p) (.int .i64 x.f))
            clear hT
            go_wp2_with fail
            go_roundw
            case rel => exact ⟨j + 1, by go_num, by omega, by rw [HN.out]; rfl, bs4 HB2.out (by omega) _ _ _ _, HR2.out.far4 (by omega) _ _ _ _, by rw [HN.out]; exact HT3.out⟩
            case measure => simp [intOf]; omega
          · have hf := HF.out
            simp only [Option.isSome_some] at hf
            subst hf
            clear HF
            have HTb := Lib.hid (show Arr w1 (w.heap.size + 2) [.int .i64 bb.a, .int .i8 bb.l, .int .u64 bb.p, .int .i64 bb.f] from HT2.out)
            have a0 := HA2.out.cell 0 _ rfl
            have a1 := HA2.out.cell 1 _ rfl
            have a2 := HA2.out.cell 2 _ rfl
            have a3 := HA2.out.cell 3 _ rfl
            have t0 := HTb.out.cell 0 _ rfl
            have t1 := HTb.out.cell 1 _ rfl
            have t2 := HTb.out.cell 2 _ rfl
            have t3 := HTb.out.cell 3 _ rfl
            go_wp2_with fail
            refine (best2_any bb x _).mono ?_
            rintro e w2 ⟨rfl, hb2⟩
            have HA3 := Lib.hid (HA2.out.call hb2)
            have HB3 := Lib.hid (bthen HB2.out hb2)
            have HR3 := Lib.hid (HR2.out.call hb2)
            have HT3 := Lib.hid (HTb.out.call hb2)
            clear HA2 HB2 HR2 HT2 HTb hb2 a0 a1 a2 a3 t0 t1 t2 t3
            by_cases hl : bb.l < x.l
            · have HN := Lib.hid (HS.out.trans (bstep_more hq hl))
              clear hq HS
              rw [decide_eq_true hl]
              clear hl
              have a0 := HA3.out.cell 0 _ rfl
              have a1 := HA3.out.cell 1 _ rfl
              have a2 := HA3.out.cell 2 _ rfl
              have a3 := HA3.out.cell 3 _ rfl
              have t0 := HT3.out.cell 0 _ rfl
              have t1 := HT3.out.cell 1 _ rfl
              have t2 := HT3.out.cell 2 _ rfl
              have t3 := HT3.out.cell 3 _ rfl
              have f0 := HT3.out.frozen 0 (by simp)
              have f1 := HT3.out.frozen 1 (by simp)
              have f2 := HT3.out.frozen 2 (by simp)
              have f3 := HT3.out.frozen 3 (by simp)
              have lA := HA3.out.lt
              have lT := HT3.out.lt
              have n1 : ¬ w.heap.size + 2 = Y := by omega
              have HT4 := Lib.hid (HT3.out.put4 (.int .i64 x.a) (.int .i8 x.l) (.int .u64 x.p) (.int .i64 x.f))
              go_wp2_with fail
              go_roundw
              case rel => exact ⟨j + 1, by go_num, by omega, by rw [HN.out]; rfl, bs4 HB3.out (by omega) _ _ _ _, HR3.out.far4 (by omega) _ _ _ _, by rw [HN.out]; exact HT4.out⟩
              case measure => simp [intOf]; omega
            · have HN := Lib.hid (HS.out.trans (bstep_less hq hl))
              clear hq HS
              rw [decide_eq_false hl]
              clear hl
              go_wp2_with fail
              go_roundw
              case rel => exact ⟨j + 1, by go_num, by omega, by rw [HN.out]; rfl, HB3.out, HR3.out, by rw [HN.out]; exact HT3.out⟩
              case measure => simp [intOf]; omega
      · have HN := Lib.hid (show bst (ofB asid page) (xs.take j) = bestO xs asid page from by rw [HE.out, List.take_of_length_le (by have := HL.out; omega)])
        rw [HN.out] at hf hT
        have HB := Lib.hid hB
        generalize hbo : (bestO xs asid page) = o at *
        have HBO := Lib.hid hbo
        clear hbo
        subst hf
        have r0 := hR.cell 0 _ rfl
        have r1 := hR.cell 1 _ rfl
        have r2 := hR.cell 2 _ rfl
        have r3 := hR.cell 3 _ rfl
        have t0 := hT.cell 0 _ rfl
        have t1 := hT.cell 1 _ rfl
        have t2 := hT.cell 2 _ rfl
        have t3 := hT.cell 3 _ rfl
        have f0 := hR.frozen 0 (by simp)
        have f1 := hR.frozen 1 (by simp)
        have f2 := hR.frozen 2 (by simp)
        have f3 := hR.frozen 3 (by simp)
        have lR := hR.lt
        have lT := hT.lt
        clear hB hR hT hI hC
        go_wp2_with fail
        refine bodyPost_ret (v := .tuple #[.agg #[.int .i64 (o.getD zS).a, .int .i8 (o.getD zS).l, .int .u64 (o.getD zS).p, .int .i64 (o.getD zS).f], .bool o.isSome]) (by simp [results, Tryd.results63, go_sem, r0, r1, r2, r3]) rfl ⟨by rw [HBO.out], ?_⟩
        exact bs4 HB.out (by omega) _ _ _ _
  · have HE := Lib.hid (show bestO xs asid page = none from if_neg hk)
    rw [h2]
    clear hk h2
    have r0 := HRc.out.cell 0 _ rfl
    have r1 := HRc.out.cell 1 _ rfl
    have r2 := HRc.out.cell 2 _ rfl
    have r3 := HRc.out.cell 3 _ rfl
    have t0 := HTc.out.cell 0 _ rfl
    have t1 := HTc.out.cell 1 _ rfl
    have t2 := HTc.out.cell 2 _ rfl
    have t3 := HTc.out.cell 3 _ rfl
    have f0 := HRc.out.frozen 0 (by simp)
    have f1 := HRc.out.frozen 1 (by simp)
    have f2 := HRc.out.frozen 2 (by simp)
    have f3 := HRc.out.frozen 3 (by simp)
    have lR := HRc.out.lt
    have lT := HTc.out.lt
    go_wp2_with fail
    refine bodyPost_ret (v := .tuple #[.agg #[.int .i64 0, .int .i8 0, .int .u64 0, .int .i64 0], .bool false]) (by simp [results, Tryd.results63, go_sem, r0, r1, r2, r3]) rfl ⟨by rw [HE.out]; rfl, ?_⟩
    exact bs4 HBc.out (by omega) _ _ _ _
end
section
open Go.RowKit
set_option linter.unusedVariables false
set_option linter.unusedSimpArgs false
open Classical in
noncomputable def fndO (xs : List Tb) (asid page : Int) : Option Tb := if Ck mayT plT 8 xs then (fdx plT xs (asid, 0, page)).bind (fun n => xs[n]?) else none
def zT : Tb := ⟨0, 0, 0, false⟩
theorem best_out (O : Option Addr) (cap : Nat) (xs : List Sb) (asid page : Int) (w : World) (hI : RK encS 4 w O xs) (hcap : xs.length ≤ cap) :
    Calls Tryd.prog 32 #[.slice O xs.length cap, .int .i64 asid, .int .u64 page] w
      fun e w' => e = .returned (.tuple #[.agg #[.int .i64 ((bestO xs asid page).getD zS).a, .int .i8 ((bestO xs asid page).getD zS).l, .int .u64 ((bestO xs asid page).getD zS).p, .int .i64 ((bestO xs asid page).getD zS).f], .bool (bestO xs asid page).isSome]) ∧ Below w.heap.size w w' := by
  have hB0 := ba (ba (ba (Below.refl w.heap.size w) (.cells #[.int .i64 asid] 3)) (.cells #[.int .u64 page] 22)) (.cells #[.int .i64 0, .int .i8 0, .int .u64 0, .int .i64 0] 36)
  have e1 : (w.alloc (.cells #[.int .i64 asid] 3)).heap.size = w.heap.size + 1 := by simp
  have e2 : ((w.alloc (.cells #[.int .i64 asid] 3)).alloc (.cells #[.int .u64 page] 22)).heap.size = w.heap.size + 2 := by simp
  have hC := ((Arr.new w #[.int .i64 asid] 3).alloc (.cells #[.int .u64 page] 22)).alloc (.cells #[.int .i64 0, .int .i8 0, .int .u64 0, .int .i64 0] 36)
  have hD := e1 ▸ (Arr.new (w.alloc (.cells #[.int .i64 asid] 3)) #[.int .u64 page] 22).alloc (.cells #[.int .i64 0, .int .i8 0, .int .u64 0, .int .i64 0] 36)
  have hR := e2 ▸ Arr.new ((w.alloc (.cells #[.int .i64 asid] 3)).alloc (.cells #[.int .u64 page] 22)) #[.int .i64 0, .int .i8 0, .int .u64 0, .int .i64 0] 36
  have HB0 := Lib.hid hB0
  have HC := Lib.hid (show BCaught _ w.heap.size (w.heap.size + 1) asid page from ⟨hC.cell 0 _ rfl, hD.cell 0 _ rfl⟩)
  have HR := Lib.hid hR
  have HI := Lib.hid (hI.call hB0)
  clear hI hB0 e1 e2 hC hD hR
  go_enter Tryd.func32, Tryd.ntmps32
  go_wp2_with fail
  generalize ((w.alloc (.cells #[.int .i64 asid] 3)).alloc (.cells #[.int .u64 page] 22)).alloc (.cells #[.int .i64 0, .int .i8 0, .int .u64 0, .int .i64 0] 36) = W0 at *
  refine (kindS_any _).mono ?_
  rintro e w1 ⟨rfl, hb1⟩
  have HB1 := Lib.hid hb1
  clear hb1
  go_wp2_with fail
  refine (greatest_any O cap xs asid page w.heap.size (w.heap.size + 1) _ (HI.out.call HB1.out) hcap (HC.out.call HB1.out)).mono ?_
  rintro e w2 ⟨rfl, hb2⟩
  have HB2 := Lib.hid (bthen (bthen HB0.out HB1.out) hb2)
  have hR2 := (HR.out.call HB1.out).call hb2
  clear hb2 HR
  generalize hbo : bestO xs asid page = o at *
  have HBO := Lib.hid hbo
  clear hbo
  have r0 := hR2.cell 0 _ rfl
  have r1 := hR2.cell 1 _ rfl
  have r2 := hR2.cell 2 _ rfl
  have r3 := hR2.cell 3 _ rfl
  have f0 := hR2.frozen 0 (by simp)
  have f1 := hR2.frozen 1 (by simp)
  have f2 := hR2.frozen 2 (by simp)
  have f3 := hR2.frozen 3 (by simp)
  have lR := hR2.lt
  clear hR2
  go_wp2_with fail
  refine bodyPost_ret (v := .tuple #[.agg #[.int .i64 (o.getD zS).a, .int .i8 (o.getD zS).l, .int .u64 (o.getD zS).p, .int .i64 (o.getD zS).f], .bool o.isSome]) (by simp [results, Tryd.results32, go_sem, r0, r1, r2, r3]) rfl ⟨by first | rfl | rw [HBO.out], ?_⟩
  exact bs4 HB2.out (by omega) _ _ _ _
end
section
open Go.RowKit
set_option linter.unusedVariables false
set_option linter.unusedSimpArgs false
section
variable {α : Type} {may : α → Bool} {pl : α → Int × Int × Int}
theorem ok2 {a b : α} (h1 : may a = true) (h2 : may b = true) (h3 : pl a ≠ pl b) : OkB may pl [a, b] 2 := by
  refine OkB.succ (OkB.succ (OkB.zero _) (j := 0) (x := a) rfl h1 (NoB.zero _ _)) (j := 1) (x := b) rfl h2 ?_
  exact NoB.succ (NoB.zero _ _) (j := 0) (x := a) rfl h3
theorem ok3 {a b c : α} (h1 : may a = true) (h2 : may b = true) (h3 : may c = true) (h4 : pl a ≠ pl b) (h5 : pl a ≠ pl c) (h6 : pl b ≠ pl c) : OkB may pl [a, b, c] 3 := by
  refine OkB.succ (OkB.succ (OkB.succ (OkB.zero _) (j := 0) (x := a) rfl h1 (NoB.zero _ _)) (j := 1) (x := b) rfl h2 (NoB.succ (NoB.zero _ _) (j := 0) (x := a) rfl h4)) (j := 2) (x := c) rfl h3 ?_
  exact NoB.succ (NoB.succ (NoB.zero _ _) (j := 0) (x := a) rfl h5) (j := 1) (x := b) rfl h6
end
theorem rk_lit {α : Type} {enc : α → List Value} {k : Nat} (hk : ∀ x, (enc x).length = k) {w : World} {g : Nat} {xs : List α} (h : Arr w g (flat enc xs)) : RK enc k w (some ⟨g, 0, none⟩) xs := fun _ => ⟨g, 0, rfl, fun i x hx j u hu => by
  have := h.cell (i * k + j) u (flat_at hk xs i x hx j u hu)
  rw [Nat.zero_add]
  exact this⟩
def wk1 : Tb := ⟨1, 5, 2, false⟩
def wk2 : Tb := ⟨1, 6, 0, false⟩
def wk3 : Tb := ⟨1, 5, 3, false⟩
def ws1 : Sb := ⟨1, 1, 0, 0⟩
def ws2 : Sb := ⟨1, 3, 0, 0⟩
def ws3 : Sb := ⟨1, 2, 0, 0⟩
theorem wk_ck : Ck mayT plT 8 [wk1, wk2] := ⟨by simp, ok2 (by decide) (by decide) (by decide)⟩
theorem wk_ck2 : Ck mayT plT 8 [wk3, wk2] := ⟨by simp, ok2 (by decide) (by decide) (by decide)⟩
theorem ws_ck : Ck mayS plS 4 [ws1, ws2, ws3] := ⟨by simp, ok3 (by decide) (by decide) (by decide) (by decide) (by decide) (by decide)⟩
theorem wk_filE : filE mayT plT 8 [wk1, wk2] wk3 = 0 := if_pos ⟨wk_ck, by decide⟩
theorem wk_filL : filL mayT plT 8 [wk1, wk2] wk3 = [wk3, wk2] := by
  unfold filL
  rw [if_pos ⟨wk_ck, by decide⟩, show fdx plT [wk1, wk2] (plT wk3) = some 0 by decide]
  rfl
theorem wk_fnd : fndO [wk3, wk2] 1 5 = some wk3 := by
  unfold fndO
  rw [if_pos wk_ck2, show fdx plT [wk3, wk2] (1, 0, 5) = some 0 by decide]
  rfl
theorem ws_best : bestO [ws1, ws2, ws3] 1 7 = some ws3 := by
  unfold bestO
  rw [if_pos ws_ck]
  have h1 : ofB 1 7 ws1 = true := by decide
  have h2 : ofB 1 7 ws2 = false := by decide
  have h3 : ofB 1 7 ws3 = true := by decide
  unfold bst
  simp only [List.foldl_cons, List.foldl_nil]
  rw [bstep_first h1, bstep_no h2, bstep_more h3 (by decide)]
end
section
set_option linter.unusedVariables false
set_option linter.unusedSimpArgs false
section
variable {α : Type} {may : α → Bool} {pl : α → Int × Int × Int}
/-- No two have one place. -/
def Apart (pl : α → Int × Int × Int) (xs : List α) : Prop := xs.Pairwise (fun a b => pl a ≠ pl b)
theorem ok_iff (xs : List α) : OkB may pl xs xs.length ↔ (∀ x ∈ xs, may x = true) ∧ Apart pl xs := by
  constructor
  · intro h
    refine ⟨fun x hx => ?_, ?_⟩
    · obtain ⟨i, hi, rfl⟩ := List.getElem_of_mem hx
      exact (h i _ hi (List.getElem?_eq_getElem hi)).1
    · unfold Apart
      rw [List.pairwise_iff_getElem]
      intro i j hi hj hij
      exact (h j _ hj (List.getElem?_eq_getElem hj)).2 i _ hij (List.getElem?_eq_getElem hi)
  · rintro ⟨h1, h2⟩ i x hi hx
    refine ⟨h1 x (List.mem_of_getElem? hx), fun j y hj hy => ?_⟩
    unfold Apart at h2
    rw [List.pairwise_iff_getElem] at h2
    obtain ⟨hi', rfl⟩ := List.getElem?_eq_some_iff.1 hx
    obtain ⟨hj', rfl⟩ := List.getElem?_eq_some_iff.1 hy
    exact h2 j i hj' hi' hj
theorem ck_iff {mx : Nat} {xs : List α} : Ck may pl mx xs ↔ xs.length ≤ mx ∧ (∀ x ∈ xs, may x = true) ∧ Apart pl xs := by
  unfold Ck
  rw [ok_iff]
theorem Ck.sub {mx : Nat} {xs ys : List α} (h : Ck may pl mx xs) (hs : List.Sublist ys xs) : Ck may pl mx ys := by
  rw [ck_iff] at h ⊢
  exact ⟨Nat.le_trans hs.length_le h.1, fun x hx => h.2.1 x (hs.subset hx), h.2.2.sublist hs⟩
theorem Ck.filter {mx : Nat} {xs : List α} (h : Ck may pl mx xs) (p : α → Bool) : Ck may pl mx (xs.filter p) := h.sub List.filter_sublist
theorem Apart.one {xs : List α} (h : Apart pl xs) {x y : α} (hx : x ∈ xs) (hy : y ∈ xs) (e : pl x = pl y) : x = y := by
  obtain ⟨i, hi, rfl⟩ := List.getElem_of_mem hx
  obtain ⟨j, hj, rfl⟩ := List.getElem_of_mem hy
  unfold Apart at h
  rw [List.pairwise_iff_getElem] at h
  rcases Nat.lt_trichotomy i j with hl | rfl | hl
  · exact absurd e (h i j hi hj hl)
  · rfl
  · exact absurd e.symm (h j i hj hi hl)
/-- The entry of a place. -/
def fnd (pl : α → Int × Int × Int) (xs : List α) (q : Int × Int × Int) : Option α := (fdx pl xs q).bind (fun n => xs[n]?)
theorem fnd_some {xs : List α} {q : Int × Int × Int} {x : α} (h : fnd pl xs q = some x) : x ∈ xs ∧ pl x = q := by
  unfold fnd at h
  cases hn : fdx pl xs q with
  | none => rw [hn] at h; simp at h
  | some n =>
    rw [hn] at h
    simp only [Option.bind_some] at h
    obtain ⟨y, hy, he, -⟩ := fd_some hn
    rw [hy] at h
    injection h with h
    subst h
    exact ⟨List.mem_of_getElem? hy, he⟩
theorem fnd_none {xs : List α} {q : Int × Int × Int} (h : fnd pl xs q = none) : ∀ x ∈ xs, pl x ≠ q := by
  intro x hx
  obtain ⟨i, hi, rfl⟩ := List.getElem_of_mem hx
  unfold fnd at h
  cases hn : fdx pl xs q with
  | none => exact fd_none hn (i + 1) i _ (by omega) (List.getElem?_eq_getElem hi)
  | some n =>
    rw [hn] at h
    obtain ⟨y, hy, -, -⟩ := fd_some hn
    simp only [Option.bind_some] at h
    rw [hy] at h
    exact (by cases h)
theorem fnd_mem {xs : List α} (ha : Apart pl xs) {x : α} (hx : x ∈ xs) : fnd pl xs (pl x) = some x := by
  cases h : fnd pl xs (pl x) with
  | none => exact absurd rfl (fnd_none h x hx)
  | some y =>
    obtain ⟨hy, he⟩ := fnd_some h
    rw [ha.one hy hx he]
theorem fnd_no {xs : List α} {q : Int × Int × Int} (h : ∀ x ∈ xs, pl x ≠ q) : fnd pl xs q = none := by
  cases hn : fnd pl xs q with
  | none => rfl
  | some y => exact absurd (fnd_some hn).2 (h y (fnd_some hn).1)
theorem fdx_none_iff {xs : List α} {q : Int × Int × Int} : fdx pl xs q = none ↔ ∀ x ∈ xs, pl x ≠ q := by
  constructor
  · intro h
    exact fnd_none (by unfold fnd; rw [h]; rfl)
  · intro h
    cases hn : fdx pl xs q with
    | none => rfl
    | some n =>
      obtain ⟨y, hy, he, -⟩ := fd_some hn
      exact absurd he (h y (List.mem_of_getElem? hy))
variable {mx : Nat}
/-- Behind filling: the row may be, and the entry is found. -/
theorem Ck.fill {xs : List α} {e : α} (h0 : 0 < mx) (h : Ck may pl mx xs) (he : may e = true) : Ck may pl mx (filL may pl mx xs e) ∧ e ∈ filL may pl mx xs e := by
  unfold filL
  rw [if_pos ⟨h, he⟩]
  cases hn : fdx pl xs (pl e) with
  | some n =>
    simp only
    obtain ⟨y, hy, hq, hno⟩ := fd_some hn
    have hl := (List.getElem?_eq_some_iff.1 hy).1
    rw [ck_iff] at h ⊢
    obtain ⟨c1, c2, c3⟩ := h
    refine ⟨⟨by rw [List.length_set]; exact c1, fun x hx => ?_, ?_⟩, List.mem_set hl e⟩
    · rcases List.mem_or_eq_of_mem_set hx with h | rfl
      · exact c2 x h
      · exact he
    · unfold Apart at c3 ⊢
      rw [List.pairwise_iff_getElem] at c3 ⊢
      intro i j hi hj hij
      rw [List.length_set] at hi hj
      have hyy : pl xs[n] = pl e := by
        rw [List.getElem?_eq_getElem hl] at hy
        injection hy with hy
        rw [hy, hq]
      rw [List.getElem_set, List.getElem_set]
      by_cases a : n = i
      · rw [if_pos a]
        by_cases b : n = j
        · omega
        · rw [if_neg b]
          subst a
          rw [← hyy]
          exact c3 n j hi hj hij
      · rw [if_neg a]
        by_cases b : n = j
        · rw [if_pos b]
          subst b
          rw [← hyy]
          exact c3 i n hi hj hij
        · rw [if_neg b]
          exact c3 i j hi hj hij
  | none =>
    simp only
    have hno := fdx_none_iff.1 hn
    obtain ⟨ys, hys, hlen, hsub⟩ : ∃ ys, (if xs.length = mx then xs.drop 1 else xs) = ys ∧ ys.length < mx ∧ List.Sublist ys xs := by
      by_cases hl : xs.length = mx
      · exact ⟨xs.drop 1, if_pos hl, by rw [List.length_drop]; omega, List.drop_sublist 1 xs⟩
      · exact ⟨xs, if_neg hl, by have := h.1; omega, List.Sublist.refl _⟩
    rw [hys]
    have hk := h.sub hsub
    rw [ck_iff] at hk ⊢
    refine ⟨⟨by rw [List.length_append]; simp; omega, fun x hx => ?_, ?_⟩, by simp⟩
    · rw [List.mem_append] at hx
      rcases hx with h | h
      · exact hk.2.1 x h
      · simp at h; subst h; exact he
    · unfold Apart
      rw [List.pairwise_append]
      refine ⟨hk.2.2, by simp, fun a ha b hb => ?_⟩
      simp at hb
      subst hb
      exact hno a (hsub.subset ha)
theorem fill_again {xs : List α} {e : α} (h0 : 0 < mx) (h : Ck may pl mx xs) (he : may e = true) : filL may pl mx (filL may pl mx xs e) e = filL may pl mx xs e := by
  obtain ⟨hk, hm⟩ := Ck.fill h0 h he
  generalize filL may pl mx xs e = ys at *
  unfold filL
  rw [if_pos ⟨hk, he⟩]
  cases hn : fdx pl ys (pl e) with
  | none => exact absurd rfl (fdx_none_iff.1 hn e hm)
  | some n =>
    simp only
    obtain ⟨y, hy, hq, -⟩ := fd_some hn
    have : y = e := (ck_iff.1 hk).2.2.one (List.mem_of_getElem? hy) hm hq
    subst this
    obtain ⟨hl, rfl⟩ := List.getElem?_eq_some_iff.1 hy
    exact List.set_getElem_self hl
theorem drp_yes {xs : List α} (h : Ck may pl mx xs) (hit : α → Bool) : drpL may pl mx xs hit = xs.filter (fun y => !hit y) := if_pos h
theorem drp_ck {xs : List α} (h : Ck may pl mx xs) (hit : α → Bool) : Ck may pl mx (drpL may pl mx xs hit) := by rw [drp_yes h]; exact h.filter _
theorem drp_again {xs : List α} (h : Ck may pl mx xs) (hit : α → Bool) : drpL may pl mx (drpL may pl mx xs hit) hit = drpL may pl mx xs hit := by
  rw [drp_yes (drp_ck h hit), drp_yes h, List.filter_filter]
  simp
theorem drp_both {xs : List α} (h : Ck may pl mx xs) (p q : α → Bool) : drpL may pl mx (drpL may pl mx xs p) q = drpL may pl mx (drpL may pl mx xs q) p := by
  rw [drp_yes (drp_ck h p), drp_yes (drp_ck h q), drp_yes h, drp_yes h, List.filter_filter, List.filter_filter]
  congr 1
  funext y
  exact Bool.and_comm _ _
theorem fnd_drop {xs : List α} (h : Ck may pl mx xs) (hit : α → Bool) (q : Int × Int × Int) : fnd pl (drpL may pl mx xs hit) q = (fnd pl xs q).filter (fun x => !hit x) := by
  have ha := (ck_iff.1 h).2.2
  have hk := drp_ck h hit
  have hb := (ck_iff.1 hk).2.2
  cases hn : fnd pl xs q with
  | none =>
    refine fnd_no (fun x hx => fnd_none hn x ?_)
    rw [drp_yes h] at hx
    exact (List.mem_filter.1 hx).1
  | some x =>
    obtain ⟨hx, he⟩ := fnd_some hn
    subst he
    rcases hh : hit x with _ | _
    · rw [show (some x).filter (fun x => !hit x) = some x by simp [hh]]
      exact fnd_mem hb (by rw [drp_yes h]; exact List.mem_filter.2 ⟨hx, by simp [hh]⟩)
    · rw [show (some x).filter (fun x => !hit x) = none by simp [hh]]
      refine fnd_no (fun y hy e => ?_)
      rw [drp_yes h] at hy
      obtain ⟨hy, hny⟩ := List.mem_filter.1 hy
      rw [ha.one hy hx e, hh] at hny
      exact Bool.noConfusion hny
/-- Behind filling each other entry is found, but the first one of a full row. -/
theorem fill_other {xs : List α} {e : α} (h0 : 0 < mx) (h : Ck may pl mx xs) (he : may e = true) {i : Nat} {o : α} (ho : xs[i]? = some o) (hne : pl o ≠ pl e) :
    fnd pl (filL may pl mx xs e) (pl o) = if i = 0 ∧ xs.length = mx ∧ fnd pl xs (pl e) = none then none else some o := by
  have ha := (ck_iff.1 h).2.2
  have hk := (Ck.fill h0 h he).1
  have hb := (ck_iff.1 hk).2.2
  have hi := (List.getElem?_eq_some_iff.1 ho).1
  cases hn : fdx pl xs (pl e) with
  | some n =>
    have hL : filL may pl mx xs e = xs.set n e := by unfold filL; rw [if_pos ⟨h, he⟩, hn]
    obtain ⟨y, hy, hq, -⟩ := fd_some hn
    have hf : fnd pl xs (pl e) = some y := by unfold fnd; rw [hn]; exact hy
    rw [if_neg (by rw [hf]; simp)]
    have hni : n ≠ i := fun e' => by subst e'; rw [hy] at ho; injection ho with ho; subst ho; exact hne hq
    refine fnd_mem hb ?_
    rw [hL]
    exact List.mem_of_getElem? (i := i) (by rw [List.getElem?_set_ne hni]; exact ho)
  | none =>
    have hL : filL may pl mx xs e = (if xs.length = mx then xs.drop 1 else xs) ++ [e] := by unfold filL; rw [if_pos ⟨h, he⟩, hn]
    have hf : fnd pl xs (pl e) = none := by unfold fnd; rw [hn]; rfl
    by_cases hl : xs.length = mx
    · rw [if_pos hl] at hL
      by_cases h1 : i = 0
      · rw [if_pos ⟨h1, hl, hf⟩]
        subst h1
        refine fnd_no (fun x hx ex => ?_)
        rw [hL, List.mem_append] at hx
        rcases hx with hx | hx
        · obtain ⟨j, hj, rfl⟩ := List.getElem_of_mem hx
          rw [List.getElem_drop] at ex
          rw [List.length_drop] at hj
          unfold Apart at ha
          rw [List.pairwise_iff_getElem] at ha
          rw [List.getElem?_eq_getElem hi] at ho
          injection ho with ho
          subst ho
          exact ha 0 (1 + j) hi (by omega) (by omega) ex.symm
        · simp at hx
          subst hx
          exact hne ex.symm
      · rw [if_neg (fun h => h1 h.1)]
        refine fnd_mem hb ?_
        rw [hL]
        refine List.mem_append_left _ (List.mem_of_getElem? (i := i - 1) ?_)
        rw [List.getElem?_drop, show 1 + (i - 1) = i by omega]
        exact ho
    · rw [if_neg (fun h => hl h.2.1)]
      rw [if_neg hl] at hL
      refine fnd_mem hb ?_
      rw [hL]
      exact List.mem_append_left _ (List.mem_of_getElem? ho)
theorem filE_yes {xs : List α} {e : α} (h : filE may pl mx xs e = 0) : Ck may pl mx xs ∧ may e = true := by
  unfold filE at h
  split at h
  · assumption
  · omega
end
theorem fndO_eq {xs : List Tb} (h : Ck mayT plT 8 xs) (a p : Int) : fndO xs a p = fnd plT xs (a, 0, p) := if_pos h
/-- The best step is one of the ASID and the page, and none of these is of a greater level. -/
theorem bst_inv (of : Sb → Bool) : ∀ (xs : List Sb), (∀ b, bst of xs = some b → b ∈ xs ∧ of b = true) ∧ (bst of xs = none → ∀ x ∈ xs, of x = false) ∧ (∀ b, bst of xs = some b → ∀ x ∈ xs, of x = true → x.l ≤ b.l) := by
  intro xs
  have key : ∀ j, j ≤ xs.length → (∀ b, bst of (xs.take j) = some b → b ∈ xs ∧ of b = true) ∧ (bst of (xs.take j) = none → ∀ (i : Nat) x, i < j → xs[i]? = some x → of x = false) ∧ (∀ b, bst of (xs.take j) = some b → ∀ (i : Nat) x, i < j → xs[i]? = some x → of x = true → x.l ≤ b.l) := by
    intro j
    induction j with
    | zero =>
      intro _
      refine ⟨fun b h => ?_, fun _ i x hi => by omega, fun b h => ?_⟩
      · simp [bst] at h
      · simp [bst] at h
    | succ j ih =>
      intro hj
      obtain ⟨i1, i2, i3⟩ := ih (by omega)
      obtain ⟨x, hx⟩ : ∃ x, xs[j]? = some x := ⟨xs[j], List.getElem?_eq_getElem (by omega)⟩
      rw [bst_succ of xs j x hx]
      rcases hq : of x with _ | _
      · rw [bstep_no hq]
        refine ⟨i1, fun h i y hi hy => ?_, fun b h i y hi hy hoy => ?_⟩
        · by_cases e : i = j
          · subst e; rw [hx] at hy; injection hy with hy; subst hy; exact hq
          · exact i2 h i y (by omega) hy
        · by_cases e : i = j
          · subst e; rw [hx] at hy; injection hy with hy; subst hy; rw [hq] at hoy; exact Bool.noConfusion hoy
          · exact i3 b h i y (by omega) hy hoy
      · cases ho : bst of (xs.take j) with
        | none =>
          rw [bstep_first hq]
          refine ⟨fun b h => ?_, (fun h => by cases h), fun b h i y hi hy hoy => ?_⟩
          · injection h with h; subst h; exact ⟨List.mem_of_getElem? hx, hq⟩
          · injection h with h
            subst h
            by_cases e : i = j
            · subst e; rw [hx] at hy; injection hy with hy; subst hy; exact Int.le_refl _
            · have := i2 ho i y (by omega) hy
              rw [this] at hoy
              exact Bool.noConfusion hoy
        | some bb =>
          by_cases hl : bb.l < x.l
          · rw [bstep_more hq hl]
            refine ⟨fun b h => ?_, (fun h => by cases h), fun b h i y hi hy hoy => ?_⟩
            · injection h with h; subst h; exact ⟨List.mem_of_getElem? hx, hq⟩
            · injection h with h
              subst h
              by_cases e : i = j
              · subst e; rw [hx] at hy; injection hy with hy; subst hy; exact Int.le_refl _
              · have := i3 bb ho i y (by omega) hy hoy
                omega
          · rw [bstep_less hq hl]
            refine ⟨fun b h => ?_, (fun h => by cases h), fun b h i y hi hy hoy => ?_⟩
            · exact i1 b (ho.trans h)
            · by_cases e : i = j
              · subst e; rw [hx] at hy; injection hy with hy; subst hy; injection h with h; subst h; omega
              · exact i3 b (ho.trans h) i y (by omega) hy hoy
  obtain ⟨k1, k2, k3⟩ := key xs.length (Nat.le_refl _)
  rw [List.take_length] at k1 k2 k3
  refine ⟨k1, fun h x hx => ?_, fun b h x hx hox => ?_⟩
  · obtain ⟨i, hi, rfl⟩ := List.getElem_of_mem hx
    exact k2 h i _ hi (List.getElem?_eq_getElem hi)
  · obtain ⟨i, hi, rfl⟩ := List.getElem_of_mem hx
    exact k3 b h i _ hi (List.getElem?_eq_getElem hi) hox
end
section
open Go.RowKit
set_option linter.unusedVariables false
set_option linter.unusedSimpArgs false
end
section
open Go.RowKit
set_option linter.unusedVariables false
set_option linter.unusedSimpArgs false
theorem mayT_of {x : Tb} {b : Bool} (h : b = true ↔ (0 ≤ x.a ∧ x.a ≤ 255 ∧ 0 ≤ x.f ∧ x.f < 64 ∧ x.p < 34359738368)) : b = mayT x := by
  rw [Bool.eq_iff_iff, mayT, decide_eq_true_iff]; exact h
end
section
open Go.RowKit
set_option linter.unusedVariables false
set_option linter.unusedSimpArgs false
section
variable {α : Type} {enc : α → List Value} {k : Nat}
theorem below_cells {B g : Nat} {w0 : World} (hg : B ≤ g) : ∀ (vs : List Value) (o : Nat) (w : World), Below B w0 w → Below B w0 (w.setCells g o vs)
  | [], _, _, h => h
  | v :: r, o, w, h => below_cells hg r (o + 1) _ (h.setCell (p := ⟨g, o, none⟩) hg v)
theorem run_mid {P : Program} {w : World} (t ty e : TypeId) (i : TypeInfo) (z : Value) (bytes : Nat) (ht : P.underlying t = some (.slice e)) (hi : P.info? e = some i) (hz : i.zero = some z)
    (hsize : i.size = k) (hby : i.bytes = bytes) (hzs : z.cells.size = k) (hsz : 0 < k) (hk : ∀ x, (enc x).length = k) (h1 : ∀ x, ∀ u ∈ enc x, u.oneCell' = true)
    {B g n cap : Nat} {xs : List α} (hO : Ow enc k e w B (.slice (some ⟨g, 0, none⟩) n cap) xs) (hn : xs.length = n) (h0 : 0 < n) (y : α) {gy : Nat} (hy : ∀ (j : Nat) (u : Value), (enc y)[j]? = some u → w.cell? ⟨gy, j, none⟩ = some u)
    (hlen : n ≤ 10000) (hb8 : bytes ≤ 100) (w0 : World) (hB : Below B w0 w) (hb : B ≤ w0.heap.size) :
    ∃ O' c' w', (Builtin.append_ #[t, t] ty #[.slice (some ⟨g, k, none⟩) (n - 1) (cap - 1), .slice (some ⟨gy, 0, none⟩) 1 1]).run P w = .ok (.slice O' n c') w' ∧ n ≤ c' ∧ RK enc k w' O' (xs.drop 1 ++ [y]) ∧ Below B w0 w' := by
  have hR := hO.form hk
  obtain ⟨O2, c2, e2, -, -, hR⟩ := hR
  simp only [Value.slice.injEq] at e2
  obtain ⟨rfl, -, rfl⟩ := e2
  have hR1 := hR.drop1
  have hnew : ∀ j u, (enc y)[j]? = some u → w.cell? ((⟨gy, 0, none⟩ : Addr).add j) = some u := fun j u hu => by
    have e : (⟨gy, 0, none⟩ : Addr).add j = ⟨gy, j, none⟩ := by unfold Addr.add; split <;> simp_all
    rw [e]
    exact hy j u hu
  have hdl : (xs.drop 1).length = n - 1 := by rw [List.length_drop, hn]
  have hfl : (xs.drop 1 ++ [y]).length = n := by rw [List.length_append, hdl]; simp; omega
  obtain ⟨hl, hh⟩ := hO
  rcases hh with ⟨h, -⟩ | ⟨g', c', cur, h, hbg, hg, c1, c2', c3, c4⟩
  · simp at h
  · simp only [Value.slice.injEq, Option.some.injEq, Addr.mk.injEq, and_true, true_and] at h
    obtain ⟨rfl, -, rfl⟩ := h
    rw [hn] at c1
    by_cases hroom : (n - 1) + 1 ≤ cap - 1
    · have hcell : ∀ j, j < (enc y).length → (w.cell? ⟨g, k + (n - 1) * i.size + j, none⟩).isSome = true := fun j hj => by
        rw [hk] at hj
        rw [cell_of_row w g _ cur e (0, 0) hg, hsize]
        have : k + (n - 1) * k + j < cur.size := by
          rw [c3]
          have h2 : (n + 1) * k ≤ cap * k := Nat.mul_le_mul_right _ (by omega)
          have h3 : k + (n - 1) * k = n * k := by rw [Nat.sub_mul, Nat.one_mul]; have := Nat.le_mul_of_pos_left k h0; omega
          rw [Nat.add_mul] at h2
          omega
        rw [Array.getElem?_eq_getElem this]
        rfl
      have hfro : ∀ j, j < (enc y).length → w.frozen? ⟨g, k + (n - 1) * i.size + j, none⟩ = false := fun j _ => by
        unfold World.frozen?
        rw [hg]
        simp
      have hr := run_append_room_cells (P := P) w t ty e i ht hi g k (n - 1) (cap - 1) ⟨gy, 0, none⟩ 1 1 (enc y) (by rw [hk, hsize]; omega) hnew (h1 y) hroom hcell hfro
      rw [show n - 1 + 1 = n by omega] at hr
      refine ⟨_, _, _, hr, by omega, fun _ => ⟨g, k, rfl, fun a x hx j u hu => ?_⟩, below_cells hbg _ _ _ hB⟩
      rw [hsize] at hcell ⊢
      have hjk : j < k := by have := (List.getElem?_eq_some_iff.1 hu).1; rw [hk] at this; exact this
      by_cases ha : a < n - 1
      · rw [List.getElem?_append_left (by rw [hdl]; exact ha)] at hx
        obtain ⟨b, off, hb', hc'⟩ := hR1 (by rw [hdl]; omega)
        simp only [Option.some.injEq, Addr.mk.injEq, and_true] at hb'
        obtain ⟨rfl, rfl⟩ := hb'
        rw [World.cell?_setCells_out]
        · have := hc' a x hx j u hu
          rw [Nat.zero_add] at this
          exact this
        · intro _ _
          left
          show k + a * k + j < k + (n - 1) * k
          have : (a + 1) * k ≤ (n - 1) * k := Nat.mul_le_mul_right _ (by omega)
          rw [Nat.add_mul] at this
          omega
      · have han : a = n - 1 := by
          have := (List.getElem?_eq_some_iff.1 hx).1
          rw [hfl] at this
          omega
        subst han
        rw [List.getElem?_append_right (by rw [hdl]; exact Nat.le_refl _), hdl, Nat.sub_self] at hx
        simp at hx
        subst hx
        have hj : j < (enc y).length := by rw [hk]; exact hjk
        rw [World.cell?_setCells_in g (enc y) (k + (n - 1) * k) w hcell j hj]
        rw [List.getElem?_eq_getElem hj] at hu
        exact hu
    · by_cases hn1 : n = 1
      · subst hn1
        have hdr : xs.drop 1 = [] := List.eq_nil_of_length_eq_zero (by rw [hdl])
        obtain ⟨v', w', hr, ho, hgr⟩ := run_append_arg_grows (P := P) w t ty e i z k bytes ht hi hz hsize hby hzs hsz ⟨g, k, none⟩ 0 (cap - 1) [] (by simp) (fun j u hu => by simp at hu) ⟨gy, 0, none⟩ 1 1 (enc y) (by rw [hk]; omega) hnew (by omega) (by unfold maxLen; omega) (by omega)
        have hO' : Ow enc k e w' w.heap.size v' (xs.drop 1 ++ [y]) := by unfold Ow; rw [hdr]; simpa [flat] using ho
        obtain ⟨O', c', rfl, l', m', r'⟩ := hO'.form hk
        rw [hfl] at hr l'
        exact ⟨O', c', w', hr, l', r', hB.grown hgr (Nat.le_trans hb hB.size) (fun g hg => by cases hg)⟩
      · obtain ⟨b, off, hb', hc'⟩ := hR1.flat hk hsz (by rw [hdl]; omega)
        simp only [Option.some.injEq, Addr.mk.injEq, and_true] at hb'
        obtain ⟨rfl, rfl⟩ := hb'
        have hbt : (n - 1 + 1) * bytes ≤ 140737488355328 := by
          have : (n - 1 + 1) * bytes ≤ 10000 * 100 := Nat.mul_le_mul (by omega) hb8
          omega
        obtain ⟨v', w', hr, ho, hgr⟩ := run_append_arg_grows (P := P) w t ty e i z k bytes ht hi hz hsize hby hzs hsz ⟨g, k, none⟩ (n - 1) (cap - 1) (flat enc (xs.drop 1)) (by rw [flat_len hk, hdl]) (fun j u hu => by
          have e : (⟨g, k, none⟩ : Addr).add j = ⟨g, k + j, none⟩ := by unfold Addr.add; split <;> simp_all
          rw [e]
          have := hc' j u hu
          rw [Nat.zero_add] at this
          exact this) ⟨gy, 0, none⟩ 1 1 (enc y) (by rw [hk]; omega) hnew (by omega) (by unfold maxLen; omega) hbt
        have hO' : Ow enc k e w' w.heap.size v' (xs.drop 1 ++ [y]) := by unfold Ow; rw [flat_snoc, List.length_append, hdl]; exact ho
        obtain ⟨O', c', rfl, l', m', r'⟩ := hO'.form hk
        rw [hfl] at hr l'
        exact ⟨O', c', w', hr, l', r', hB.grown hgr (Nat.le_trans hb hB.size) (fun g hg => by cases hg)⟩
theorem wp_mid {P : Program} {w : World} {ops : Array Oper} {rest : List Oper} {o : Oper} {a : Go.Act} {Q : Exit → Go.Act → World → Prop} (hgd : o.guard = none) (s x : Operand) (t : TypeId)
    (ho : o.op = .call { callee := .builtin .append, args := #[s, x], argTypes := #[t, t] })
    (e : TypeId) (i : TypeInfo) (z : Value) (bytes : Nat) (ht : P.underlying t = some (.slice e)) (hi : P.info? e = some i) (hz : i.zero = some z)
    (hsize : i.size = k) (hby : i.bytes = bytes) (hzs : z.cells.size = k) (hsz : 0 < k) (hk : ∀ x, (enc x).length = k) (h1 : ∀ x, ∀ u ∈ enc x, u.oneCell' = true)
    (B g n cap : Nat) (xs : List α) (hs : a.eval s = .slice (some ⟨g, k, none⟩) (n - 1) (cap - 1)) (hO : Ow enc k e w B (.slice (some ⟨g, 0, none⟩) n cap) xs) (hn : xs.length = n) (h0 : 0 < n) (y : α) (gy : Nat)
    (hx : a.eval x = .slice (some ⟨gy, 0, none⟩) 1 1) (hy : ∀ (j : Nat) (u : Value), (enc y)[j]? = some u → w.cell? ⟨gy, j, none⟩ = some u)
    (hlen : n ≤ 10000) (hb8 : bytes ≤ 100) (w0 : World) (hB : Below B w0 w) (hb : B ≤ w0.heap.size)
    (h : ∀ O' c' w', n ≤ c' → RK enc k w' O' (xs.drop 1 ++ [y]) → Below B w0 w' → wpList P ops Q rest (a.put o.dst (.slice O' n c')) w') : wpList P ops Q (o :: rest) a w := by
  refine wpList_plain hgd fun K hK => ?_
  obtain ⟨O', c', w', hr, l', r', hb'⟩ := run_mid (P := P) (w := w) t o.type e i z bytes ht hi hz hsize hby hzs hsz hk h1 hO hn h0 y hy hlen hb8 w0 hB hb
  unfold Oper.wp execOp
  simp only [ho, resolve, invoke, builtin, Sem.run_bind, Sem.run_pure, Result.andThen_ok, List.map_toArray, List.map_cons, List.map_nil, hs, hx, hr]
  exact hK _ _ (h O' c' w' l' r' hb')
end
end
end Go.Proofs.YtgdkkhdhomehdaaDoor
