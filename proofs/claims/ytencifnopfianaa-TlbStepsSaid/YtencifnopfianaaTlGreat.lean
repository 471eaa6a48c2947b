/-
  Package tlb's greatest: the walk.
-/
import Derived.Test.YtencifnopfianaaTlBest
namespace Go.Proofs.Ytencifnopfianaa
open Go.RowKit
set_option linter.unusedVariables false
set_option linter.unusedSimpArgs false
theorem Arr.put4 {w : World} {b : Nat} {c0 c1 c2 c3 : Value} (h : Arr w b [c0, c1, c2, c3]) (u0 u1 u2 u3 : Value) :
    Arr ((((w.setCell ⟨b, 0, none⟩ u0).setCell ⟨b, 1, none⟩ u1).setCell ⟨b, 2, none⟩ u2).setCell ⟨b, 3, none⟩ u3) b [u0, u1, u2, u3] :=
  (((h.set 0 (by simp) u0).set 1 (by simp) u1).set 2 (by simp) u2).set 3 (by simp) u3
theorem Arr.far4 {w : World} {b d : Nat} {cs : List Value} (h : Arr w b cs) (hd : d ≠ b) (u0 u1 u2 u3 : Value) :
    Arr ((((w.setCell ⟨d, 0, none⟩ u0).setCell ⟨d, 1, none⟩ u1).setCell ⟨d, 2, none⟩ u2).setCell ⟨d, 3, none⟩ u3) b cs :=
  (((h.far (p := ⟨d, 0, none⟩) hd u0).far (p := ⟨d, 1, none⟩) hd u1).far (p := ⟨d, 2, none⟩) hd u2).far (p := ⟨d, 3, none⟩) hd u3
theorem bs4 {a W : World} (h : Below a.heap.size a W) {d : Nat} (hp : a.heap.size ≤ d) (u0 u1 u2 u3 : Value) : Below a.heap.size a ((((W.setCell ⟨d, 0, none⟩ u0).setCell ⟨d, 1, none⟩ u1).setCell ⟨d, 2, none⟩ u2).setCell ⟨d, 3, none⟩ u3) :=
  bs (bs (bs (bs h (p := ⟨d, 0, none⟩) hp u0) (p := ⟨d, 1, none⟩) hp u1) (p := ⟨d, 2, none⟩) hp u2) (p := ⟨d, 3, none⟩) hp u3
/-- What holds at the head of a round. -/
def GRel (w : World) (of : Sb → Bool) (xs : List Sb) (len : Nat) (found i : Value) (wr : World) : Prop :=
  ∃ j : Nat, i = .int .i64 j ∧ j ≤ len ∧ found = .bool (bst of (xs.take j)).isSome ∧ Below w.heap.size w wr ∧ Arr wr (w.heap.size + 1) [.int .i64 0, .int .i8 0, .int .u64 0, .int .i64 0] ∧ Arr wr (w.heap.size + 2) (encS ((bst of (xs.take j)).getD zS))
set_option maxRecDepth 100000 in
set_option maxHeartbeats 4000000 in
theorem greatest_any (O : Option Addr) (cap : Nat) (xs : List Sb) (asid page : Int) (C D : Nat) (w : World) (hI : RK encS 4 w O xs) (hcap : xs.length ≤ cap) (hC : BCaught w C D asid page) :
    Calls Try.prog 45 #[.agg #[.int .i64 4, .func (.func 62) #[] #[], .func (.func 63) #[] #[]], .slice O xs.length cap, .func (.func 42) #[] #[.pointer (some ⟨C, 0, none⟩), .pointer (some ⟨D, 0, none⟩)], .func (.func 44) #[] #[]] w
      fun e w' => e = .returned (.tuple #[.agg #[.int .i64 ((bestO xs asid page).getD zS).a, .int .i8 ((bestO xs asid page).getD zS).l, .int .u64 ((bestO xs asid page).getD zS).p, .int .i64 ((bestO xs asid page).getD zS).f], .bool (bestO xs asid page).isSome]) ∧ Below w.heap.size w w' := by
  have hB0 := ba (ba (ba (Below.refl w.heap.size w) (.cells #[.int .i64 4, .func (.func 62) #[] #[], .func (.func 63) #[] #[]] 73)) (.cells #[.int .i64 0, .int .i8 0, .int .u64 0, .int .i64 0] 44)) (.cells #[.int .i64 0, .int .i8 0, .int .u64 0, .int .i64 0] 44)
  have e1 : (w.alloc (.cells #[.int .i64 4, .func (.func 62) #[] #[], .func (.func 63) #[] #[]] 73)).heap.size = w.heap.size + 1 := by simp
  have e2 : ((w.alloc (.cells #[.int .i64 4, .func (.func 62) #[] #[], .func (.func 63) #[] #[]] 73)).alloc (.cells #[.int .i64 0, .int .i8 0, .int .u64 0, .int .i64 0] 44)).heap.size = w.heap.size + 2 := by simp
  have hR := e1 ▸ (Arr.new (w.alloc (.cells #[.int .i64 4, .func (.func 62) #[] #[], .func (.func 63) #[] #[]] 73)) #[.int .i64 0, .int .i8 0, .int .u64 0, .int .i64 0] 44).alloc (.cells #[.int .i64 0, .int .i8 0, .int .u64 0, .int .i64 0] 44)
  have hT := e2 ▸ Arr.new ((w.alloc (.cells #[.int .i64 4, .func (.func 62) #[] #[], .func (.func 63) #[] #[]] 73)).alloc (.cells #[.int .i64 0, .int .i8 0, .int .u64 0, .int .i64 0] 44)) #[.int .i64 0, .int .i8 0, .int .u64 0, .int .i64 0] 44
  have HB0 := Lib.hid hB0
  have HR0 := Lib.hid hR
  have HT0 := Lib.hid hT
  have HI0 := Lib.hid hI
  have HC0 := Lib.hid hC
  have HI := Lib.hid (hI.call hB0)
  have HC := Lib.hid (hC.call hB0)
  clear hI hC hB0 hR hT e1 e2
  go_enter Try.func45, Try.ntmps45
  go_wp2_with fail
  generalize ((w.alloc (.cells #[.int .i64 4, .func (.func 62) #[] #[], .func (.func 63) #[] #[]] 73)).alloc (.cells #[.int .i64 0, .int .i8 0, .int .u64 0, .int .i64 0] 44)).alloc (.cells #[.int .i64 0, .int .i8 0, .int .u64 0, .int .i64 0] 44) = W0 at *
  refine (checkS_any O cap xs _ HI.out hcap).mono ?_
  rintro e Wc ⟨rfl, hb⟩
  have HBc := Lib.hid (bthen HB0.out hb)
  have HIc := Lib.hid (HI.out.call hb)
  have HCc := Lib.hid (HC.out.call hb)
  have HRc := Lib.hid (HR0.out.call hb)
  have HTc := Lib.hid (HT0.out.call hb)
  clear hb HB0 HI HC HR0 HT0
  rcases ckE_cases mayS plS 4 xs with ⟨hk, h2⟩ | ⟨hk, h2⟩
  · rw [h2]
    have HE := Lib.hid (show bestO xs asid page = bst (ofB asid page) xs from if_pos hk)
    have HM := Lib.hid hk.2
    have h8 := hk.1
    clear hk h2
    obtain ⟨len, hlen⟩ : ∃ len, len = xs.length := ⟨_, rfl⟩
    rw [← hlen] at hcap h8 ⊢
    have HL := Lib.hid hlen
    clear hlen
    go_wp2_with fail
    go_loopw [11, 21] (fun found i wr => GRel w (ofB asid page) xs len found i wr) (fun _ i _ => len - (intOf i).toNat)
    case atStart => exact ⟨0, rfl, by omega, rfl, HBc.out, HRc.out, HTc.out⟩
    case round =>
      obtain ⟨j, rfl, hj, hf, hB, hR, hT⟩ := hrel
      have hI := HI0.out.call hB
      have hC := HC0.out.call hB
      by_cases hlt : j < len
      · obtain ⟨b, off, hO, hcell⟩ := hI (by have := HL.out; omega)
        subst hO
        obtain ⟨x, hx⟩ : ∃ x, xs[j]? = some x := ⟨xs[j]'(by have := HL.out; omega), List.getElem?_eq_getElem _⟩
        obtain ⟨c0, c1, c2, c3⟩ := sb_cells hx hcell
        have HS := Lib.hid (bst_succ (ofB asid page) xs j x hx)
        have hmx := (HM.out j x (by have := HL.out; omega) hx).1
        obtain ⟨-, -, -, -, hl1, hl3, -⟩ := of_decide_eq_true hmx
        generalize ho : bst (ofB asid page) (xs.take j) = o at *
        have HF := Lib.hid hf
        have HB := Lib.hid hB
        have HR := Lib.hid hR
        have HT := Lib.hid hT
        have HI2 := Lib.hid hI
        have HC2 := Lib.hid hC
        clear hcell hB hR hT hx hmx ho hI hC hf
        go_wp2_with fail
        have HA1 := Lib.hid (Arr.new wr #[.int .i64 x.a, .int .i8 x.l, .int .u64 x.p, .int .i64 x.f] 44)
        have HB1 := Lib.hid (ba HB.out (.cells #[.int .i64 x.a, .int .i8 x.l, .int .u64 x.p, .int .i64 x.f] 44))
        have HR1 := Lib.hid (HR.out.alloc (.cells #[.int .i64 x.a, .int .i8 x.l, .int .u64 x.p, .int .i64 x.f] 44))
        have HT1 := Lib.hid (HT.out.alloc (.cells #[.int .i64 x.a, .int .i8 x.l, .int .u64 x.p, .int .i64 x.f] 44))
        have HI3 := Lib.hid (HI2.out.call (ba (Below.refl _ _) (.cells #[.int .i64 x.a, .int .i8 x.l, .int .u64 x.p, .int .i64 x.f] 44)))
        have HC3 := Lib.hid (HC2.out.call (ba (Below.refl _ _) (.cells #[.int .i64 x.a, .int .i8 x.l, .int .u64 x.p, .int .i64 x.f] 44)))
        have hY : w.heap.size + 2 < wr.heap.size := HT.out.lt
        clear c0 c1 c2 c3 HB HR HT HI2 HC2
        generalize wr.heap.size = Y at *
        generalize wr.alloc (.cells #[.int .i64 x.a, .int .i8 x.l, .int .u64 x.p, .int .i64 x.f] 44) = W1 at *
        refine (best1_any x asid page C D _ HC3.out hl1 hl3).mono ?_
        rintro e w1 ⟨rfl, hb1⟩
        have HA2 := Lib.hid (HA1.out.call hb1)
        have HB2 := Lib.hid (bthen HB1.out hb1)
        have HR2 := Lib.hid (HR1.out.call hb1)
        have HT2 := Lib.hid (HT1.out.call hb1)
        have HI4 := Lib.hid (HI3.out.call hb1)
        have HC4 := Lib.hid (HC3.out.call hb1)
        clear HA1 HB1 HR1 HT1 HI3 HC3 hb1
        rcases hq : ofB asid page x with _ | _
        · have HN := Lib.hid (HS.out.trans (bstep_no hq))
          clear hq HS
          go_wp2_with fail
          go_roundw
          case rel => exact ⟨j + 1, by go_num, by omega, by rw [HN.out]; exact HF.out, HB2.out, HR2.out, by rw [HN.out]; exact HT2.out⟩
          case measure => simp [intOf]; omega
        · rcases o with _ | bb
          · have HN := Lib.hid (HS.out.trans (bstep_first hq))
            have hf := HF.out
            simp only [Option.isSome_none] at hf
            subst hf
            clear hq HS HF
            have hT := HT2.out
            simp only [Option.getD_none, encS, zS] at hT
            have a0 := HA2.out.cell 0 _ rfl
            have a1 := HA2.out.cell 1 _ rfl
            have a2 := HA2.out.cell 2 _ rfl
            have a3 := HA2.out.cell 3 _ rfl
            have t0 := hT.cell 0 _ rfl
            have t1 := hT.cell 1 _ rfl
            have t2 := hT.cell 2 _ rfl
            have t3 := hT.cell 3 _ rfl
            have f0 := hT.frozen 0 (by simp)
            have f1 := hT.frozen 1 (by simp)
            have f2 := hT.frozen 2 (by simp)
            have f3 := hT.frozen 3 (by simp)
            have lA := HA2.out.lt
            have lT := hT.lt
            have n1 : ¬ w.heap.size + 2 = Y := by omega
            have HT3 := Lib.hid (hT.put4 (.int .i64 x.a) (.int .i8 x.l) (.int .u64 x.p) (.int .i64 x.f))
            clear hT
            go_wp2_with fail
            go_roundw
            case rel => exact ⟨j + 1, by go_num, by omega, by rw [HN.out]; rfl, bs4 HB2.out (by omega) _ _ _ _, HR2.out.far4 (by omega) _ _ _ _, by rw [HN.out]; exact HT3.out⟩
            case measure => simp [intOf]; omega
          · have hf := HF.out
            simp only [Option.isSome_some] at hf
            subst hf
            clear HF
            have HTb := Lib.hid (show Arr w1 (w.heap.size + 2) [.int .i64 bb.a, .int .i8 bb.l, .int .u64 bb.p, .int .i64 bb.f] from HT2.out)
            have a0 := HA2.out.cell 0 _ rfl
            have a1 := HA2.out.cell 1 _ rfl
            have a2 := HA2.out.cell 2 _ rfl
            have a3 := HA2.out.cell 3 _ rfl
            have t0 := HTb.out.cell 0 _ rfl
            have t1 := HTb.out.cell 1 _ rfl
            have t2 := HTb.out.cell 2 _ rfl
            have t3 := HTb.out.cell 3 _ rfl
            go_wp2_with fail
            refine (best2_any bb x _).mono ?_
            rintro e w2 ⟨rfl, hb2⟩
            have HA3 := Lib.hid (HA2.out.call hb2)
            have HB3 := Lib.hid (bthen HB2.out hb2)
            have HR3 := Lib.hid (HR2.out.call hb2)
            have HT3 := Lib.hid (HTb.out.call hb2)
            clear HA2 HB2 HR2 HT2 HTb hb2 a0 a1 a2 a3 t0 t1 t2 t3
            by_cases hl : bb.l < x.l
            · have HN := Lib.hid (HS.out.trans (bstep_more hq hl))
              clear hq HS
              rw [decide_eq_true hl]
              clear hl
              have a0 := HA3.out.cell 0 _ rfl
              have a1 := HA3.out.cell 1 _ rfl
              have a2 := HA3.out.cell 2 _ rfl
              have a3 := HA3.out.cell 3 _ rfl
              have t0 := HT3.out.cell 0 _ rfl
              have t1 := HT3.out.cell 1 _ rfl
              have t2 := HT3.out.cell 2 _ rfl
              have t3 := HT3.out.cell 3 _ rfl
              have f0 := HT3.out.frozen 0 (by simp)
              have f1 := HT3.out.frozen 1 (by simp)
              have f2 := HT3.out.frozen 2 (by simp)
              have f3 := HT3.out.frozen 3 (by simp)
              have lA := HA3.out.lt
              have lT := HT3.out.lt
              have n1 : ¬ w.heap.size + 2 = Y := by omega
              have HT4 := Lib.hid (HT3.out.put4 (.int .i64 x.a) (.int .i8 x.l) (.int .u64 x.p) (.int .i64 x.f))
              go_wp2_with fail
              go_roundw
              case rel => exact ⟨j + 1, by go_num, by omega, by rw [HN.out]; rfl, bs4 HB3.out (by omega) _ _ _ _, HR3.out.far4 (by omega) _ _ _ _, by rw [HN.out]; exact HT4.out⟩
              case measure => simp [intOf]; omega
            · have HN := Lib.hid (HS.out.trans (bstep_less hq hl))
              clear hq HS
              rw [decide_eq_false hl]
              clear hl
              go_wp2_with fail
              go_roundw
              case rel => exact ⟨j + 1, by go_num, by omega, by rw [HN.out]; rfl, HB3.out, HR3.out, by rw [HN.out]; exact HT3.out⟩
              case measure => simp [intOf]; omega
      · have HN := Lib.hid (show bst (ofB asid page) (xs.take j) = bestO xs asid page from by rw [HE.out, List.take_of_length_le (by have := HL.out; omega)])
        rw [HN.out] at hf hT
        have HB := Lib.hid hB
        generalize hbo : (bestO xs asid page) = o at *
        have HBO := Lib.hid hbo
        clear hbo
        subst hf
        have r0 := hR.cell 0 _ rfl
        have r1 := hR.cell 1 _ rfl
        have r2 := hR.cell 2 _ rfl
        have r3 := hR.cell 3 _ rfl
        have t0 := hT.cell 0 _ rfl
        have t1 := hT.cell 1 _ rfl
        have t2 := hT.cell 2 _ rfl
        have t3 := hT.cell 3 _ rfl
        have f0 := hR.frozen 0 (by simp)
        have f1 := hR.frozen 1 (by simp)
        have f2 := hR.frozen 2 (by simp)
        have f3 := hR.frozen 3 (by simp)
        have lR := hR.lt
        have lT := hT.lt
        clear hB hR hT hI hC
        go_wp2_with fail
        refine bodyPost_ret (v := .tuple #[.agg #[.int .i64 (o.getD zS).a, .int .i8 (o.getD zS).l, .int .u64 (o.getD zS).p, .int .i64 (o.getD zS).f], .bool o.isSome]) (by simp [results, Try.results45, go_sem, r0, r1, r2, r3]) rfl ⟨by rw [HBO.out], ?_⟩
        exact bs4 HB.out (by omega) _ _ _ _
  · have HE := Lib.hid (show bestO xs asid page = none from if_neg hk)
    rw [h2]
    clear hk h2
    have r0 := HRc.out.cell 0 _ rfl
    have r1 := HRc.out.cell 1 _ rfl
    have r2 := HRc.out.cell 2 _ rfl
    have r3 := HRc.out.cell 3 _ rfl
    have t0 := HTc.out.cell 0 _ rfl
    have t1 := HTc.out.cell 1 _ rfl
    have t2 := HTc.out.cell 2 _ rfl
    have t3 := HTc.out.cell 3 _ rfl
    have f0 := HRc.out.frozen 0 (by simp)
    have f1 := HRc.out.frozen 1 (by simp)
    have f2 := HRc.out.frozen 2 (by simp)
    have f3 := HRc.out.frozen 3 (by simp)
    have lR := HRc.out.lt
    have lT := HTc.out.lt
    go_wp2_with fail
    refine bodyPost_ret (v := .tuple #[.agg #[.int .i64 0, .int .i8 0, .int .u64 0, .int .i64 0], .bool false]) (by simp [results, Try.results45, go_sem, r0, r1, r2, r3]) rfl ⟨by rw [HE.out]; rfl, ?_⟩
    exact bs4 HBc.out (by omega) _ _ _ _
end Go.Proofs.Ytencifnopfianaa
