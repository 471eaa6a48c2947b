/-
  The document's Find and Best.
-/
import Derived.Test.YtencifnopfianaaTlRefCT
import Derived.Test.YtencifnopfianaaTlRefCS
namespace Go.Proofs.Ytencifnopfianaa
open Go.RowKit
set_option linter.unusedVariables false
set_option linter.unusedSimpArgs false
set_option maxRecDepth 100000 in
set_option maxHeartbeats 4000000 in
theorem rfind_any (O : Option Addr) (cap : Nat) (xs : List Tb) (asid page : Int) (w : World) (hI : RK encT 4 w O xs) (hcap : xs.length ≤ cap) :
    Calls Try.prog 21 #[.slice O xs.length cap, .int .i64 asid, .int .u64 page] w
      fun e w' => e = .returned (.tuple #[.agg #[.int .i64 ((fndO xs asid page).getD zT).a, .int .u64 ((fndO xs asid page).getD zT).p, .int .i64 ((fndO xs asid page).getD zT).f, .bool ((fndO xs asid page).getD zT).ro], .bool (fndO xs asid page).isSome]) ∧ Below w.heap.size w w' := by
  have HB0 := Lib.hid (ba (Below.refl w.heap.size w) (.cells #[.int .i64 0, .int .u64 0, .int .i64 0, .bool false] 25))
  have HR := Lib.hid (Arr.new w #[.int .i64 0, .int .u64 0, .int .i64 0, .bool false] 25)
  have HI := Lib.hid (hI.call HB0.out)
  clear hI
  go_enter Try.func21, Try.ntmps21
  go_wp2_with fail
  generalize w.alloc (.cells #[.int .i64 0, .int .u64 0, .int .i64 0, .bool false] 25) = W0 at *
  refine (rcheckT_any O cap xs _ HI.out hcap).mono ?_
  rintro e Wc ⟨rfl, hb⟩
  have HB := Lib.hid (bthen HB0.out hb)
  have HRc := Lib.hid (HR.out.call hb)
  have HIc := Lib.hid (HI.out.call hb)
  clear hb HR HB0 HI
  rcases ckE_cases mayT plT 8 xs with ⟨hk, h2⟩ | ⟨hk, h2⟩
  · rw [h2]
    have h8 := hk.1
    have HE := Lib.hid (show fndO xs asid page = (fdx plT xs (asid, 0, page)).bind (fun n => xs[n]?) from if_pos hk)
    clear h2 hk
    obtain ⟨len, hlen⟩ : ∃ len, len = xs.length := ⟨_, rfl⟩
    rw [← hlen] at hcap h8 ⊢
    have HL := Lib.hid hlen
    clear hlen
    go_wp2_with fail
    go_loopw [8] (fun i wr => ∃ j : Nat, i = .int .i64 j ∧ j ≤ len ∧ NoB plT xs (asid, 0, page) j ∧ Below Wc.heap.size Wc wr) (fun i _ => len - (intOf i).toNat)
    case atStart => exact ⟨0, rfl, by omega, NoB.zero _ _, Below.refl _ _⟩
    case round =>
      obtain ⟨j, rfl, hj, hN, hBr⟩ := hrel
      have hR := HRc.out.call hBr
      have r0 := hR.cell 0 _ rfl
      have r1 := hR.cell 1 _ rfl
      have r2 := hR.cell 2 _ rfl
      have r3 := hR.cell 3 _ rfl
      have f0 := hR.frozen 0 (by simp)
      have f1 := hR.frozen 1 (by simp)
      have f2 := hR.frozen 2 (by simp)
      have f3 := hR.frozen 3 (by simp)
      have lR := hR.lt
      have HN := Lib.hid hN
      have HBw := Lib.hid (bthen HB.out hBr)
      clear hN hR
      by_cases hlt : j < len
      · obtain ⟨b, off, hO, hcell⟩ := (HIc.out.call hBr) (by have := HL.out; omega)
        subst hO
        obtain ⟨x, hx⟩ : ∃ x, xs[j]? = some x := ⟨xs[j]'(by have := HL.out; omega), List.getElem?_eq_getElem _⟩
        obtain ⟨c0, c1, c2, c3⟩ := tb_cells hx hcell
        have HBr := Lib.hid hBr
        have j0 : (0 : Int) ≤ (j : Int) := by omega
        have j1 : (j : Int) < (len : Int) := by omega
        clear hcell hBr
        by_cases hq : plT x = (asid, 0, page)
        · have HE2 := Lib.hid (show fndO xs asid page = some x from by rw [HE.out, fd_hit HN.out hx hq]; exact hx)
          simp only [plT, Prod.mk.injEq] at hq
          obtain ⟨q1, -, q3⟩ := hq
          have p1 : (x.a == asid) = true := by simpa using q1
          have p3 : (x.p == page) = true := by simpa using q3
          clear q1 q3 hx
          go_wp2_with fail
          refine bodyPost_ret (v := .tuple #[.agg #[.int .i64 x.a, .int .u64 x.p, .int .i64 x.f, .bool x.ro], .bool true]) (by simp [results, Try.results21, go_sem, r0, r1, r2, r3]) rfl ⟨by rw [HE2.out]; rfl, ?_⟩
          exact bs4 HBw.out (Nat.le_refl _) _ _ _ _
        · have HS := Lib.hid (NoB.succ HN.out hx hq)
          have hc : (x.a == asid) = false ∨ ((x.a == asid) = true ∧ (x.p == page) = false) := by
            by_cases q1 : x.a = asid
            · refine Or.inr ⟨by simpa using q1, ?_⟩
              simp only [beq_eq_false_iff_ne, ne_eq]
              exact fun q3 => hq (by simp [plT, q1, q3])
            · exact Or.inl (by simpa using q1)
          clear hq hx
          rcases hc with p1 | ⟨p1, p3⟩
          all_goals
            go_wp2_with fail
            go_roundw
            case rel => exact ⟨j + 1, by go_num, by omega, HS.out, HBr.out⟩
            case measure => simp [intOf]; omega
      · have HE2 := Lib.hid (show fndO xs asid page = none from by rw [HE.out, fd_no HN.out (by have := HL.out; omega)]; rfl)
        clear hBr
        go_wp2_with fail
        refine bodyPost_ret (v := .tuple #[.agg #[.int .i64 0, .int .u64 0, .int .i64 0, .bool false], .bool false]) (by simp [results, Try.results21, go_sem, r0, r1, r2, r3]) rfl ⟨by rw [HE2.out]; rfl, ?_⟩
        exact bs4 HBw.out (Nat.le_refl _) _ _ _ _
  · have HE2 := Lib.hid (show fndO xs asid page = none from if_neg hk)
    rw [h2]
    clear hk h2
    have r0 := HRc.out.cell 0 _ rfl
    have r1 := HRc.out.cell 1 _ rfl
    have r2 := HRc.out.cell 2 _ rfl
    have r3 := HRc.out.cell 3 _ rfl
    have f0 := HRc.out.frozen 0 (by simp)
    have f1 := HRc.out.frozen 1 (by simp)
    have f2 := HRc.out.frozen 2 (by simp)
    have f3 := HRc.out.frozen 3 (by simp)
    have lR := HRc.out.lt
    go_wp2_with fail
    refine bodyPost_ret (v := .tuple #[.agg #[.int .i64 0, .int .u64 0, .int .i64 0, .bool false], .bool false]) (by simp [results, Try.results21, go_sem, r0, r1, r2, r3]) rfl ⟨by rw [HE2.out]; rfl, ?_⟩
    exact bs4 HB.out (Nat.le_refl _) _ _ _ _
/-- What holds at the head of a round. -/
def RRel (w : World) (of : Sb → Bool) (xs : List Sb) (len : Nat) (found i : Value) (wr : World) : Prop :=
  ∃ j : Nat, i = .int .i64 j ∧ j ≤ len ∧ found = .bool (bst of (xs.take j)).isSome ∧ Below w.heap.size w wr ∧ Arr wr w.heap.size [.int .i64 0, .int .i8 0, .int .u64 0, .int .i64 0] ∧ Arr wr (w.heap.size + 1) (encS ((bst of (xs.take j)).getD zS))
set_option maxRecDepth 100000 in
set_option maxHeartbeats 16000000 in
theorem rbest_any (O : Option Addr) (cap : Nat) (xs : List Sb) (asid page : Int) (w : World) (hI : RK encS 4 w O xs) (hcap : xs.length ≤ cap) (hm : cap ≤ maxLen) :
    Calls Try.prog 28 #[.slice O xs.length cap, .int .i64 asid, .int .u64 page] w
      fun e w' => e = .returned (.tuple #[.agg #[.int .i64 ((bestO xs asid page).getD zS).a, .int .i8 ((bestO xs asid page).getD zS).l, .int .u64 ((bestO xs asid page).getD zS).p, .int .i64 ((bestO xs asid page).getD zS).f], .bool (bestO xs asid page).isSome]) ∧ Below w.heap.size w w' := by
  unfold maxLen at hm
  have hB0 := ba (ba (Below.refl w.heap.size w) (.cells #[.int .i64 0, .int .i8 0, .int .u64 0, .int .i64 0] 44)) (.cells #[.int .i64 0, .int .i8 0, .int .u64 0, .int .i64 0] 44)
  have e1 : (w.alloc (.cells #[.int .i64 0, .int .i8 0, .int .u64 0, .int .i64 0] 44)).heap.size = w.heap.size + 1 := by simp
  have HB0 := Lib.hid hB0
  have HR0 := Lib.hid ((Arr.new w #[.int .i64 0, .int .i8 0, .int .u64 0, .int .i64 0] 44).alloc (.cells #[.int .i64 0, .int .i8 0, .int .u64 0, .int .i64 0] 44))
  have HT0 := Lib.hid (e1 ▸ Arr.new (w.alloc (.cells #[.int .i64 0, .int .i8 0, .int .u64 0, .int .i64 0] 44)) #[.int .i64 0, .int .i8 0, .int .u64 0, .int .i64 0] 44)
  have HI0 := Lib.hid hI
  have HI := Lib.hid (hI.call hB0)
  clear hI hB0 e1
  have HCap := Lib.hid hcap
  rcases ckE_cases mayS plS 4 xs with ⟨hk, h2⟩ | ⟨hk, h2⟩
  · have HE := Lib.hid (show bestO xs asid page = bst (ofB asid page) xs from if_pos hk)
    have HM := Lib.hid hk.2
    have HC2 := Lib.hid h2
    have h8 := hk.1
    clear hk h2
    obtain ⟨len, hlen⟩ : ∃ len, len = xs.length := ⟨_, rfl⟩
    rw [← hlen] at hcap h8 ⊢
    have HL := Lib.hid hlen
    clear hlen
    go_enter Try.func28, Try.ntmps28
    go_wp2_with fail
    generalize (w.alloc (.cells #[.int .i64 0, .int .i8 0, .int .u64 0, .int .i64 0] 44)).alloc (.cells #[.int .i64 0, .int .i8 0, .int .u64 0, .int .i64 0] 44) = W0 at *
    go_loopw [9, 10] (fun found i wr => RRel w (ofB asid page) xs len found i wr) (fun _ i _ => len - (intOf i).toNat)
    case atStart => exact ⟨0, rfl, by omega, rfl, HB0.out, HR0.out, HT0.out⟩
    case round =>
      obtain ⟨j, rfl, hj, HF, hB, hR, hT⟩ := hrel
      by_cases hlt : j < len
      · obtain ⟨x, hx⟩ : ∃ x, xs[j]? = some x := ⟨xs[j]'(by have := HL.out; omega), List.getElem?_eq_getElem _⟩
        have HS := Lib.hid (bst_succ (ofB asid page) xs j x hx)
        have hmx := (HM.out j x (by have := HL.out; omega) hx).1
        obtain ⟨-, -, -, -, hl1, hl3, -⟩ := of_decide_eq_true hmx
        generalize ho : bst (ofB asid page) (xs.take j) = o at *
        have HX := Lib.hid hx
        have HB := Lib.hid hB
        have HR := Lib.hid hR
        have HT := Lib.hid hT
        clear hB hR hT hx hmx ho
        go_wp2_with fail
        rw [HL.out]
        refine (rcheckS_any O cap xs _ (HI0.out.call HB.out) HCap.out).mono ?_
        rintro e w1 ⟨rfl, hb⟩
        rw [HC2.out, ← HL.out]
        have HBx := Lib.hid (bthen HB.out hb)
        obtain ⟨b, off, hO, hcell⟩ := (HI0.out.call HBx.out) (by have := HL.out; omega)
        subst hO
        obtain ⟨c0, c1, c2, c3⟩ := sb_cells HX.out hcell
        have HA1 := Lib.hid (Arr.new w1 #[.int .i64 x.a, .int .i8 x.l, .int .u64 x.p, .int .i64 x.f] 44)
        have HB1 := Lib.hid (ba HBx.out (.cells #[.int .i64 x.a, .int .i8 x.l, .int .u64 x.p, .int .i64 x.f] 44))
        have HR1 := Lib.hid ((HR.out.call hb).alloc (.cells #[.int .i64 x.a, .int .i8 x.l, .int .u64 x.p, .int .i64 x.f] 44))
        have HT1 := Lib.hid ((HT.out.call hb).alloc (.cells #[.int .i64 x.a, .int .i8 x.l, .int .u64 x.p, .int .i64 x.f] 44))
        have hY : w.heap.size + 1 < w1.heap.size := (HT.out.call hb).lt
        have j0 : (0 : Int) ≤ (j : Int) := by omega
        have j1 : (j : Int) < (len : Int) := by omega
        clear hb hcell HB HR HT HX HBx
        rcases ha : (x.a == asid) with _ | _
        · have HN := Lib.hid (HS.out.trans (bstep_no (by unfold ofB; rw [ha]; rfl)))
          go_wp2_with fail
          generalize w1.heap.size = Y at *
          generalize w1.alloc (.cells #[.int .i64 x.a, .int .i8 x.l, .int .u64 x.p, .int .i64 x.f] 44) = W1 at *
          have a0 := HA1.out.cell 0 _ rfl
          have a1 := HA1.out.cell 1 _ rfl
          have a2 := HA1.out.cell 2 _ rfl
          have a3 := HA1.out.cell 3 _ rfl
          go_quiet (fail)
          go_wp2_with fail
          go_roundw
          case rel => exact ⟨j + 1, by go_num, by omega, by first | (rw [HN.out]; done) | (rw [HN.out]; exact HF) | rw [HN.out], bdn HB1.out _, HR1.out.drewN _, by rw [HN.out]; exact HT1.out.drewN _⟩
          case measure => simp [intOf]; omega
        · rcases hp : (page / 2 ^ (9 * (3 - x.l)).toNat == x.p) with _ | _
          · have HN := Lib.hid (HS.out.trans (bstep_no (by unfold ofB; rw [ha, hp]; rfl)))
            go_wp2_with fail
            generalize w1.heap.size = Y at *
            generalize w1.alloc (.cells #[.int .i64 x.a, .int .i8 x.l, .int .u64 x.p, .int .i64 x.f] 44) = W1 at *
            have a0 := HA1.out.cell 0 _ rfl
            have a1 := HA1.out.cell 1 _ rfl
            have a2 := HA1.out.cell 2 _ rfl
            have a3 := HA1.out.cell 3 _ rfl
            go_quiet ((go_at_call 55; exact Calls.quiet_of_same (rpre_q _ _ _ hl1 hl3)))
            go_wp2_with fail
            go_roundw
            case rel => exact ⟨j + 1, by go_num, by omega, by first | (rw [HN.out]; done) | (rw [HN.out]; exact HF) | rw [HN.out], bdn HB1.out _, HR1.out.drewN _, by rw [HN.out]; exact HT1.out.drewN _⟩
            case measure => simp [intOf]; omega
          · rcases o with _ | bb
            · simp only [Option.isSome_none] at HF
              subst HF
              have HN := Lib.hid (HS.out.trans (bstep_first (by unfold ofB; rw [ha, hp]; rfl)))
              have HTT := Lib.hid (show Arr _ (w.heap.size + 1) [.int .i64 0, .int .i8 0, .int .u64 0, .int .i64 0] from HT1.out)
              go_wp2_with fail
              generalize w1.heap.size = Y at *
              generalize w1.alloc (.cells #[.int .i64 x.a, .int .i8 x.l, .int .u64 x.p, .int .i64 x.f] 44) = W1 at *
              have a0 := HA1.out.cell 0 _ rfl
              have a1 := HA1.out.cell 1 _ rfl
              have a2 := HA1.out.cell 2 _ rfl
              have a3 := HA1.out.cell 3 _ rfl
              have t0 := HTT.out.cell 0 _ rfl
              have t1 := HTT.out.cell 1 _ rfl
              have t2 := HTT.out.cell 2 _ rfl
              have t3 := HTT.out.cell 3 _ rfl
              have f0 := HTT.out.frozen 0 (by simp)
              have f1 := HTT.out.frozen 1 (by simp)
              have f2 := HTT.out.frozen 2 (by simp)
              have f3 := HTT.out.frozen 3 (by simp)
              have lA := HA1.out.lt
              have lT := HTT.out.lt
              have n1 : ¬ w.heap.size + 1 = Y := by omega
              go_quiet ((go_at_call 55; exact Calls.quiet_of_same (rpre_q _ _ _ hl1 hl3)))
              go_wp2_with fail
              go_roundw
              case rel => exact ⟨j + 1, by go_num, by omega, by rw [HN.out]; rfl, bs4 (bdn HB1.out _) (by omega) _ _ _ _, Arr.far4 (HR1.out.drewN _) (by omega) _ _ _ _, by rw [HN.out]; exact Arr.put4 (HTT.out.drewN _) _ _ _ _⟩
              case measure => simp [intOf]; omega
            · simp only [Option.isSome_some] at HF
              subst HF
              have HTT := Lib.hid (show Arr _ (w.heap.size + 1) [.int .i64 bb.a, .int .i8 bb.l, .int .u64 bb.p, .int .i64 bb.f] from HT1.out)
              by_cases hl : bb.l < x.l
              · have hl' : decide (bb.l < x.l) = true := decide_eq_true hl
                have HN := Lib.hid (HS.out.trans (bstep_more (by unfold ofB; rw [ha, hp]; rfl) hl))
                go_wp2_with fail
                generalize w1.heap.size = Y at *
                generalize w1.alloc (.cells #[.int .i64 x.a, .int .i8 x.l, .int .u64 x.p, .int .i64 x.f] 44) = W1 at *
                have a0 := HA1.out.cell 0 _ rfl
                have a1 := HA1.out.cell 1 _ rfl
                have a2 := HA1.out.cell 2 _ rfl
                have a3 := HA1.out.cell 3 _ rfl
                have t0 := HTT.out.cell 0 _ rfl
                have t1 := HTT.out.cell 1 _ rfl
                have t2 := HTT.out.cell 2 _ rfl
                have t3 := HTT.out.cell 3 _ rfl
                have f0 := HTT.out.frozen 0 (by simp)
                have f1 := HTT.out.frozen 1 (by simp)
                have f2 := HTT.out.frozen 2 (by simp)
                have f3 := HTT.out.frozen 3 (by simp)
                have lA := HA1.out.lt
                have lT := HTT.out.lt
                have n1 : ¬ w.heap.size + 1 = Y := by omega
                go_quiet ((go_at_call 55; exact Calls.quiet_of_same (rpre_q _ _ _ hl1 hl3)))
                go_wp2_with fail
                go_roundw
                case rel => exact ⟨j + 1, by go_num, by omega, by rw [HN.out]; rfl, bs4 (bdn HB1.out _) (by omega) _ _ _ _, Arr.far4 (HR1.out.drewN _) (by omega) _ _ _ _, by rw [HN.out]; exact Arr.put4 (HTT.out.drewN _) _ _ _ _⟩
                case measure => simp [intOf]; omega
              · have hl' : decide (bb.l < x.l) = false := decide_eq_false hl
                have HN := Lib.hid (HS.out.trans (bstep_less (by unfold ofB; rw [ha, hp]; rfl) hl))
                go_wp2_with fail
                generalize w1.heap.size = Y at *
                generalize w1.alloc (.cells #[.int .i64 x.a, .int .i8 x.l, .int .u64 x.p, .int .i64 x.f] 44) = W1 at *
                have a0 := HA1.out.cell 0 _ rfl
                have a1 := HA1.out.cell 1 _ rfl
                have a2 := HA1.out.cell 2 _ rfl
                have a3 := HA1.out.cell 3 _ rfl
                have t0 := HTT.out.cell 0 _ rfl
                have t1 := HTT.out.cell 1 _ rfl
                have t2 := HTT.out.cell 2 _ rfl
                have t3 := HTT.out.cell 3 _ rfl
                have lT := HTT.out.lt
                go_quiet ((go_at_call 55; exact Calls.quiet_of_same (rpre_q _ _ _ hl1 hl3)))
                go_wp2_with fail
                go_roundw
                case rel => exact ⟨j + 1, by go_num, by omega, by first | (rw [HN.out]; done) | (rw [HN.out]; rfl) | rw [HN.out], bdn HB1.out _, HR1.out.drewN _, by rw [HN.out]; exact HT1.out.drewN _⟩
                case measure => simp [intOf]; omega
      · have HN := Lib.hid (show bst (ofB asid page) (xs.take j) = bestO xs asid page from by rw [HE.out, List.take_of_length_le (by have := HL.out; omega)])
        rw [HN.out] at HF hT
        have HB := Lib.hid hB
        generalize hbo : (bestO xs asid page) = o at *
        have HBO := Lib.hid hbo
        clear hbo
        subst HF
        have r0 := hR.cell 0 _ rfl
        have r1 := hR.cell 1 _ rfl
        have r2 := hR.cell 2 _ rfl
        have r3 := hR.cell 3 _ rfl
        have t0 := hT.cell 0 _ rfl
        have t1 := hT.cell 1 _ rfl
        have t2 := hT.cell 2 _ rfl
        have t3 := hT.cell 3 _ rfl
        have f0 := hR.frozen 0 (by simp)
        have f1 := hR.frozen 1 (by simp)
        have f2 := hR.frozen 2 (by simp)
        have f3 := hR.frozen 3 (by simp)
        have lR := hR.lt
        have lT := hT.lt
        clear hB hR hT
        go_wp2_with fail
        refine bodyPost_ret (v := .tuple #[.agg #[.int .i64 (o.getD zS).a, .int .i8 (o.getD zS).l, .int .u64 (o.getD zS).p, .int .i64 (o.getD zS).f], .bool o.isSome]) (by simp [results, Try.results28, go_sem, r0, r1, r2, r3]) rfl ⟨by rw [HBO.out], ?_⟩
        exact bs4 HB.out (Nat.le_refl _) _ _ _ _
  · have HE2 := Lib.hid (show bestO xs asid page = none from if_neg hk)
    have HC2 := Lib.hid h2
    clear hk h2
    obtain ⟨len, hlen⟩ : ∃ len, len = xs.length := ⟨_, rfl⟩
    rw [← hlen] at hcap ⊢
    have HL := Lib.hid hlen
    clear hlen
    go_enter Try.func28, Try.ntmps28
    go_wp2_with fail
    generalize (w.alloc (.cells #[.int .i64 0, .int .i8 0, .int .u64 0, .int .i64 0] 44)).alloc (.cells #[.int .i64 0, .int .i8 0, .int .u64 0, .int .i64 0] 44) = W0 at *
    refine wp_loop_rounds 1 ?_
    rw [rounds_succ]
    by_cases h0 : 0 < len
    · have h0' : (0 : Int) < (len : Int) := by omega
      go_wp2_with fail
      rw [HL.out]
      refine (rcheckS_any O cap xs _ HI.out HCap.out).mono ?_
      rintro e w1 ⟨rfl, hb⟩
      rw [HC2.out]
      have HB := Lib.hid (bthen HB0.out hb)
      have hR := HR0.out.call hb
      have hT := HT0.out.call hb
      have r0 := hR.cell 0 _ rfl
      have r1 := hR.cell 1 _ rfl
      have r2 := hR.cell 2 _ rfl
      have r3 := hR.cell 3 _ rfl
      have t0 := hT.cell 0 _ rfl
      have t1 := hT.cell 1 _ rfl
      have t2 := hT.cell 2 _ rfl
      have t3 := hT.cell 3 _ rfl
      have f0 := hR.frozen 0 (by simp)
      have f1 := hR.frozen 1 (by simp)
      have f2 := hR.frozen 2 (by simp)
      have f3 := hR.frozen 3 (by simp)
      have lR := hR.lt
      have lT := hT.lt
      clear hb hR hT
      go_wp2_with fail
      refine bodyPost_ret (v := .tuple #[.agg #[.int .i64 0, .int .i8 0, .int .u64 0, .int .i64 0], .bool false]) (by simp [results, Try.results28, go_sem, r0, r1, r2, r3]) rfl ⟨by rw [HE2.out]; rfl, ?_⟩
      exact bs4 HB.out (Nat.le_refl _) _ _ _ _
    · obtain rfl : len = 0 := by omega
      have hR := HR0.out
      have hT := HT0.out
      have r0 := hR.cell 0 _ rfl
      have r1 := hR.cell 1 _ rfl
      have r2 := hR.cell 2 _ rfl
      have r3 := hR.cell 3 _ rfl
      have t0 := hT.cell 0 _ rfl
      have t1 := hT.cell 1 _ rfl
      have t2 := hT.cell 2 _ rfl
      have t3 := hT.cell 3 _ rfl
      have f0 := hR.frozen 0 (by simp)
      have f1 := hR.frozen 1 (by simp)
      have f2 := hR.frozen 2 (by simp)
      have f3 := hR.frozen 3 (by simp)
      have lR := hR.lt
      have lT := hT.lt
      clear hR hT
      go_wp2_with fail
      refine bodyPost_ret (v := .tuple #[.agg #[.int .i64 0, .int .i8 0, .int .u64 0, .int .i64 0], .bool false]) (by simp [results, Try.results28, go_sem, r0, r1, r2, r3]) rfl ⟨by rw [HE2.out]; rfl, ?_⟩
      exact bs4 HB0.out (Nat.le_refl _) _ _ _ _
end Go.Proofs.Ytencifnopfianaa
