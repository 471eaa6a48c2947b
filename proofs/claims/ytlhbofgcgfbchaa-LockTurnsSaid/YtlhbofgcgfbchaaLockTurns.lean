/-
  The law LockTurns of layer 18: the walk.
-/
import Derived.Test.YtlhbofgcgfbchaaTurnsBase
import Derived.Deep.LoopGhost
namespace Go.Proofs.Ytlhbofgcgfbchaa
open Go.RowKit Go.Maps
set_option linter.unusedVariables false
set_option linter.unusedSimpArgs false

/-- What holds at the loop's head. -/
def LtRel (w0 : World) (p bp bt len : Nat) (v i : Value) (w : World) : Prop :=
  ∃ (k kk : Nat) (c : Nat → Nat → Int) (F H : Nat → Prop) (q : List Int) (ph tk : Nat → Int), i = .int .i64 k ∧ k ≤ len ∧ kk ≤ k + k + 2 ∧ q.length ≤ k ∧ Tn w0 w p bp bt v c F H kk q ph tk ∧ TurnInv q ph tk (c 0 0) (c 0 1)
theorem turn_core (z : Int) : ∃ i : Nat, wrap64 (1 + Int.tmod (wrap64 (Int.tmod z 8 + 8)) 8) = i ∧ 1 ≤ i ∧ i ≤ 8 := by
  obtain ⟨h1, h2⟩ := norm_mod z 8 (by omega) (by omega)
  generalize Int.tmod (wrap64 (Int.tmod z 8 + 8)) 8 = m at *
  exact ⟨(1 + m).toNat, by rw [IntWalk.wrap64_in _ (by omega)]; omega, by omega, by omega⟩
set_option maxRecDepth 100000 in
set_option maxHeartbeats 4000000 in
theorem lockTurns_few (fr : Int) (w : World) (O : Option Addr) (len cap : Nat) (zs : Nat → Int) (hfr : U64 fr) (hl : len ≤ 400) (hI : Ints w O len zs) (hc : len ≤ cap) :
    Calls Try.prog 9 #[.int .u64 fr, .slice O len cap] w fun e w' => e = .returned (.bool true) ∧ Below w.heap.size w w' := by
  have HI := Lib.hid hI
  have HU := Lib.hid hfr
  clear hI hfr
  go_enter Try.func9, Try.ntmps9
  go_wp2_with fail
  refine (new_yes 1 _ (by omega) (by omega)).mono ?_
  rintro e w1 ⟨p, F, rfl, hM, hB, hF⟩
  have HF := Lib.hid hF
  have HB := Lib.hid hB
  clear hF hB
  go_wp2_with fail
  refine (write_yes p 1 0 0 0 0 fr _ F _ hM (by omega) (by omega) ⟨by omega, by omega⟩ (by decide) (by decide) (by omega)).mono ?_
  rintro e w3 ⟨rfl, F3, k3, m1, m2, m3, m4, m5⟩
  have HB3 := Lib.hid (m3.below HB.out HF.out)
  have HF3 := Lib.hid (grow HF.out HB.out m4)
  clear m3 m4 m5 hM HB HF
  go_wp2_with fail
  refine (write_yes p 1 k3 0 1 1 fr _ F3 _ m1 (by omega) (by omega) ⟨by omega, by omega⟩ (by decide) (by decide) (by omega)).mono ?_
  rintro e w4 ⟨rfl, F4, k4, n1, n2, m3, m4, m5⟩
  have HB4 := Lib.hid (m3.below HB3.out HF3.out)
  have HF4 := Lib.hid (grow HF3.out HB3.out m4)
  have HA4 := Lib.hid n1.all
  clear m3 m4 m5 m1 HB3 HF3
  go_wp2_with fail
  have hb2 := ba (ba (Below.refl w4.heap.size w4) (.cells (nineI fun _ => 0) 65)) (.cells (nineU fun _ => 0) 66)
  have hT : Tn w ((w4.alloc (.cells (nineI fun _ => 0) 65)).alloc (.cells (nineU fun _ => 0) 66)) p w4.heap.size (w4.heap.size + 1) (.slice none 0 0) (upd2 (upd2 (fun _ _ => 0) 0 0 fr) 0 1 fr) F4 (fun _ => False) k4 [] (fun _ => 0) (fun _ => 0) :=
    ⟨n1.call hb2, (Bk.new w4 65 _).call (ba (Below.refl _ _) _), by have := Bk.new (w4.alloc (.cells (nineI fun _ => 0) 65)) 66 (nineU fun _ => 0); rwa [World.size_alloc] at this, .inl ⟨none, rfl, rfl⟩,
      fun y hy => ⟨fun h => h, by have := HA4.out y hy; omega, by have := HA4.out y hy; omega⟩, fun y h => h.elim, HF4.out, fun y h => h.elim, fun y h => h.elim, HB4.out.size, Nat.le_succ_of_le HB4.out.size, bthen HB4.out hb2⟩
  have HT := Lib.hid hT
  clear hb2 hT n1
  go_loopw [9, 10] (fun v i wr => LtRel w p w4.heap.size (w4.heap.size + 1) len v i wr) (fun _ i _ => len - (intOf i).toNat)
  case atStart => exact ⟨0, k4, _, F4, _, [], _, _, rfl, by omega, by omega, by simp, HT.out, TurnInv.start fr HU.out⟩
  case round =>
    clear HT HA4 HB4 HF4
    generalize w4.heap.size = bp at *
    obtain ⟨k, kk, c, F, H, q, ph, tk, rfl, hk, hkk, hq, hT, hV⟩ := hrel
    by_cases hlt : k < len
    · obtain ⟨b, off, rfl, hcell⟩ := (HI.out.call hT.below) (by omega)
      have cz := hcell k hlt
      obtain ⟨i, hi, hi1, hi8⟩ := turn_core (zs k)
      have HC := Lib.hid hcell
      have HT := Lib.hid hT
      have HV := Lib.hid hV
      have cq : wr.cell? ⟨bp, i, none⟩ = some (.int .i64 (ph i)) := (hT.php.cell i).trans (nineI_at _ hi8)
      have cq2 : wr.cell? ⟨bp + 1, i, none⟩ = some (.int .u64 (tk i)) := (hT.tkt.cell i).trans (nineU_at _ hi8)
      have hpp : ph i = 0 ∨ ph i = 1 ∨ ph i = 2 := by rcases hV.ph0 i hi1 hi8 with ⟨h, _⟩ | ⟨h | h, _⟩ <;> simp [h]
      clear hcell hT hV
      rcases hpp with hp0 | hp0 | hp0
      · rw [hp0] at cq
        have HP0 := Lib.hid hp0
        clear hp0 cq2
        go_wp2_with fail
        refine (lTake_any p 1 kk _ _ _ HT.out.mem (by omega) (by omega) (by omega)).mono ?_
        rintro e W1 ⟨rfl, F1, k1, m1, m2, m3, m4, m5⟩
        have hT1 := HT.out.one m1 m3 m4
        have hT1s := hT1.setTk hi8 (c 0 0)
        have hT1a := hT1s.call (ba (Below.refl _ _) (.cells #[.int .i64 i] 3))
        have cn : ((W1.setCell ⟨bp + 1, i, none⟩ (.int .u64 (c 0 0))).alloc (.cells #[.int .i64 i] 3)).cell? ⟨W1.heap.size, 0, none⟩ = some (.int .i64 i) := by
          have := (Bk.new (W1.setCell ⟨bp + 1, i, none⟩ (.int .u64 (c 0 0))) 3 #[.int .i64 i]).cell 0
          simpa using this
        have ct : W1.cell? ⟨bp + 1, i, none⟩ = some (.int .u64 (tk i)) := (hT1.tkt.cell i).trans (nineU_at _ hi8)
        have ft : W1.frozen? ⟨bp + 1, i, none⟩ = false := hT1.tkt.frozen i
        have HT1 := Lib.hid hT1a
        have HCN := Lib.hid cn
        have HV1 := Lib.hid (HV.out.take hi1 hi8 HP0.out)
        have hl1 : (q ++ [(i : Int)]).length ≤ k + 1 := by simp; omega
        clear m1 m3 m4 m5 hT1 hT1s hT1a cn
        go_wp2_with (at_builtin; refine wpList_ord_app _ rfl _ _ rfl rfl rfl HT1.out.ord HCN.out (by omega) HT1.out.lH ?_; intro v' W' H' o1 o2 o3 o4; have hT1b := HT1.out.app o1 o2 o3 o4; have cp : W'.cell? ⟨bp, i, none⟩ = some (.int .i64 (ph i)) := (hT1b.php.cell i).trans (nineI_at _ hi8); have fp : W'.frozen? ⟨bp, i, none⟩ = false := hT1b.php.frozen i; have HT2 := Lib.hid (hT1b.setPh hi8 1); clear o1 o2 o3 o4 hT1b)
        clear ct ft cp fp
        have hT2 := HT2.out
        have hV2 : TurnInv (q ++ [(i : Int)]) (upd ph i 1) (upd tk i (c 0 0)) (upd2 c 0 0 (IntKind.u64.wrap (c 0 0 + 1)) 0 0) (upd2 c 0 0 (IntKind.u64.wrap (c 0 0 + 1)) 0 1) := by
          rw [upd2_same, upd2_other _ _ (by omega), IntKind.wrap_u64]; exact HV1.out
        generalize W'.setCell ⟨bp, i, none⟩ (.int .i64 1) = Wt at *
        clear HV1
        generalize q ++ [(i : Int)] = q1 at hT2 hV2 hl1
        have HTT := Lib.hid hT2
        have HVV := Lib.hid hV2
        have hcb := hV2.cnt
        have HCB := Lib.hid hcb
        clear hcb hT2 hV2 cz hi
        go_loop [14, 15] (fun n j => ∃ m : Nat, 1 ≤ m ∧ m ≤ 9 ∧ j = .int .i64 m ∧ n = .int .i64 (cntIn (upd ph i 1) m)) (fun _ j => (9 - intOf j).toNat)
        case atStart => exact ⟨1, by omega, by omega, rfl, by simp [cntIn]⟩
        case round =>
          obtain ⟨m, hm1, hm9, rfl, rfl⟩ := hrel
          obtain ⟨cb0, cb1⟩ := HCB.out m hm9
          have cb2 : cntIn (upd ph i 1) m ≤ 1 := by rcases cb1 with h | ⟨h, _⟩ <;> omega
          clear cb1
          by_cases hm : m ≤ 8
          · have cc : Wt.cell? ⟨bp, m, none⟩ = some (.int .i64 ((upd ph i 1) m)) := (HTT.out.php.cell m).trans (nineI_at _ hm)
            have hs : cntIn (upd ph i 1) (m + 1) = cntIn (upd ph i 1) m + if 1 ≤ m ∧ (upd ph i 1) m = 2 then 1 else 0 := rfl
            have HSS := Lib.hid hs
            clear hs
            rcases h2 : ((upd ph i 1) m == 2) with _ | _
            · have HN := Lib.hid (show ¬ (1 ≤ m ∧ (upd ph i 1) m = 2) from fun h => by simp [h.2] at h2)
              go_wp2_with fail
              go_round
              case rel => exact ⟨m + 1, by omega, by omega, by go_num, by rw [HSS.out, if_neg HN.out]; go_num⟩
              case measure => simp [intOf]; omega
            · have HN := Lib.hid (show 1 ≤ m ∧ (upd ph i 1) m = 2 from ⟨hm1, by simpa using h2⟩)
              go_wp2_with fail
              go_round
              case rel => exact ⟨m + 1, by omega, by omega, by go_num, by rw [HSS.out, if_pos HN.out]⟩
              case measure => simp [intOf]; omega
          · obtain rfl : m = 9 := by omega
            have cb3 : ¬ (1 : Int) < cntIn (upd ph i 1) 9 := by omega
            obtain ⟨OO, CP, hVV⟩ := HTT.out.ord.len
            have HWW := Lib.hid (HVV.out.wait (by omega))
            go_wp2_with fail
            refine (lWaiting_any p 1 _ _ _ _ HTT.out.mem (by omega) (by omega)).mono ?_
            rintro e wz ⟨rfl, hb⟩
            rw [HWW.out]
            have HT3 := Lib.hid (HTT.out.call hb)
            clear hb
            subst hVV
            go_wp2_with fail
            go_roundw
            case rel => exact ⟨k + 1, _, _, _, _, _, _, _, by go_num, by omega, by omega, hl1, HT3.out, HVV.out⟩
            case measure => simp [intOf]; omega
      · rw [hp0] at cq
        have HP0 := Lib.hid hp0
        clear hp0
        rcases hsv : (c 0 1 == tk i) with _ | _
        · go_wp2_with fail
          refine (lServed_any p 1 _ _ _ _ _ HT.out.mem (by omega) (by omega)).mono ?_
          rintro e W1 ⟨rfl, hb⟩
          have hT1 := HT.out.call hb
          clear hb
          rw [hsv]
          go_wp2_with fail
          have hT2 := hT1
          have hV2 := HV.out
          clear hT1
          have hl1 : q.length ≤ k + 1 := by omega
          have HTT := Lib.hid hT2
          have HVV := Lib.hid hV2
          have hcb := hV2.cnt
          have HCB := Lib.hid hcb
          clear hcb hT2 hV2 cz hi
          go_loop [14, 15] (fun n j => ∃ m : Nat, 1 ≤ m ∧ m ≤ 9 ∧ j = .int .i64 m ∧ n = .int .i64 (cntIn ph m)) (fun _ j => (9 - intOf j).toNat)
          case atStart => exact ⟨1, by omega, by omega, rfl, by simp [cntIn]⟩
          case round =>
            obtain ⟨m, hm1, hm9, rfl, rfl⟩ := hrel
            obtain ⟨cb0, cb1⟩ := HCB.out m hm9
            have cb2 : cntIn ph m ≤ 1 := by rcases cb1 with h | ⟨h, _⟩ <;> omega
            clear cb1
            by_cases hm : m ≤ 8
            · have cc : W1.cell? ⟨bp, m, none⟩ = some (.int .i64 (ph m)) := (HTT.out.php.cell m).trans (nineI_at _ hm)
              have hs : cntIn ph (m + 1) = cntIn ph m + if 1 ≤ m ∧ ph m = 2 then 1 else 0 := rfl
              have HSS := Lib.hid hs
              clear hs
              rcases h2 : (ph m == 2) with _ | _
              · have HN := Lib.hid (show ¬ (1 ≤ m ∧ ph m = 2) from fun h => by simp [h.2] at h2)
                go_wp2_with fail
                go_round
                case rel => exact ⟨m + 1, by omega, by omega, by go_num, by rw [HSS.out, if_neg HN.out]; go_num⟩
                case measure => simp [intOf]; omega
              · have HN := Lib.hid (show 1 ≤ m ∧ ph m = 2 from ⟨hm1, by simpa using h2⟩)
                go_wp2_with fail
                go_round
                case rel => exact ⟨m + 1, by omega, by omega, by go_num, by rw [HSS.out, if_pos HN.out]⟩
                case measure => simp [intOf]; omega
            · obtain rfl : m = 9 := by omega
              have cb3 : ¬ (1 : Int) < cntIn ph 9 := by omega
              obtain ⟨OO, CP, hVV⟩ := HTT.out.ord.len
              have HWW := Lib.hid (HVV.out.wait (by omega))
              go_wp2_with fail
              refine (lWaiting_any p 1 _ _ _ _ HTT.out.mem (by omega) (by omega)).mono ?_
              rintro e wz ⟨rfl, hb⟩
              rw [HWW.out]
              have HT3 := Lib.hid (HTT.out.call hb)
              clear hb
              subst hVV
              go_wp2_with fail
              go_roundw
              case rel => exact ⟨k + 1, _, _, _, _, _, _, _, by go_num, by omega, by omega, hl1, HT3.out, HVV.out⟩
              case measure => simp [intOf]; omega
        · go_wp2_with fail
          refine (lServed_any p 1 _ _ _ _ _ HT.out.mem (by omega) (by omega)).mono ?_
          rintro e W1 ⟨rfl, hb⟩
          have hT1 := HT.out.call hb
          clear hb
          rw [hsv]
          have hhd := HV.out.head (by omega) hi1 hi8 HP0.out (by simpa using hsv)
          obtain ⟨b2, off2, cap2, cs2, rfl, x1, x2, x3, x4, x5, x6⟩ : ∃ b2 off2 cap2 : Nat, ∃ cs2 : Array Value, u9 = .slice (some ⟨b2, off2, none⟩) q.length cap2 ∧ q.length ≤ cap2 ∧ cap2 ≤ maxLen ∧ Bk W1 b2 3 cs2 ∧ off2 + cap2 ≤ cs2.size ∧ (∀ j x, q[j]? = some x → cs2[off2 + j]? = some (.int .i64 x)) ∧ H b2 := by
            rcases hT1.ord with ⟨O, _, hq0⟩ | h
            · rw [hq0] at hhd; simp at hhd
            · exact h
          have hq1 : 0 < q.length := (List.getElem?_eq_some_iff.1 hhd).1
          have hq2 : ((q.length : Int) == 0) = false := beq_eq_false_iff_ne.2 (by omega)
          have hq3 : (q.length == 0) = false := beq_eq_false_iff_ne.2 (by omega)
          have co : W1.cell? ⟨b2, off2, none⟩ = some (.int .i64 i) := (x3.cell off2).trans (x5 0 i hhd)
          have cp : W1.cell? ⟨bp, i, none⟩ = some (.int .i64 (ph i)) := (hT1.php.cell i).trans (nineI_at _ hi8)
          have fp : W1.frozen? ⟨bp, i, none⟩ = false := hT1.php.frozen i
          have HT1 := Lib.hid (hT1.setPh hi8 2)
          have HV1 := Lib.hid (HV.out.serve hi1 hi8 HP0.out hhd)
          unfold maxLen at x2
          clear x3 x4 x5 x6 hT1 hhd
          go_wp2_with fail
          clear co cp fp
          have hT2 := HT1.out
          have hV2 := HV1.out
          have hl1 : q.length ≤ k + 1 := by omega
          generalize W1.setCell ⟨bp, i, none⟩ (.int .i64 2) = Wt at *
          have HTT := Lib.hid hT2
          have HVV := Lib.hid hV2
          have hcb := hV2.cnt
          have HCB := Lib.hid hcb
          clear hcb hT2 hV2 cz hi
          go_loop [14, 15] (fun n j => ∃ m : Nat, 1 ≤ m ∧ m ≤ 9 ∧ j = .int .i64 m ∧ n = .int .i64 (cntIn (upd ph i 2) m)) (fun _ j => (9 - intOf j).toNat)
          case atStart => exact ⟨1, by omega, by omega, rfl, by simp [cntIn]⟩
          case round =>
            obtain ⟨m, hm1, hm9, rfl, rfl⟩ := hrel
            obtain ⟨cb0, cb1⟩ := HCB.out m hm9
            have cb2 : cntIn (upd ph i 2) m ≤ 1 := by rcases cb1 with h | ⟨h, _⟩ <;> omega
            clear cb1
            by_cases hm : m ≤ 8
            · have cc : Wt.cell? ⟨bp, m, none⟩ = some (.int .i64 ((upd ph i 2) m)) := (HTT.out.php.cell m).trans (nineI_at _ hm)
              have hs : cntIn (upd ph i 2) (m + 1) = cntIn (upd ph i 2) m + if 1 ≤ m ∧ (upd ph i 2) m = 2 then 1 else 0 := rfl
              have HSS := Lib.hid hs
              clear hs
              rcases h2 : ((upd ph i 2) m == 2) with _ | _
              · have HN := Lib.hid (show ¬ (1 ≤ m ∧ (upd ph i 2) m = 2) from fun h => by simp [h.2] at h2)
                go_wp2_with fail
                go_round
                case rel => exact ⟨m + 1, by omega, by omega, by go_num, by rw [HSS.out, if_neg HN.out]; go_num⟩
                case measure => simp [intOf]; omega
              · have HN := Lib.hid (show 1 ≤ m ∧ (upd ph i 2) m = 2 from ⟨hm1, by simpa using h2⟩)
                go_wp2_with fail
                go_round
                case rel => exact ⟨m + 1, by omega, by omega, by go_num, by rw [HSS.out, if_pos HN.out]⟩
                case measure => simp [intOf]; omega
            · obtain rfl : m = 9 := by omega
              have cb3 : ¬ (1 : Int) < cntIn (upd ph i 2) 9 := by omega
              have HWW := Lib.hid (HVV.out.wait (by omega))
              go_wp2_with fail
              refine (lWaiting_any p 1 _ _ _ _ HTT.out.mem (by omega) (by omega)).mono ?_
              rintro e wz ⟨rfl, hb⟩
              rw [HWW.out]
              have HT3 := Lib.hid (HTT.out.call hb)
              clear hb
              go_wp2_with fail
              go_roundw
              case rel => exact ⟨k + 1, _, _, _, _, _, _, _, by go_num, by omega, by omega, hl1, HT3.out, HVV.out⟩
              case measure => simp [intOf]; omega
      · rw [hp0] at cq
        have HP0 := Lib.hid hp0
        clear hp0 cq2
        go_wp2_with fail
        refine (lPass_any p 1 _ _ _ _ HT.out.mem (by omega) (by omega)).mono ?_
        rintro e W1 ⟨rfl, hb⟩
        have hT1 := HT.out.call (ba hb (.cells #[.int .i8 0, .int .u64 1, .int .u64 (IntKind.u64.wrap (c 0 1 + 1)), .int .i64 0, .int .i64 0] 29))
        clear hb
        go_wp2_with fail
        refine (reach_word p 1 kk 0 1 1 _ 0 0 _ F _ hT1.mem (by omega) (by omega) ⟨by omega, by omega⟩ (by decide) (by decide) (by omega)).mono ?_
        rintro e W2 ⟨rfl, F1, k1, m1, m2, m3, m4, m5⟩
        have hT3 := hT1.one m1 m3 m4
        clear m1 m3 m4 m5 hT1
        have hhd := HV.out.ph2 i hi1 hi8 HP0.out
        obtain ⟨b2, off2, cap2, cs2, rfl, x1, x2, x3, x4, x5, x6⟩ : ∃ b2 off2 cap2 : Nat, ∃ cs2 : Array Value, u9 = .slice (some ⟨b2, off2, none⟩) q.length cap2 ∧ q.length ≤ cap2 ∧ cap2 ≤ maxLen ∧ Bk W2 b2 3 cs2 ∧ off2 + cap2 ≤ cs2.size ∧ (∀ j x, q[j]? = some x → cs2[off2 + j]? = some (.int .i64 x)) ∧ H b2 := by
          rcases hT3.ord with ⟨O, _, hq0⟩ | h
          · rw [hq0] at hhd; simp at hhd
          · exact h
        have hq1 : 0 < q.length := (List.getElem?_eq_some_iff.1 hhd).1
        have cp : W2.cell? ⟨bp, i, none⟩ = some (.int .i64 (ph i)) := (hT3.php.cell i).trans (nineI_at _ hi8)
        have fp : W2.frozen? ⟨bp, i, none⟩ = false := hT3.php.frozen i
        have HO := Lib.hid (show Ord W2 (.slice (if cap2 = 1 then some ⟨b2, off2, none⟩ else some ⟨b2, off2 + 1, none⟩) (q.length - 1) (cap2 - 1)) (q.drop 1) H from by
          by_cases e : cap2 = 1
          · rw [if_pos e]
            refine .inl ⟨_, by rw [e, show q.length = 1 by omega], List.eq_nil_of_length_eq_zero (by simp; omega)⟩
          · rw [if_neg e]
            refine .inr ⟨b2, off2 + 1, cap2 - 1, cs2, by simp, by simp; omega, by omega, x3, by omega, fun j x hj => ?_, x6⟩
            rw [List.getElem?_drop] at hj
            rw [show off2 + 1 + j = off2 + (1 + j) by omega]
            exact x5 (1 + j) x hj)
        have HT1 := Lib.hid hT3
        have HV1 := Lib.hid (HV.out.pass hi1 hi8 HP0.out)
        unfold maxLen at x2
        clear x3 x4 x5 x6 hT3 hhd
        by_cases hcap : cap2 = 1
        · have hO := HO.out
          rw [if_pos hcap] at hO
          subst hcap
          have hq9 : q.length = 1 := by omega
          rw [hq9] at hO
          have HQ9 := Lib.hid hq9
          clear hq9
          have HT2 := Lib.hid (show Tn w W2 p bp (bp + 1) (.slice (some ⟨b2, off2, none⟩) 0 0) (upd2 c 0 1 (IntKind.u64.wrap (c 0 1 + 1))) F1 H k1 (q.drop 1) ph tk from { HT1.out with ord := hO })
          have hT2' := HT2.out.setPh hi8 0
          have HT4 := Lib.hid hT2'
          clear hT2' hO
          go_wp2_with fail
          clear cp fp
          have hT2 := HT4.out
          have hV2 : TurnInv (q.drop 1) (upd ph i 0) tk (upd2 c 0 1 (IntKind.u64.wrap (c 0 1 + 1)) 0 0) (upd2 c 0 1 (IntKind.u64.wrap (c 0 1 + 1)) 0 1) := by
            rw [upd2_same, upd2_other _ _ (by omega), IntKind.wrap_u64]; exact HV1.out
          have hl1 : (q.drop 1).length ≤ k + 1 := by simp; omega
          have hd : q.drop 1 = [] := List.eq_nil_of_length_eq_zero (by have := HQ9.out; simp; omega)
          rw [hd] at hT2 hV2 hl1
          generalize W2.setCell ⟨bp, i, none⟩ (.int .i64 0) = Wt at *
          clear HV1 HT1 HT2 HO hd
          have HTT := Lib.hid hT2
          have HVV := Lib.hid hV2
          have hcb := hV2.cnt
          have HCB := Lib.hid hcb
          clear hcb hT2 hV2 cz hi
          go_loop [14, 15] (fun n j => ∃ m : Nat, 1 ≤ m ∧ m ≤ 9 ∧ j = .int .i64 m ∧ n = .int .i64 (cntIn (upd ph i 0) m)) (fun _ j => (9 - intOf j).toNat)
          case atStart => exact ⟨1, by omega, by omega, rfl, by simp [cntIn]⟩
          case round =>
            obtain ⟨m, hm1, hm9, rfl, rfl⟩ := hrel
            obtain ⟨cb0, cb1⟩ := HCB.out m hm9
            have cb2 : cntIn (upd ph i 0) m ≤ 1 := by rcases cb1 with h | ⟨h, _⟩ <;> omega
            clear cb1
            by_cases hm : m ≤ 8
            · have cc : Wt.cell? ⟨bp, m, none⟩ = some (.int .i64 ((upd ph i 0) m)) := (HTT.out.php.cell m).trans (nineI_at _ hm)
              have hs : cntIn (upd ph i 0) (m + 1) = cntIn (upd ph i 0) m + if 1 ≤ m ∧ (upd ph i 0) m = 2 then 1 else 0 := rfl
              have HSS := Lib.hid hs
              clear hs
              rcases h2 : ((upd ph i 0) m == 2) with _ | _
              · have HN := Lib.hid (show ¬ (1 ≤ m ∧ (upd ph i 0) m = 2) from fun h => by simp [h.2] at h2)
                go_wp2_with fail
                go_round
                case rel => exact ⟨m + 1, by omega, by omega, by go_num, by rw [HSS.out, if_neg HN.out]; go_num⟩
                case measure => simp [intOf]; omega
              · have HN := Lib.hid (show 1 ≤ m ∧ (upd ph i 0) m = 2 from ⟨hm1, by simpa using h2⟩)
                go_wp2_with fail
                go_round
                case rel => exact ⟨m + 1, by omega, by omega, by go_num, by rw [HSS.out, if_pos HN.out]⟩
                case measure => simp [intOf]; omega
            · obtain rfl : m = 9 := by omega
              have cb3 : ¬ (1 : Int) < cntIn (upd ph i 0) 9 := by omega
              have HWW := Lib.hid (HVV.out.wait (by omega))
              go_wp2_with fail
              refine (lWaiting_any p 1 _ _ _ _ HTT.out.mem (by omega) (by omega)).mono ?_
              rintro e wz ⟨rfl, hb⟩
              rw [HWW.out]
              have HT3 := Lib.hid (HTT.out.call hb)
              clear hb
              go_wp2_with fail
              go_roundw
              case rel => exact ⟨k + 1, _, _, _, _, _, _, _, by go_num, by omega, by omega, hl1, HT3.out, HVV.out⟩
              case measure => simp [intOf]; omega
        · have hO := HO.out
          rw [if_neg hcap] at hO
          have HT2 := Lib.hid (show Tn w W2 p bp (bp + 1) (.slice (some ⟨b2, off2 + 1, none⟩) (q.length - 1) (cap2 - 1)) (upd2 c 0 1 (IntKind.u64.wrap (c 0 1 + 1))) F1 H k1 (q.drop 1) ph tk from { HT1.out with ord := hO })
          have hT2' := HT2.out.setPh hi8 0
          have HT4 := Lib.hid hT2'
          clear hT2' hO
          go_wp2_with fail
          clear cp fp
          have hT2 := HT4.out
          have hV2 : TurnInv (q.drop 1) (upd ph i 0) tk (upd2 c 0 1 (IntKind.u64.wrap (c 0 1 + 1)) 0 0) (upd2 c 0 1 (IntKind.u64.wrap (c 0 1 + 1)) 0 1) := by
            rw [upd2_same, upd2_other _ _ (by omega), IntKind.wrap_u64]; exact HV1.out
          have hl1 : (q.drop 1).length ≤ k + 1 := by simp; omega
          have hl2 : (q.drop 1).length = q.length - 1 := by simp
          generalize W2.setCell ⟨bp, i, none⟩ (.int .i64 0) = Wt at *
          clear HV1 HT1 HT2 HO
          generalize q.drop 1 = q1 at hT2 hV2 hl1 hl2
          rw [← hl2]
          rw [← hl2] at hT2
          have HL2 := Lib.hid hl2
          clear hl2
          have HTT := Lib.hid hT2
          have HVV := Lib.hid hV2
          have hcb := hV2.cnt
          have HCB := Lib.hid hcb
          clear hcb hT2 hV2 cz hi
          go_loop [14, 15] (fun n j => ∃ m : Nat, 1 ≤ m ∧ m ≤ 9 ∧ j = .int .i64 m ∧ n = .int .i64 (cntIn (upd ph i 0) m)) (fun _ j => (9 - intOf j).toNat)
          case atStart => exact ⟨1, by omega, by omega, rfl, by simp [cntIn]⟩
          case round =>
            obtain ⟨m, hm1, hm9, rfl, rfl⟩ := hrel
            obtain ⟨cb0, cb1⟩ := HCB.out m hm9
            have cb2 : cntIn (upd ph i 0) m ≤ 1 := by rcases cb1 with h | ⟨h, _⟩ <;> omega
            clear cb1
            by_cases hm : m ≤ 8
            · have cc : Wt.cell? ⟨bp, m, none⟩ = some (.int .i64 ((upd ph i 0) m)) := (HTT.out.php.cell m).trans (nineI_at _ hm)
              have hs : cntIn (upd ph i 0) (m + 1) = cntIn (upd ph i 0) m + if 1 ≤ m ∧ (upd ph i 0) m = 2 then 1 else 0 := rfl
              have HSS := Lib.hid hs
              clear hs
              rcases h2 : ((upd ph i 0) m == 2) with _ | _
              · have HN := Lib.hid (show ¬ (1 ≤ m ∧ (upd ph i 0) m = 2) from fun h => by simp [h.2] at h2)
                go_wp2_with fail
                go_round
                case rel => exact ⟨m + 1, by omega, by omega, by go_num, by rw [HSS.out, if_neg HN.out]; go_num⟩
                case measure => simp [intOf]; omega
              · have HN := Lib.hid (show 1 ≤ m ∧ (upd ph i 0) m = 2 from ⟨hm1, by simpa using h2⟩)
                go_wp2_with fail
                go_round
                case rel => exact ⟨m + 1, by omega, by omega, by go_num, by rw [HSS.out, if_pos HN.out]⟩
                case measure => simp [intOf]; omega
            · obtain rfl : m = 9 := by omega
              have cb3 : ¬ (1 : Int) < cntIn (upd ph i 0) 9 := by omega
              have HWW := Lib.hid (HVV.out.wait (by omega))
              go_wp2_with fail
              refine (lWaiting_any p 1 _ _ _ _ HTT.out.mem (by omega) (by omega)).mono ?_
              rintro e wz ⟨rfl, hb⟩
              rw [HWW.out]
              have HT3 := Lib.hid (HTT.out.call hb)
              clear hb
              go_wp2_with fail
              go_roundw
              case rel => exact ⟨k + 1, _, _, _, _, _, _, _, by go_num, by omega, by omega, hl1, HT3.out, HVV.out⟩
              case measure => simp [intOf]; omega
    · have HT := Lib.hid hT
      clear hT
      go_wp2_with fail
      refine (wakes18_any _).mono ?_
      rintro e wz ⟨rfl, hb⟩
      go_wp2_with fail
      go_ret
      exact ⟨rfl, bthen HT.out.below hb⟩
theorem lockTurns_any (fr : Int) (w : World) (O : Option Addr) (len cap : Nat) (zs : Nat → Int) (hfr : U64 fr) (hI : Ints w O len zs) (hc : len ≤ cap) (hm : len ≤ maxLen) :
    Calls Try.prog 9 #[.int .u64 fr, .slice O len cap] w fun e w' => e = .returned (.bool true) ∧ Below w.heap.size w w' := by
  by_cases hl : len ≤ 400
  · exact lockTurns_few fr w O len cap zs hfr hl hI hc
  · have h2 : 400 < len := by omega
    unfold maxLen at hm
    clear hl hI
    go_enter Try.func9, Try.ntmps9
    go_wp2_with fail
    refine (wakes18_any _).mono ?_
    rintro e wz ⟨rfl, hb⟩
    go_wp2_with fail
    go_ret
    exact ⟨rfl, hb⟩
end Go.Proofs.Ytlhbofgcgfbchaa
