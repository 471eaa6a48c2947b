/-
  ProcMay: what a house comes to may be.
-/
import Derived.Test.YtgfogbifbpadoaaPcEq
import Derived.Test.YtgfogbifbpadoaaPcMayP
namespace Go.Proofs.Ytgfogbifbpadoaa
open Go.RowKit Go.Maps
set_option linter.unusedVariables false
set_option linter.unusedSimpArgs false
variable {w : World} {W : Nat → Prop} {P M K : Nat} {H : Hs}
set_option maxRecDepth 100000 in
set_option maxHeartbeats 16000000 in
theorem may_any (c : Int) (O : Option Addr) (cap : Nat) (xs : List Ac) (w : World) (hc : I64 c) (hX : ActsK w O xs) (hcap : xs.length ≤ cap) (hm : cap ≤ maxLen) :
    Calls Try.prog 4 #[.int .i64 c, .slice O xs.length cap] w fun e w' => e = .returned (.bool true) ∧ Below w.heap.size w w' := by
  have HX := Lib.hid hX
  have HC := Lib.hid hc
  have hc0 := hc.1
  have hc1 := hc.2
  clear hX hc
  by_cases h18 : 1 ≤ c ∧ c ≤ 8
  · obtain ⟨h1, h8⟩ := h18
    go_enter Try.func4, Try.ntmps4
    go_wp2_with fail
    refine (pcNew_yes c w h1 h8).mono ?_
    rintro e w1 ⟨P, M, rfl, hH, hP, hM, hB⟩
    have HP := Lib.hid hP
    have HM := Lib.hid hM
    have HH := Lib.hid hH
    have HB1 := Lib.hid hB
    clear hP hM hH hB
    go_wp2_with fail
    refine (pcGreat_any O cap xs (HX.out.call HB1.out) hcap hm).mono ?_
    rintro e w2 ⟨⟨b, rfl, hgr⟩, rfl⟩
    rcases b with _ | _
    · have hlen := hgr rfl
      clear hgr
      go_wp2_with fail
      refine (rNew_yes c w1 h1 h8).mono ?_
      rintro e w2 ⟨rfl, hw2⟩
      have hPl := HH.out.lt P HH.out.WP
      have hMl := HH.out.lt M HH.out.WM
      obtain ⟨Q, hQ⟩ : ∃ Q, Q = w1.heap.size := ⟨_, rfl⟩
      have hB2 : Below w1.heap.size w1 w2 := by rw [hw2]; exact ba (Below.refl _ _) _
      have HW0 : ∀ y, PMQ P M Q y → w.heap.size ≤ y := by
        have := HB1.out.size
        have := HP.out
        have := HM.out
        rintro y (rfl | rfl | rfl) <;> omega
      have hbo : Bo c w2 (PMQ P M Q) P M Q 0 := by
        refine ⟨⟨Hs.z c, ?_, Inv.made c ⟨h1, h8⟩, rfl⟩, ⟨Rh.z, ?_⟩, by omega, by omega⟩
        · have h := HH.out.call hB2
          refine ⟨h.room, h.c0, h.th, h.sp, h.c1, h.map, fun n _ => spz_ok _ _, .inl rfl, .inr (.inl rfl), h.ne, fun y hy => ?_⟩
          have : w2.heap.size = w1.heap.size + 1 := by rw [hw2]; simp
          rcases hy with rfl | rfl | rfl <;> omega
        · rw [hw2, hQ]
          exact rh_made c w1 (fun y hy => by rcases hy with rfl | rfl | rfl <;> omega) (by rw [← hQ]; exact .inr (.inr rfl))
      have HBO := Lib.hid hbo
      have HB2 := Lib.hid (bthen HB1.out hB2)
      have HWW := Lib.hid HW0
      rw [← hQ]
      clear hB2 hw2 hQ hbo HW0 hPl hMl HH HB1
      go_upto_region 5 with fail
      go_wp2_with fail
      go_loopw [45] (fun i wr => ∃ k : Nat, i = .int .i64 k ∧ k ≤ xs.length ∧ Bo c wr (PMQ P M Q) P M Q k ∧ Below w.heap.size w wr) (fun i _ => xs.length - (intOf i).toNat)
      case atStart => exact ⟨0, rfl, by omega, HBO.out, HB2.out⟩
      case round =>
        clear HBO HB2
        obtain ⟨k, rfl, hk, hbo, hB⟩ := hrel
        have HBO := Lib.hid hbo
        have HB := Lib.hid hB
        clear hbo hB
        by_cases hlt : k < xs.length
        · obtain ⟨x, hx⟩ : ∃ x, xs[k]? = some x := ⟨_, List.getElem?_eq_getElem hlt⟩
          obtain ⟨bb, off, hO, hrg⟩ := act_range HX.out.1 HB.out hx
          subst hO
          have HG := Lib.hid ((HX.out.2 x (List.mem_of_getElem? hx)))
          have HR := Lib.hid hrg
          have HKz := Lib.hid (Bk.new wr 40 azC)
          clear hrg hx
          go_upto_region 8 with (first | refine get_act rfl _ rfl bb (off + k * 21) x rfl HR.out ?_ | refine box_act rfl _ _ rfl wr.heap.size x _ rfl rfl HKz.out rfl ?_)
          refine (show ∀ W8 : World, Below wr.heap.size wr W8 → Bk W8 wr.heap.size 40 (acC x).toArray → Code.wp _ _ _ _ W8 from fun W8 hb8 hk8 => ?_) _ (brow (ba (Below.refl _ _) _) (Nat.le_refl _) _) (HKz.out.row _)
          have HB8 := Lib.hid (bthen HB.out hb8)
          have HBO8 := Lib.hid (HBO.out.call hb8)
          have HK8 := Lib.hid hk8
          clear hb8 hk8 HKz HR HBO
          go_wp2_with (refine unbox_act rfl _ rfl wr.heap.size x rfl HK8.out ?_)
          refine (asks_any x (HG.out.call HB8.out) ((rf_given HG.out.row HWW.out).keep (Keeps.of_below (F := fun _ => False) HB8.out) (fun _ hf => hf.elim)) ((rf_given HG.out.S.row HWW.out).keep (Keeps.of_below (F := fun _ => False) HB8.out) (fun _ hf => hf.elim)) HBO8.out (by omega)).mono ?_
          rintro e w9 ⟨⟨bq, rfl⟩, hbo9, hk9⟩
          have HBO9 := Lib.hid hbo9
          have HB9 := Lib.hid (hk9.below HB8.out HWW.out)
          clear hbo9 hk9 HBO8 HB8 HK8 HG HB
          obtain ⟨H, hH, hI, hcr⟩ := HBO9.out.h
          have HH := Lib.hid hH
          have HI := Lib.hid hI
          have HCR := Lib.hid hcr
          clear hH hI hcr
          go_upto_region 11 with fail
          refine (show ∀ W11 : World, Below w9.heap.size w9 W11 → Bk W11 w9.heap.size 51 (lvA H 1) → Bk W11 (w9.heap.size + 1) 52 (onA H 1) → Code.wp _ _ _ _ W11 from fun W11 hb11 hl11 ho11 => ?_) _ (ba (ba (Below.refl _ _) _) _) (by rw [lvA_one]; exact (Bk.new w9 _ _).call (ba (Below.refl _ _) _)) (by rw [onA_one]; have h := Bk.new (w9.alloc (.cells #[.int .i64 0, .int .i64 0, .int .i64 0, .int .i64 0, .int .i64 0, .int .i64 0, .int .i64 0] 51)) 52 #[.bool false, .bool false, .bool false, .bool false, .bool false, .bool false, .bool false, .bool false, .bool false]; rw [World.size_alloc] at h; exact h)
          have HL11 := Lib.hid hl11
          have HO11 := Lib.hid ho11
          have HB11 := Lib.hid hb11
          clear hb11 hl11 ho11
          go_wp2_with fail
          go_loopw [13] (fun i wx => ∃ n : Nat, i = .int .i64 n ∧ 1 ≤ n ∧ n ≤ 9 ∧ Bk wx w9.heap.size 51 (lvA H n) ∧ Bk wx (w9.heap.size + 1) 52 (onA H n) ∧ Below w9.heap.size w9 wx) (fun i _ => 9 - (intOf i).toNat)
          case atStart => exact ⟨1, rfl, by omega, by omega, HL11.out, HO11.out, HB11.out⟩
          case round =>
            clear HL11 HO11 HB11
            obtain ⟨n, rfl, n1, n9, hl, ho, hb⟩ := hrel
            have HL := Lib.hid hl
            have HO := Lib.hid ho
            have HBx := Lib.hid hb
            clear hl ho hb
            by_cases hlt : n < 9
            · have HHx := Lib.hid (HH.out.call HBx.out)
              have hth : ∃ T E, (if thereB H (n : Int) then thV (H.th ((n : Int)).toNat) 0 else thV Th.z 4) = thV T E ∧ (((H.th n).sp = 0 ∧ E = 4) ∨ ((H.th n).sp ≠ 0 ∧ E = 0 ∧ T = H.th n)) := by
                rw [thereB_nat H n1 (by omega), Int.toNat_natCast]
                by_cases h0 : (H.th n).sp = 0
                · exact ⟨Th.z, 4, by simp [h0], .inl ⟨h0, rfl⟩⟩
                · exact ⟨H.th n, 0, by simp [h0], .inr ⟨h0, rfl, rfl⟩⟩
              obtain ⟨T, E, hTE, hor⟩ := hth
              have HTE := Lib.hid hTE
              have HOR := Lib.hid hor
              clear hTE hor
              go_wp2_with fail
              refine (pcThread_any n ⟨by omega, by omega⟩ HHx.out).mono ?_
              rintro e wt ⟨rfl, hbt⟩
              rw [HTE.out]
              have HBt := Lib.hid (bthen HBx.out hbt)
              have HLt := Lib.hid (HL.out.call hbt)
              have HOt := Lib.hid (HO.out.call hbt)
              clear hbt HBx HL HO HHx HTE
              simp only [thV]
              have HKz := Lib.hid (Bk.new wt 36 (thC Th.z).toArray)
              go_upto_region 15 with (refine box_th rfl _ _ rfl wt.heap.size T _ rfl rfl HKz.out rfl ?_)
              refine (show ∀ W15 : World, Below wt.heap.size wt W15 → Bk W15 wt.heap.size 36 (thC T).toArray → Code.wp _ _ _ _ W15 from fun W15 hb hk => ?_) _ (brow (ba (Below.refl _ _) _) (Nat.le_refl _) _) (HKz.out.row _)
              have HB15 := Lib.hid (bthen HBt.out hb)
              have HL15 := Lib.hid (HLt.out.call hb)
              have HO15 := Lib.hid (HOt.out.call hb)
              have hbx := HLt.out.lt
              have hby := HOt.out.lt
              have HK15 := Lib.hid hk
              clear hb hk HKz HBt HLt HOt
              obtain ⟨g, hg⟩ : ∃ g, wt.heap.size = g := ⟨_, rfl⟩
              rw [hg] at HK15 hbx hby ⊢
              clear hg
              rcases HOR.out with ⟨h0, rfl⟩ | ⟨h0, rfl, rfl⟩
              · have HS1 := Lib.hid (lvA_same H n1 (.inl h0))
                have HS2 := Lib.hid (onA_same H n1 (gone_core HI.out n1 (by omega) h0))
                clear h0 HOR
                go_wp2_with fail
                go_roundw
                case rel => exact ⟨n + 1, by go_num, by omega, by omega, by rw [HS1.out]; exact HL15.out, by rw [HS2.out]; exact HO15.out, HB15.out⟩
                case measure => simp [intOf]; omega
              · clear HOR
                obtain ⟨q, hq, hthr⟩ := HI.out.there n (by omega) h0
                have hq6 := (HI.out.sp n (by omega)).2
                have q1 : 1 ≤ q := by omega
                have q6 : q ≤ 6 := by omega
                have hst : sthereB H (q : Int) = true := by
                  rw [sthereB_nat H q1 q6]
                  have : ((H.sp q).thr == 0) = false := beq_eq_false_iff_ne.2 (by omega)
                  rw [this]; rfl
                have HQ := Lib.hid hq
                obtain ⟨x0, -⟩ := HK15.out.th
                rw [hq] at x0
                have HST := Lib.hid hst
                clear hq hq6 h0 hst hthr
                go_wp2_with fail
                have hspc : ∃ sq eq, sq = H.sp q ∧ eq = 0 ∧ Calls Try.prog 12 #[.pointer (some ⟨P, 0, none⟩), .int .i64 ((q : Nat) : Int)] W15 fun e w' => STold (PMQ P M Q) W15 w' e sq eq := ⟨_, _, by rw [HST.out]; exact congrArg H.sp (Int.toNat_natCast q), by rw [HST.out]; rfl, pcSpace_any q ⟨by omega, by omega⟩ (HH.out.call HB15.out)⟩
                obtain ⟨sq, eq, rfl, rfl, hspc⟩ := hspc
                refine hspc.mono ?_
                rintro e ws ⟨s1, rfl, -, -, -, hbs⟩
                have HBs := Lib.hid (bthen HB15.out hbs)
                have HLs := Lib.hid (HL15.out.call hbs)
                have HOs := Lib.hid (HO15.out.call hbs)
                have HKs := Lib.hid (HK15.out.call hbs)
                clear hbs HB15 HL15 HO15 HK15 x0 hspc HST
                simp only [spV]
                have HKy := Lib.hid (Bk.new ws 38 (spC Spc.z).toArray)
                go_upto_region 17 with (refine box_sp rfl _ _ rfl ws.heap.size s1 _ rfl rfl HKy.out rfl ?_)
                refine (show ∀ W17 : World, Below ws.heap.size ws W17 → Code.wp _ _ _ _ W17 from fun W17 hb => ?_) _ (brow (ba (Below.refl _ _) _) (Nat.le_refl _) _)
                have HB17 := Lib.hid (bthen HBs.out hb)
                have HL17 := Lib.hid (HLs.out.call hb)
                have HO17 := Lib.hid (HOs.out.call hb)
                have HK17 := Lib.hid (HKs.out.call hb)
                clear hb HKy HBs HLs HOs HKs
                obtain ⟨x0, -, -, -, -, -, -, -, -, x9, x10, x11⟩ := HK17.out.th
                rw [HQ.out] at x0
                have hpc := HI.out.pc n (by omega)
                obtain ⟨pc, hpc'⟩ : ∃ pc, (H.th n).pc = pc := ⟨_, rfl⟩
                rw [hpc'] at x9 hpc
                clear hpc'
                by_cases hco : (H.th n).core = 0
                · rw [hco] at x10
                  have HSC := Lib.hid (onA_same H n1 hco)
                  clear hco
                  go_upto_region 24 with fail
                  refine (show ∀ W24 : World, Bk W24 g 36 (thC (H.th n)).toArray → Bk W24 w9.heap.size 51 (lvA H n) → Bk W24 (w9.heap.size + 1) 52 (onA H (n + 1)) → Below w9.heap.size w9 W24 → Code.wp _ _ _ _ W24 from fun W24 hk24 hl24 ho24 hb24 => ?_) _ HK17.out HL17.out (by rw [HSC.out]; exact HO17.out) HB17.out
                  clear x0 x9 x10 x11 hpc HK17 HL17 HO17 HB17 HSC
                  obtain ⟨x0, -, -, -, -, -, -, -, -, -, -, x11⟩ := hk24.th
                  rw [HQ.out] at x0
                  have y0 := (hl24.cell q).trans (lvA_at H n (by omega))
                  have yf := hl24.frozen q
                  have HL24 := Lib.hid hl24
                  have HO24 := Lib.hid ho24
                  have HB24 := Lib.hid hb24
                  clear hk24 hl24 ho24 hb24
                  rcases hdd : (H.th n).dead with _ | _
                  · rw [hdd] at x11
                    have HDD := Lib.hid hdd
                    have hle : lvI H n q ≤ 9 := by unfold lvI; split; omega; exact Nat.le_trans (lvF_le _ _ _) n9
                    have HSET := Lib.hid (lvA_set H n1 HQ.out q1 q6 HDD.out)
                    clear hdd
                    obtain ⟨m, hm⟩ : ∃ m, lvI H n q = m := ⟨_, rfl⟩
                    rw [hm] at y0 hle HSET
                    clear hm
                    go_wp2_with fail
                    go_roundw
                    case rel => exact ⟨n + 1, by go_num, by omega, by omega, by rw [← HSET.out]; exact HL24.out.set q _, HO24.out.far (by show _ ≠ w9.heap.size; omega) _, bs HB24.out (by show _ ≤ w9.heap.size; omega) _⟩
                    case measure => simp [intOf]; omega
                  · rw [hdd] at x11
                    have HSAME := Lib.hid (lvA_same H n1 (.inr hdd))
                    clear hdd
                    go_wp2_with fail
                    go_roundw
                    case rel => exact ⟨n + 1, by go_num, by omega, by omega, by rw [HSAME.out]; exact HL24.out, HO24.out, HB24.out⟩
                    case measure => simp [intOf]; omega
                · obtain ⟨c0, c1⟩ := HI.out.core n (by omega)
                  rw [HCR.out] at c1
                  obtain ⟨j, hj⟩ := Int.eq_ofNat_of_zero_le c0
                  obtain ⟨hon, hdd, -⟩ := HI.out.runs n n1 (by omega) hco
                  have hfr := onF_fresh HI.out n1 (by omega) hco
                  rw [hdd] at x11
                  rw [hj] at x10 c1 hon hfr
                  have j1 : 1 ≤ j := by omega
                  have j8 : j ≤ 8 := by omega
                  have HSC := Lib.hid (onA_set H n1 hj j1 j8)
                  have HJ := Lib.hid hj
                  have HON := Lib.hid hon
                  have y1 := (HO17.out.cell j).trans (onA_at H n (by omega))
                  rw [hfr] at y1
                  have yf := HO17.out.frozen j
                  clear hco c0 hj hdd hfr hon
                  go_upto_region 21 with fail
                  refine (show ∀ W21 : World, Bk W21 g 36 (thC (H.th n)).toArray → Bk W21 w9.heap.size 51 (lvA H n) → Bk W21 (w9.heap.size + 1) 52 (onA H (n + 1)) → Below w9.heap.size w9 W21 → Code.wp _ _ _ _ W21 from fun W21 hk24 hl24 ho24 hb24 => ?_) _ (HK17.out.far (by show _ ≠ w9.heap.size + 1; omega) _) (HL17.out.far (by show _ ≠ w9.heap.size + 1; omega) _) (by rw [← HSC.out]; exact HO17.out.set j _) (bs HB17.out (by show _ ≤ w9.heap.size + 1; omega) _)
                  obtain ⟨-, -, -, -, -, -, -, -, -, -, z10, -⟩ := hk24.th
                  rw [HJ.out] at z10
                  clear x0 x9 x10 x11 y1 yf hpc HK17 HL17 HO17 HB17 HSC
                  have HK24 := Lib.hid hk24
                  have HL24 := Lib.hid hl24
                  have HO24 := Lib.hid ho24
                  have HB24 := Lib.hid hb24
                  clear hk24 hl24 ho24 hb24
                  go_wp2_with fail
                  have hoc : Calls Try.prog 16 #[.pointer (some ⟨P, 0, none⟩), .int .i64 ((j : Nat) : Int)] W21 fun e w' => e = .returned (.tuple #[.int .i64 ((n : Nat) : Int), .bool true]) ∧ W21 = w' := by
                    have h := pcOn_any (j : Int) ⟨by omega, by omega⟩ (HH.out.call HB24.out)
                    rw [HON.out] at h
                    exact h
                  refine hoc.mono ?_
                  rintro e w' ⟨rfl, rfl⟩
                  clear hoc
                  go_upto_region 24 with fail
                  refine (show ∀ W24 : World, Bk W24 g 36 (thC (H.th n)).toArray → Bk W24 w9.heap.size 51 (lvA H n) → Bk W24 (w9.heap.size + 1) 52 (onA H (n + 1)) → Below w9.heap.size w9 W24 → Code.wp _ _ _ _ W24 from fun W24 hk24 hl24 ho24 hb24 => ?_) _ HK24.out HL24.out HO24.out HB24.out
                  clear HK24 HL24 HO24 HB24 z10
                  obtain ⟨x0, -, -, -, -, -, -, -, -, -, -, x11⟩ := hk24.th
                  rw [HQ.out] at x0
                  have y0 := (hl24.cell q).trans (lvA_at H n (by omega))
                  have yf := hl24.frozen q
                  have HL24 := Lib.hid hl24
                  have HO24 := Lib.hid ho24
                  have HB24 := Lib.hid hb24
                  clear hk24 hl24 ho24 hb24
                  rcases hdd : (H.th n).dead with _ | _
                  · rw [hdd] at x11
                    have HDD := Lib.hid hdd
                    have hle : lvI H n q ≤ 9 := by unfold lvI; split; omega; exact Nat.le_trans (lvF_le _ _ _) n9
                    have HSET := Lib.hid (lvA_set H n1 HQ.out q1 q6 HDD.out)
                    clear hdd
                    obtain ⟨m, hm⟩ : ∃ m, lvI H n q = m := ⟨_, rfl⟩
                    rw [hm] at y0 hle HSET
                    clear hm
                    go_wp2_with fail
                    go_roundw
                    case rel => exact ⟨n + 1, by go_num, by omega, by omega, by rw [← HSET.out]; exact HL24.out.set q _, HO24.out.far (by show _ ≠ w9.heap.size; omega) _, bs HB24.out (by show _ ≤ w9.heap.size; omega) _⟩
                    case measure => simp [intOf]; omega
                  · rw [hdd] at x11
                    have HSAME := Lib.hid (lvA_same H n1 (.inr hdd))
                    clear hdd
                    go_wp2_with fail
                    go_roundw
                    case rel => exact ⟨n + 1, by go_num, by omega, by omega, by rw [HSAME.out]; exact HL24.out, HO24.out, HB24.out⟩
                    case measure => simp [intOf]; omega
            · obtain rfl : n = 9 := by omega
              go_upto_region 26 with fail
              refine (show ∀ W26 : World, Bk W26 w9.heap.size 51 (lvA H 9) → Bk W26 (w9.heap.size + 1) 52 (onA H 9) → Below w9.heap.size w9 W26 → Code.wp _ _ _ _ W26 from fun W26 hl hoo hb => ?_) _ HL.out HO.out HBx.out
              have HL26 := Lib.hid hl
              have HO26 := Lib.hid hoo
              have HB26 := Lib.hid hb
              clear hl hoo hb HL HO HBx
              go_wp2_with fail
              go_loopw [20] (fun i wx => ∃ n : Nat, i = .int .i64 n ∧ 1 ≤ n ∧ n ≤ 7 ∧ Bk wx w9.heap.size 51 (lvA H 9) ∧ Bk wx (w9.heap.size + 1) 52 (onA H 9) ∧ Below w9.heap.size w9 wx) (fun i _ => 7 - (intOf i).toNat)
              case atStart => exact ⟨1, rfl, by omega, by omega, HL26.out, HO26.out, HB26.out⟩
              case round =>
                clear HL26 HO26 HB26 n1 n9 hlt
                obtain ⟨n, rfl, n1, n7, hl, hoo, hb⟩ := hrel
                have HL := Lib.hid hl
                have HO := Lib.hid hoo
                have HBx := Lib.hid hb
                clear hl hoo hb
                by_cases hlt : n < 7
                · have hn := n1
                  clear hn
                  have HHx := Lib.hid (HH.out.call HBx.out)
                  have hspc : ∃ (sq : Spc) (eq : Int), Calls Try.prog 12 #[.pointer (some ⟨P, 0, none⟩), .int .i64 ((n : Nat) : Int)] wr (fun e w' => STold (PMQ P M Q) wr w' e sq eq) ∧ ((eq = 0 ∧ sq = H.sp n ∧ 1 ≤ lvI H 9 n) ∨ (eq = 4 ∧ lvI H 9 n = 0)) := by
                    have h := pcSpace_any (n : Int) ⟨by omega, by omega⟩ HHx.out
                    have hl : lvI H 9 n = cntL H n := by unfold lvI; rw [if_neg (by omega), lvF_nine]
                    have hthr := HI.out.thr n n1 (by omega)
                    rcases hs : sthereB H (n : Int) with _ | _
                    · rw [hs] at h
                      exact ⟨_, _, h, .inr ⟨rfl, by rw [hl]; exact cnt_gone HI.out n1 (by omega) hs⟩⟩
                    · rw [hs] at h
                      refine ⟨_, _, h, .inl ⟨rfl, rfl, ?_⟩⟩
                      rw [sthereB_nat H n1 (by omega)] at hs
                      have : (H.sp n).thr ≠ 0 := by simpa using hs
                      rw [hl]; omega
                  obtain ⟨sq, eq, hspc, hor⟩ := hspc
                  have HOR := Lib.hid hor
                  have HSPC := Lib.hid hspc
                  clear hor hspc HHx
                  go_wp2_with fail
                  refine HSPC.out.mono ?_
                  rintro e ws ⟨s1, rfl, hse, hrf, hcp, hbs⟩
                  have HSE := Lib.hid hse
                  have HRF := Lib.hid hrf
                  have HCP := Lib.hid hcp
                  have HBs := Lib.hid (bthen HBx.out hbs)
                  have HLs := Lib.hid (HL.out.call hbs)
                  have HOs := Lib.hid (HO.out.call hbs)
                  clear hbs HBx HL HO HSPC hse hrf hcp
                  simp only [spV]
                  have HKy := Lib.hid (Bk.new ws 38 (spC Spc.z).toArray)
                  go_upto_region 30 with (refine box_sp rfl _ _ rfl ws.heap.size s1 _ rfl rfl HKy.out rfl ?_)
                  refine (show ∀ W30 : World, Below ws.heap.size ws W30 → Bk W30 ws.heap.size 38 (spC s1).toArray → Code.wp _ _ _ _ W30 from fun W30 hb hk => ?_) _ (brow (ba (Below.refl _ _) _) (Nat.le_refl _) _) (HKy.out.row _)
                  have HB30 := Lib.hid (bthen HBs.out hb)
                  have HL30 := Lib.hid (HLs.out.call hb)
                  have HO30 := Lib.hid (HOs.out.call hb)
                  have HR30 := Lib.hid (HRF.out.1.call hb)
                  have hbx := HL30.out.lt
                  have hby := hk.lt
                  obtain ⟨x0, x1, -⟩ := hk.spc
                  clear hb hk HKy HBs HLs HOs HRF
                  obtain ⟨g, hg⟩ : ∃ g, ws.heap.size = g := ⟨_, rfl⟩
                  rw [hg] at x0 x1 hby ⊢
                  clear hg
                  have y1 := (HL30.out.cell n).trans (lvA_at H 9 (by omega))
                  have hm9 : lvI H 9 n ≤ 9 := by unfold lvI; split; omega; exact lvF_le _ _ _
                  have hthr := HI.out.thr n n1 (by omega)
                  have hlv : lvI H 9 n = cntL H n := by unfold lvI; rw [if_neg (by omega), lvF_nine]
                  have hn7 : (n : Int) < 7 := by omega
                  rcases HOR.out with ⟨rfl, rfl, hm1⟩ | ⟨rfl, h0⟩
                  · have hck : ckV s1.l = 0 := by unfold ckV; rw [HSE.out.l, (HH.out.rf n (by omega)).2.2]; rfl
                    have HCK := Lib.hid hck
                    have hwf : ∀ i, i < s1.l.length → (rg s1.l i).wf := by rw [HSE.out.l]; exact chk_wf (HH.out.rf n (by omega)).2.2
                    have HWF := Lib.hid hwf
                    rw [HSE.out.thr, hthr, ← hlv] at x1
                    clear hck hwf hthr hlv HOR HSE
                    obtain ⟨m, hm⟩ : ∃ m, lvI H 9 n = m := ⟨_, rfl⟩
                    rw [hm] at y1 hm9 x1 hm1
                    clear hm
                    have hlt1 : decide ((m : Int) < 1) = false := decide_eq_false (by omega)
                    refine wp_region_held_drew (S := fun w' => Below W30.heap.size W30 w') (by kernel_rfl) (bd (Below.refl _ _)) (fun hHeld => ?_)
                    refine wpAnyH_take (i := 0) (oi := ⟨_, _, _, _, _, _⟩) (v := ?vp0) rfl (by kernel_rfl) (by kernel_rfl) (by kernel_rfl) (fun _ _ _ h => h) (Or.inl ⟨by rfl, ?hyp0⟩) hHeld ?restp0
                    case hyp0 => (intro w' hSw; go_simp; (try rw [if_pos hn7]); try with_reducible rfl)
                    try simp only [Act.put, List.setIfInBounds_toArray, List.set_cons_zero, List.set_cons_succ]
                    try simp only [hlt1]
                    refine wpAnyH_take (i := 1) (oi := ⟨_, _, _, _, _, _⟩) (v := ?vp1) rfl (by kernel_rfl) (by kernel_rfl) (by kernel_rfl) (fun _ _ _ h => h) (Or.inl ⟨by rfl, ?hyp1⟩) hHeld ?restp1
                    case hyp1 => (intro w' hSw; go_simp; (try rw [if_pos hn7]); try with_reducible rfl)
                    try simp only [Act.put, List.setIfInBounds_toArray, List.set_cons_zero, List.set_cons_succ]
                    try simp only [hlt1]
                    refine wpAnyH_take (i := 2) (oi := ⟨_, _, _, _, _, _⟩) (v := ?vp2) rfl (by kernel_rfl) (by kernel_rfl) (by kernel_rfl) (fun _ _ _ h => h) (Or.inl ⟨by rfl, ?hyp2⟩) hHeld ?restp2
                    case hyp2 => (intro w' hSw; go_simp; (try rw [if_pos hn7]); try with_reducible rfl)
                    try simp only [Act.put, List.setIfInBounds_toArray, List.set_cons_zero, List.set_cons_succ]
                    try simp only [hlt1]
                    first
                        | (refine wpAnyH_take (i := 3) (oi := ⟨_, _, _, _, _, _⟩) (v := undef) rfl (by kernel_rfl) (by kernel_rfl) (by kernel_rfl) (fun _ _ _ h => h) (Or.inr ⟨by rfl, rfl⟩) hHeld ?_)
                        | (refine wpAnyH_take (i := 3) (oi := ⟨_, _, _, _, _, _⟩) (v := ?vp3) rfl (by kernel_rfl) (by kernel_rfl) (by kernel_rfl) (fun _ _ _ h => h) (Or.inl ⟨by rfl, ?hyp3⟩) hHeld ?restp3; case hyp3 => (intro w' hSw; go_simp; (try rw [if_pos hn7]); try with_reducible rfl))
                    try simp only [Act.put, List.setIfInBounds_toArray, List.set_cons_zero, List.set_cons_succ]
                    try simp only [hlt1]
                    first
                        | (refine wpAnyH_take (i := 4) (oi := ⟨_, _, _, _, _, _⟩) (v := undef) rfl (by kernel_rfl) (by kernel_rfl) (by kernel_rfl) (fun _ _ _ h => h) (Or.inr ⟨by rfl, rfl⟩) hHeld ?_)
                        | (refine wpAnyH_take (i := 4) (oi := ⟨_, _, _, _, _, _⟩) (v := ?vp4) rfl (by kernel_rfl) (by kernel_rfl) (by kernel_rfl) (fun _ _ _ h => h) (Or.inl ⟨by rfl, ?hyp4⟩) hHeld ?restp4; case hyp4 => (intro w' hSw; obtain ⟨hcc, hff⟩ := bcell hSw; go_simp; (try rw [if_pos hn7]); try with_reducible rfl))
                    try simp only [Act.put, List.setIfInBounds_toArray, List.set_cons_zero, List.set_cons_succ]
                    try simp only [hlt1]
                    first
                        | (refine wpAnyH_take (i := 5) (oi := ⟨_, _, _, _, _, _⟩) (v := undef) rfl (by kernel_rfl) (by kernel_rfl) (by kernel_rfl) (fun _ _ _ h => h) (Or.inr ⟨by rfl, rfl⟩) hHeld ?_)
                        | (refine wpAnyH_take (i := 5) (oi := ⟨_, _, _, _, _, _⟩) (v := ?vp5) rfl (by kernel_rfl) (by kernel_rfl) (by kernel_rfl) (fun _ _ _ h => h) (Or.inl ⟨by rfl, ?hyp5⟩) hHeld ?restp5; case hyp5 => (intro w' hSw; go_simp; (try rw [if_pos hn7]); try with_reducible rfl))
                    try simp only [Act.put, List.setIfInBounds_toArray, List.set_cons_zero, List.set_cons_succ]
                    try simp only [hlt1]
                    first
                        | (refine wpAnyH_take (i := 6) (oi := ⟨_, _, _, _, _, _⟩) (v := undef) rfl (by kernel_rfl) (by kernel_rfl) (by kernel_rfl) (fun _ _ _ h => h) (Or.inr ⟨by rfl, rfl⟩) hHeld ?_)
                        | (refine wpAnyH_take (i := 6) (oi := ⟨_, _, _, _, _, _⟩) (v := ?vp6) rfl (by kernel_rfl) (by kernel_rfl) (by kernel_rfl) (fun _ _ _ h => h) (Or.inl ⟨by rfl, ?hyp6⟩) hHeld ?restp6; case hyp6 => (intro w' hSw; go_simp; (try rw [if_pos hn7]); try with_reducible rfl))
                    try simp only [Act.put, List.setIfInBounds_toArray, List.set_cons_zero, List.set_cons_succ]
                    try simp only [hlt1]
                    first
                        | (refine wpAnyH_take (i := 7) (oi := ⟨_, _, _, _, _, _⟩) (v := undef) rfl (by kernel_rfl) (by kernel_rfl) (by kernel_rfl) (fun _ _ _ h => h) (Or.inr ⟨by rfl, rfl⟩) hHeld ?_)
                        | (refine wpAnyH_take (i := 7) (oi := ⟨_, _, _, _, _, _⟩) (v := ?vp7) rfl (by kernel_rfl) (by kernel_rfl) (by kernel_rfl) (fun _ _ _ h => h) (Or.inl ⟨by rfl, ?hyp7⟩) hHeld ?restp7; case hyp7 => (intro w' hSw; obtain ⟨hcc, hff⟩ := bcell hSw; go_simp; (try rw [if_pos hn7]); try with_reducible rfl))
                    try simp only [Act.put, List.setIfInBounds_toArray, List.set_cons_zero, List.set_cons_succ]
                    try simp only [hlt1]
                    first
                        | (refine wpAnyH_take (i := 8) (oi := ⟨_, _, _, _, _, _⟩) (v := undef) rfl (by kernel_rfl) (by kernel_rfl) (by kernel_rfl) (fun _ _ _ h => h) (Or.inr ⟨by rfl, rfl⟩) hHeld ?_)
                        | (refine wpAnyH_take (i := 8) (oi := ⟨_, _, _, _, _, _⟩) (v := ?vp8) rfl (by kernel_rfl) (by kernel_rfl) (by kernel_rfl) (fun _ _ _ h => h) (Or.inl ⟨by rfl, ?hyp8⟩) hHeld ?restp8; case hyp8 => (intro w' hSw; go_simp; (try rw [if_pos hn7]); try with_reducible rfl))
                    try simp only [Act.put, List.setIfInBounds_toArray, List.set_cons_zero, List.set_cons_succ]
                    try simp only [hlt1]
                    first
                        | (refine wpAnyH_take (i := 9) (oi := ⟨_, _, _, _, _, _⟩) (v := undef) rfl (by kernel_rfl) (by kernel_rfl) (by kernel_rfl) (fun _ _ _ h => h) (Or.inr ⟨by rfl, rfl⟩) hHeld ?_)
                        | (refine wpAnyH_take (i := 9) (oi := ⟨_, _, _, _, _, _⟩) (v := ?vp9) rfl (by kernel_rfl) (by kernel_rfl) (by kernel_rfl) (fun _ _ _ h => h) (Or.inl ⟨by rfl, ?hyp9⟩) hHeld ?restp9; case hyp9 => (intro w' hSw; go_simp; (try rw [if_pos hn7]); try with_reducible rfl))
                    try simp only [Act.put, List.setIfInBounds_toArray, List.set_cons_zero, List.set_cons_succ]
                    try simp only [hlt1]
                    first
                        | (refine wpAnyH_take (i := 10) (oi := ⟨_, _, _, _, _, _⟩) (v := undef) rfl (by kernel_rfl) (by kernel_rfl) (by kernel_rfl) (fun _ _ _ h => h) (Or.inr ⟨by rfl, rfl⟩) hHeld ?_)
                        | (refine wpAnyH_take (i := 10) (oi := ⟨_, _, _, _, _, _⟩) (v := ?vp10) rfl (by kernel_rfl) (by kernel_rfl) (by kernel_rfl) (fun _ _ _ h => h) (Or.inl ⟨by rfl, ?hyp10⟩) hHeld ?restp10; case hyp10 => (intro w' hSw; go_simp; (try rw [if_pos hn7]); try with_reducible rfl))
                    try simp only [Act.put, List.setIfInBounds_toArray, List.set_cons_zero, List.set_cons_succ]
                    try simp only [hlt1]
                    first
                        | (refine wpAnyH_take (i := 11) (oi := ⟨_, _, _, _, _, _⟩) (v := undef) rfl (by kernel_rfl) (by kernel_rfl) (by kernel_rfl) (fun _ _ _ h => h) (Or.inr ⟨by rfl, rfl⟩) hHeld ?_)
                        | (refine wpAnyH_take (i := 11) (oi := ⟨_, _, _, _, _, _⟩) (v := ?vp11) rfl (by kernel_rfl) (by kernel_rfl) (by kernel_rfl) (fun _ _ _ h => h) (Or.inl ⟨by rfl, ?hyp11⟩) hHeld ?restp11; case hyp11 => (intro w' hSw; obtain ⟨hcc, hff⟩ := bcell hSw; go_simp; (try rw [if_pos hn7]); try with_reducible rfl))
                    try simp only [Act.put, List.setIfInBounds_toArray, List.set_cons_zero, List.set_cons_succ]
                    try simp only [hlt1]
                    first
                        | (refine wpAnyH_take (i := 12) (oi := ⟨_, _, _, _, _, _⟩) (v := undef) rfl (by kernel_rfl) (by kernel_rfl) (by kernel_rfl) (fun _ _ _ h => h) (Or.inr ⟨by rfl, rfl⟩) hHeld ?_)
                        | (refine wpAnyH_take (i := 12) (oi := ⟨_, _, _, _, _, _⟩) (v := ?vp12) rfl (by kernel_rfl) (by kernel_rfl) (by kernel_rfl) (fun _ _ _ h => h) (Or.inl ⟨by rfl, ?hyp12⟩) hHeld ?restp12; case hyp12 => (intro w' hSw; go_simp; (try rw [if_pos hn7]); try with_reducible rfl))
                    try simp only [Act.put, List.setIfInBounds_toArray, List.set_cons_zero, List.set_cons_succ]
                    try simp only [hlt1]
                    first
                        | (refine wpAnyH_take (i := 13) (oi := ⟨_, _, _, _, _, _⟩) (v := undef) rfl (by kernel_rfl) (by kernel_rfl) (by kernel_rfl) (fun _ _ _ h => h) (Or.inr ⟨by rfl, rfl⟩) hHeld ?_)
                        | (refine wpAnyH_take (i := 13) (oi := ⟨_, _, _, _, _, _⟩) (v := ?vp13) rfl (by kernel_rfl) (by kernel_rfl) (by kernel_rfl) (fun _ _ _ h => h) (Or.inl ⟨by rfl, ?hyp13⟩) hHeld ?restp13; case hyp13 => (intro w' hSw; go_simp; (try rw [if_pos hn7]); try with_reducible rfl))
                    try simp only [Act.put, List.setIfInBounds_toArray, List.set_cons_zero, List.set_cons_succ]
                    try simp only [hlt1]
                    first
                        | (refine wpAnyH_take (i := 14) (oi := ⟨_, _, _, _, _, _⟩) (v := undef) rfl (by kernel_rfl) (by kernel_rfl) (by kernel_rfl) (fun _ _ _ h => h) (Or.inr ⟨by rfl, rfl⟩) hHeld ?_)
                        | (refine wpAnyH_take (i := 14) (oi := ⟨_, _, _, _, _, _⟩) (v := ?vp14) rfl (by kernel_rfl) (by kernel_rfl) (by kernel_rfl) (fun _ _ _ h => h) (Or.inl ⟨by rfl, ?hyp14⟩) hHeld ?restp14; case hyp14 => (intro w' hSw; go_simp; (try rw [if_pos hn7]); try with_reducible rfl))
                    try simp only [Act.put, List.setIfInBounds_toArray, List.set_cons_zero, List.set_cons_succ]
                    try simp only [hlt1]
                    first
                        | (refine wpAnyH_take (i := 15) (oi := ⟨_, _, _, _, _, _⟩) (v := undef) rfl (by kernel_rfl) (by kernel_rfl) (by kernel_rfl) (fun _ _ _ h => h) (Or.inr ⟨by rfl, rfl⟩) hHeld ?_)
                        | (refine wpAnyH_take (i := 15) (oi := ⟨_, _, _, _, _, _⟩) (v := ?vp15) rfl (by kernel_rfl) (by kernel_rfl) (by kernel_rfl) (fun _ _ _ h => h) (Or.inl ⟨by rfl, ?hyp15⟩) hHeld ?restp15; case hyp15 => (intro w' hSw; go_simp; (try rw [if_pos hn7]); try with_reducible rfl))
                    try simp only [Act.put, List.setIfInBounds_toArray, List.set_cons_zero, List.set_cons_succ]
                    try simp only [hlt1]
                    first
                        | (refine wpAnyH_take (i := 16) (oi := ⟨_, _, _, _, _, _⟩) (v := undef) rfl (by kernel_rfl) (by kernel_rfl) (by kernel_rfl) (fun _ _ _ h => h) (Or.inr ⟨by rfl, rfl⟩) hHeld ?_)
                        | (refine wpAnyH_take (i := 16) (oi := ⟨_, _, _, _, _, _⟩) (v := ?vp16) rfl (by kernel_rfl) (by kernel_rfl) (by kernel_rfl) (fun _ _ _ h => h) (Or.inl ⟨by rfl, ?hyp16⟩) hHeld ?restp16; case hyp16 => (intro w' hSw; obtain ⟨hcc, hff⟩ := bcell hSw; go_simp; (try rw [if_pos hn7]); try with_reducible rfl))
                    try simp only [Act.put, List.setIfInBounds_toArray, List.set_cons_zero, List.set_cons_succ]
                    try simp only [hlt1]
                    refine wpAnyH_ready (rs := [17]) (by kernel_rfl) (by simp) ?_
                    refine AllReadyH.cons (o := ⟨_, _, _, _, _, _⟩) rfl (fun K hK => ?_) AllReadyH.nil
                    go_simp
                    refine (r19Check_any s1.O s1.l.length s1.cap s1.l _ (HR30.out.call hHeld) rfl HCP.out HWF.out).mono ?_
                    rintro e wrp1 ⟨rfl, hb⟩
                    rw [HCK.out]
                    go_wp2_with fail
                    have hB2 := bthen hHeld hb
                    clear hHeld hb
                    refine hK.out _ _ hB2 (fun hHeld => ?_)
                    clear hB2 hK K
                    try simp only [Act.put, List.setIfInBounds_toArray, List.set_cons_zero, List.set_cons_succ]
                    try simp only [hlt1]
                    first
                        | (refine wpAnyH_take (i := 18) (oi := ⟨_, _, _, _, _, _⟩) (v := undef) rfl (by kernel_rfl) (by kernel_rfl) (by kernel_rfl) (fun _ _ _ h => h) (Or.inr ⟨by rfl, rfl⟩) hHeld ?_)
                        | (refine wpAnyH_take (i := 18) (oi := ⟨_, _, _, _, _, _⟩) (v := ?vp18) rfl (by kernel_rfl) (by kernel_rfl) (by kernel_rfl) (fun _ _ _ h => h) (Or.inl ⟨by rfl, ?hyp18⟩) hHeld ?restp18; case hyp18 => (intro w' hSw; go_simp; (try rw [if_pos hn7]); try with_reducible rfl))
                    try simp only [Act.put, List.setIfInBounds_toArray, List.set_cons_zero, List.set_cons_succ]
                    try simp only [hlt1]
                    first
                        | (refine wpAnyH_take (i := 19) (oi := ⟨_, _, _, _, _, _⟩) (v := undef) rfl (by kernel_rfl) (by kernel_rfl) (by kernel_rfl) (fun _ _ _ h => h) (Or.inr ⟨by rfl, rfl⟩) hHeld ?_)
                        | (refine wpAnyH_take (i := 19) (oi := ⟨_, _, _, _, _, _⟩) (v := ?vp19) rfl (by kernel_rfl) (by kernel_rfl) (by kernel_rfl) (fun _ _ _ h => h) (Or.inl ⟨by rfl, ?hyp19⟩) hHeld ?restp19; case hyp19 => (intro w' hSw; go_simp; (try rw [if_pos hn7]); try with_reducible rfl))
                    try simp only [Act.put, List.setIfInBounds_toArray, List.set_cons_zero, List.set_cons_succ]
                    try simp only [hlt1]
                    refine wpAnyH_take (i := 20) (oi := ⟨_, _, _, _, _, _⟩) (v := ?vp20) rfl (by kernel_rfl) (by kernel_rfl) (by kernel_rfl) (fun _ _ _ h => h) (Or.inl ⟨by rfl, ?hyp20⟩) hHeld ?restp20
                    case hyp20 => (intro w' hSw; go_simp; (try rw [if_pos hn7]); try with_reducible rfl)
                    try simp only [Act.put, List.setIfInBounds_toArray, List.set_cons_zero, List.set_cons_succ]
                    try simp only [hlt1]
                    refine wpAnyH_take (i := 21) (oi := ⟨_, _, _, _, _, _⟩) (v := ?vp21) rfl (by kernel_rfl) (by kernel_rfl) (by kernel_rfl) (fun _ _ _ h => h) (Or.inl ⟨by rfl, ?hyp21⟩) hHeld ?restp21
                    case hyp21 => (intro w' hSw; go_simp; (try rw [if_pos hn7]); try with_reducible rfl)
                    try simp only [Act.put, List.setIfInBounds_toArray, List.set_cons_zero, List.set_cons_succ]
                    try simp only [hlt1]
                    first
                        | (refine wpAnyH_take (i := 22) (oi := ⟨_, _, _, _, _, _⟩) (v := undef) rfl (by kernel_rfl) (by kernel_rfl) (by kernel_rfl) (fun _ _ _ h => h) (Or.inr ⟨by rfl, rfl⟩) hHeld ?_)
                        | (refine wpAnyH_take (i := 22) (oi := ⟨_, _, _, _, _, _⟩) (v := ?vp22) rfl (by kernel_rfl) (by kernel_rfl) (by kernel_rfl) (fun _ _ _ h => h) (Or.inl ⟨by rfl, ?hyp22⟩) hHeld ?restp22; case hyp22 => (intro w' hSw; go_simp; (try rw [if_pos hn7]); try with_reducible rfl))
                    try simp only [Act.put, List.setIfInBounds_toArray, List.set_cons_zero, List.set_cons_succ]
                    try simp only [hlt1]
                    first
                        | (refine wpAnyH_take (i := 23) (oi := ⟨_, _, _, _, _, _⟩) (v := undef) rfl (by kernel_rfl) (by kernel_rfl) (by kernel_rfl) (fun _ _ _ h => h) (Or.inr ⟨by rfl, rfl⟩) hHeld ?_)
                        | (refine wpAnyH_take (i := 23) (oi := ⟨_, _, _, _, _, _⟩) (v := ?vp23) rfl (by kernel_rfl) (by kernel_rfl) (by kernel_rfl) (fun _ _ _ h => h) (Or.inl ⟨by rfl, ?hyp23⟩) hHeld ?restp23; case hyp23 => (intro w' hSw; go_simp; (try rw [if_pos hn7]); try with_reducible rfl))
                    try simp only [Act.put, List.setIfInBounds_toArray, List.set_cons_zero, List.set_cons_succ]
                    try simp only [hlt1]
                    first
                        | (refine wpAnyH_take (i := 24) (oi := ⟨_, _, _, _, _, _⟩) (v := undef) rfl (by kernel_rfl) (by kernel_rfl) (by kernel_rfl) (fun _ _ _ h => h) (Or.inr ⟨by rfl, rfl⟩) hHeld ?_)
                        | (refine wpAnyH_take (i := 24) (oi := ⟨_, _, _, _, _, _⟩) (v := ?vp24) rfl (by kernel_rfl) (by kernel_rfl) (by kernel_rfl) (fun _ _ _ h => h) (Or.inl ⟨by rfl, ?hyp24⟩) hHeld ?restp24; case hyp24 => (intro w' hSw; go_simp; (try rw [if_pos hn7]); try with_reducible rfl))
                    try simp only [Act.put, List.setIfInBounds_toArray, List.set_cons_zero, List.set_cons_succ]
                    try simp only [hlt1]
                    first
                        | (refine wpAnyH_take (i := 25) (oi := ⟨_, _, _, _, _, _⟩) (v := undef) rfl (by kernel_rfl) (by kernel_rfl) (by kernel_rfl) (fun _ _ _ h => h) (Or.inr ⟨by rfl, rfl⟩) hHeld ?_)
                        | (refine wpAnyH_take (i := 25) (oi := ⟨_, _, _, _, _, _⟩) (v := ?vp25) rfl (by kernel_rfl) (by kernel_rfl) (by kernel_rfl) (fun _ _ _ h => h) (Or.inl ⟨by rfl, ?hyp25⟩) hHeld ?restp25; case hyp25 => (intro w' hSw; go_simp; (try rw [if_pos hn7]); try with_reducible rfl))
                    try simp only [Act.put, List.setIfInBounds_toArray, List.set_cons_zero, List.set_cons_succ]
                    try simp only [hlt1]
                    first
                        | (refine wpAnyH_take (i := 26) (oi := ⟨_, _, _, _, _, _⟩) (v := undef) rfl (by kernel_rfl) (by kernel_rfl) (by kernel_rfl) (fun _ _ _ h => h) (Or.inr ⟨by rfl, rfl⟩) hHeld ?_)
                        | (refine wpAnyH_take (i := 26) (oi := ⟨_, _, _, _, _, _⟩) (v := ?vp26) rfl (by kernel_rfl) (by kernel_rfl) (by kernel_rfl) (fun _ _ _ h => h) (Or.inl ⟨by rfl, ?hyp26⟩) hHeld ?restp26; case hyp26 => (intro w' hSw; go_simp; (try rw [if_pos hn7]); try with_reducible rfl))
                    try simp only [Act.put, List.setIfInBounds_toArray, List.set_cons_zero, List.set_cons_succ]
                    try simp only [hlt1]
                    first
                        | (refine wpAnyH_take (i := 27) (oi := ⟨_, _, _, _, _, _⟩) (v := undef) rfl (by kernel_rfl) (by kernel_rfl) (by kernel_rfl) (fun _ _ _ h => h) (Or.inr ⟨by rfl, rfl⟩) hHeld ?_)
                        | (refine wpAnyH_take (i := 27) (oi := ⟨_, _, _, _, _, _⟩) (v := ?vp27) rfl (by kernel_rfl) (by kernel_rfl) (by kernel_rfl) (fun _ _ _ h => h) (Or.inl ⟨by rfl, ?hyp27⟩) hHeld ?restp27; case hyp27 => (intro w' hSw; obtain ⟨hcc, hff⟩ := bcell hSw; go_simp; (try rw [if_pos hn7]); try with_reducible rfl))
                    try simp only [Act.put, List.setIfInBounds_toArray, List.set_cons_zero, List.set_cons_succ]
                    try simp only [hlt1]
                    first
                        | (refine wpAnyH_take (i := 28) (oi := ⟨_, _, _, _, _, _⟩) (v := undef) rfl (by kernel_rfl) (by kernel_rfl) (by kernel_rfl) (fun _ _ _ h => h) (Or.inr ⟨by rfl, rfl⟩) hHeld ?_)
                        | (refine wpAnyH_take (i := 28) (oi := ⟨_, _, _, _, _, _⟩) (v := ?vp28) rfl (by kernel_rfl) (by kernel_rfl) (by kernel_rfl) (fun _ _ _ h => h) (Or.inl ⟨by rfl, ?hyp28⟩) hHeld ?restp28; case hyp28 => (intro w' hSw; go_simp; (try rw [if_pos hn7]); try with_reducible rfl))
                    try simp only [Act.put, List.setIfInBounds_toArray, List.set_cons_zero, List.set_cons_succ]
                    try simp only [hlt1]
                    first
                        | (refine wpAnyH_take (i := 29) (oi := ⟨_, _, _, _, _, _⟩) (v := undef) rfl (by kernel_rfl) (by kernel_rfl) (by kernel_rfl) (fun _ _ _ h => h) (Or.inr ⟨by rfl, rfl⟩) hHeld ?_)
                        | (refine wpAnyH_take (i := 29) (oi := ⟨_, _, _, _, _, _⟩) (v := ?vp29) rfl (by kernel_rfl) (by kernel_rfl) (by kernel_rfl) (fun _ _ _ h => h) (Or.inl ⟨by rfl, ?hyp29⟩) hHeld ?restp29; case hyp29 => (intro w' hSw; go_simp; (try rw [if_pos hn7]); try with_reducible rfl))
                    try simp only [Act.put, List.setIfInBounds_toArray, List.set_cons_zero, List.set_cons_succ]
                    try simp only [hlt1]
                    refine wpAnyH_take (i := 30) (oi := ⟨_, _, _, _, _, _⟩) (v := ?vp30) rfl (by kernel_rfl) (by kernel_rfl) (by kernel_rfl) (fun _ _ _ h => h) (Or.inl ⟨by rfl, ?hyp30⟩) hHeld ?restp30
                    case hyp30 => (intro w' hSw; go_simp; (try rw [if_pos hn7]); try with_reducible rfl)
                    try simp only [Act.put, List.setIfInBounds_toArray, List.set_cons_zero, List.set_cons_succ]
                    try simp only [hlt1]
                    refine wpAnyH_done (by kernel_rfl) ?_ _
                    have HB31 := Lib.hid (bthen HB30.out hHeld)
                    have HL31 := Lib.hid (HL30.out.call hHeld)
                    have HO31 := Lib.hid (HO30.out.call hHeld)
                    clear hHeld HB30 HL30 HO30
                    go_wp2_with fail
                    go_roundw
                    case rel => (repeat apply Exists.intro); exact ⟨⟨n + 1, by go_num, by omega, by omega, HL31.out, HO31.out, HB31.out⟩, rfl⟩
                    case measure => simp [intOf]; omega
                  · rw [h0] at y1
                    clear h0 hthr hlv hm9 x0 x1 HOR HSE HCP HR30
                    refine wp_region_held_drew (S := fun w' => Below W30.heap.size W30 w') (by kernel_rfl) (bd (Below.refl _ _)) (fun hHeld => ?_)
                    refine wpAnyH_take (i := 0) (oi := ⟨_, _, _, _, _, _⟩) (v := ?vq0) rfl (by kernel_rfl) (by kernel_rfl) (by kernel_rfl) (fun _ _ _ h => h) (Or.inl ⟨by rfl, ?hyq0⟩) hHeld ?restq0
                    case hyq0 => (intro w' hSw; go_simp; (try rw [if_pos hn7]); try with_reducible rfl)
                    try simp only [Act.put, List.setIfInBounds_toArray, List.set_cons_zero, List.set_cons_succ]
                    try simp only [Int.add_zero]
                    refine wpAnyH_take (i := 1) (oi := ⟨_, _, _, _, _, _⟩) (v := ?vq1) rfl (by kernel_rfl) (by kernel_rfl) (by kernel_rfl) (fun _ _ _ h => h) (Or.inl ⟨by rfl, ?hyq1⟩) hHeld ?restq1
                    case hyq1 => (intro w' hSw; go_simp; (try rw [if_pos hn7]); try with_reducible rfl)
                    try simp only [Act.put, List.setIfInBounds_toArray, List.set_cons_zero, List.set_cons_succ]
                    try simp only [Int.add_zero]
                    refine wpAnyH_take (i := 2) (oi := ⟨_, _, _, _, _, _⟩) (v := ?vq2) rfl (by kernel_rfl) (by kernel_rfl) (by kernel_rfl) (fun _ _ _ h => h) (Or.inl ⟨by rfl, ?hyq2⟩) hHeld ?restq2
                    case hyq2 => (intro w' hSw; go_simp; (try rw [if_pos hn7]); try with_reducible rfl)
                    try simp only [Act.put, List.setIfInBounds_toArray, List.set_cons_zero, List.set_cons_succ]
                    try simp only [Int.add_zero]
                    first
                        | (refine wpAnyH_take (i := 3) (oi := ⟨_, _, _, _, _, _⟩) (v := undef) rfl (by kernel_rfl) (by kernel_rfl) (by kernel_rfl) (fun _ _ _ h => h) (Or.inr ⟨by rfl, rfl⟩) hHeld ?_)
                        | (refine wpAnyH_take (i := 3) (oi := ⟨_, _, _, _, _, _⟩) (v := ?vq3) rfl (by kernel_rfl) (by kernel_rfl) (by kernel_rfl) (fun _ _ _ h => h) (Or.inl ⟨by rfl, ?hyq3⟩) hHeld ?restq3; case hyq3 => (intro w' hSw; go_simp; (try rw [if_pos hn7]); try with_reducible rfl))
                    try simp only [Act.put, List.setIfInBounds_toArray, List.set_cons_zero, List.set_cons_succ]
                    try simp only [Int.add_zero]
                    first
                        | (refine wpAnyH_take (i := 4) (oi := ⟨_, _, _, _, _, _⟩) (v := undef) rfl (by kernel_rfl) (by kernel_rfl) (by kernel_rfl) (fun _ _ _ h => h) (Or.inr ⟨by rfl, rfl⟩) hHeld ?_)
                        | (refine wpAnyH_take (i := 4) (oi := ⟨_, _, _, _, _, _⟩) (v := ?vq4) rfl (by kernel_rfl) (by kernel_rfl) (by kernel_rfl) (fun _ _ _ h => h) (Or.inl ⟨by rfl, ?hyq4⟩) hHeld ?restq4; case hyq4 => (intro w' hSw; obtain ⟨hcc, hff⟩ := bcell hSw; go_simp; (try rw [if_pos hn7]); try with_reducible rfl))
                    try simp only [Act.put, List.setIfInBounds_toArray, List.set_cons_zero, List.set_cons_succ]
                    try simp only [Int.add_zero]
                    first
                        | (refine wpAnyH_take (i := 5) (oi := ⟨_, _, _, _, _, _⟩) (v := undef) rfl (by kernel_rfl) (by kernel_rfl) (by kernel_rfl) (fun _ _ _ h => h) (Or.inr ⟨by rfl, rfl⟩) hHeld ?_)
                        | (refine wpAnyH_take (i := 5) (oi := ⟨_, _, _, _, _, _⟩) (v := ?vq5) rfl (by kernel_rfl) (by kernel_rfl) (by kernel_rfl) (fun _ _ _ h => h) (Or.inl ⟨by rfl, ?hyq5⟩) hHeld ?restq5; case hyq5 => (intro w' hSw; go_simp; (try rw [if_pos hn7]); try with_reducible rfl))
                    try simp only [Act.put, List.setIfInBounds_toArray, List.set_cons_zero, List.set_cons_succ]
                    try simp only [Int.add_zero]
                    first
                        | (refine wpAnyH_take (i := 6) (oi := ⟨_, _, _, _, _, _⟩) (v := undef) rfl (by kernel_rfl) (by kernel_rfl) (by kernel_rfl) (fun _ _ _ h => h) (Or.inr ⟨by rfl, rfl⟩) hHeld ?_)
                        | (refine wpAnyH_take (i := 6) (oi := ⟨_, _, _, _, _, _⟩) (v := ?vq6) rfl (by kernel_rfl) (by kernel_rfl) (by kernel_rfl) (fun _ _ _ h => h) (Or.inl ⟨by rfl, ?hyq6⟩) hHeld ?restq6; case hyq6 => (intro w' hSw; go_simp; (try rw [if_pos hn7]); try with_reducible rfl))
                    try simp only [Act.put, List.setIfInBounds_toArray, List.set_cons_zero, List.set_cons_succ]
                    try simp only [Int.add_zero]
                    first
                        | (refine wpAnyH_take (i := 7) (oi := ⟨_, _, _, _, _, _⟩) (v := undef) rfl (by kernel_rfl) (by kernel_rfl) (by kernel_rfl) (fun _ _ _ h => h) (Or.inr ⟨by rfl, rfl⟩) hHeld ?_)
                        | (refine wpAnyH_take (i := 7) (oi := ⟨_, _, _, _, _, _⟩) (v := ?vq7) rfl (by kernel_rfl) (by kernel_rfl) (by kernel_rfl) (fun _ _ _ h => h) (Or.inl ⟨by rfl, ?hyq7⟩) hHeld ?restq7; case hyq7 => (intro w' hSw; obtain ⟨hcc, hff⟩ := bcell hSw; go_simp; (try rw [if_pos hn7]); try with_reducible rfl))
                    try simp only [Act.put, List.setIfInBounds_toArray, List.set_cons_zero, List.set_cons_succ]
                    try simp only [Int.add_zero]
                    first
                        | (refine wpAnyH_take (i := 8) (oi := ⟨_, _, _, _, _, _⟩) (v := undef) rfl (by kernel_rfl) (by kernel_rfl) (by kernel_rfl) (fun _ _ _ h => h) (Or.inr ⟨by rfl, rfl⟩) hHeld ?_)
                        | (refine wpAnyH_take (i := 8) (oi := ⟨_, _, _, _, _, _⟩) (v := ?vq8) rfl (by kernel_rfl) (by kernel_rfl) (by kernel_rfl) (fun _ _ _ h => h) (Or.inl ⟨by rfl, ?hyq8⟩) hHeld ?restq8; case hyq8 => (intro w' hSw; go_simp; (try rw [if_pos hn7]); try with_reducible rfl))
                    try simp only [Act.put, List.setIfInBounds_toArray, List.set_cons_zero, List.set_cons_succ]
                    try simp only [Int.add_zero]
                    first
                        | (refine wpAnyH_take (i := 9) (oi := ⟨_, _, _, _, _, _⟩) (v := undef) rfl (by kernel_rfl) (by kernel_rfl) (by kernel_rfl) (fun _ _ _ h => h) (Or.inr ⟨by rfl, rfl⟩) hHeld ?_)
                        | (refine wpAnyH_take (i := 9) (oi := ⟨_, _, _, _, _, _⟩) (v := ?vq9) rfl (by kernel_rfl) (by kernel_rfl) (by kernel_rfl) (fun _ _ _ h => h) (Or.inl ⟨by rfl, ?hyq9⟩) hHeld ?restq9; case hyq9 => (intro w' hSw; go_simp; (try rw [if_pos hn7]); try with_reducible rfl))
                    try simp only [Act.put, List.setIfInBounds_toArray, List.set_cons_zero, List.set_cons_succ]
                    try simp only [Int.add_zero]
                    first
                        | (refine wpAnyH_take (i := 10) (oi := ⟨_, _, _, _, _, _⟩) (v := undef) rfl (by kernel_rfl) (by kernel_rfl) (by kernel_rfl) (fun _ _ _ h => h) (Or.inr ⟨by rfl, rfl⟩) hHeld ?_)
                        | (refine wpAnyH_take (i := 10) (oi := ⟨_, _, _, _, _, _⟩) (v := ?vq10) rfl (by kernel_rfl) (by kernel_rfl) (by kernel_rfl) (fun _ _ _ h => h) (Or.inl ⟨by rfl, ?hyq10⟩) hHeld ?restq10; case hyq10 => (intro w' hSw; go_simp; (try rw [if_pos hn7]); try with_reducible rfl))
                    try simp only [Act.put, List.setIfInBounds_toArray, List.set_cons_zero, List.set_cons_succ]
                    try simp only [Int.add_zero]
                    first
                        | (refine wpAnyH_take (i := 11) (oi := ⟨_, _, _, _, _, _⟩) (v := undef) rfl (by kernel_rfl) (by kernel_rfl) (by kernel_rfl) (fun _ _ _ h => h) (Or.inr ⟨by rfl, rfl⟩) hHeld ?_)
                        | (refine wpAnyH_take (i := 11) (oi := ⟨_, _, _, _, _, _⟩) (v := ?vq11) rfl (by kernel_rfl) (by kernel_rfl) (by kernel_rfl) (fun _ _ _ h => h) (Or.inl ⟨by rfl, ?hyq11⟩) hHeld ?restq11; case hyq11 => (intro w' hSw; obtain ⟨hcc, hff⟩ := bcell hSw; go_simp; (try rw [if_pos hn7]); try with_reducible rfl))
                    try simp only [Act.put, List.setIfInBounds_toArray, List.set_cons_zero, List.set_cons_succ]
                    try simp only [Int.add_zero]
                    first
                        | (refine wpAnyH_take (i := 12) (oi := ⟨_, _, _, _, _, _⟩) (v := undef) rfl (by kernel_rfl) (by kernel_rfl) (by kernel_rfl) (fun _ _ _ h => h) (Or.inr ⟨by rfl, rfl⟩) hHeld ?_)
                        | (refine wpAnyH_take (i := 12) (oi := ⟨_, _, _, _, _, _⟩) (v := ?vq12) rfl (by kernel_rfl) (by kernel_rfl) (by kernel_rfl) (fun _ _ _ h => h) (Or.inl ⟨by rfl, ?hyq12⟩) hHeld ?restq12; case hyq12 => (intro w' hSw; go_simp; (try rw [if_pos hn7]); try with_reducible rfl))
                    try simp only [Act.put, List.setIfInBounds_toArray, List.set_cons_zero, List.set_cons_succ]
                    try simp only [Int.add_zero]
                    first
                        | (refine wpAnyH_take (i := 13) (oi := ⟨_, _, _, _, _, _⟩) (v := undef) rfl (by kernel_rfl) (by kernel_rfl) (by kernel_rfl) (fun _ _ _ h => h) (Or.inr ⟨by rfl, rfl⟩) hHeld ?_)
                        | (refine wpAnyH_take (i := 13) (oi := ⟨_, _, _, _, _, _⟩) (v := ?vq13) rfl (by kernel_rfl) (by kernel_rfl) (by kernel_rfl) (fun _ _ _ h => h) (Or.inl ⟨by rfl, ?hyq13⟩) hHeld ?restq13; case hyq13 => (intro w' hSw; go_simp; (try rw [if_pos hn7]); try with_reducible rfl))
                    try simp only [Act.put, List.setIfInBounds_toArray, List.set_cons_zero, List.set_cons_succ]
                    try simp only [Int.add_zero]
                    first
                        | (refine wpAnyH_take (i := 14) (oi := ⟨_, _, _, _, _, _⟩) (v := undef) rfl (by kernel_rfl) (by kernel_rfl) (by kernel_rfl) (fun _ _ _ h => h) (Or.inr ⟨by rfl, rfl⟩) hHeld ?_)
                        | (refine wpAnyH_take (i := 14) (oi := ⟨_, _, _, _, _, _⟩) (v := ?vq14) rfl (by kernel_rfl) (by kernel_rfl) (by kernel_rfl) (fun _ _ _ h => h) (Or.inl ⟨by rfl, ?hyq14⟩) hHeld ?restq14; case hyq14 => (intro w' hSw; go_simp; (try rw [if_pos hn7]); try with_reducible rfl))
                    try simp only [Act.put, List.setIfInBounds_toArray, List.set_cons_zero, List.set_cons_succ]
                    try simp only [Int.add_zero]
                    first
                        | (refine wpAnyH_take (i := 15) (oi := ⟨_, _, _, _, _, _⟩) (v := undef) rfl (by kernel_rfl) (by kernel_rfl) (by kernel_rfl) (fun _ _ _ h => h) (Or.inr ⟨by rfl, rfl⟩) hHeld ?_)
                        | (refine wpAnyH_take (i := 15) (oi := ⟨_, _, _, _, _, _⟩) (v := ?vq15) rfl (by kernel_rfl) (by kernel_rfl) (by kernel_rfl) (fun _ _ _ h => h) (Or.inl ⟨by rfl, ?hyq15⟩) hHeld ?restq15; case hyq15 => (intro w' hSw; go_simp; (try rw [if_pos hn7]); try with_reducible rfl))
                    try simp only [Act.put, List.setIfInBounds_toArray, List.set_cons_zero, List.set_cons_succ]
                    try simp only [Int.add_zero]
                    first
                        | (refine wpAnyH_take (i := 16) (oi := ⟨_, _, _, _, _, _⟩) (v := undef) rfl (by kernel_rfl) (by kernel_rfl) (by kernel_rfl) (fun _ _ _ h => h) (Or.inr ⟨by rfl, rfl⟩) hHeld ?_)
                        | (refine wpAnyH_take (i := 16) (oi := ⟨_, _, _, _, _, _⟩) (v := ?vq16) rfl (by kernel_rfl) (by kernel_rfl) (by kernel_rfl) (fun _ _ _ h => h) (Or.inl ⟨by rfl, ?hyq16⟩) hHeld ?restq16; case hyq16 => (intro w' hSw; obtain ⟨hcc, hff⟩ := bcell hSw; go_simp; (try rw [if_pos hn7]); try with_reducible rfl))
                    try simp only [Act.put, List.setIfInBounds_toArray, List.set_cons_zero, List.set_cons_succ]
                    try simp only [Int.add_zero]
                    refine wpAnyH_take (i := 17) (oi := ⟨_, _, _, _, _, _⟩) (v := undef) rfl (by kernel_rfl) (by kernel_rfl) (by kernel_rfl) (fun _ _ _ h => h) (Or.inr ⟨by rfl, rfl⟩) hHeld ?_
                    try simp only [Act.put, List.setIfInBounds_toArray, List.set_cons_zero, List.set_cons_succ]
                    try simp only [Int.add_zero]
                    first
                        | (refine wpAnyH_take (i := 18) (oi := ⟨_, _, _, _, _, _⟩) (v := undef) rfl (by kernel_rfl) (by kernel_rfl) (by kernel_rfl) (fun _ _ _ h => h) (Or.inr ⟨by rfl, rfl⟩) hHeld ?_)
                        | (refine wpAnyH_take (i := 18) (oi := ⟨_, _, _, _, _, _⟩) (v := ?vq18) rfl (by kernel_rfl) (by kernel_rfl) (by kernel_rfl) (fun _ _ _ h => h) (Or.inl ⟨by rfl, ?hyq18⟩) hHeld ?restq18; case hyq18 => (intro w' hSw; go_simp; (try rw [if_pos hn7]); try with_reducible rfl))
                    try simp only [Act.put, List.setIfInBounds_toArray, List.set_cons_zero, List.set_cons_succ]
                    try simp only [Int.add_zero]
                    first
                        | (refine wpAnyH_take (i := 19) (oi := ⟨_, _, _, _, _, _⟩) (v := undef) rfl (by kernel_rfl) (by kernel_rfl) (by kernel_rfl) (fun _ _ _ h => h) (Or.inr ⟨by rfl, rfl⟩) hHeld ?_)
                        | (refine wpAnyH_take (i := 19) (oi := ⟨_, _, _, _, _, _⟩) (v := ?vq19) rfl (by kernel_rfl) (by kernel_rfl) (by kernel_rfl) (fun _ _ _ h => h) (Or.inl ⟨by rfl, ?hyq19⟩) hHeld ?restq19; case hyq19 => (intro w' hSw; go_simp; (try rw [if_pos hn7]); try with_reducible rfl))
                    try simp only [Act.put, List.setIfInBounds_toArray, List.set_cons_zero, List.set_cons_succ]
                    try simp only [Int.add_zero]
                    refine wpAnyH_take (i := 20) (oi := ⟨_, _, _, _, _, _⟩) (v := ?vq20) rfl (by kernel_rfl) (by kernel_rfl) (by kernel_rfl) (fun _ _ _ h => h) (Or.inl ⟨by rfl, ?hyq20⟩) hHeld ?restq20
                    case hyq20 => (intro w' hSw; go_simp; (try rw [if_pos hn7]); try with_reducible rfl)
                    try simp only [Act.put, List.setIfInBounds_toArray, List.set_cons_zero, List.set_cons_succ]
                    try simp only [Int.add_zero]
                    refine wpAnyH_take (i := 21) (oi := ⟨_, _, _, _, _, _⟩) (v := ?vq21) rfl (by kernel_rfl) (by kernel_rfl) (by kernel_rfl) (fun _ _ _ h => h) (Or.inl ⟨by rfl, ?hyq21⟩) hHeld ?restq21
                    case hyq21 => (intro w' hSw; go_simp; (try rw [if_pos hn7]); try with_reducible rfl)
                    try simp only [Act.put, List.setIfInBounds_toArray, List.set_cons_zero, List.set_cons_succ]
                    try simp only [Int.add_zero]
                    first
                        | (refine wpAnyH_take (i := 22) (oi := ⟨_, _, _, _, _, _⟩) (v := undef) rfl (by kernel_rfl) (by kernel_rfl) (by kernel_rfl) (fun _ _ _ h => h) (Or.inr ⟨by rfl, rfl⟩) hHeld ?_)
                        | (refine wpAnyH_take (i := 22) (oi := ⟨_, _, _, _, _, _⟩) (v := ?vq22) rfl (by kernel_rfl) (by kernel_rfl) (by kernel_rfl) (fun _ _ _ h => h) (Or.inl ⟨by rfl, ?hyq22⟩) hHeld ?restq22; case hyq22 => (intro w' hSw; go_simp; (try rw [if_pos hn7]); try with_reducible rfl))
                    try simp only [Act.put, List.setIfInBounds_toArray, List.set_cons_zero, List.set_cons_succ]
                    try simp only [Int.add_zero]
                    first
                        | (refine wpAnyH_take (i := 23) (oi := ⟨_, _, _, _, _, _⟩) (v := undef) rfl (by kernel_rfl) (by kernel_rfl) (by kernel_rfl) (fun _ _ _ h => h) (Or.inr ⟨by rfl, rfl⟩) hHeld ?_)
                        | (refine wpAnyH_take (i := 23) (oi := ⟨_, _, _, _, _, _⟩) (v := ?vq23) rfl (by kernel_rfl) (by kernel_rfl) (by kernel_rfl) (fun _ _ _ h => h) (Or.inl ⟨by rfl, ?hyq23⟩) hHeld ?restq23; case hyq23 => (intro w' hSw; go_simp; (try rw [if_pos hn7]); try with_reducible rfl))
                    try simp only [Act.put, List.setIfInBounds_toArray, List.set_cons_zero, List.set_cons_succ]
                    try simp only [Int.add_zero]
                    first
                        | (refine wpAnyH_take (i := 24) (oi := ⟨_, _, _, _, _, _⟩) (v := undef) rfl (by kernel_rfl) (by kernel_rfl) (by kernel_rfl) (fun _ _ _ h => h) (Or.inr ⟨by rfl, rfl⟩) hHeld ?_)
                        | (refine wpAnyH_take (i := 24) (oi := ⟨_, _, _, _, _, _⟩) (v := ?vq24) rfl (by kernel_rfl) (by kernel_rfl) (by kernel_rfl) (fun _ _ _ h => h) (Or.inl ⟨by rfl, ?hyq24⟩) hHeld ?restq24; case hyq24 => (intro w' hSw; go_simp; (try rw [if_pos hn7]); try with_reducible rfl))
                    try simp only [Act.put, List.setIfInBounds_toArray, List.set_cons_zero, List.set_cons_succ]
                    try simp only [Int.add_zero]
                    first
                        | (refine wpAnyH_take (i := 25) (oi := ⟨_, _, _, _, _, _⟩) (v := undef) rfl (by kernel_rfl) (by kernel_rfl) (by kernel_rfl) (fun _ _ _ h => h) (Or.inr ⟨by rfl, rfl⟩) hHeld ?_)
                        | (refine wpAnyH_take (i := 25) (oi := ⟨_, _, _, _, _, _⟩) (v := ?vq25) rfl (by kernel_rfl) (by kernel_rfl) (by kernel_rfl) (fun _ _ _ h => h) (Or.inl ⟨by rfl, ?hyq25⟩) hHeld ?restq25; case hyq25 => (intro w' hSw; go_simp; (try rw [if_pos hn7]); try with_reducible rfl))
                    try simp only [Act.put, List.setIfInBounds_toArray, List.set_cons_zero, List.set_cons_succ]
                    try simp only [Int.add_zero]
                    first
                        | (refine wpAnyH_take (i := 26) (oi := ⟨_, _, _, _, _, _⟩) (v := undef) rfl (by kernel_rfl) (by kernel_rfl) (by kernel_rfl) (fun _ _ _ h => h) (Or.inr ⟨by rfl, rfl⟩) hHeld ?_)
                        | (refine wpAnyH_take (i := 26) (oi := ⟨_, _, _, _, _, _⟩) (v := ?vq26) rfl (by kernel_rfl) (by kernel_rfl) (by kernel_rfl) (fun _ _ _ h => h) (Or.inl ⟨by rfl, ?hyq26⟩) hHeld ?restq26; case hyq26 => (intro w' hSw; go_simp; (try rw [if_pos hn7]); try with_reducible rfl))
                    try simp only [Act.put, List.setIfInBounds_toArray, List.set_cons_zero, List.set_cons_succ]
                    try simp only [Int.add_zero]
                    first
                        | (refine wpAnyH_take (i := 27) (oi := ⟨_, _, _, _, _, _⟩) (v := undef) rfl (by kernel_rfl) (by kernel_rfl) (by kernel_rfl) (fun _ _ _ h => h) (Or.inr ⟨by rfl, rfl⟩) hHeld ?_)
                        | (refine wpAnyH_take (i := 27) (oi := ⟨_, _, _, _, _, _⟩) (v := ?vq27) rfl (by kernel_rfl) (by kernel_rfl) (by kernel_rfl) (fun _ _ _ h => h) (Or.inl ⟨by rfl, ?hyq27⟩) hHeld ?restq27; case hyq27 => (intro w' hSw; obtain ⟨hcc, hff⟩ := bcell hSw; go_simp; (try rw [if_pos hn7]); try with_reducible rfl))
                    try simp only [Act.put, List.setIfInBounds_toArray, List.set_cons_zero, List.set_cons_succ]
                    try simp only [Int.add_zero]
                    first
                        | (refine wpAnyH_take (i := 28) (oi := ⟨_, _, _, _, _, _⟩) (v := undef) rfl (by kernel_rfl) (by kernel_rfl) (by kernel_rfl) (fun _ _ _ h => h) (Or.inr ⟨by rfl, rfl⟩) hHeld ?_)
                        | (refine wpAnyH_take (i := 28) (oi := ⟨_, _, _, _, _, _⟩) (v := ?vq28) rfl (by kernel_rfl) (by kernel_rfl) (by kernel_rfl) (fun _ _ _ h => h) (Or.inl ⟨by rfl, ?hyq28⟩) hHeld ?restq28; case hyq28 => (intro w' hSw; go_simp; (try rw [if_pos hn7]); try with_reducible rfl))
                    try simp only [Act.put, List.setIfInBounds_toArray, List.set_cons_zero, List.set_cons_succ]
                    try simp only [Int.add_zero]
                    first
                        | (refine wpAnyH_take (i := 29) (oi := ⟨_, _, _, _, _, _⟩) (v := undef) rfl (by kernel_rfl) (by kernel_rfl) (by kernel_rfl) (fun _ _ _ h => h) (Or.inr ⟨by rfl, rfl⟩) hHeld ?_)
                        | (refine wpAnyH_take (i := 29) (oi := ⟨_, _, _, _, _, _⟩) (v := ?vq29) rfl (by kernel_rfl) (by kernel_rfl) (by kernel_rfl) (fun _ _ _ h => h) (Or.inl ⟨by rfl, ?hyq29⟩) hHeld ?restq29; case hyq29 => (intro w' hSw; go_simp; (try rw [if_pos hn7]); try with_reducible rfl))
                    try simp only [Act.put, List.setIfInBounds_toArray, List.set_cons_zero, List.set_cons_succ]
                    try simp only [Int.add_zero]
                    refine wpAnyH_take (i := 30) (oi := ⟨_, _, _, _, _, _⟩) (v := ?vq30) rfl (by kernel_rfl) (by kernel_rfl) (by kernel_rfl) (fun _ _ _ h => h) (Or.inl ⟨by rfl, ?hyq30⟩) hHeld ?restq30
                    case hyq30 => (intro w' hSw; go_simp; (try rw [if_pos hn7]); try with_reducible rfl)
                    try simp only [Act.put, List.setIfInBounds_toArray, List.set_cons_zero, List.set_cons_succ]
                    try simp only [Int.add_zero]
                    refine wpAnyH_done (by kernel_rfl) ?_ _
                    have HB31 := Lib.hid (bthen HB30.out hHeld)
                    have HL31 := Lib.hid (HL30.out.call hHeld)
                    have HO31 := Lib.hid (HO30.out.call hHeld)
                    clear hHeld HB30 HL30 HO30
                    go_wp2_with fail
                    go_roundw
                    case rel => (repeat apply Exists.intro); exact ⟨⟨n + 1, by go_num, by omega, by omega, HL31.out, HO31.out, HB31.out⟩, rfl⟩
                    case measure => simp [intOf]; omega
                · obtain rfl : n = 7 := by omega
                  go_upto_region 32 with fail
                  refine (show ∀ W32 : World, Bk W32 (w9.heap.size + 1) 52 (onA H 9) → Below w9.heap.size w9 W32 → Code.wp _ _ _ _ W32 from fun W32 hoo hb => ?_) _ HO.out HBx.out
                  have HO32 := Lib.hid hoo
                  have HB32 := Lib.hid hb
                  clear hoo hb HL HO HBx n1 n7 hlt
                  go_wp2_with fail
                  go_loopw [23] (fun i wx => ∃ n : Nat, i = .int .i64 n ∧ 1 ≤ n ∧ (n : Int) ≤ c + 1 ∧ Bk wx (w9.heap.size + 1) 52 (onA H 9) ∧ Below w9.heap.size w9 wx) (fun i _ => 10 - (intOf i).toNat)
                  case atStart => exact ⟨1, rfl, by omega, by omega, HO32.out, HB32.out⟩
                  case round =>
                    clear HO32 HB32
                    obtain ⟨n, rfl, n1, nc, hoo, hb⟩ := hrel
                    have HO := Lib.hid hoo
                    have HBx := Lib.hid hb
                    clear hoo hb
                    by_cases hlt : (n : Int) ≤ c
                    · have hoc : ∃ v, Calls Try.prog 16 #[.pointer (some ⟨P, 0, none⟩), .int .i64 ((n : Nat) : Int)] wr fun e w' => e = .returned (.tuple #[.int .i64 v, .bool (onF H (n : Int) 9)]) ∧ wr = w' := by
                        have h := pcOn_any (n : Int) ⟨by omega, by omega⟩ (HH.out.call HBx.out)
                        rw [← onF_end HI.out (by omega)] at h
                        exact ⟨_, h⟩
                      obtain ⟨v, hoc⟩ := hoc
                      have HOC := Lib.hid hoc
                      have y1 := (HO.out.cell n).trans (onA_at H 9 (by omega))
                      clear hoc
                      generalize onF H (n : Int) 9 = b at HOC y1
                      go_wp2_with fail
                      refine HOC.out.mono ?_
                      rintro e w' ⟨rfl, rfl⟩
                      clear HOC
                      go_wp2_with fail
                      go_roundw
                      case rel => (repeat apply Exists.intro); exact ⟨⟨n + 1, by go_num, by omega, by omega, HO.out, HBx.out⟩, rfl⟩
                      case measure => simp [intOf]; omega
                    · go_wp2_with fail
                      go_roundw
                      case rel => exact ⟨k + 1, by go_num, by omega, HBO9.out.call HBx.out, bthen HB9.out HBx.out⟩
                      case measure => simp [intOf]; omega
        · obtain rfl : k = xs.length := by omega
          go_wp2_with fail
          refine (wakes22_any _).mono ?_
          rintro e w3 ⟨rfl, hb⟩
          have HB3 := Lib.hid (bthen HB.out hb)
          clear hb
          go_wp2_with fail
          go_ret
          exact ⟨rfl, HB3.out⟩
    · clear hgr
      go_wp2_with fail
      refine (wakes22_any _).mono ?_
      rintro e w3 ⟨rfl, hb⟩
      have HB3 := Lib.hid (bthen HB1.out hb)
      clear hb
      go_wp2_with fail
      go_ret
      exact ⟨rfl, HB3.out⟩
  · have HN := Lib.hid (show c < 1 ∨ 8 < c by omega)
    clear h18
    go_enter Try.func4, Try.ntmps4
    go_wp2_with fail
    refine (pcNew_no c HC.out w HN.out).mono ?_
    rintro e w1 ⟨rfl, rfl⟩
    go_wp2_with fail
    refine (wakes22_any _).mono ?_
    rintro e w3 ⟨rfl, hb⟩
    have HB3 := Lib.hid hb
    clear hb
    go_wp2_with fail
    go_ret
    exact ⟨rfl, HB3.out⟩
end Go.Proofs.Ytgfogbifbpadoaa
