/-
  Layer 29: Reaching.
-/
import Derived.Test.YtappjiljmpgjcaaDoorWtForeign
namespace Go.Proofs.YtappjiljmpgjcaaDoor
open Go.RowKit Go.Maps Go.Shelf
set_option linter.unusedVariables false
set_option linter.unusedSimpArgs false
def gone (s : Sn) (f : Int) : Bool := !thr s f || fre s f
theorem gone_any {w : World} {P T : Nat} {s : Sn} {m : Nat} {r : Value} (f : Int) (h : Bk w P 89 #[.slice s.cO s.cl.length s.cc, .slice s.sO s.sl.length s.sc, .slice s.fO s.fl.length s.fc, .map (some m), r]) (hT : Bk w T 63 #[.pointer (some ⟨P, 0, none⟩)]) (hs : s.Given w) :
    Calls Tryd.prog 22 #[.int .i64 f, .pointer (some ⟨T, 0, none⟩)] w fun e w' => e = .returned (.bool (gone s f)) ∧ w = w' := by
  have c0 : w.cell? ⟨T, 0, none⟩ = some (.pointer (some ⟨P, 0, none⟩)) := hT.cell 0
  have H := Lib.hid h
  have HS := Lib.hid hs
  clear h hs hT
  cases ht : thr s f with
  | true =>
    have HT := Lib.hid ht
    go_enter Tryd.func22, Tryd.ntmps22
    go_wp2_with fail
    refine (wtThere_any f H.out).mono ?_
    rintro e w1 ⟨rfl, rfl⟩
    rw [HT.out]
    go_wp2_with fail
    refine (wtFree_any f H.out HS.out HT.out).mono ?_
    rintro e w1 ⟨rfl, rfl⟩
    go_wp2_with fail
    go_ret
    exact ⟨by unfold gone; rw [HT.out]; rfl, rfl⟩
  | false =>
    have HT := Lib.hid ht
    go_enter Tryd.func22, Tryd.ntmps22
    go_wp2_with fail
    refine (wtThere_any f H.out).mono ?_
    rintro e w1 ⟨rfl, rfl⟩
    rw [HT.out]
    go_wp2_with fail
    go_ret
    exact ⟨by unfold gone; rw [HT.out]; rfl, rfl⟩
def reachB (g : Int → Bool) (y : En) : Bool := decide (y.k = 0) && g (y.w / 512)
def reachC (g : Int → Bool) (c : Co) : Bool := c.tl.any (fun y => g y.f) || (c.kl.any (fun y => g y.f) || ((c.wa.on && g c.wa.f) || (!(c.wk.on && !decide (c.wk.ph = 0)) && c.bl.any (reachB g))))
set_option maxRecDepth 100000 in
set_option maxHeartbeats 4000000 in
theorem reaches_any {f : FuncId} {caps : Array Value} {g : Int → Bool} (c : Co) (w0 w : World) (hc : c.Given w) (hn : c.tl.length ≤ 10 ∧ c.kl.length ≤ 10 ∧ c.bl.length ≤ 10 ∧ c.wk.dl.length ≤ 200) (hent : ∀ args w, (callFunc f args).run Tryd.prog w = .ok (.enter f args) w)
    (hD : ∀ W x, Below w.heap.size w W → I64 x → Calls Tryd.prog f (#[.int .i64 x] ++ caps) W fun e W' => e = .returned (.bool (g x)) ∧ W = W') :
    Calls Tryd.prog 25 #[.agg (coC c).toArray, .func (.func f) #[] caps] w fun e w' => e = .returned (.bool (reachC g c)) ∧ Below w.heap.size w w' := by
  have HC := Lib.hid hc
  have HD := Lib.hid hD
  obtain ⟨l1, l2, l3, -⟩ := hn
  have HF := Lib.hid (show reachC g c = (c.tl.any (fun y => g y.f) || (c.kl.any (fun y => g y.f) || ((c.wa.on && g c.wa.f) || (!(c.wk.on && !decide (c.wk.ph = 0)) && c.bl.any (reachB g))))) from rfl)
  have hbk := Bk.new w 44 (coC c).toArray
  clear hc hD
  go_enter Tryd.func25, Tryd.ntmps25
  go_upto_region 1 with fail
  refine (show ∀ W1 : World, Below w.heap.size w W1 → Bk W1 w.heap.size 44 (coC c).toArray → Code.wp _ _ _ _ W1 from fun W1 hb1 h1 => ?_) _ (ba (Below.refl _ _) _) hbk
  have q15 : W1.cell? ⟨w.heap.size, 15, none⟩ = some (.slice c.tO c.tl.length c.tc) := h1.cell 15
  have HBw := Lib.hid hb1
  have HB := Lib.hid (Below.refl W1.heap.size W1)
  have HK1 := Lib.hid h1
  clear hbk hb1 h1
  obtain ⟨X, hX⟩ : ∃ X, X = w.heap.size := ⟨_, rfl⟩
  rw [← hX]
  rw [← hX] at HK1
  have HXe := Lib.hid hX
  rw [← hX] at q15
  clear hX
  go_wp2_with fail
  clear q15
  go_loopw [14] (fun i wr => ∃ k : Nat, k ≤ c.tl.length ∧ i = .int .i64 k ∧ c.tl.any (fun y => g y.f) = (c.tl.drop k).any (fun y => g y.f) ∧ Below W1.heap.size W1 wr) (fun i _ => c.tl.length - (intOf i).toNat)
  case atStart => exact ⟨0, by omega, rfl, rfl, HB.out⟩
  case round =>
    clear HB
    obtain ⟨k, hk, rfl, hany, hB⟩ := hrel
    have HA := Lib.hid hany
    have HB := Lib.hid hB
    clear hany hB
    by_cases hlt : k < c.tl.length
    · obtain ⟨y, hy⟩ : ∃ y, c.tl[k]? = some y := ⟨_, List.getElem?_eq_getElem hlt⟩
      obtain ⟨b, off, hO, hrg⟩ := rk_range HC.out.gt (bthen HBw.out HB.out) hy
      have hdr : c.tl.drop k = y :: c.tl.drop (k + 1) := by
        obtain ⟨h1, rfl⟩ := List.getElem?_eq_some_iff.1 hy
        exact List.drop_eq_getElem_cons h1
      rw [hdr, List.any_cons] at HA
      have HY := Lib.hid (HC.out.gtall y (List.mem_of_getElem? hy))
      have HR := Lib.hid hrg
      have HKz := Lib.hid (Bk.new wr 62 zTl)
      clear hrg hy hdr
      rw [hO]
      go_upto_region 4 with (first | refine get_Tl rfl _ rfl b (off + k * 4) y rfl HR.out ?_ | refine box_Tl rfl _ _ rfl wr.heap.size y _ rfl rfl HKz.out rfl ?_)
      refine (show ∀ W8 : World, Below wr.heap.size wr W8 → Bk W8 wr.heap.size 62 (tlC y).toArray → Code.wp _ _ _ _ W8 from fun W8 hb8 hk8 => ?_) _ (brow (ba (Below.refl _ _) _) (Nat.le_refl _) _) (HKz.out.row _)
      have HB8 := Lib.hid (bthen HB.out hb8)
      have qf : W8.cell? ⟨wr.heap.size, 2, none⟩ = some (.int .i64 y.f) := hk8.cell 2
      clear hb8 hk8 HKz HR HB
      go_wp2_with fail
      refine (HD.out W8 y.f (bthen HBw.out HB8.out) HY.out.gf).mono ?_
      rintro e w9 ⟨rfl, rfl⟩
      cases hg : g y.f with
      | true =>
        have HRE := Lib.hid (show reachC g c = true by rw [HF.out]; rw [HA.out, hg]; simp)
        clear hg
        go_wp2_with fail
        go_ret
        exact ⟨by rw [HRE.out]; rfl, bthen HBw.out HB8.out⟩
      | false =>
        have HA2 := Lib.hid (show c.tl.any (fun y => g y.f) = (c.tl.drop (k + 1)).any (fun y => g y.f) by rw [HA.out, hg]; rfl)
        clear hg
        go_wp2_with fail
        go_roundw
        case rel => exact ⟨k + 1, by omega, by go_num, HA2.out, HB8.out⟩
        case measure => simp [intOf]; omega
    · obtain rfl : k = c.tl.length := by omega
      have HNt := Lib.hid (show c.tl.any (fun y => g y.f) = false by rw [HA.out, List.drop_length]; rfl)
      clear HA

      have hkX := HK1.out.call HB.out
      have q16 : wr.cell? ⟨X, 16, none⟩ = some (.slice c.kO c.kl.length c.kc) := hkX.cell 16
      clear hkX
      go_wp2_with fail
      clear q16
      obtain ⟨wo, rfl⟩ : ∃ wo : World, wo = wr := ⟨_, rfl⟩
      go_loopw [26] (fun i wr => ∃ k : Nat, k ≤ c.kl.length ∧ i = .int .i64 k ∧ c.kl.any (fun y => g y.f) = (c.kl.drop k).any (fun y => g y.f) ∧ Below W1.heap.size W1 wr) (fun i _ => c.kl.length - (intOf i).toNat)
      case atStart => exact ⟨0, by omega, rfl, rfl, HB.out⟩
      case round =>
        clear HB
        obtain ⟨k, hk, rfl, hany, hB⟩ := hrel
        have HA := Lib.hid hany
        have HB := Lib.hid hB
        clear hany hB
        by_cases hlt : k < c.kl.length
        · obtain ⟨y, hy⟩ : ∃ y, c.kl[k]? = some y := ⟨_, List.getElem?_eq_getElem hlt⟩
          obtain ⟨b, off, hO, hrg⟩ := rk_range HC.out.gk (bthen HBw.out HB.out) hy
          have hdr : c.kl.drop k = y :: c.kl.drop (k + 1) := by
            obtain ⟨h1, rfl⟩ := List.getElem?_eq_some_iff.1 hy
            exact List.drop_eq_getElem_cons h1
          rw [hdr, List.any_cons] at HA
          have HY := Lib.hid (HC.out.gkall y (List.mem_of_getElem? hy))
          have HR := Lib.hid hrg
          have HKz := Lib.hid (Bk.new wr 106 zSp4)
          clear hrg hy hdr
          rw [hO]
          go_upto_region 10 with (first | refine get_Sp4 rfl _ rfl b (off + k * 4) y rfl HR.out ?_ | refine box_Sp4 rfl _ _ rfl wr.heap.size y _ rfl rfl HKz.out rfl ?_)
          refine (show ∀ W8 : World, Below wr.heap.size wr W8 → Bk W8 wr.heap.size 106 (spC4 y).toArray → Code.wp _ _ _ _ W8 from fun W8 hb8 hk8 => ?_) _ (brow (ba (Below.refl _ _) _) (Nat.le_refl _) _) (HKz.out.row _)
          have HB8 := Lib.hid (bthen HB.out hb8)
          have qf : W8.cell? ⟨wr.heap.size, 3, none⟩ = some (.int .i64 y.f) := hk8.cell 3
          clear hb8 hk8 HKz HR HB
          go_wp2_with fail
          refine (HD.out W8 y.f (bthen HBw.out HB8.out) HY.out.gf).mono ?_
          rintro e w9 ⟨rfl, rfl⟩
          cases hg : g y.f with
          | true =>
            have HRE := Lib.hid (show reachC g c = true by rw [HF.out]; rw [HA.out, hg]; simp)
            clear hg
            go_wp2_with fail
            go_ret
            exact ⟨by rw [HRE.out]; rfl, bthen HBw.out HB8.out⟩
          | false =>
            have HA2 := Lib.hid (show c.kl.any (fun y => g y.f) = (c.kl.drop (k + 1)).any (fun y => g y.f) by rw [HA.out, hg]; rfl)
            clear hg
            go_wp2_with fail
            go_roundw
            case rel => exact ⟨k + 1, by omega, by go_num, HA2.out, HB8.out⟩
            case measure => simp [intOf]; omega
        · obtain rfl : k = c.kl.length := by omega
          have HNk := Lib.hid (show c.kl.any (fun y => g y.f) = false by rw [HA.out, List.drop_length]; rfl)
          clear HA

          have hkX := HK1.out.call HB.out
          have q17 : wr.cell? ⟨X, 17, none⟩ = some (.bool c.wa.on) := hkX.cell 17
          have q21 : wr.cell? ⟨X, 21, none⟩ = some (.int .i64 c.wa.f) := hkX.cell 21
          have q3 : wr.cell? ⟨X, 3, none⟩ = some (.bool c.wk.on) := hkX.cell 3
          have q10 : wr.cell? ⟨X, 10, none⟩ = some (.int .i8 c.wk.ph) := hkX.cell 10
          have q25 : wr.cell? ⟨X, 25, none⟩ = some (.slice c.bO c.bl.length c.bc) := hkX.cell 25
          clear hkX
          have HF2 := Lib.hid (show reachC g c = ((c.wa.on && g c.wa.f) || (!(c.wk.on && !decide (c.wk.ph = 0)) && c.bl.any (reachB g))) by rw [HF.out, HNt.out, HNk.out]; rfl)
          have HWF := Lib.hid HC.out.gwa.gf
          have HDn := Lib.hid (HD.out wr c.wa.f (bthen HBw.out HB.out) HWF.out)
          clear HF
          generalize c.wa.f = waf at *
          generalize hg1 : g waf = gw at *
          cases hon : c.wa.on with
          | true =>
            rw [hon] at q17 HF2
            clear hon
            go_wp2_with fail
            refine HDn.out.mono ?_
            rintro e w9 ⟨rfl, rfl⟩
            clear hg1
            cases gw with
            | true =>
              have HRE := Lib.hid (show reachC g c = true by rw [HF2.out]; simp)
              go_wp2_with fail
              go_ret
              exact ⟨by rw [HRE.out]; rfl, bthen HBw.out HB.out⟩
            | false =>
              have HF3 := Lib.hid (show reachC g c = (!(c.wk.on && !decide (c.wk.ph = 0)) && c.bl.any (reachB g)) by rw [HF2.out]; simp)
              cases hon2 : c.wk.on with
              | true =>
                rw [hon2] at q3 HF3
                by_cases p0 : c.wk.ph = 0
                · rw [p0] at q10
                  have HF4 := Lib.hid (show reachC g c = c.bl.any (reachB g) by rw [HF3.out, p0]; rfl)
                  go_wp2_with fail
                  clear q3 q10 q17 q21 q25
                  obtain ⟨wo, rfl⟩ : ∃ wo : World, wo = wr := ⟨_, rfl⟩
                  have HBo := Lib.hid (bthen HBw.out HB.out)
                  clear HB
                  go_loopw [57] (fun i wr => ∃ k : Nat, k ≤ c.bl.length ∧ i = .int .i64 k ∧ c.bl.any (reachB g) = (c.bl.drop k).any (reachB g) ∧ Below wo.heap.size wo wr) (fun i _ => c.bl.length - (intOf i).toNat)
                  case atStart => exact ⟨0, by omega, rfl, rfl, Below.refl _ _⟩
                  case round =>
                    obtain ⟨k, hk, rfl, hany, hB⟩ := hrel
                    have HA := Lib.hid hany
                    have HB := Lib.hid (bthen HBo.out hB)
                    have HBr := Lib.hid hB
                    clear hany hB
                    by_cases hlt : k < c.bl.length
                    · obtain ⟨y, hy⟩ : ∃ y, c.bl[k]? = some y := ⟨_, List.getElem?_eq_getElem hlt⟩
                      obtain ⟨b, off, hO, hrg⟩ := rk_range HC.out.gb HB.out hy
                      have hdr : c.bl.drop k = y :: c.bl.drop (k + 1) := by
                        obtain ⟨h1, rfl⟩ := List.getElem?_eq_some_iff.1 hy
                        exact List.drop_eq_getElem_cons h1
                      rw [hdr, List.any_cons] at HA
                      have HY := Lib.hid (HC.out.gball y (List.mem_of_getElem? hy))
                      have HR := Lib.hid hrg
                      have HKz := Lib.hid (Bk.new wr 108 zEn)
                      clear hrg hy hdr
                      rw [hO]
                      go_upto_region 20 with (first | refine get_En rfl _ rfl b (off + k * 5) y rfl HR.out ?_ | refine box_En rfl _ _ rfl wr.heap.size y _ rfl rfl HKz.out rfl ?_)
                      refine (show ∀ W8 : World, Below wr.heap.size wr W8 → Bk W8 wr.heap.size 108 (enC y).toArray → Code.wp _ _ _ _ W8 from fun W8 hb8 hk8 => ?_) _ (brow (ba (Below.refl _ _) _) (Nat.le_refl _) _) (HKz.out.row _)
                      have HB8 := Lib.hid (bthen HB.out hb8)
                      have HBr8 := Lib.hid (bthen HBr.out hb8)
                      have qk : W8.cell? ⟨wr.heap.size, 0, none⟩ = some (.int .i8 y.k) := hk8.cell 0
                      have qw : W8.cell? ⟨wr.heap.size, 1, none⟩ = some (.int .u64 y.w) := hk8.cell 1
                      have HW := Lib.hid (show U64 y.w from HY.out.gw)
                      have HI := Lib.hid (show I64 (y.w / 512) from by have h1 := HW.out.1; have h2 := HW.out.2; exact ⟨by omega, by omega⟩)
                      have hw0 := HW.out.1
                      have hw1 := HW.out.2
                      clear hb8 hk8 HKz HR HB
                      have HB2 := Lib.hid (show reachB g y = (decide (y.k = 0) && g (y.w / 512)) from rfl)
                      by_cases k0 : y.k = 0
                      · rw [k0] at qk
                        go_wp2_with fail
                        refine (HD.out W8 (y.w / 512) HB8.out HI.out).mono ?_
                        rintro e w9 ⟨rfl, rfl⟩
                        cases hg : g (y.w / 512) with
                        | true =>
                          have HRE := Lib.hid (show reachC g c = true by rw [HF4.out, HA.out, HB2.out, k0, hg]; rfl)
                          clear hg
                          go_wp2_with fail
                          go_ret
                          exact ⟨by rw [HRE.out]; rfl, HB8.out⟩
                        | false =>
                          have HA2 := Lib.hid (show c.bl.any (reachB g) = (c.bl.drop (k + 1)).any (reachB g) by rw [HA.out, HB2.out, k0, hg]; rfl)
                          clear hg
                          go_wp2_with fail
                          go_roundw
                          case rel => exact ⟨k + 1, by omega, by go_num, HA2.out, HBr8.out⟩
                          case measure => simp [intOf]; omega
                      · have HA2 := Lib.hid (show c.bl.any (reachB g) = (c.bl.drop (k + 1)).any (reachB g) by rw [HA.out, HB2.out]; simp [k0])
                        have kb : (y.k == 0) = false := by simp [k0]
                        go_wp2_with fail
                        go_roundw
                        case rel => exact ⟨k + 1, by omega, by go_num, HA2.out, HBr8.out⟩
                        case measure => simp [intOf]; omega
                    · obtain rfl : k = c.bl.length := by omega
                      have HRE := Lib.hid (show reachC g c = false by rw [HF4.out, HA.out, List.drop_length]; rfl)
                      clear HA
                      go_wp2_with fail
                      go_ret
                      exact ⟨by rw [HRE.out]; rfl, HB.out⟩
                · have HRE := Lib.hid (show reachC g c = false by rw [HF3.out]; simp [p0])
                  have pb : (c.wk.ph != 0) = true := by simp [p0]
                  go_wp2_with fail
                  go_ret
                  exact ⟨by rw [HRE.out]; rfl, bthen HBw.out HB.out⟩
              | false =>
                rw [hon2] at q3 HF3
                have HF4 := Lib.hid (show reachC g c = c.bl.any (reachB g) by rw [HF3.out]; rfl)
                go_wp2_with fail
                clear q3 q10 q17 q21 q25
                obtain ⟨wo, rfl⟩ : ∃ wo : World, wo = wr := ⟨_, rfl⟩
                have HBo := Lib.hid (bthen HBw.out HB.out)
                clear HB
                go_loopw [57] (fun i wr => ∃ k : Nat, k ≤ c.bl.length ∧ i = .int .i64 k ∧ c.bl.any (reachB g) = (c.bl.drop k).any (reachB g) ∧ Below wo.heap.size wo wr) (fun i _ => c.bl.length - (intOf i).toNat)
                case atStart => exact ⟨0, by omega, rfl, rfl, Below.refl _ _⟩
                case round =>
                  obtain ⟨k, hk, rfl, hany, hB⟩ := hrel
                  have HA := Lib.hid hany
                  have HB := Lib.hid (bthen HBo.out hB)
                  have HBr := Lib.hid hB
                  clear hany hB
                  by_cases hlt : k < c.bl.length
                  · obtain ⟨y, hy⟩ : ∃ y, c.bl[k]? = some y := ⟨_, List.getElem?_eq_getElem hlt⟩
                    obtain ⟨b, off, hO, hrg⟩ := rk_range HC.out.gb HB.out hy
                    have hdr : c.bl.drop k = y :: c.bl.drop (k + 1) := by
                      obtain ⟨h1, rfl⟩ := List.getElem?_eq_some_iff.1 hy
                      exact List.drop_eq_getElem_cons h1
                    rw [hdr, List.any_cons] at HA
                    have HY := Lib.hid (HC.out.gball y (List.mem_of_getElem? hy))
                    have HR := Lib.hid hrg
                    have HKz := Lib.hid (Bk.new wr 108 zEn)
                    clear hrg hy hdr
                    rw [hO]
                    go_upto_region 20 with (first | refine get_En rfl _ rfl b (off + k * 5) y rfl HR.out ?_ | refine box_En rfl _ _ rfl wr.heap.size y _ rfl rfl HKz.out rfl ?_)
                    refine (show ∀ W8 : World, Below wr.heap.size wr W8 → Bk W8 wr.heap.size 108 (enC y).toArray → Code.wp _ _ _ _ W8 from fun W8 hb8 hk8 => ?_) _ (brow (ba (Below.refl _ _) _) (Nat.le_refl _) _) (HKz.out.row _)
                    have HB8 := Lib.hid (bthen HB.out hb8)
                    have HBr8 := Lib.hid (bthen HBr.out hb8)
                    have qk : W8.cell? ⟨wr.heap.size, 0, none⟩ = some (.int .i8 y.k) := hk8.cell 0
                    have qw : W8.cell? ⟨wr.heap.size, 1, none⟩ = some (.int .u64 y.w) := hk8.cell 1
                    have HW := Lib.hid (show U64 y.w from HY.out.gw)
                    have HI := Lib.hid (show I64 (y.w / 512) from by have h1 := HW.out.1; have h2 := HW.out.2; exact ⟨by omega, by omega⟩)
                    have hw0 := HW.out.1
                    have hw1 := HW.out.2
                    clear hb8 hk8 HKz HR HB
                    have HB2 := Lib.hid (show reachB g y = (decide (y.k = 0) && g (y.w / 512)) from rfl)
                    by_cases k0 : y.k = 0
                    · rw [k0] at qk
                      go_wp2_with fail
                      refine (HD.out W8 (y.w / 512) HB8.out HI.out).mono ?_
                      rintro e w9 ⟨rfl, rfl⟩
                      cases hg : g (y.w / 512) with
                      | true =>
                        have HRE := Lib.hid (show reachC g c = true by rw [HF4.out, HA.out, HB2.out, k0, hg]; rfl)
                        clear hg
                        go_wp2_with fail
                        go_ret
                        exact ⟨by rw [HRE.out]; rfl, HB8.out⟩
                      | false =>
                        have HA2 := Lib.hid (show c.bl.any (reachB g) = (c.bl.drop (k + 1)).any (reachB g) by rw [HA.out, HB2.out, k0, hg]; rfl)
                        clear hg
                        go_wp2_with fail
                        go_roundw
                        case rel => exact ⟨k + 1, by omega, by go_num, HA2.out, HBr8.out⟩
                        case measure => simp [intOf]; omega
                    · have HA2 := Lib.hid (show c.bl.any (reachB g) = (c.bl.drop (k + 1)).any (reachB g) by rw [HA.out, HB2.out]; simp [k0])
                      have kb : (y.k == 0) = false := by simp [k0]
                      go_wp2_with fail
                      go_roundw
                      case rel => exact ⟨k + 1, by omega, by go_num, HA2.out, HBr8.out⟩
                      case measure => simp [intOf]; omega
                  · obtain rfl : k = c.bl.length := by omega
                    have HRE := Lib.hid (show reachC g c = false by rw [HF4.out, HA.out, List.drop_length]; rfl)
                    clear HA
                    go_wp2_with fail
                    go_ret
                    exact ⟨by rw [HRE.out]; rfl, HB.out⟩
          | false =>
            rw [hon] at q17 HF2
            clear hon
            have HF3 := Lib.hid (show reachC g c = (!(c.wk.on && !decide (c.wk.ph = 0)) && c.bl.any (reachB g)) by rw [HF2.out]; simp)
            clear hg1
            cases hon2 : c.wk.on with
            | true =>
              rw [hon2] at q3 HF3
              by_cases p0 : c.wk.ph = 0
              · rw [p0] at q10
                have HF4 := Lib.hid (show reachC g c = c.bl.any (reachB g) by rw [HF3.out, p0]; rfl)
                go_wp2_with fail
                clear q3 q10 q17 q21 q25
                obtain ⟨wo, rfl⟩ : ∃ wo : World, wo = wr := ⟨_, rfl⟩
                have HBo := Lib.hid (bthen HBw.out HB.out)
                clear HB
                go_loopw [57] (fun i wr => ∃ k : Nat, k ≤ c.bl.length ∧ i = .int .i64 k ∧ c.bl.any (reachB g) = (c.bl.drop k).any (reachB g) ∧ Below wo.heap.size wo wr) (fun i _ => c.bl.length - (intOf i).toNat)
                case atStart => exact ⟨0, by omega, rfl, rfl, Below.refl _ _⟩
                case round =>
                  obtain ⟨k, hk, rfl, hany, hB⟩ := hrel
                  have HA := Lib.hid hany
                  have HB := Lib.hid (bthen HBo.out hB)
                  have HBr := Lib.hid hB
                  clear hany hB
                  by_cases hlt : k < c.bl.length
                  · obtain ⟨y, hy⟩ : ∃ y, c.bl[k]? = some y := ⟨_, List.getElem?_eq_getElem hlt⟩
                    obtain ⟨b, off, hO, hrg⟩ := rk_range HC.out.gb HB.out hy
                    have hdr : c.bl.drop k = y :: c.bl.drop (k + 1) := by
                      obtain ⟨h1, rfl⟩ := List.getElem?_eq_some_iff.1 hy
                      exact List.drop_eq_getElem_cons h1
                    rw [hdr, List.any_cons] at HA
                    have HY := Lib.hid (HC.out.gball y (List.mem_of_getElem? hy))
                    have HR := Lib.hid hrg
                    have HKz := Lib.hid (Bk.new wr 108 zEn)
                    clear hrg hy hdr
                    rw [hO]
                    go_upto_region 20 with (first | refine get_En rfl _ rfl b (off + k * 5) y rfl HR.out ?_ | refine box_En rfl _ _ rfl wr.heap.size y _ rfl rfl HKz.out rfl ?_)
                    refine (show ∀ W8 : World, Below wr.heap.size wr W8 → Bk W8 wr.heap.size 108 (enC y).toArray → Code.wp _ _ _ _ W8 from fun W8 hb8 hk8 => ?_) _ (brow (ba (Below.refl _ _) _) (Nat.le_refl _) _) (HKz.out.row _)
                    have HB8 := Lib.hid (bthen HB.out hb8)
                    have HBr8 := Lib.hid (bthen HBr.out hb8)
                    have qk : W8.cell? ⟨wr.heap.size, 0, none⟩ = some (.int .i8 y.k) := hk8.cell 0
                    have qw : W8.cell? ⟨wr.heap.size, 1, none⟩ = some (.int .u64 y.w) := hk8.cell 1
                    have HW := Lib.hid (show U64 y.w from HY.out.gw)
                    have HI := Lib.hid (show I64 (y.w / 512) from by have h1 := HW.out.1; have h2 := HW.out.2; exact ⟨by omega, by omega⟩)
                    have hw0 := HW.out.1
                    have hw1 := HW.out.2
                    clear hb8 hk8 HKz HR HB
                    have HB2 := Lib.hid (show reachB g y = (decide (y.k = 0) && g (y.w / 512)) from rfl)
                    by_cases k0 : y.k = 0
                    · rw [k0] at qk
                      go_wp2_with fail
                      refine (HD.out W8 (y.w / 512) HB8.out HI.out).mono ?_
                      rintro e w9 ⟨rfl, rfl⟩
                      cases hg : g (y.w / 512) with
                      | true =>
                        have HRE := Lib.hid (show reachC g c = true by rw [HF4.out, HA.out, HB2.out, k0, hg]; rfl)
                        clear hg
                        go_wp2_with fail
                        go_ret
                        exact ⟨by rw [HRE.out]; rfl, HB8.out⟩
                      | false =>
                        have HA2 := Lib.hid (show c.bl.any (reachB g) = (c.bl.drop (k + 1)).any (reachB g) by rw [HA.out, HB2.out, k0, hg]; rfl)
                        clear hg
                        go_wp2_with fail
                        go_roundw
                        case rel => exact ⟨k + 1, by omega, by go_num, HA2.out, HBr8.out⟩
                        case measure => simp [intOf]; omega
                    · have HA2 := Lib.hid (show c.bl.any (reachB g) = (c.bl.drop (k + 1)).any (reachB g) by rw [HA.out, HB2.out]; simp [k0])
                      have kb : (y.k == 0) = false := by simp [k0]
                      go_wp2_with fail
                      go_roundw
                      case rel => exact ⟨k + 1, by omega, by go_num, HA2.out, HBr8.out⟩
                      case measure => simp [intOf]; omega
                  · obtain rfl : k = c.bl.length := by omega
                    have HRE := Lib.hid (show reachC g c = false by rw [HF4.out, HA.out, List.drop_length]; rfl)
                    clear HA
                    go_wp2_with fail
                    go_ret
                    exact ⟨by rw [HRE.out]; rfl, HB.out⟩
              · have HRE := Lib.hid (show reachC g c = false by rw [HF3.out]; simp [p0])
                have pb : (c.wk.ph != 0) = true := by simp [p0]
                go_wp2_with fail
                go_ret
                exact ⟨by rw [HRE.out]; rfl, bthen HBw.out HB.out⟩
            | false =>
              rw [hon2] at q3 HF3
              have HF4 := Lib.hid (show reachC g c = c.bl.any (reachB g) by rw [HF3.out]; rfl)
              go_wp2_with fail
              clear q3 q10 q17 q21 q25
              obtain ⟨wo, rfl⟩ : ∃ wo : World, wo = wr := ⟨_, rfl⟩
              have HBo := Lib.hid (bthen HBw.out HB.out)
              clear HB
              go_loopw [57] (fun i wr => ∃ k : Nat, k ≤ c.bl.length ∧ i = .int .i64 k ∧ c.bl.any (reachB g) = (c.bl.drop k).any (reachB g) ∧ Below wo.heap.size wo wr) (fun i _ => c.bl.length - (intOf i).toNat)
              case atStart => exact ⟨0, by omega, rfl, rfl, Below.refl _ _⟩
              case round =>
                obtain ⟨k, hk, rfl, hany, hB⟩ := hrel
                have HA := Lib.hid hany
                have HB := Lib.hid (bthen HBo.out hB)
                have HBr := Lib.hid hB
                clear hany hB
                by_cases hlt : k < c.bl.length
                · obtain ⟨y, hy⟩ : ∃ y, c.bl[k]? = some y := ⟨_, List.getElem?_eq_getElem hlt⟩
                  obtain ⟨b, off, hO, hrg⟩ := rk_range HC.out.gb HB.out hy
                  have hdr : c.bl.drop k = y :: c.bl.drop (k + 1) := by
                    obtain ⟨h1, rfl⟩ := List.getElem?_eq_some_iff.1 hy
                    exact List.drop_eq_getElem_cons h1
                  rw [hdr, List.any_cons] at HA
                  have HY := Lib.hid (HC.out.gball y (List.mem_of_getElem? hy))
                  have HR := Lib.hid hrg
                  have HKz := Lib.hid (Bk.new wr 108 zEn)
                  clear hrg hy hdr
                  rw [hO]
                  go_upto_region 20 with (first | refine get_En rfl _ rfl b (off + k * 5) y rfl HR.out ?_ | refine box_En rfl _ _ rfl wr.heap.size y _ rfl rfl HKz.out rfl ?_)
                  refine (show ∀ W8 : World, Below wr.heap.size wr W8 → Bk W8 wr.heap.size 108 (enC y).toArray → Code.wp _ _ _ _ W8 from fun W8 hb8 hk8 => ?_) _ (brow (ba (Below.refl _ _) _) (Nat.le_refl _) _) (HKz.out.row _)
                  have HB8 := Lib.hid (bthen HB.out hb8)
                  have HBr8 := Lib.hid (bthen HBr.out hb8)
                  have qk : W8.cell? ⟨wr.heap.size, 0, none⟩ = some (.int .i8 y.k) := hk8.cell 0
                  have qw : W8.cell? ⟨wr.heap.size, 1, none⟩ = some (.int .u64 y.w) := hk8.cell 1
                  have HW := Lib.hid (show U64 y.w from HY.out.gw)
                  have HI := Lib.hid (show I64 (y.w / 512) from by have h1 := HW.out.1; have h2 := HW.out.2; exact ⟨by omega, by omega⟩)
                  have hw0 := HW.out.1
                  have hw1 := HW.out.2
                  clear hb8 hk8 HKz HR HB
                  have HB2 := Lib.hid (show reachB g y = (decide (y.k = 0) && g (y.w / 512)) from rfl)
                  by_cases k0 : y.k = 0
                  · rw [k0] at qk
                    go_wp2_with fail
                    refine (HD.out W8 (y.w / 512) HB8.out HI.out).mono ?_
                    rintro e w9 ⟨rfl, rfl⟩
                    cases hg : g (y.w / 512) with
                    | true =>
                      have HRE := Lib.hid (show reachC g c = true by rw [HF4.out, HA.out, HB2.out, k0, hg]; rfl)
                      clear hg
                      go_wp2_with fail
                      go_ret
                      exact ⟨by rw [HRE.out]; rfl, HB8.out⟩
                    | false =>
                      have HA2 := Lib.hid (show c.bl.any (reachB g) = (c.bl.drop (k + 1)).any (reachB g) by rw [HA.out, HB2.out, k0, hg]; rfl)
                      clear hg
                      go_wp2_with fail
                      go_roundw
                      case rel => exact ⟨k + 1, by omega, by go_num, HA2.out, HBr8.out⟩
                      case measure => simp [intOf]; omega
                  · have HA2 := Lib.hid (show c.bl.any (reachB g) = (c.bl.drop (k + 1)).any (reachB g) by rw [HA.out, HB2.out]; simp [k0])
                    have kb : (y.k == 0) = false := by simp [k0]
                    go_wp2_with fail
                    go_roundw
                    case rel => exact ⟨k + 1, by omega, by go_num, HA2.out, HBr8.out⟩
                    case measure => simp [intOf]; omega
                · obtain rfl : k = c.bl.length := by omega
                  have HRE := Lib.hid (show reachC g c = false by rw [HF4.out, HA.out, List.drop_length]; rfl)
                  clear HA
                  go_wp2_with fail
                  go_ret
                  exact ⟨by rw [HRE.out]; rfl, HB.out⟩
end Go.Proofs.YtappjiljmpgjcaaDoor
