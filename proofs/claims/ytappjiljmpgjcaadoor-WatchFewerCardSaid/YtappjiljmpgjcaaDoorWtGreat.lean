/-
  Layer 29: Great and deep.
-/
import Derived.Test.YtappjiljmpgjcaaDoorWtView
import Derived.Test.YtappjiljmpgjcaaDoorWtBox
import Derived.Deep.DeepCutAuto
namespace Go.Proofs.YtappjiljmpgjcaaDoor
open Go.RowKit Go.Maps
set_option linter.unusedVariables false
set_option linter.unusedSimpArgs false
/-- What Great lets by. -/
structure Sml (s : Sn) : Prop where
  ncl : s.cl.length ≤ 6
  nsl : s.sl.length ≤ 5
  nfl : s.fl.length ≤ 70
  nw : ∀ x ∈ s.fl, x.wl.length ≤ 20
  nt : ∀ x ∈ s.cl, x.tl.length ≤ 10 ∧ x.kl.length ≤ 10 ∧ x.bl.length ≤ 10 ∧ x.wk.dl.length ≤ 200
def GrPost (s : Sn) (e : Ending) : Prop := ∃ b : Bool, e = .returned (.bool b) ∧ (b = false → Sml s)
def AnyB (e : Ending) : Prop := ∃ b : Bool, e = .returned (.bool b)
theorem all_at {α : Type} {p : α → Prop} {l : List α} (h : ∀ (i : Nat) x, i < l.length → l[i]? = some x → p x) : ∀ x ∈ l, p x := by
  intro x hx
  obtain ⟨i, hi, rfl⟩ := List.getElem_of_mem hx
  exact h i _ hi (List.getElem?_eq_getElem hi)
set_option maxRecDepth 100000 in
set_option maxHeartbeats 2000000 in
theorem great_any (s : Sn) (w : World) (hs : s.Given w) : Calls Tryd.prog 5 #[snA s] w fun e w' => GrPost s e ∧ Below w.heap.size w w' := by
  have HS := Lib.hid hs
  have hcl : s.cl.length ≤ 9223372036854775807 := Nat.le_trans hs.gcle hs.gcle2
  have hsl : s.sl.length ≤ 9223372036854775807 := Nat.le_trans hs.gsle hs.gsle2
  have hfl : s.fl.length ≤ 9223372036854775807 := Nat.le_trans hs.gfle hs.gfle2
  have hbk := Bk.new w 26 (snR s)
  clear hs
  go_enter Tryd.func5, Tryd.ntmps5
  go_upto_region 1 with fail
  refine (show ∀ W1 : World, Below w.heap.size w W1 → Bk W1 w.heap.size 26 (snR s) → Code.wp _ _ _ _ W1 from fun W1 hb1 h1 => ?_) _ (ba (Below.refl _ _) _) hbk
  clear hbk
  have x0 : W1.cell? ⟨w.heap.size, 0, none⟩ = some (.slice s.cO s.cl.length s.cc) := h1.cell 0
  have x1 : W1.cell? ⟨w.heap.size, 1, none⟩ = some (.slice s.sO s.sl.length s.sc) := h1.cell 1
  have x2 : W1.cell? ⟨w.heap.size, 2, none⟩ = some (.slice s.fO s.fl.length s.fc) := h1.cell 2
  have HB := Lib.hid hb1
  have H1 := Lib.hid h1
  clear hb1 h1
  by_cases c6 : s.cl.length ≤ 6
  · by_cases s5 : s.sl.length ≤ 5
    · by_cases f70 : s.fl.length ≤ 70
      · clear hcl hsl hfl
        go_wp2_with fail
        clear x0 x1 x2
        go_loopw [3, 26] (fun a i wr => ∃ (k m : Nat), k ≤ s.fl.length ∧ i = .int .i64 k ∧ a = .int .i64 m ∧ m ≤ 20 * k ∧ Below W1.heap.size W1 wr ∧ ∀ j x, j < k → s.fl[j]? = some x → x.wl.length ≤ 20) (fun a i _ => s.fl.length - (intOf i).toNat)
        case atStart => exact ⟨0, 0, by omega, rfl, rfl, by omega, Below.refl _ _, fun j x hj => by omega⟩
        case round =>
          obtain ⟨k, m, hk, rfl, rfl, hm, hB, hw⟩ := hrel
          have HW := Lib.hid hw
          have HB2 := Lib.hid hB
          clear hw hB
          by_cases hlt : k < s.fl.length
          · obtain ⟨x, hx⟩ : ∃ x, s.fl[k]? = some x := ⟨_, List.getElem?_eq_getElem hlt⟩
            obtain ⟨b, off, e, hc⟩ := ((HS.out.gf.call HB.out).call HB2.out) (by omega)
            have q1 : wr.cell? ⟨b, off + k * 2 + 1, none⟩ = some (.slice x.wO x.wl.length x.wc) := hc k _ hx 1 _ rfl
            have y2 : wr.cell? ⟨w.heap.size, 2, none⟩ = some (.slice s.fO s.fl.length s.fc) := (H1.out.call HB2.out).cell 2
            rw [e] at y2
            have HX := Lib.hid hx
            have hxl : x.wl.length ≤ 9223372036854775807 := by
              have g := HS.out.gfall x (List.mem_of_getElem? hx)
              exact Nat.le_trans g.gwle g.gwle2
            clear hc e hx
            by_cases w20 : x.wl.length ≤ 20
            · go_wp2_with fail
              go_roundw
              case rel =>
                refine ⟨k + 1, m + x.wl.length, by omega, by go_num, by go_num, by omega, HB2.out, fun j y hj hy => ?_⟩
                by_cases e : j = k
                · subst e
                  rw [HX.out] at hy
                  cases hy
                  exact w20
                · exact HW.out j y (by omega) hy
              case measure => simp [intOf]; omega
            · go_wp2_with fail
              go_ret
              exact ⟨⟨true, rfl, fun h => by cases h⟩, bthen HB.out HB2.out⟩
          · obtain rfl : k = s.fl.length := by omega
            have y0 : wr.cell? ⟨w.heap.size, 0, none⟩ = some (.slice s.cO s.cl.length s.cc) := (H1.out.call HB2.out).cell 0
            have HFW := Lib.hid (show ∀ x ∈ s.fl, x.wl.length ≤ 20 from all_at (fun i x hi hx => HW.out i x hi hx))
            go_wp2_with fail
            clear y0
            obtain ⟨wo, rfl⟩ : ∃ wo : World, wo = wr := ⟨_, rfl⟩
            have HBw := Lib.hid (bthen HB.out HB2.out)
            have H2 := Lib.hid (H1.out.call HB2.out)
            clear HB2 HW hk hlt H1 HB
            go_loopw [50] (fun i wr => ∃ k : Nat, k ≤ s.cl.length ∧ i = .int .i64 k ∧ Below wo.heap.size wo wr ∧ ∀ j x, j < k → s.cl[j]? = some x → x.tl.length ≤ 10 ∧ x.kl.length ≤ 10 ∧ x.bl.length ≤ 10 ∧ x.wk.dl.length ≤ 200) (fun i _ => s.cl.length - (intOf i).toNat)
            case atStart => exact ⟨0, by omega, rfl, Below.refl _ _, fun j x hj => by omega⟩
            case round =>
              obtain ⟨k, hk, rfl, hB, hw⟩ := hrel
              have HW := Lib.hid hw
              have HB2 := Lib.hid hB
              clear hw hB
              have y0 : wr.cell? ⟨w.heap.size, 0, none⟩ = some (.slice s.cO s.cl.length s.cc) := (H2.out.call HB2.out).cell 0
              by_cases hlt : k < s.cl.length
              · obtain ⟨x, hx⟩ : ∃ x, s.cl[k]? = some x := ⟨_, List.getElem?_eq_getElem hlt⟩
                obtain ⟨b, off, hO, hrg⟩ := rk_range HS.out.gc (bthen HBw.out HB2.out) hx
                rw [hO] at y0
                have HX := Lib.hid hx
                have g := HS.out.gcall x (List.mem_of_getElem? hx)
                have l1 : x.tl.length ≤ 9223372036854775807 := Nat.le_trans g.gtle g.gtle2
                have l2 : x.kl.length ≤ 9223372036854775807 := Nat.le_trans g.gkle g.gkle2
                have l3 : x.bl.length ≤ 9223372036854775807 := Nat.le_trans g.gble g.gble2
                have l4 : x.wk.dl.length ≤ 9223372036854775807 := Nat.le_trans g.gwk.gdle g.gwk.gdle2
                have HR := Lib.hid hrg
                have HKz := Lib.hid (Bk.new wr 44 zCo)
                clear hrg hx hO g
                go_upto_region 15 with (first | refine get_Co rfl _ rfl b (off + k * 28) x rfl HR.out ?_ | refine box_Co rfl _ _ rfl wr.heap.size x _ rfl rfl HKz.out rfl ?_)
                refine (show ∀ W8 : World, Below wr.heap.size wr W8 → Bk W8 wr.heap.size 44 (coC x).toArray → Code.wp _ _ _ _ W8 from fun W8 hb8 hk8 => ?_) _ (brow (ba (Below.refl _ _) _) (Nat.le_refl _) _) (HKz.out.row _)
                have HB8 := Lib.hid (bthen HB2.out hb8)
                have q15 : W8.cell? ⟨wr.heap.size, 15, none⟩ = some (.slice x.tO x.tl.length x.tc) := hk8.cell 15
                have q16 : W8.cell? ⟨wr.heap.size, 16, none⟩ = some (.slice x.kO x.kl.length x.kc) := hk8.cell 16
                have q25 : W8.cell? ⟨wr.heap.size, 25, none⟩ = some (.slice x.bO x.bl.length x.bc) := hk8.cell 25
                have q12 : W8.cell? ⟨wr.heap.size, 12, none⟩ = some (.slice x.wk.dO x.wk.dl.length x.wk.dc) := hk8.cell 12
                clear hb8 hk8 HKz HR y0
                by_cases a1 : x.tl.length ≤ 10
                · by_cases a2 : x.kl.length ≤ 10
                  · by_cases a3 : x.bl.length ≤ 10
                    · by_cases a4 : x.wk.dl.length ≤ 200
                      · go_wp2_with fail
                        go_roundw
                        case rel =>
                          refine ⟨k + 1, by omega, by go_num, HB8.out, fun j y hj hy => ?_⟩
                          by_cases e : j = k
                          · subst e
                            rw [HX.out] at hy
                            cases hy
                            exact ⟨a1, a2, a3, a4⟩
                          · exact HW.out j y (by omega) hy
                        case measure => simp [intOf]; omega
                      · go_wp2_with fail
                        go_ret
                        exact ⟨⟨true, rfl, fun h => by cases h⟩, bthen HBw.out HB8.out⟩
                    · go_wp2_with fail
                      go_ret
                      exact ⟨⟨true, rfl, fun h => by cases h⟩, bthen HBw.out HB8.out⟩
                  · go_wp2_with fail
                    go_ret
                    exact ⟨⟨true, rfl, fun h => by cases h⟩, bthen HBw.out HB8.out⟩
                · go_wp2_with fail
                  go_ret
                  exact ⟨⟨true, rfl, fun h => by cases h⟩, bthen HBw.out HB8.out⟩
              · obtain rfl : k = s.cl.length := by omega
                have HSM := Lib.hid (show Sml s from ⟨c6, s5, f70, HFW.out, all_at (fun i x hi hx => HW.out i x hi hx)⟩)
                go_wp2_with fail
                go_ret
                exact ⟨⟨_, rfl, fun _ => HSM.out⟩, bthen HBw.out HB2.out⟩
      · go_wp2_with fail
        go_ret
        exact ⟨⟨true, rfl, fun h => by cases h⟩, HB.out⟩
    · go_wp2_with fail
      go_ret
      exact ⟨⟨true, rfl, fun h => by cases h⟩, HB.out⟩
  · go_wp2_with fail
    go_ret
    exact ⟨⟨true, rfl, fun h => by cases h⟩, HB.out⟩
set_option maxRecDepth 100000 in
set_option maxHeartbeats 2000000 in
theorem deep_any (s : Sn) (w : World) (hs : s.Given w) : Calls Tryd.prog 6 #[snA s] w fun e w' => AnyB e ∧ Below w.heap.size w w' := by
  have HS := Lib.hid hs
  have hfl : s.fl.length ≤ 9223372036854775807 := Nat.le_trans hs.gfle hs.gfle2
  have hbk := Bk.new w 26 (snR s)
  clear hs
  go_enter Tryd.func6, Tryd.ntmps6
  go_upto_region 1 with fail
  refine (show ∀ W1 : World, Below w.heap.size w W1 → Bk W1 w.heap.size 26 (snR s) → Code.wp _ _ _ _ W1 from fun W1 hb1 h1 => ?_) _ (ba (Below.refl _ _) _) hbk
  clear hbk
  have x2 : W1.cell? ⟨w.heap.size, 2, none⟩ = some (.slice s.fO s.fl.length s.fc) := h1.cell 2
  have HB := Lib.hid hb1
  have H1 := Lib.hid h1
  clear hb1 h1
  go_wp2_with fail
  clear x2
  go_loopw [3, 8] (fun a i wr => ∃ (k m : Nat), k ≤ s.fl.length ∧ i = .int .i64 k ∧ a = .int .i64 m ∧ m ≤ 9223372036854775807 ∧ Below W1.heap.size W1 wr) (fun a i _ => s.fl.length - (intOf i).toNat)
  case atStart => exact ⟨0, 0, by omega, rfl, rfl, by omega, Below.refl _ _⟩
  case round =>
    obtain ⟨k, m, hk, rfl, rfl, hm, hB⟩ := hrel
    have HB2 := Lib.hid hB
    clear hB
    by_cases hlt : k < s.fl.length
    · obtain ⟨x, hx⟩ : ∃ x, s.fl[k]? = some x := ⟨_, List.getElem?_eq_getElem hlt⟩
      obtain ⟨b, off, e, hc⟩ := ((HS.out.gf.call HB.out).call HB2.out) (by omega)
      have q1 : wr.cell? ⟨b, off + k * 2 + 1, none⟩ = some (.slice x.wO x.wl.length x.wc) := hc k _ hx 1 _ rfl
      have y2 : wr.cell? ⟨w.heap.size, 2, none⟩ = some (.slice s.fO s.fl.length s.fc) := (H1.out.call HB2.out).cell 2
      rw [e] at y2
      have hxl : x.wl.length ≤ 9223372036854775807 := by
        have g := HS.out.gfall x (List.mem_of_getElem? hx)
        exact Nat.le_trans g.gwle g.gwle2
      clear hc e hx
      go_wp2_with fail
      go_roundw
      case rel => exact ⟨k + 1, max m x.wl.length, by omega, by go_num, by go_num, by omega, HB2.out⟩
      case measure => simp [intOf]; omega
    · obtain rfl : k = s.fl.length := by omega
      go_wp2_with fail
      go_ret
      exact ⟨⟨_, rfl⟩, bthen HB.out HB2.out⟩
end Go.Proofs.YtappjiljmpgjcaaDoor
