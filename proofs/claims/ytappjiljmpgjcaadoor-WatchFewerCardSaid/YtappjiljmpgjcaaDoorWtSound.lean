/-
  Layer 29: Sound.
-/
import Derived.Test.YtappjiljmpgjcaaDoorWtReaching
import Derived.Test.YtappjiljmpgjcaaDoorWtHold
namespace Go.Proofs.YtappjiljmpgjcaaDoor
open Go.RowKit Go.Maps Go.Shelf
set_option linter.unusedVariables false
set_option linter.unusedSimpArgs false
def soundP (s : Sn) (by' : Int → List Int) : Bool := (findC (unl1 (ents s.cl) by' s) s.cl 0).isNone && ((findC (for1 by' s) s.cl 0).isNone && ((findR (reachC (gone s)) s.cl 0).isNone && decide ((holdL s.cl 0).length ≤ 1)))
theorem RootsDo.later {s : Sn} {w W : World} {by' : Int → List Int} (h : RootsDo s w by') (hb : Below w.heap.size w W) : RootsDo s W by' := fun w' hw' => h w' (bthen hb hw')
set_option maxRecDepth 100000 in
set_option maxHeartbeats 4000000 in
theorem sound_any (s : Sn) (w : World) (by' : Int → List Int) (hs : s.Given w) (hm : Sml s) (hG : G w) (hr : RootsDo s w by') (hk : (∀ a, by' a = []) ∨ ∀ W, Below w.heap.size w W → KindDo s W) :
    Calls Tryd.prog 7 #[snA s] w fun e w' => e = .returned (.bool (soundP s by')) ∧ Below w.heap.size w w' := by
  have HS := Lib.hid hs
  have HM := Lib.hid hm
  have HG := Lib.hid hG
  have HR := Lib.hid hr
  have HK := Lib.hid hk
  have hbk := Bk.new w 26 (snR s)
  have HP := Lib.hid (show soundP s by' = ((findC (unl1 (ents s.cl) by' s) s.cl 0).isNone && ((findC (for1 by' s) s.cl 0).isNone && ((findR (reachC (gone s)) s.cl 0).isNone && decide ((holdL s.cl 0).length ≤ 1)))) from rfl)
  have hl6 : (holdL s.cl 0).length ≤ 6 := Nat.le_trans (holdL_len _ _) hm.ncl
  clear hs hm hG hr hk
  go_enter Tryd.func7, Tryd.ntmps7
  go_upto_region 1 with fail
  refine (show ∀ W1 : World, Below w.heap.size w W1 → Bk W1 w.heap.size 26 (snR s) → Code.wp _ _ _ _ W1 from fun W1 hb1 h1 => ?_) _ (ba (Below.refl _ _) _) hbk
  have x0 : W1.cell? ⟨w.heap.size, 0, none⟩ = some (.slice s.cO s.cl.length s.cc) := h1.cell 0
  have x1 : W1.cell? ⟨w.heap.size, 1, none⟩ = some (.slice s.sO s.sl.length s.sc) := h1.cell 1
  have x2 : W1.cell? ⟨w.heap.size, 2, none⟩ = some (.slice s.fO s.fl.length s.fc) := h1.cell 2
  have HB1 := Lib.hid hb1
  have HK1 := Lib.hid h1
  clear hbk hb1 h1
  go_wp2_with fail
  refine (unlike_any s W1 by' (HS.out.call HB1.out) HM.out (HG.out.call HB1.out) (HR.out.later HB1.out)).mono ?_
  rintro e w2 ⟨rfl, hb2⟩
  have HB2 := Lib.hid (bthen HB1.out hb2)
  have HK2 := Lib.hid (HK1.out.call hb2)
  clear hb2 x0 x1 x2 HK1 HB1
  have x0 : w2.cell? ⟨w.heap.size, 0, none⟩ = some (.slice s.cO s.cl.length s.cc) := HK2.out.cell 0
  have x1 : w2.cell? ⟨w.heap.size, 1, none⟩ = some (.slice s.sO s.sl.length s.sc) := HK2.out.cell 1
  have x2 : w2.cell? ⟨w.heap.size, 2, none⟩ = some (.slice s.fO s.fl.length s.fc) := HK2.out.cell 2
  cases h1 : findC (unl1 (ents s.cl) by' s) s.cl 0 with
  | some q =>
    obtain ⟨n, i⟩ := q
    rw [h1] at HP
    clear h1
    simp only [entV]
    go_wp2_with fail
    go_ret
    exact ⟨by rw [HP.out]; rfl, HB2.out⟩
  | none =>
    rw [h1] at HP
    clear h1
    simp only [entV]
    go_wp2_with fail
    refine (foreign_any s w2 by' (HS.out.call HB2.out) HM.out (HR.out.later HB2.out) (HK.out.imp id (fun h => h w2 HB2.out))).mono ?_
    rintro e w3 ⟨rfl, hb3⟩
    have HB3 := Lib.hid (bthen HB2.out hb3)
    have HK3 := Lib.hid (HK2.out.call hb3)
    clear hb3 x0 x1 x2 HK2 HB2
    have x0 : w3.cell? ⟨w.heap.size, 0, none⟩ = some (.slice s.cO s.cl.length s.cc) := HK3.out.cell 0
    have x1 : w3.cell? ⟨w.heap.size, 1, none⟩ = some (.slice s.sO s.sl.length s.sc) := HK3.out.cell 1
    have x2 : w3.cell? ⟨w.heap.size, 2, none⟩ = some (.slice s.fO s.fl.length s.fc) := HK3.out.cell 2
    cases h1 : findC (for1 by' s) s.cl 0 with
    | some q =>
      obtain ⟨n, i⟩ := q
      rw [h1] at HP
      clear h1
      simp only [entV]
      go_wp2_with fail
      go_ret
      exact ⟨by rw [HP.out]; rfl, HB3.out⟩
    | none =>
      rw [h1] at HP
      clear h1
      simp only [entV]
      go_wp2_with fail
      refine (reaching_any s w3 (HS.out.call HB3.out) HM.out).mono ?_
      rintro e w4 ⟨rfl, hb4⟩
      have HB4 := Lib.hid (bthen HB3.out hb4)
      have HK4 := Lib.hid (HK3.out.call hb4)
      clear hb4 x0 x1 x2 HK3 HB3
      have x0 : w4.cell? ⟨w.heap.size, 0, none⟩ = some (.slice s.cO s.cl.length s.cc) := HK4.out.cell 0
      have x1 : w4.cell? ⟨w.heap.size, 1, none⟩ = some (.slice s.sO s.sl.length s.sc) := HK4.out.cell 1
      have x2 : w4.cell? ⟨w.heap.size, 2, none⟩ = some (.slice s.fO s.fl.length s.fc) := HK4.out.cell 2
      cases h1 : findR (reachC (gone s)) s.cl 0 with
      | some q =>
        rw [h1] at HP
        clear h1
        simp only [reaV]
        go_wp2_with fail
        go_ret
        exact ⟨by rw [HP.out]; rfl, HB4.out⟩
      | none =>
        rw [h1] at HP
        clear h1
        simp only [reaV]
        go_wp2_with fail
        refine (holders_any s w4 (HS.out.call HB4.out) HM.out).mono ?_
        rintro e w5 ⟨⟨O, cap, rfl⟩, hb5⟩
        have HB5 := Lib.hid (bthen HB4.out hb5)
        clear hb5 x0 x1 x2 HK4 HB4
        generalize (holdL s.cl 0).length = n at *
        go_wp2_with fail
        go_ret
        exact ⟨by rw [HP.out]; simp; omega, HB5.out⟩
end Go.Proofs.YtappjiljmpgjcaaDoor
