/-
  Layer 29: Unlike.
-/
import Derived.Test.YtappjiljmpgjcaaDoorWtUnlR
import Derived.Deep.DeepCutAuto
import Derived.Shelf.Abstract
namespace Go.Proofs.YtappjiljmpgjcaaDoor
open Go.RowKit Go.Maps Go.Shelf
set_option linter.unusedVariables false
set_option linter.unusedSimpArgs false
/-- What Unlike's question keeps. -/
def UnJ (w : World) (U : Nat → Prop) (W1 : World) (P : Nat) (s : Sn) (E : Nat → Prop) (W : World) : Prop := Vx w (fun y => E y ∨ (U y ∧ y < W1.heap.size)) W P s .no ∧ Lies U W1 W ∧ W1.heap.size ≤ W.heap.size
theorem unJ_grow {w W1 : World} {U : Nat → Prop} {P : Nat} {s : Sn} : ∀ E E' W W', UnJ w U W1 P s E W → Below W.heap.size W W' → (∀ x, E' x → E x ∨ W.heap.size ≤ x) → UnJ w U W1 P s E' W' := by
  rintro E E' W W' ⟨h1, h2, h3⟩ hb hE
  refine ⟨h1.grow hb (fun x hx => ?_), h2.step (E := fun _ => True) (fun _ _ _ => trivial) h3 (Kp.of_below hb), Nat.le_trans h3 hb.size⟩
  rcases hx with hx | hx
  · exact (hE x hx).imp .inl id
  · exact .inl (.inr hx)
theorem un_asks {w W1 : World} {P a b T5 T6 T7 : Nat} {s : Sn} {by' : Int → List Int} (hs : s.Given w) (hG : G w) (hn : s.fl.length ≤ 1000) (hU : UnB (fun y => w.heap.size ≤ y ∧ Oth a b y) W1 P T5 T6 T7 (ents s.cl) by') :
    Asks w 19 #[.pointer (some ⟨T6, 0, none⟩), .pointer (some ⟨T7, 0, none⟩), .pointer (some ⟨T5, 0, none⟩)] (unl1 (ents s.cl) by' s) (UnJ w (fun y => w.heap.size ≤ y ∧ Oth a b y) W1 P s) where
  enters := enters_of Tryd.func19 (by kernel_rfl) rfl
  call := by
    rintro E W x hE ⟨h1, h2, h3⟩ hx
    have hE' : ∀ y, (fun y => E y ∨ ((w.heap.size ≤ y ∧ Oth a b y) ∧ y < W1.heap.size)) y → y < W.heap.size := fun y hy => by
      rcases hy with hy | ⟨_, hy⟩
      · exact hE y hy
      · omega
    refine (unl1_any x hx h1 hs hG hn hE' (fun y h4 h5 => .inr ⟨h4, h5⟩) hU h2 h3).mono ?_
    rintro e W' ⟨rfl, h4, h5⟩
    exact ⟨rfl, ⟨h4, h2.step (fun y h6 h7 => .inr ⟨h6, h7⟩) h3 h5, Nat.le_trans h3 h5.1.size⟩, h5.mono (fun y hy => .inl hy)⟩
  grow := unJ_grow
  below := fun E W h => h.1.below
set_option maxRecDepth 100000 in
set_option maxHeartbeats 2000000 in
theorem unlike_any (s : Sn) (w : World) (by' : Int → List Int) (hs : s.Given w) (hm : Sml s) (hG : G w) (hr : RootsDo s w by') :
    Calls Tryd.prog 10 #[snA s] w fun e w' => e = .returned (entV (findC (unl1 (ents s.cl) by' s) s.cl 0)) ∧ Below w.heap.size w w' := by
  have HS := Lib.hid hs
  have HM := Lib.hid hm
  have HG := Lib.hid hG
  have HR := Lib.hid hr
  have hbk := Bk.new w 26 (snR s)
  clear hs hm hG hr
  go_enter Tryd.func10, Tryd.ntmps10
  go_upto_region 1 with fail
  refine un_region _ s w _ by' w.heap.size HS.out HM.out HR.out (Nat.le_refl _) (ba (Below.refl _ _) _) hbk ?_
  clear hbk
  intro W P a b M M2 T5 T6 T7 hB hK hV hab hN hM hY h5 g5 e5 h6 g6 e6 h7 g7 e7
  have HB := Lib.hid hB
  have x0 : W.cell? ⟨w.heap.size, 0, none⟩ = some (.slice s.cO s.cl.length s.cc) := hK.cell 0
  have x1 : W.cell? ⟨w.heap.size, 1, none⟩ = some (.slice s.sO s.sl.length s.sc) := hK.cell 1
  have x2 : W.cell? ⟨w.heap.size, 2, none⟩ = some (.slice s.fO s.fl.length s.fc) := hK.cell 2
  have hU : UnB (fun y => w.heap.size ≤ y ∧ Oth a b y) W P T5 T6 T7 (ents s.cl) by' := ⟨h5, ⟨M, h6, hN, hM⟩, ⟨M2, h7, hY⟩, ⟨g5, e5⟩, ⟨g6, e6⟩, ⟨g7, e7⟩⟩
  have HA := Lib.hid (un_asks HS.out HG.out (by have := HM.out.nfl; omega) hU)
  have HJ := Lib.hid (show UnJ w (fun y => w.heap.size ≤ y ∧ Oth a b y) W P s (fun _ => False) W from ⟨hV.mono (fun y hy => hy.elim False.elim (fun h => h.1.2)), fun _ _ _ => rfl, Nat.le_refl _⟩)
  clear hB hK hV hab hN hM hY h5 g5 e5 h6 g6 e6 h7 g7 e7 hU
  go_wp2_with fail
  refine (entry_any s W (fun _ => False) HA.out HS.out HM.out HJ.out (fun _ h => h.elim)).mono ?_
  rintro e W2 ⟨rfl, hj, hk⟩
  have HB2 := Lib.hid hj.1.below
  clear hj hk x0 x1 x2
  cases hf : findC (unl1 (ents s.cl) by' s) s.cl 0 with
  | none =>
    simp only [entV]
    go_wp2_with fail
    go_ret3
    exact ⟨by rw [hf]; rfl, HB2.out⟩
  | some q =>
    obtain ⟨n, i⟩ := q
    simp only [entV]
    go_wp2_with fail
    go_ret3
    exact ⟨by rw [hf]; rfl, HB2.out⟩
end Go.Proofs.YtappjiljmpgjcaaDoor
