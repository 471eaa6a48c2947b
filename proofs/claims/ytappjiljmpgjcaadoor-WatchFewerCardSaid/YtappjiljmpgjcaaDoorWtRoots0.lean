/-
  Layer 29: roots where no core runs.
-/
import Derived.Test.YtappjiljmpgjcaaDoorWtUnl1
import Derived.RangeFuncNested
import Derived.RangeFuncBound
import Derived.RangeFuncCalls
import Derived.RangeFuncLeaves
import Derived.Shelf.Abstract
import Derived.Shelf.RegionOpen
import Derived.OwnWalkIn
import Derived.TacticsInMore
import Derived.LoopNIn
import Derived.LoopIn
namespace Go.Proofs.YtappjiljmpgjcaaDoor
open Go.RowKit Go.Maps Go.Shelf
set_option linter.unusedVariables false
set_option linter.unusedSimpArgs false
attribute [local go_sem] Oper.semAt_some
/-- No core but the first runs. -/
def Idle (cl : List Co) : Prop := ∀ k x, 0 < k → cl[k]? = some x → x.rt = 0
set_option maxRecDepth 100000 in
set_option maxHeartbeats 2000000 in
theorem running_any (s : Sn) (w : World) : Calls Tryd.prog 29 #[snA s] w fun e w' => e = .returned (.func (.func 36) #[] #[.pointer (some ⟨w.heap.size, 0, none⟩)]) ∧ Below w.heap.size w w' ∧ Bk w' w.heap.size 26 (snR s) := by
  have hbk := Lib.hid (Bk.new w 26 (snR s))
  go_enter Tryd.func29, Tryd.ntmps29
  go_wp2_with fail
  go_ret
  exact ⟨rfl, ba (Below.refl _ _) _, hbk.out⟩
set_option maxRecDepth 100000 in
set_option maxHeartbeats 2000000 in
theorem running1_idle (v : Value) (R : Nat) (s : Sn) (w0 W : World) (hs : s.Given w0) (hm : Sml s) (hi : Idle s.cl) (hb : Below w0.heap.size w0 W) (hR : Bk W R 26 (snR s)) :
    Calls Tryd.prog 36 #[v, .pointer (some ⟨R, 0, none⟩)] W fun e W' => (∃ v, e = .returned v) ∧ Below W.heap.size W W' := by
  have x0 : W.cell? ⟨R, 0, none⟩ = some (.slice s.cO s.cl.length s.cc) := hR.cell 0
  have HS := Lib.hid hs
  have HI := Lib.hid hi
  have HB := Lib.hid hb
  have hcl : s.cl.length ≤ 6 := hm.ncl
  clear hs hm hi hb hR
  go_enter Tryd.func36, Tryd.ntmps36
  go_wp2_with fail
  clear x0
  go_loopw [8] (fun i wr => ∃ k : Nat, k ≤ s.cl.length ∧ i = .int .i64 k ∧ Below W.heap.size W wr) (fun i _ => s.cl.length - (intOf i).toNat)
  case atStart => exact ⟨0, by omega, rfl, Below.refl _ _⟩
  case round =>
    obtain ⟨k, hk, rfl, hB⟩ := hrel
    by_cases hlt : k < s.cl.length
    · obtain ⟨x, hx⟩ : ∃ x, s.cl[k]? = some x := ⟨_, List.getElem?_eq_getElem hlt⟩
      obtain ⟨b, off, hO, hrg⟩ := rk_range HS.out.gc (bthen HB.out hB) hx
      rw [hO]
      have HR := Lib.hid hrg
      have HX := Lib.hid hx
      have HBr := Lib.hid hB
      have HKz := Lib.hid (Bk.new wr 44 zCo)
      clear hrg hx hB
      go_upto_region 3 with (first | refine get_Co rfl _ rfl b (off + k * 28) x rfl HR.out ?_ | refine box_Co rfl _ _ rfl wr.heap.size x _ rfl rfl HKz.out rfl ?_)
      refine (show ∀ W8 : World, Below wr.heap.size wr W8 → Bk W8 wr.heap.size 44 (coC x).toArray → Code.wp _ _ _ _ W8 from fun W8 hb8 hk8 => ?_) _ (brow (ba (Below.refl _ _) _) (Nat.le_refl _) _) (HKz.out.row _)
      have HB8 := Lib.hid (bthen HBr.out hb8)
      have q2 : W8.cell? ⟨wr.heap.size, 2, none⟩ = some (.int .i64 x.rt) := hk8.cell 2
      clear hb8 hk8 HKz HR
      by_cases k0 : 0 < k
      · have hr0 : x.rt = 0 := HI.out k x k0 HX.out
        rw [hr0] at q2
        have kb : decide ((0 : Int) < k) = true := by simp; omega
        go_wp2_with fail
        go_roundw
        case rel => exact ⟨k + 1, by omega, by go_num, HB8.out⟩
        case measure => simp [intOf]; omega
      · obtain rfl : k = 0 := by omega
        go_wp2_with fail
        go_roundw
        case rel => exact ⟨1, by omega, by go_num, HB8.out⟩
        case measure => simp [intOf]; omega
    · obtain rfl : k = s.cl.length := by omega
      have HBr := Lib.hid hB
      go_wp2_with fail
      go_end0
      exact ⟨⟨_, rfl⟩, HBr.out⟩
theorem idle_stops (R : Nat) (s : Sn) (w0 w : World) (hs : s.Given w0) (hm : Sml s) (hi : Idle s.cl) (hb : Below w0.heap.size w0 w) (hR : Bk w R 26 (snR s)) :
    SeqStopsK Fence.wide 19 Tryd.prog 36 #[.pointer (some ⟨R, 0, none⟩)] (fun e : Empty => (nomatch e : Array Value)) (fun _ _ => True) (fun ys => ys = []) (fun _ => False) 0 w := by
  intro l J Jx W hW hJ hJx hY h0
  refine (callsIn_wide.2 (running1_idle (.func (.yield l) #[] #[]) R s w0 W hs hm hi (bthen hb hW) (hR.call hW))).mono ?_
  rintro e W' ⟨h1, h2⟩
  exact ⟨h1, .inl ⟨[], rfl, hJ [] W W' none h0 ⟨h2.os, h2.tape, h2.output, h2.size, fun k hk _ => h2.block k hk⟩ (fun r e => by cases e)⟩⟩
theorem byM_none {U : Nat → Prop} {M : Nat} {w : World} (h : Mp 3 w M 0 fun _ => none) (hB : U M) : ByM U w M (fun _ => []) := by
  refine ⟨hB, 0, _, h, fun a _ => ⟨none, 0, rfl, ?_, Nat.zero_le _, ?_, ?_⟩⟩
  · intro h0; exact absurd h0 (Nat.lt_irrefl 0)
  · intro b off h0; cases h0
  · intro r hr; cases hr
set_option maxRecDepth 100000 in
set_option maxHeartbeats 2000000 in
theorem roots_idle (s : Sn) (w : World) (hs : s.Given w) (hm : Sml s) (hi : Idle s.cl) : Calls Tryd.prog 17 #[snA s] w fun e w' => ∃ M, e = .returned (.map (some M)) ∧ ByM (fun y => w.heap.size ≤ y) w' M (fun _ => []) ∧ Below w.heap.size w w' := by
  have HS := Lib.hid hs
  have HM := Lib.hid hm
  have HI := Lib.hid hi
  have hmm := @run_makeMap Tryd.prog
  have hbk := Bk.new w 26 (snR s)
  have hm1 := Mp.made 3 (w.alloc (.cells (snR s) 26))
  have hk2 := Bk.new ((w.alloc (.cells (snR s) 26)).alloc (.map #[] 0)) 71 #[.map (some (w.heap.size + 1))]
  rw [World.size_alloc] at hm1
  simp only [World.size_alloc] at hk2
  clear hs hm hi
  refine callsIn_wide (n := 20).1 ?_
  refine callsIn_of_wp_marks Tryd.func17 rfl trivial ?_ rfl
  refine wpIn_wide.2 ?_
  simp only [Tryd.ntmps17, List.size_toArray, List.length_cons, List.length_nil, Nat.reduceAdd, Nat.reduceSub, Array.replicate_succ, Array.replicate_zero, List.push_toArray, List.append_toArray, List.nil_append, List.cons_append]
  go_upto_region 3 with fail
  refine (show ∀ W3 : World, Below w.heap.size w W3 → Bk W3 w.heap.size 26 (snR s) → Bk W3 (w.heap.size + 2) 71 #[.map (some (w.heap.size + 1))] → Mp 3 W3 (w.heap.size + 1) 0 (fun _ => none) → Code.wp _ _ _ _ W3 from fun W3 hb3 h3 h4 h5 => ?_) _ (ba (ba (ba (ba (ba (Below.refl _ _) _) _) _) _) _)
    ((((hbk.call (ba (Below.refl _ _) (.map #[] 0))).call (ba (Below.refl _ _) _)).call (ba (Below.refl _ _) (.map #[] 0))).call (ba (Below.refl _ _) _)) ((hk2.call (ba (Below.refl _ _) (.map #[] 0))).call (ba (Below.refl _ _) _)) (((hm1.call (ba (Below.refl _ _) _)).call (ba (Below.refl _ _) (.map #[] 0))).call (ba (Below.refl _ _) _))
  obtain ⟨M, hM⟩ : ∃ M, M = w.heap.size + 1 := ⟨_, rfl⟩
  obtain ⟨T, hT⟩ : ∃ T, T = w.heap.size + 1 + 1 := ⟨_, rfl⟩
  rw [← hT]
  have h4' : Bk W3 T 71 #[.map (some M)] := by rw [hT, hM]; exact h4
  have h5' : Mp 3 W3 M 0 (fun _ => none) := by rw [hM]; exact h5
  have HB3 := Lib.hid hb3
  have H4 := Lib.hid h4'
  have H5 := Lib.hid h5'
  have HMs := Lib.hid (show w.heap.size ≤ M by omega)
  have x0 : W3.cell? ⟨w.heap.size, 0, none⟩ = some (.slice s.cO s.cl.length s.cc) := h3.cell 0
  have x1 : W3.cell? ⟨w.heap.size, 1, none⟩ = some (.slice s.sO s.sl.length s.sc) := h3.cell 1
  have x2 : W3.cell? ⟨w.heap.size, 2, none⟩ = some (.slice s.fO s.fl.length s.fc) := h3.cell 2
  clear h3 h4 h5 h4' h5' hM hT hb3 hbk hm1 hk2 hmm
  go_wp2_with fail
  refine (running_any s W3).mono ?_
  rintro e W4 ⟨rfl, hb4, hk4⟩
  have HB4 := Lib.hid (bthen HB3.out hb4)
  have H44 := Lib.hid (H4.out.call hb4)
  have H54 := Lib.hid (H5.out.call hb4)
  have HK4 := Lib.hid hk4
  have HT4 := Lib.hid (show W3.heap.size < W4.heap.size from hk4.lt)
  clear hb4 hk4 x0 x1 x2 H4 H5
  have HTW := Lib.hid (show T < W4.heap.size from H44.out.lt)
  have HMW := Lib.hid (show M < W4.heap.size from H54.out.lt)
  generalize W3.heap.size = R at *
  go_wp2_with fail
  refine (show ∀ a : Go.Act, a = _ → Code.wp _ _ _ a W4 from fun a ha => ?_) _ rfl
  refine (wpIn_wide (n := 20)).1 ?_
  refine wpIn_rangeFunc_ownH (n := 20) rfl (by omega) (gf := 36) (lb := #[.pointer (some ⟨R, 0, none⟩)]) (by rw [ha]; rfl) trivial (enters_of Tryd.func36 (by kernel_rfl) rfl) (idle_stops R s w W4 HS.out HM.out HI.out HB4.out HK4.out) (fun _ _ => trivial) (fun _ _ _ _ _ _ _ _ => trivial) (Below.refl _ _) (fun e => nomatch e)
    (fun _ W => Below w.heap.size w W ∧ Bk W T 71 #[.map (some M)] ∧ Mp 3 W M 0 (fun _ => none)) (fun _ _ _ => False) ?hI ?hIx ?h0 (fun e _ _ => nomatch e) ?hAx ?assign ?body ?done ?stop
  case hI =>
    rintro s' X Y row ⟨h1, h2, h3⟩ hg hr
    have hTX := h2.lt
    have hMX := h3.lt
    refine ⟨h1.grown hg h1.size (fun r e => by have := (hr r e).1; have := HB4.out.size; omega), ?_, ?_⟩
    · exact (hg.block T hTX (fun e => by have := (hr T e.symm).1; have := HTW.out; omega)).trans h2
    · exact h3.block (hg.block M hMX (fun e => by have := (hr M e.symm).1; have := HMW.out; omega))
  case hIx => intro c s' X Y row h hg hr; exact h
  case h0 => exact ⟨HB4.out, H44.out, H54.out⟩
  case hAx => intro x; exact nomatch x
  case assign => intro l pre x; exact nomatch x
  case body => intro l pre x; exact nomatch x
  case done =>
    rintro D xs W hD hS ⟨h1, h2, h3⟩ hdf
    have hK' := hdf
    have x3 : W.cell? ⟨T, 0, none⟩ = some (.map (some M)) := h2.cell 0
    have H3 := Lib.hid h3
    have HBD := Lib.hid h1
    have HD := Lib.hid hD
    clear h1 h2 h3 hdf
    rw [ha]
    gi_wp2
    go_wp2_with fail
    refine ⟨by simp, .inl ⟨_, _, rfl, run_takeDeferred hK', ?_⟩⟩
    have hg := grownBy_putObj' W D (.deferred none)
    refine ⟨_, results_tmp rfl _ _ _, M, rfl, byM_none (H3.out.block (hg.block M H3.out.lt (fun e => ?_))) HMs.out, HBD.out.grown hg HBD.out.size (fun r e => ?_)⟩
    · cases e; have := HMW.out; have := HD.out; omega
    · cases e; have := HD.out; have := HB4.out.size; omega
  case stop => intro D c pre W hD h; exact h.elim
end Go.Proofs.YtappjiljmpgjcaaDoor
