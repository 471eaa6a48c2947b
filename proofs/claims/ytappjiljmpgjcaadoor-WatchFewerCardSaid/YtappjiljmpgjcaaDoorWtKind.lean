/-
  Layer 29: kind.
-/
import Derived.Test.YtappjiljmpgjcaaDoorWtIsTab
namespace Go.Proofs.YtappjiljmpgjcaaDoor
open Go.RowKit Go.Maps Go.Shelf
set_option linter.unusedVariables false
set_option linter.unusedSimpArgs false
section
variable {P : Program} {w : World} {a : Addr} {m : Mode}
theorem st_func (fn : Fn) (first captured : Array Value) : (store a (.func fn first captured) m).run P w = stored P w a (.func fn first captured) m := run_store P w a _ m rfl
end
attribute [local go_sem] st_func
theorem ix4_0 (a b c d : Value) (w : World) : (Instr.index 104 (.agg #[a, b, c, d]) (.int .i64 0)).run Tryd.prog w = .ok a w := by kernel_rfl
theorem ix4_1 (a b c d : Value) (w : World) : (Instr.index 104 (.agg #[a, b, c, d]) (.int .i64 1)).run Tryd.prog w = .ok b w := by kernel_rfl
theorem ix4_2 (a b c d : Value) (w : World) : (Instr.index 104 (.agg #[a, b, c, d]) (.int .i64 2)).run Tryd.prog w = .ok c w := by kernel_rfl
theorem ix4_3 (a b c d : Value) (w : World) : (Instr.index 104 (.agg #[a, b, c, d]) (.int .i64 3)).run Tryd.prog w = .ok d w := by kernel_rfl
theorem isTable_any {w0 : World} {s : Sn} (hs : s.Given w0) (hm : Sml s) (hG : G w0) (E : Nat → Prop) (W : World) (P : Nat) (rt : Rt) (f : Int) (hf : I64 f) (hrt : RtF s rt) (hV : Vx w0 E W P s rt) (hE : ∀ y, E y → y < W.heap.size) :
    Calls Tryd.prog 32 #[.pointer (some ⟨P, 0, none⟩), .int .i64 f] W (TabPost w0 s E W P f) := by
  rcases hrt with rfl | rfl
  · exact isTable_no hs hm hG E W P f hf hV hE
  · exact isTable_cnt E W P f hf hV
set_option maxRecDepth 100000 in
set_option maxHeartbeats 2000000 in
theorem kind1_any {w : World} {P T : Nat} {s : Sn} {m : Nat} {r : Value} (f : Int) (h : Bk w P 89 #[.slice s.cO s.cl.length s.cc, .slice s.sO s.sl.length s.sc, .slice s.fO s.fl.length s.fc, .map (some m), r]) (hT : Bk w T 63 #[.pointer (some ⟨P, 0, none⟩)]) :
    Calls Tryd.prog 30 #[.int .i64 f, .pointer (some ⟨T, 0, none⟩)] w fun e w' => e = .returned (.bool (!thr s f)) ∧ w = w' := by
  have c0 : w.cell? ⟨T, 0, none⟩ = some (.pointer (some ⟨P, 0, none⟩)) := hT.cell 0
  have H := Lib.hid h
  clear h hT
  go_enter Tryd.func30, Tryd.ntmps30
  go_wp2_with fail
  refine (wtThere_any f H.out).mono ?_
  rintro e w1 ⟨rfl, rfl⟩
  go_wp2_with fail
  go_ret
  exact ⟨rfl, rfl⟩
set_option maxRecDepth 100000 in
set_option maxHeartbeats 2000000 in
theorem kind2_any (f : Int) (w : World) : Calls Tryd.prog 31 #[.int .i64 f] w fun e w' => e = .returned (.bool (decide (f = 0))) ∧ w = w' := by
  go_enter Tryd.func31, Tryd.ntmps31
  go_wp2_with fail
  go_ret
  exact ⟨by by_cases h : f = 0 <;> simp [h], rfl⟩
set_option maxRecDepth 100000 in
set_option maxHeartbeats 4000000 in
theorem kind_any {w0 : World} {s : Sn} (hs : s.Given w0) (hm : Sml s) (hG : G w0) : KindDo s w0 := by
  intro E W P rt f hf hrt hV hE
  have HS := Lib.hid hs
  have HM := Lib.hid hm
  have HG := Lib.hid hG
  have HF := Lib.hid hf
  have HE := Lib.hid hE
  have HRT := Lib.hid hrt
  have HV := Lib.hid hV
  have h0 := Bk.new W 63 #[.pointer (some ⟨P, 0, none⟩)]
  clear hs hm hG hf hE hrt hV
  go_enter Tryd.func21, Tryd.ntmps21
  go_upto_region 1 with fail
  refine (show ∀ W1 : World, Below W.heap.size W W1 → Bk W1 W.heap.size 63 #[.pointer (some ⟨P, 0, none⟩)] → Code.wp _ _ _ _ W1 from fun W1 h1 h2 => ?_) _ (ba (Below.refl _ _) _) h0
  have c0 : W1.cell? ⟨W.heap.size, 0, none⟩ = some (.pointer (some ⟨P, 0, none⟩)) := h2.cell 0
  have HB1 := Lib.hid h1
  have H1 := Lib.hid h2
  clear h0 h1 h2
  obtain ⟨T, hT⟩ : ∃ T, T = W.heap.size := ⟨_, rfl⟩
  rw [← hT] at c0 H1 ⊢
  have HT := Lib.hid hT
  clear hT
  go_wp2_with fail
  obtain ⟨C, hC⟩ : ∃ C, C = Obj.cells #[.func (.func 30) #[] #[.pointer (some ⟨T, 0, none⟩)], .func (.func 24) #[.pointer (some ⟨P, 0, none⟩)] #[], .func (.func 31) #[] #[], .func (.func 32) #[.pointer (some ⟨P, 0, none⟩)] #[]] 104 := ⟨_, rfl⟩
  have HBC := Lib.hid (show Below W.heap.size W (W1.alloc C) from ba HB1.out C)
  have HTC := Lib.hid (H1.out.call (ba (Below.refl _ _) C))
  rw [hC] at HBC HTC
  clear hC
  have HK := Lib.hid (show kd s f = if thr s f = false then 0 else if fre s f = true then 1 else if f = 0 then 2 else if 0 < cnt4 (tabSeen s) f then 3 else 4 from rfl)
  clear c0
  have hTE : T = W.heap.size := HT.out
  go_loopw [15] (fun i wr => ∃ k : Nat, k ≤ 4 ∧ i = .int .i64 k ∧ (0 < k → thr s f = true) ∧ (1 < k → fre s f = false) ∧ (2 < k → f ≠ 0) ∧ (3 < k → cnt4 (tabSeen s) f = 0) ∧ (∃ rt', RtF s rt' ∧ Vx w0 (fun y => E y ∨ y = T) wr P s rt') ∧ Bk wr T 63 #[.pointer (some ⟨P, 0, none⟩)] ∧ Kp E W wr ∧ T < wr.heap.size) (fun i _ => 4 - (intOf i).toNat)
  case atStart => exact ⟨0, by omega, rfl, by omega, by omega, by omega, by omega, ⟨rt, HRT.out, HV.out.grow HBC.out (fun y hy => hy.imp id (fun e => by omega))⟩, HTC.out, Kp.of_below HBC.out, HTC.out.lt⟩
  case round =>
    obtain ⟨k, hk, rfl, g0, g1, g2, g3, ⟨rt', hrt', hv⟩, hbk, hkp, hTl⟩ := hrel
    have HRT' := Lib.hid hrt'
    have HV' := Lib.hid hv
    have HBK := Lib.hid hbk
    have HKP := Lib.hid hkp
    have HTl := Lib.hid hTl
    obtain ⟨mm, r, hstr⟩ := hv.str
    have HST := Lib.hid hstr
    clear hrt' hv hbk hkp hstr HBC HTC HV HRT hTl
    have hi0 := ix4_0
    have hi1 := ix4_1
    have hi2 := ix4_2
    have hi3 := ix4_3
    clear hTE
    by_cases k4 : k < 4
    · have hkc : k = 0 ∨ k = 1 ∨ k = 2 ∨ k = 3 := by omega
      have G0 := Lib.hid g0
      have G1 := Lib.hid g1
      have G2 := Lib.hid g2
      clear g0 g1 g2 g3 k4 hk
      rcases hkc with rfl | rfl | rfl | rfl
      · go_wp2_with fail
        refine (kind1_any f HST.out HBK.out).mono ?_
        rintro e w1 ⟨rfl, rfl⟩
        cases ht : thr s f with
        | true =>
          have HT1 := Lib.hid ht
          clear ht
          go_wp2_with fail
          go_roundw
          case rel => exact ⟨1, by omega, rfl, fun _ => HT1.out, by omega, by omega, by omega, ⟨rt', HRT'.out, HV'.out⟩, HBK.out, HKP.out, HTl.out⟩
          case measure => decide
        | false =>
          rw [ht] at HK
          clear ht
          go_wp2_with fail
          go_ret
          exact ⟨by rw [HK.out]; rfl, rt', HRT'.out, HV'.out.mono (fun y hy => .inl hy), HKP.out⟩
      · have ht := G0.out (by omega)
        refine (show ∀ _ : True, Code.wp _ _ _ _ _ from fun _ => ?_) trivial
        go_wp2_with fail
        refine (wtFree_any f HST.out (HS.out.call HV'.out.below) ht).mono ?_
        rintro e w1 ⟨rfl, rfl⟩
        have HT1 := Lib.hid ht
        rw [ht] at HK
        clear ht
        cases ht : fre s f with
        | false =>
          have HT2 := Lib.hid ht
          clear ht
          go_wp2_with fail
          go_roundw
          case rel => exact ⟨2, by omega, rfl, fun _ => HT1.out, fun _ => HT2.out, by omega, by omega, ⟨rt', HRT'.out, HV'.out⟩, HBK.out, HKP.out, HTl.out⟩
          case measure => decide
        | true =>
          rw [ht] at HK
          clear ht
          go_wp2_with fail
          go_ret
          exact ⟨by rw [HK.out]; rfl, rt', HRT'.out, HV'.out.mono (fun y hy => .inl hy), HKP.out⟩
      · rw [G0.out (by omega), G1.out (by omega)] at HK
        go_wp2_with fail
        refine (kind2_any f wr).mono ?_
        rintro e w1 ⟨rfl, rfl⟩
        by_cases ht : f = 0
        · have HT2 := Lib.hid ht
          rw [show decide (f = 0) = true by simp [ht]]
          clear ht
          go_wp2_with fail
          go_ret
          exact ⟨by rw [HK.out, if_pos HT2.out]; rfl, rt', HRT'.out, HV'.out.mono (fun y hy => .inl hy), HKP.out⟩
        · have HT2 := Lib.hid ht
          rw [show decide (f = 0) = false by simp [ht]]
          clear ht
          go_wp2_with fail
          go_roundw
          case rel => exact ⟨3, by omega, rfl, fun _ => G0.out (by omega), fun _ => G1.out (by omega), fun _ => HT2.out, by omega, ⟨rt', HRT'.out, HV'.out⟩, HBK.out, HKP.out, HTl.out⟩
          case measure => decide
      · rw [G0.out (by omega), G1.out (by omega), if_neg (G2.out (by omega))] at HK
        go_wp2_with fail
        refine (isTable_any HS.out HM.out HG.out (fun y => E y ∨ y = T) wr P rt' f HF.out HRT'.out HV'.out (fun y hy => ?_)).mono ?_
        · rcases hy with hy | rfl
          · have := HE.out y hy; have := HKP.out.1.size; omega
          · exact HTl.out
        rintro e w1 ⟨rfl, rt2, hr2, hv2, hk2⟩
        have HR2 := Lib.hid hr2
        have HV2 := Lib.hid hv2
        have HBK2 := Lib.hid (hk2.bk HBK.out (.inr rfl))
        have HKP2 := Lib.hid (HKP.out.trans (hk2.mono (fun y hy => .inl hy)))
        have HTl2 := Lib.hid (HBK2.out.lt)
        clear hr2 hv2 hk2
        by_cases ht : 0 < cnt4 (tabSeen s) f
        · have HT2 := Lib.hid ht
          rw [show decide (0 < cnt4 (tabSeen s) f) = true by simp [ht]]
          clear ht
          go_wp2_with fail
          go_ret
          exact ⟨by rw [HK.out, if_pos HT2.out]; rfl, rt2, HR2.out, HV2.out.mono (fun y hy => .inl hy), HKP2.out⟩
        · have HT2 := Lib.hid ht
          rw [show decide (0 < cnt4 (tabSeen s) f) = false from decide_eq_false ht]
          clear ht
          go_wp2_with fail
          go_roundw
          case rel => exact ⟨4, by omega, rfl, fun _ => G0.out (by omega), fun _ => G1.out (by omega), fun _ => G2.out (by omega), fun _ => by have := HT2.out; omega, ⟨rt2, HR2.out, HV2.out⟩, HBK2.out, HKP2.out, HTl2.out⟩
          case measure => decide
    · obtain rfl : k = 4 := by omega
      have HK4 := Lib.hid (show kd s f = 4 by rw [HK.out, g0 (by omega), g1 (by omega), if_neg (g2 (by omega)), g3 (by omega)]; rfl)
      clear g0 g1 g2 g3 k4 hk
      go_wp2_with fail
      go_ret
      exact ⟨by rw [HK4.out]; rfl, rt', HRT'.out, HV'.out.mono (fun y hy => .inl hy), HKP.out⟩
end Go.Proofs.YtappjiljmpgjcaaDoor
