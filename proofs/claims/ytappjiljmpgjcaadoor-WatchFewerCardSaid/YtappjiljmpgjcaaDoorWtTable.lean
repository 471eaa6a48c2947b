/-
  Layer 29: table: a frame's words, as they were wanted.
-/
import Derived.Test.YtappjiljmpgjcaaDoorWtView
import Derived.Deep.DeepCutAuto
namespace Go.Proofs.YtappjiljmpgjcaaDoor
open Go.RowKit Go.Maps
set_option linter.unusedVariables false
set_option linter.unusedSimpArgs false
/-- What table answers. -/
def TbRes (w' : World) (s : Sn) (f : Int) (v : Value) : Prop :=
  (thr s f = false ∧ v = .pointer none) ∨ (thr s f = true ∧ ∃ b : Nat, v = .pointer (some ⟨b, 0, none⟩) ∧ Bk w' b 110 (rowOf (tb s f)))
/-- A row of words comes to be in the view. -/
theorem Vw.put {w w1 w' : World} {P m K : Nat} {s : Sn} {F : Nat → Prop} {on : Value → Option Value} {r : Value} {rt : Rt} {f : Int} {b : Nat} (h : Vw w P m K s F on r rt) (hk1 : Keeps (fun x => x = b) w w1) (hb : w.heap.size ≤ b)
    (hB : Bk w1 b 110 (rowOf (tb s f))) (ht : thr s f = true) (hI : I64 f) (hno : on (.int .i64 f) = none) (hm : Mp 3 w' m (K + 1) (updV on (.int .i64 f) (.pointer (some ⟨b, 0, none⟩)))) (hk2 : Keeps (fun x => x = m) w1 w') :
    Vw w' P m (K + 1) s (fun x => F x ∨ x = b) (updV on (.int .i64 f) (.pointer (some ⟨b, 0, none⟩))) r rt ∧ Bk w' b 110 (rowOf (tb s f)) ∧ Keeps (fun x => x = m) w w' := by
  have nF : ∀ x, F x → x ≠ b := fun x hx e => by have := h.lt x hx; omega
  have hV1 : Vw w1 P m K s F on r rt := h.keep hk1 nF
  have hbm : b ≠ m := fun e => nF m h.mF e.symm
  have hPm : P ≠ m := hV1.map.ne_bk hV1.str
  have hB' : Bk w' b 110 (rowOf (tb s f)) := hB.keep hk2 (fun e => hbm e)
  have hkk : Keeps (fun x => x = m) w w' := by
    refine ⟨hk2.os.trans hk1.os, hk2.tape.trans hk1.tape, hk2.output.trans hk1.output, Nat.le_trans hk1.size hk2.size, fun i hi hn => ?_⟩
    exact (hk2.block i (Nat.lt_of_lt_of_le hi hk1.size) hn).trans (hk1.block i hi (fun e => by omega))
  refine ⟨⟨hV1.str.keep hk2 (fun e => hPm e), hm, ?_, .inl h.pF, .inl h.mF, ?_, ?_, ?_⟩, hB', hkk⟩
  · obtain ⟨h0, h1⟩ := (thr_iff s f).1 ht
    obtain ⟨k, rfl⟩ := Int.eq_ofNat_of_zero_le h0
    have := cntN_add (g := fun i => (on (.int .i64 (i : Nat))).isSome) (g' := fun i => (updV on (.int .i64 (k : Nat)) (.pointer (some ⟨b, 0, none⟩)) (.int .i64 (i : Nat))).isSome) (f := k) (by simp [hno]) (by simp [updV_same])
      (fun i hi => by show Option.isSome (updV _ _ _ _) = _; rw [updV_other _ _ (fun e => hi (by injection e with _ e; omega))]) s.fl.length (by omega)
    have hc := h.cnt
    omega
  · intro x hx
    have h1 := hkk.size
    have h2 := hB'.lt
    rcases hx with hx | rfl
    · have := h.lt x hx; omega
    · exact h2
  · intro g hg
    by_cases e : g = f
    · subst e
      exact .inr ⟨b, updV_same _ _ _, hB', .inr rfl⟩
    · rw [updV_other _ _ (fun e' => e (by injection e' with _ e'))]
      refine (hV1.row g hg).imp id fun ⟨b', h1, h2, h3⟩ => ⟨b', h1, h2.keep hk2 (fun e' => ?_), .inl h3⟩
      exact hV1.map.ne_bk h2 e'
  · have h1 := hV1.rts
    cases rt with
    | no => exact h1
    | out R => exact h1
    | cnt g =>
      obtain ⟨R, K', on', e1, e0, e2, e3, e4, e5⟩ := h1
      exact ⟨R, K', on', e1, e0, e2.keep hk2 (fun e' => e0 e'), .inl e3, e4, e5⟩
theorem zeroRow : (zeroValue 110).run Tryd.prog = fun w => .ok (.agg (rowOf fun _ => 0)) w := by kernel_rfl
theorem tbRes_call {w w' : World} {s : Sn} {f : Int} {v : Value} (h : TbRes w s f v) (hb : Below w.heap.size w w') : TbRes w' s f v := h.imp id fun ⟨h1, b, h2, h3⟩ => ⟨h1, b, h2, h3.call hb⟩
set_option maxRecDepth 100000 in
set_option maxHeartbeats 1000000 in
theorem wtTable_any {w0 w : World} {E : Nat → Prop} {P : Nat} {s : Sn} {rt : Rt} (f : Int) (hI : I64 f) (h : Vx w0 E w P s rt) (hs : s.Given w) (hn : s.fl.length ≤ 1000) (hE : ∀ x, E x → x < w.heap.size) :
    Calls Tryd.prog 26 #[.pointer (some ⟨P, 0, none⟩), .int .i64 f] w fun e w' => ∃ v, e = .returned v ∧ TbRes w' s f v ∧ Vx w0 E w' P s rt ∧ Kp E w w' := by
  obtain ⟨m', r', hstr⟩ := h.str
  have HS := Lib.hid hstr
  by_cases ht : thr s f = true
  · obtain ⟨F, m, K, on, r, hV, hF, hB⟩ := h
    have hlk := hV.map.look_ok kInt Tryd.underlying86 (z := .pointer none) (by kernel_rfl) (ik_key hI)
    have c1 : w.cell? ⟨P, 3, none⟩ = some (.map (some m)) := hV.str.cell 3
    have HT := Lib.hid ht
    clear hstr
    rcases hV.row f hI with e | ⟨b, e, hb, hFb⟩
    · rw [e] at hlk
      simp only [Option.getD_none, Option.isSome_none] at hlk
      have c2 : w.cell? ⟨P, 2, none⟩ = some (.slice s.fO s.fl.length s.fc) := hV.str.cell 2
      have hPw := hV.str.lt
      obtain ⟨h0, h1⟩ := (thr_iff s f).1 ht
      obtain ⟨k, rfl⟩ := Int.eq_ofNat_of_zero_le h0
      have hx := frm_at ht
      have hlt : k < s.fl.length := by omega
      obtain ⟨fb, off, e2, hc⟩ := hs.gf (by omega)
      have q1 : w.cell? ⟨fb, off + k * 2 + 1, none⟩ = some (.slice (frm s k).wO (frm s k).wl.length (frm s k).wc) := hc k _ (by simpa using hx) 1 _ rfl
      have hfbw : fb < w.heap.size := World.block_lt_of_cell? w ⟨fb, off + k * 2 + 1, none⟩ q1
      have hG := hs.gfall _ (List.mem_of_getElem? hx)
      have HR := Lib.hid (show RK cwC 2 w (frm s k).wO (frm s k).wl from hG.gw)
      have hl2 : (frm s k).wl.length ≤ maxLen := Nat.le_trans hG.gwle hG.gwle2
      have HL := Lib.hid hl2
      have hl3 : (frm s k).wl.length ≤ 9223372036854775807 := hl2
      have HTB := Lib.hid (show tb s k = tbl (frm s k).wl from rfl)
      rw [e2] at c2
      generalize (frm s k).wl = l at *
      generalize (frm s k).wO = lO at *
      generalize (frm s k).wc = lc at *
      have HV := Lib.hid hV
      have HI := Lib.hid hI
      have HF := Lib.hid hF
      have HE := Lib.hid e
      have HN := Lib.hid hn
      have HEw := Lib.hid hE
      clear hV hs hc hx hG hI hF ht e h1 hl2 hn hE
      have hlf : (k : Int) < s.fl.length := by omega
      have HB := Lib.hid hB
      clear hB h0
      go_enter Tryd.func26, Tryd.ntmps26
      go_wp2_with fail
      refine (wtThere_any (k : Int) HS.out).mono ?_
      rintro e w1 ⟨rfl, rfl⟩
      rw [HT.out]
      have hz := zeroRow
      go_upto_region 7 with fail
      have hRow := Lib.hid (Bk.new w 110 (rowOf fun _ => 0))
      have hcf := ba (Below.refl w.heap.size w) (.cells (rowOf fun _ => 0) 110)
      replace c1 := (hcf.cell (p := ⟨P, 3, none⟩) hPw).trans c1
      replace c2 := (hcf.cell (p := ⟨P, 2, none⟩) hPw).trans c2
      replace q1 := (hcf.cell (p := ⟨fb, off + k * 2 + 1, none⟩) hfbw).trans q1
      have hW1 := Lib.hid hcf
      clear hcf hz hlk
      refine (show ∀ W1 : World, W1.cell? ⟨P, 3, none⟩ = some (.map (some m)) → W1.cell? ⟨P, 2, none⟩ = some (.slice (some ⟨fb, off, none⟩) s.fl.length s.fc) → W1.cell? ⟨fb, off + k * 2 + 1, none⟩ = some (.slice lO l.length lc) →
        Bk W1 w.heap.size 110 (rowOf fun _ => 0) → Below w.heap.size w W1 → Code.wp _ _ _ _ W1 from fun W1 c1 c2 q1 hRow hW1 => ?_) _ c1 c2 q1 hRow.out hW1.out
      obtain ⟨X, hX⟩ : ∃ X, X = w.heap.size := ⟨_, rfl⟩
      rw [← hX]
      rw [← hX] at hRow
      have HX := Lib.hid hX
      have HR0 := Lib.hid hRow
      have HW1 := Lib.hid hW1
      clear hX hRow hW1
      go_wp2_with fail
      clear c2 q1
      have HC1 := Lib.hid c1
      clear c1
      go_loopw [9] (fun i wr => ∃ j : Nat, j ≤ l.length ∧ i = .int .i64 ((j : Int) - 1) ∧ Bk wr X 110 (rowOf (tbl (l.drop j))) ∧ Keeps (fun x => x = X) W1 wr) (fun i _ => (intOf i + 1).toNat)
      case atStart =>
        refine ⟨l.length, Nat.le_refl _, by go_num, ?_, Keeps.refl _ _⟩
        rw [List.drop_length]
        exact HR0.out
      case round =>
        obtain ⟨j, hj, rfl, hR, hK⟩ := hrel
        have HRR := Lib.hid hR
        have HKK := Lib.hid hK
        clear hR hK
        by_cases hlt2 : 0 < j
        · obtain ⟨i, rfl⟩ : ∃ i, j = i + 1 := ⟨j - 1, by omega⟩
          obtain ⟨x, hx⟩ : ∃ x, l[i]? = some x := ⟨_, List.getElem?_eq_getElem (by omega)⟩
          obtain ⟨b, lo, rfl, hc⟩ := HR.out (by omega)
          have e1 : ((i + 1 : Nat) : Int) - 1 = i := by omega
          rw [e1]
          have q0 := hc i x hx 0 _ rfl
          have q1 := hc i x hx 1 _ rfl
          rw [Nat.add_zero] at q0
          have hbw : b < w.heap.size := World.block_lt_of_cell? w ⟨b, lo + i * 2, none⟩ q0
          have hbX : b ≠ X := by have := HX.out; omega
          have hb1 : b < W1.heap.size := by have := HW1.out.size; omega
          have p0 : wr.cell? ⟨b, lo + i * 2, none⟩ = some (.int .i64 x.p) := (HKK.out.cell hb1 hbX _).trans ((HW1.out.cell (p := ⟨b, lo + i * 2, none⟩) (by omega)).trans q0)
          have p1 : wr.cell? ⟨b, lo + i * 2 + 1, none⟩ = some (.int .u64 x.v) := (HKK.out.cell hb1 hbX _).trans ((HW1.out.cell (p := ⟨b, lo + i * 2 + 1, none⟩) (by omega)).trans q1)
          have hd : l.drop i = x :: l.drop (i + 1) := by
            obtain ⟨h1, rfl⟩ := List.getElem?_eq_some_iff.1 hx
            exact List.drop_eq_getElem_cons h1
          have HD := Lib.hid hd
          clear hc q0 q1 hd hx e1
          by_cases a0 : 0 ≤ x.p
          · by_cases a1 : x.p < 512
            · obtain ⟨g, hg⟩ := Int.eq_ofNat_of_zero_le a0
              have hg5 : g < 512 := by omega
              have HP := Lib.hid hg
              rw [hg] at p0 a0 a1
              clear hg
              have r0 : wr.cell? ⟨X, g, none⟩ = some (.int .u64 (tbl (l.drop (i + 1)) g)) := (HRR.out.cell g).trans (rowOf_at _ _ hg5)
              have r1 : wr.frozen? ⟨X, g, none⟩ = false := HRR.out.frozen g
              go_upto_region 13 with fail
              rename_i hKJ
              have hKJ := Lib.hid hKJ
              go_region
              refine hKJ.out _ _ ?_
              clear hKJ
              go_wp2_with fail
              go_roundw
              case rel =>
                have h1 := HRR.out.set g (.int .u64 x.v)
                rw [rowOf_set] at h1
                refine ⟨i, by omega, by go_num, ?_, (HKK.out.after (Keeps.setCell (F := fun x => x = X) rfl _)).drew⟩
                rw [HD.out, tbl_in _ _ (by have := HP.out; omega), show x.p.toNat = g by have := HP.out; omega]
                exact h1
              case measure => simp [intOf]
            · go_wp2_with fail
              go_roundw
              case rel =>
                refine ⟨i, by omega, by go_num, ?_, HKK.out⟩
                rw [HD.out, tbl_out _ _ (fun h => a1 h.2)]
                exact HRR.out
              case measure => simp [intOf]
          · go_wp2_with fail
            go_roundw
            case rel =>
              refine ⟨i, by omega, by go_num, ?_, HKK.out⟩
              rw [HD.out, tbl_out _ _ (fun h => a0 h.1)]
              exact HRR.out
            case measure => simp [intOf]
        · obtain rfl : j = 0 := by omega
          have c1 : wr.cell? ⟨P, 3, none⟩ = some (.map (some m)) := (HKK.out.cell (by have := HW1.out.size; omega) (fun e => by have := HX.out; omega) _).trans HC1.out
          rw [List.drop_zero] at HRR
          have hk := (Keeps.of_below (F := fun x => x = X) HW1.out).after HKK.out
          have hm : Mp 3 wr m K on := HV.out.map.keep hk (fun e => by have := HV.out.map.lt; have := HX.out; omega)
          have hK5 : K < 100000 := by have := HV.out.cnt; have := cntN_le (fun f => (on (.int .i64 (f : Nat))).isSome) s.fl.length; have := HN.out; omega
          obtain ⟨w2, hst, hm2, hk2⟩ := hm.put kInt Tryd.underlying86 (ik_key HI.out) (.pointer (some ⟨X, 0, none⟩)) hK5
          have HE2 := Lib.hid (HV.out.put hk (by have := HX.out; omega) (by rw [HTB.out]; exact HRR.out) HT.out HI.out HE.out hm2 hk2)
          clear hm hm2 hk2 hK5 hk
          go_wp2_with fail
          go_ret
          obtain ⟨hV2, hB2, hK2⟩ := HE2.out
          refine ⟨_, rfl, .inr ⟨HT.out, X, rfl, hB2⟩, ⟨_, m, K + 1, _, r, hV2, ?_, ?_⟩, hK2.mono (fun x e => ?_), fun g cs hg => hg.keep hK2 (fun e => ?_)⟩
          · rintro x (hx | rfl)
            · exact HF.out x hx
            · exact ⟨by have := HB.out.size; have := HX.out; omega, fun hEx => by have := HEw.out x hEx; have := HX.out; omega⟩
          · exact hK2.below HB.out (fun x e => by rw [e]; exact (HF.out m HV.out.mF).1)
          · rw [e]; exact (HF.out m HV.out.mF).2
          · exact HV.out.map.ne_bk hg e
    · rw [e] at hlk
      simp only [Option.getD_some, Option.isSome_some] at hlk
      have HV := Lib.hid (show Vx w0 E w P s rt from ⟨F, m, K, on, r, hV, hF, hB⟩)
      have HBb := Lib.hid hb
      clear hV hF hB hb hs ht hI
      go_enter Tryd.func26, Tryd.ntmps26
      go_wp2_with fail
      refine (wtThere_any f HS.out).mono ?_
      rintro e w1 ⟨rfl, rfl⟩
      rw [HT.out]
      go_wp2_with fail
      go_ret
      exact ⟨_, rfl, .inr ⟨HT.out, b, rfl, HBb.out⟩, HV.out, Kp.refl _ _⟩
  · have HT := Lib.hid (show thr s f = false by simpa using ht)
    have HX := Lib.hid h
    clear h ht hs hstr
    go_enter Tryd.func26, Tryd.ntmps26
    go_wp2_with fail
    refine (wtThere_any f HS.out).mono ?_
    rintro e w1 ⟨rfl, rfl⟩
    rw [HT.out]
    go_wp2_with fail
    go_ret
    exact ⟨_, rfl, .inl ⟨HT.out, rfl⟩, HX.out, Kp.refl _ _⟩
end Go.Proofs.YtappjiljmpgjcaaDoor
