/-
  Layer 29: Unlike's question about an entry.
-/
import Derived.Test.YtappjiljmpgjcaaDoorWtEntry
import Derived.Test.YtappjiljmpgjcaaDoorWtWay
namespace Go.Proofs.YtappjiljmpgjcaaDoor
open Go.RowKit Go.Maps
set_option linter.unusedVariables false
set_option linter.unusedSimpArgs false
def encI (r : Int) : List Value := [.int .i64 r]
/-- The roots by ASIDs, in blocks from B on. -/
def ByM (U : Nat → Prop) (w : World) (M : Nat) (by' : Int → List Int) : Prop := U M ∧ ∃ K on, Mp 3 w M K on ∧ ∀ a, I64 a → ∃ (O : Option Addr) (cap : Nat), (on (.int .i64 a)).getD (.slice none 0 0) = .slice O (by' a).length cap ∧ RK encI 1 w O (by' a) ∧ (by' a).length ≤ 6 ∧ (∀ b off, O = some ⟨b, off, none⟩ → U b) ∧ ∀ r ∈ by' a, I64 r
theorem RK.within {α : Type} {enc : α → List Value} {k : Nat} {w w' : World} {O : Option Addr} {xs : List α} {U : Nat → Prop} (h : RK enc k w O xs) (hB : ∀ b off, O = some ⟨b, off, none⟩ → U b) (hs : ∀ b, U b → b < w.heap.size → w'.heap[b]? = w.heap[b]?) : RK enc k w' O xs := fun h0 => by
  obtain ⟨b, off, e, hc⟩ := h h0
  refine ⟨b, off, e, fun i x hi j u hu => ?_⟩
  have h1 := hc i x hi j u hu
  have hlt : b < w.heap.size := World.block_lt_of_cell? w ⟨b, off + i * k + j, none⟩ h1
  exact (World.cell?_of_block (a := ⟨b, off + i * k + j, none⟩) (hs b (hB b off e) hlt)).trans h1
theorem ByM.mono {U U' : Nat → Prop} {w : World} {M : Nat} {by' : Int → List Int} (h : ByM U w M by') (hU : ∀ x, U x → U' x) : ByM U' w M by' := by
  obtain ⟨hM, K, on, h1, h2⟩ := h
  refine ⟨hU M hM, K, on, h1, fun a ha => ?_⟩
  obtain ⟨O, cap, e1, e2, e3, e4, e5⟩ := h2 a ha
  exact ⟨O, cap, e1, e2, e3, fun b off e => hU b (e4 b off e), e5⟩
theorem ByM.within {U : Nat → Prop} {w w' : World} {M : Nat} {by' : Int → List Int} (h : ByM U w M by') (hs : ∀ b, U b → b < w.heap.size → w'.heap[b]? = w.heap[b]?) : ByM U w' M by' := by
  obtain ⟨hM, K, on, h1, h2⟩ := h
  refine ⟨hM, K, on, h1.block (hs M hM h1.lt), fun a ha => ?_⟩
  obtain ⟨O, cap, e1, e2, e3, e4, e5⟩ := h2 a ha
  exact ⟨O, cap, e1, e2.within e4 hs, e3, e4, e5⟩
theorem NmM.within {w w' : World} {M : Nat} {l : List Tl} {U : Nat → Prop} (h : NmM w M l) (hM : U M) (hs : ∀ b, U b → b < w.heap.size → w'.heap[b]? = w.heap[b]?) : NmM w' M l := by
  obtain ⟨on, h1, h2⟩ := h
  exact ⟨on, h1.block (hs M hM h1.lt), h2⟩
theorem ByM.look {U : Nat → Prop} {w : World} {M : Nat} {by' : Int → List Int} (h : ByM U w M by') {a : Int} (ha : I64 a) :
    ∃ (O : Option Addr) (cap : Nat), (Instr.lookup 71 (.map (some M)) (.int .i64 a) false).run Tryd.prog w = .ok (.slice O (by' a).length cap) w ∧ RK encI 1 w O (by' a) ∧ (by' a).length ≤ 6 ∧ (∀ b off, O = some ⟨b, off, none⟩ → U b) ∧ ∀ r ∈ by' a, I64 r := by
  obtain ⟨hM, K, on, h1, h2⟩ := h
  obtain ⟨O, cap, e1, e2, e3, e4, e5⟩ := h2 a ha
  refine ⟨O, cap, ?_, e2, e3, e4, e5⟩
  rw [h1.look kInt Tryd.underlying71 (z := .slice none 0 0) (by kernel_rfl) (ik_key ha), e1]
/-- What Unlike's question stands on: the boxes of the view, of all, of by. -/
structure UnB (U : Nat → Prop) (w : World) (P T5 T6 T7 : Nat) (l : List Tl) (by' : Int → List Int) : Prop where
  b5 : Bk w T5 63 #[.pointer (some ⟨P, 0, none⟩)]
  b6 : ∃ M, Bk w T6 69 #[.map (some M)] ∧ NmM w M l ∧ U M
  b7 : ∃ M, Bk w T7 71 #[.map (some M)] ∧ ByM U w M by'
  g5 : U T5
  g6 : U T6
  g7 : U T7
theorem UnB.within {U : Nat → Prop} {w w' : World} {P T5 T6 T7 : Nat} {l : List Tl} {by' : Int → List Int} (h : UnB U w P T5 T6 T7 l by') (hs : ∀ b, U b → b < w.heap.size → w'.heap[b]? = w.heap[b]?) : UnB U w' P T5 T6 T7 l by' where
  b5 := (hs T5 h.g5 h.b5.lt).trans h.b5
  b6 := let ⟨M, h1, h2, h3⟩ := h.b6; ⟨M, (hs T6 h.g6 h1.lt).trans h1, h2.within h3 hs, h3⟩
  b7 := let ⟨M, h1, h2⟩ := h.b7; ⟨M, (hs T7 h.g7 h1.lt).trans h1, h2.within hs⟩
  g5 := h.g5
  g6 := h.g6
  g7 := h.g7
def wayBad (s : Sn) (p f r : Int) : Bool := (wayP s r p).2.2 && !decide ((wayP s r p).1 = f)
def unl1 (l : List Tl) (by' : Int → List Int) (s : Sn) (x : Tl) : Bool := decide (0 < ((nmL l x.a x.p).getD (0, 0)).2) || (by' x.a).any (wayBad s x.p x.f)
theorem fieldOne : ∀ (a b : Int) (W : World), (Instr.field 75 (.agg #[.int .i64 a, .int .i64 b]) 1).run Tryd.prog W = .ok (.int .i64 b) W := fun _ _ _ => by kernel_rfl
/-- Blocks from B on that lay in W1 lie as they lay. -/
def Lies (U : Nat → Prop) (W1 w : World) : Prop := ∀ b, U b → b < W1.heap.size → w.heap[b]? = W1.heap[b]?
theorem Lies.step {U : Nat → Prop} {W1 w w' : World} {E : Nat → Prop} (h : Lies U W1 w) (hBE : ∀ y, U y → y < W1.heap.size → E y) (hsz : W1.heap.size ≤ w.heap.size) (hk : Kp E w w') : Lies U W1 w' :=
  fun b h1 h2 => (hk.1.block b (by omega) (fun hn => hn (hBE b h1 h2))).trans (h b h1 h2)
theorem ByM.look_at {U : Nat → Prop} {W1 w : World} {M : Nat} {by' : Int → List Int} (h : ByM U W1 M by') (hl : Lies U W1 w) {a : Int} (ha : I64 a) :
    ∃ (O : Option Addr) (cap : Nat), (Instr.lookup 71 (.map (some M)) (.int .i64 a) false).run Tryd.prog w = .ok (.slice O (by' a).length cap) w ∧ (∀ w', Lies U W1 w' → RK encI 1 w' O (by' a)) ∧ (by' a).length ≤ 6 ∧ ∀ r ∈ by' a, I64 r := by
  obtain ⟨hM, K, on, h1, h2⟩ := h
  obtain ⟨O, cap, e1, e2, e3, e4, e5⟩ := h2 a ha
  refine ⟨O, cap, ?_, fun w' hw' => e2.within e4 hw', e3, e5⟩
  rw [(h1.block (hl M hM h1.lt)).look kInt Tryd.underlying71 (z := .slice none 0 0) (by kernel_rfl) (ik_key ha), e1]
theorem wayBad_true {s : Sn} {p f r : Int} (h1 : (wayP s r p).2.2 = true) (h2 : ¬ (wayP s r p).1 = f) : wayBad s p f r = true := by simp [wayBad, h1, h2]
theorem wayBad_false {s : Sn} {p f r : Int} (h : (wayP s r p).2.2 = false ∨ (wayP s r p).1 = f) : wayBad s p f r = false := by
  rcases h with h | h <;> simp [wayBad, h]
set_option maxRecDepth 100000 in
set_option maxHeartbeats 2000000 in
theorem unl1_any {w0 w W1 : World} {E : Nat → Prop} {P T5 T6 T7 : Nat} {U : Nat → Prop} {s : Sn} {rt : Rt} {l : List Tl} {by' : Int → List Int} (x : Tl) (hx : x.Given w) (h : Vx w0 E w P s rt) (hs : s.Given w0) (hG : G w0) (hn : s.fl.length ≤ 1000) (hE : ∀ y, E y → y < w.heap.size)
    (hBE : ∀ y, U y → y < W1.heap.size → E y) (hW1 : UnB U W1 P T5 T6 T7 l by') (hS : Lies U W1 w) (hsz : W1.heap.size ≤ w.heap.size) :
    Calls Tryd.prog 19 #[.agg #[.int .i64 x.a, .int .u64 x.p, .int .i64 x.f, .bool x.r], .pointer (some ⟨T6, 0, none⟩), .pointer (some ⟨T7, 0, none⟩), .pointer (some ⟨T5, 0, none⟩)] w fun e w' => e = .returned (.bool (unl1 l by' s x)) ∧ Vx w0 E w' P s rt ∧ Kp E w w' := by
  have HV := Lib.hid (h.add (.cells #[.int .i64 x.a, .int .u64 x.p, .int .i64 x.f, .bool x.r] 62))
  have hb := Bk.new w 62 #[.int .i64 x.a, .int .u64 x.p, .int .i64 x.f, .bool x.r]
  have HGx := Lib.hid hx
  have HS := Lib.hid hs
  have HG := Lib.hid hG
  have HE := Lib.hid hE
  have HBE := Lib.hid hBE
  have HW := Lib.hid hW1
  have HZ := Lib.hid hsz
  have HN := Lib.hid hn
  have HL := Lib.hid (hS.step hBE hsz (Kp.of_below (ba (Below.refl _ _) (.cells #[.int .i64 x.a, .int .u64 x.p, .int .i64 x.f, .bool x.r] 62))))
  clear h hx hs hG hn hE hBE hW1 hS hsz
  go_enter Tryd.func19, Tryd.ntmps19
  go_upto_region 1 with fail
  refine (show ∀ W2 : World, Below w.heap.size w W2 → Bk W2 w.heap.size 62 #[.int .i64 x.a, .int .u64 x.p, .int .i64 x.f, .bool x.r] → Vx w0 (fun y => E y ∨ y = w.heap.size) W2 P s rt → Lies U W1 W2 → Code.wp _ _ _ _ W2 from fun W2 hb2 h2 hv2 hl2 => ?_) _ (ba (Below.refl _ _) _) hb HV.out HL.out
  have HB2 := Lib.hid hb2
  have HV2 := Lib.hid hv2
  have HL2 := Lib.hid hl2
  have HX2 := Lib.hid h2
  have hU2 := HW.out.within hl2
  obtain ⟨M, hM1, hM2, hM3⟩ := hU2.b6
  obtain ⟨M2, hR0, hR2⟩ := HW.out.b7
  have hR1 : Bk W2 T7 71 #[.map (some M2)] := (hl2 T7 HW.out.g7 hR0.lt).trans hR0
  have c0 : W2.cell? ⟨w.heap.size, 0, none⟩ = some (.int .i64 x.a) := h2.cell 0
  have c1 : W2.cell? ⟨w.heap.size, 1, none⟩ = some (.int .u64 x.p) := h2.cell 1
  have d6 : W2.cell? ⟨T6, 0, none⟩ = some (.map (some M)) := hM1.cell 0
  have d7 : W2.cell? ⟨T7, 0, none⟩ = some (.map (some M2)) := hR1.cell 0
  have hlk := hM2.look HGx.out.ga HGx.out.gp
  obtain ⟨O, cap, hlk2, hrk, hl6, hrI⟩ := hR2.look_at hl2 HGx.out.ga
  have HRK := Lib.hid hrk
  have HRI := Lib.hid hrI
  have HUN := Lib.hid (show unl1 l by' s x = (decide (0 < ((nmL l x.a x.p).getD (0, 0)).2) || (by' x.a).any (wayBad s x.p x.f)) from rfl)
  simp only [fcV] at hlk
  generalize ((nmL l x.a x.p).getD (0, 0)).1 = q1 at *
  generalize ((nmL l x.a x.p).getD (0, 0)).2 = q2 at *
  generalize by' x.a = rs at *
  clear hb2 h2 hv2 hl2 hb HV hU2 hM1 hM2 hM3 hR0 hR1 hR2 hrk hrI HL
  have hfd := fieldOne
  by_cases a0 : 0 < q2
  · go_wp2_with fail
    go_ret
    refine ⟨by rw [HUN.out]; simp [a0], HV2.out.mono (fun y hy => .inl hy), Kp.of_below HB2.out⟩
  · have HUN2 := Lib.hid (show unl1 l by' s x = rs.any (wayBad s x.p x.f) by rw [HUN.out]; simp [a0])
    go_wp2_with fail
    clear c0 c1 d6 d7 hlk hlk2
    obtain ⟨X, hX⟩ : ∃ X, X = w.heap.size := ⟨_, rfl⟩
    rw [← hX]
    rw [← hX] at HV2 HX2
    have HXe := Lib.hid hX
    clear hX hfd
    go_loopw [25] (fun i wr => ∃ k : Nat, k ≤ rs.length ∧ i = .int .i64 k ∧ rs.any (wayBad s x.p x.f) = (rs.drop k).any (wayBad s x.p x.f) ∧ Vx w0 (fun y => E y ∨ y = X) wr P s rt ∧ Kp (fun y => E y ∨ y = X) W2 wr) (fun i _ => rs.length - (intOf i).toNat)
    case atStart => exact ⟨0, by omega, rfl, rfl, HV2.out, Kp.refl _ _⟩
    case round =>
      obtain ⟨k, hk, rfl, hr, hv, hp⟩ := hrel
      have HR := Lib.hid hr
      have HVr := Lib.hid hv
      have HP := Lib.hid hp
      have hz2 : w.heap.size ≤ W2.heap.size := HB2.out.size
      have hLr : Lies U W1 wr := HL2.out.step (E := fun y => E y ∨ y = X) (fun y h1 h2 => .inl (HBE.out y h1 h2)) (by have := HZ.out; omega) hp
      have HKP := Lib.hid (show Kp E w wr from (Kp.of_below HB2.out).trans (hp.mono (fun y hy => .inl hy)))
      by_cases hlt : k < rs.length
      · obtain ⟨r, hx⟩ : ∃ r, rs[k]? = some r := ⟨_, List.getElem?_eq_getElem hlt⟩
        have hri : I64 r := HRI.out r (List.mem_of_getElem? hx)
        have hdr : rs.drop k = r :: rs.drop (k + 1) := by
          obtain ⟨h1, rfl⟩ := List.getElem?_eq_some_iff.1 hx
          exact List.drop_eq_getElem_cons h1
        rw [hdr, List.any_cons] at HR
        obtain ⟨b, off, rfl, hc⟩ := HRK.out wr hLr (by omega)
        have e0 : wr.cell? ⟨b, off + k * 1, none⟩ = some (.int .i64 r) := hc k r hx 0 _ rfl
        rw [Nat.mul_one] at e0
        have d5 : wr.cell? ⟨T5, 0, none⟩ = some (.pointer (some ⟨P, 0, none⟩)) := (HW.out.within hLr).b5.cell 0
        have hxr := hp.bk HX2.out (.inr rfl)
        have c1 : wr.cell? ⟨X, 1, none⟩ = some (.int .u64 x.p) := hxr.cell 1
        have hEr : ∀ y, (E y ∨ y = X) → y < wr.heap.size := fun y hy => by
          have := hp.1.size
          rcases hy with hy | rfl
          · have := HE.out y hy; omega
          · exact hxr.lt
        have HER := Lib.hid hEr
        have HPX := Lib.hid (HGx.out.gp)
        have HRi := Lib.hid hri
        have HLR := Lib.hid hLr
        have hz3 := hp.1.size
        clear hr hv hp hxr hEr hri hLr hc hx hdr
        go_wp2_with fail
        refine (wtWay_any r x.p HRi.out HPX.out HVr.out HS.out HG.out HN.out HER.out).mono ?_
        rintro e w3 ⟨rfl, hv3, hp3⟩
        have HV3 := Lib.hid hv3
        have HP3 := Lib.hid (HP.out.trans hp3)
        have HKP3 := Lib.hid (HKP.out.trans (hp3.mono (fun y hy => .inl hy)))
        have c2 : w3.cell? ⟨X, 2, none⟩ = some (.int .i64 x.f) := (HP3.out.bk HX2.out (.inr rfl)).cell 2
        have HWB := Lib.hid (show ((wayP s r x.p).2.2 = true ∧ ¬ (wayP s r x.p).1 = x.f → wayBad s x.p x.f r = true) ∧ ((wayP s r x.p).2.2 = false ∨ (wayP s r x.p).1 = x.f → wayBad s x.p x.f r = false) from ⟨fun h => wayBad_true h.1 h.2, wayBad_false⟩)
        simp only [wayV]
        generalize (wayP s r x.p).2.2 = ok at *
        generalize (wayP s r x.p).2.1 = ro at *
        generalize (wayP s r x.p).1 = fr at *
        clear hv3 hp3 c1 d5 e0
        cases ok with
        | true =>
          by_cases hf : fr = x.f
          · have HRE := Lib.hid (show rs.any (wayBad s x.p x.f) = (rs.drop (k + 1)).any (wayBad s x.p x.f) by rw [HR.out, HWB.out.2 (.inr hf)]; rfl)
            have hbn : (fr != x.f) = false := by simp [hf]
            go_wp2_with fail
            go_roundw
            case rel => exact ⟨k + 1, by omega, by go_num, HRE.out, HV3.out, HP3.out⟩
            case measure => simp [intOf]; omega
          · have HRE := Lib.hid (show unl1 l by' s x = true by rw [HUN2.out, HR.out, HWB.out.1 ⟨rfl, hf⟩]; rfl)
            have hbn : (fr != x.f) = true := by simp [hf]
            go_wp2_with fail
            go_ret
            exact ⟨by rw [HRE.out]; rfl, HV3.out.mono (fun y hy => .inl hy), HKP3.out⟩
        | false =>
          have HRE := Lib.hid (show rs.any (wayBad s x.p x.f) = (rs.drop (k + 1)).any (wayBad s x.p x.f) by rw [HR.out, HWB.out.2 (.inl rfl)]; rfl)
          go_wp2_with fail
          go_roundw
          case rel => exact ⟨k + 1, by omega, by go_num, HRE.out, HV3.out, HP3.out⟩
          case measure => simp [intOf]; omega
      · obtain rfl : k = rs.length := by omega
        have HRE := Lib.hid (show unl1 l by' s x = false by rw [HUN2.out, HR.out, List.drop_length]; rfl)
        clear hr hv hp hLr hz2
        go_wp2_with fail
        go_ret
        exact ⟨by rw [HRE.out]; rfl, HVr.out.mono (fun y hy => .inl hy), HKP.out⟩
end Go.Proofs.YtappjiljmpgjcaaDoor
