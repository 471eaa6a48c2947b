/-
  space.change, space.Unmap, space.Protect.
-/
import Derived.Test.YtaikkdlphfmgiaaSpCut4
namespace Go.Proofs.Ytaikkdlphfmgiaa
open Go.RowKit
set_option linter.unusedVariables false
set_option linter.unusedSimpArgs false
theorem Ow.less {α : Type} {enc : α → List Value} {k : Nat} {t : TypeId} {w : World} {B B' : Nat} {v : Value} {xs : List α} (h : Ow enc k t w B v xs) (hb : B' ≤ B) : Ow enc k t w B' v xs := by
  obtain ⟨hl, h⟩ := h
  exact ⟨hl, h.imp id fun ⟨g, cap, cur, e, hB, r⟩ => ⟨g, cap, cur, e, Nat.le_trans hb hB, r⟩⟩
/-- The pieces that a region comes to. -/
def pcs (kp : Reg → Reg → Reg → List Reg) (f t : Int) (r : Reg) : List Reg := keepL (kp (pAhead r f) (pIn r f t) (pRest r f t))
/-- The answer, and the error, of a call that tells a row, if all is well. -/
def chgE (l : List Reg) (f c : Int) (out : List Reg) : Int := if chk l then (if whl l f c then (if out.length ≤ 8 then 0 else 20) else 190) else 2
def okL (E : Int) (out : List Reg) : List Reg := if E = 0 then out else []
/-- A call that told a row of its own and an error. -/
def Told (w w' : World) (e : Ending) (E : Int) (out : List Reg) : Prop := ∃ v, e = .returned (.tuple #[v, .int .i64 E]) ∧ Ow encG 3 25 w' w.heap.size v (okL E out) ∧ Below w.heap.size w w'
theorem Told.no {w w' : World} {E : Int} (out : List Reg) (hE : E ≠ 0) (hB : Below w.heap.size w w') : Told w w' (.returned (.tuple #[.slice none 0 0, .int .i64 E])) E out := ⟨_, rfl, by unfold okL; rw [if_neg hE]; exact Ow.nil _ _ _, hB⟩
theorem rok_of {l : List Reg} (h : chk l = true) (k : Nat) (hk : k < l.length) : Rok (rg l k) := by
  have := chain_at l 0 (chk_parts h).2.1 k hk
  exact ⟨by omega, by omega, by omega⟩
theorem whl_parts {l : List Reg} {f c : Int} (h : whl l f c = true) : 1 ≤ c ∧ c ≤ 16 ∧ f ≤ 34359738368 - c := by
  unfold whl at h
  simp only [Bool.and_eq_true, decide_eq_true_eq] at h
  have := (eB_iff f c).1 h.1.1
  exact ⟨this.1, h.1.2, this.2.2⟩
set_option maxHeartbeats 4000000 in
theorem change_any (O : Option Addr) (len cap : Nat) (l : List Reg) (f c : Int) (fid : Nat) (caps : Array Value) (kp : Reg → Reg → Reg → List Reg) (w : World) (hI : RegsK w O l) (hl : l.length = len) (hcap : len ≤ cap) (hwf : ∀ i, i < len → (rg l i).wf)
    (hf : U64 f) (hc : -9223372036854775808 ≤ c ∧ c < 9223372036854775808) (hdo : DoOk w fid caps kp) (hk3 : ∀ a i r, (kp a i r).length ≤ 3) :
    Calls Try.prog 30 #[.slice O len cap, .int .u64 f, .int .i64 c, .func (.func fid) #[] caps] w fun e w' => Told w w' e (chgE l f c (l.flatMap (pcs kp f (f + c)))) (l.flatMap (pcs kp f (f + c))) := by
  have HI := Lib.hid hI
  have HL := Lib.hid hl
  have HW := Lib.hid hwf
  have HF := Lib.hid hf
  have hf0 := hf.1
  have hf1 := hf.2
  clear hI hl hwf
  rcases hck : chk l with _ | _
  · have HV := Lib.hid (show ckV l = 2 by simp [ckV, hck])
    rw [show chgE l f c (l.flatMap (pcs kp f (f + c))) = 2 by simp [chgE, hck]]
    clear hck
    go_enter Try.func30, Try.ntmps30
    go_wp2_with fail
    refine (spCheck_any O len cap l _ (HI.out.call (ba (ba (Below.refl _ _) _) _)) HL.out hcap HW.out).mono ?_
    rintro e w1 ⟨rfl, hb1⟩
    have HB := Lib.hid (bthen (ba (ba (Below.refl w.heap.size w) (.cells #[.int .u64 f] 23)) (.cells #[.func (.func fid) #[] caps] 54)) hb1)
    clear hb1
    rw [HV.out]
    go_wp2_with fail
    refine bodyPost_ret (results_tmp2 rfl _ _ _) rfl ?_
    exact Told.no _ (by omega) HB.out
  · have HV := Lib.hid (show ckV l = 0 by simp [ckV, hck])
    have HCK := Lib.hid hck
    go_enter Try.func30, Try.ntmps30
    go_wp2_with fail
    refine (spCheck_any O len cap l _ (HI.out.call (ba (ba (Below.refl _ _) _) _)) HL.out hcap HW.out).mono ?_
    rintro e w1 ⟨rfl, hb1⟩
    have hb0 := ba (ba (Below.refl w.heap.size w) (.cells #[.int .u64 f] 23)) (.cells #[.func (.func fid) #[] caps] 54)
    have hx1 := Arr.new w #[.int .u64 f] 23
    have hx2 := (Arr.new (w.alloc (.cells #[.int .u64 f] 23)) #[.func (.func fid) #[] caps] 54)
    have HB := Lib.hid (bthen hb0 hb1)
    have H1 := Lib.hid ((hx1.alloc (.cells #[.func (.func fid) #[] caps] 54)).call hb1)
    have H2 := Lib.hid (hx2.call hb1)
    simp only [World.size_alloc] at H2
    clear hb1 hx1 hx2 hb0 hck
    rw [HV.out]
    have c0 := H1.out.cell 0 _ rfl
    go_wp2_with fail
    refine (spWhole_any O len cap f c l _ (HI.out.call HB.out) HL.out hcap HW.out HF.out hc).mono ?_
    rintro e w2 ⟨rfl, hb2⟩
    have HB2 := Lib.hid (bthen HB.out hb2)
    have H12 := Lib.hid (H1.out.call hb2)
    have H22 := Lib.hid (H2.out.call hb2)
    clear hb2 HB H1 H2 c0
    rcases hwh : whl l f c with _ | _
    · have HE := Lib.hid (show chgE l f c (l.flatMap (pcs kp f (f + c))) = 190 by simp [chgE, HCK.out, hwh])
      clear hwh
      go_wp2_with fail
      refine bodyPost_ret (results_tmp2 rfl _ _ _) rfl ?_
      rw [HE.out]
      exact Told.no _ (by omega) HB2.out
    · obtain ⟨hc1, hc2, hc3⟩ := whl_parts hwh
      have HWH := Lib.hid hwh
      clear hwh
      have c0 := H12.out.cell 0 _ rfl
      go_wp2_with fail
      have hB3 := ba HB2.out (.cells #[.int .u64 (f + c)] 23)
      have hA1 := H12.out.alloc (.cells #[.int .u64 (f + c)] 23)
      have hA2 := H22.out.alloc (.cells #[.int .u64 (f + c)] 23)
      have hA3 := Arr.new w2 #[.int .u64 (f + c)] 23
      have hpc : PcOk (w2.alloc (.cells #[.int .u64 (f + c)] 23)) 43 #[.pointer (some ⟨w.heap.size + 1, 0, none⟩), .pointer (some ⟨w.heap.size, 0, none⟩), .pointer (some ⟨w2.heap.size, 0, none⟩)] l (pcs kp f (f + c)) := by
        refine ⟨fun args w => by go_simp, fun k w' hk hW => ?_⟩
        exact change1_any w _ _ _ fid caps kp hdo (rg l k) f (f + c) w' (rok_of HCK.out k hk) HF.out ⟨by omega, by omega⟩ (bthen hB3 hW) (hA2.call hW) (hA1.call hW) (hA3.call hW)
      refine (cut_any O len cap l 43 _ (pcs kp f (f + c)) _ (HI.out.call hB3) HL.out hcap (by have := (chk_parts HCK.out).1; have := HL.out; omega) hpc (fun r => Nat.le_trans (keepL_le _) (hk3 _ _ _))).mono ?_
      rintro e w3 ⟨v3, rfl, ho3, hb3⟩
      have HB3 := Lib.hid (bthen hB3 hb3)
      have HO3 := Lib.hid (ho3.less (hB3.size))
      clear ho3 hb3 hpc hA1 hA2 hA3 hB3 c0 H12 H22 HB2
      generalize hout : l.flatMap (pcs kp f (f + c)) = out at HO3
      have HOUT := Lib.hid hout
      clear hout
      obtain ⟨O3, cap3, rfl, -, -, -⟩ := HO3.out.form encG_len
      by_cases h8 : out.length ≤ 8
      · have HE := Lib.hid (show chgE l f c (l.flatMap (pcs kp f (f + c))) = 0 by unfold chgE; rw [HOUT.out, HCK.out, HWH.out, if_pos rfl, if_pos rfl, if_pos h8])
        go_wp2_with fail
        refine bodyPost_ret (results_tmp2 rfl _ _ _) rfl ?_
        rw [HE.out]
        exact ⟨_, rfl, by unfold okL; rw [if_pos rfl, HOUT.out]; exact HO3.out, HB3.out⟩
      · have HE := Lib.hid (show chgE l f c (l.flatMap (pcs kp f (f + c))) = 20 by unfold chgE; rw [HOUT.out, HCK.out, HWH.out, if_pos rfl, if_pos rfl, if_neg h8])
        go_wp2_with fail
        refine bodyPost_ret (results_tmp2 rfl _ _ _) rfl ?_
        rw [HE.out]
        exact Told.no _ (by omega) HB3.out
def kpU (a i r : Reg) : List Reg := [a, r]
def kpP (wr : Bool) (a i r : Reg) : List Reg := [a, ⟨i.f, i.c, wr⟩, r]
set_option maxHeartbeats 2000000 in
theorem unmap_any (O : Option Addr) (len cap : Nat) (l : List Reg) (f c : Int) (w : World) (hI : RegsK w O l) (hl : l.length = len) (hcap : len ≤ cap) (hwf : ∀ i, i < len → (rg l i).wf)
    (hf : U64 f) (hc : -9223372036854775808 ≤ c ∧ c < 9223372036854775808) :
    Calls Try.prog 10 #[.slice O len cap, .int .u64 f, .int .i64 c] w fun e w' => Told w w' e (chgE l f c (l.flatMap (pcs kpU f (f + c)))) (l.flatMap (pcs kpU f (f + c))) := by
  go_enter Try.func10, Try.ntmps10
  go_wp2_with fail
  refine (change_any O len cap l f c 31 #[] kpU _ hI hl hcap hwf hf hc ⟨fun args w => by go_simp, fun a i r w' _ => unmap1_any a i r w'⟩ (fun a i r => by simp [kpU])).mono ?_
  rintro e w1 ⟨v, rfl, ho, hb⟩
  have HO := Lib.hid ho
  have HB := Lib.hid hb
  clear ho hb
  go_wp2_with fail
  refine bodyPost_ret (results_tmp2 rfl _ _ _) rfl ?_
  exact ⟨_, rfl, HO.out, HB.out⟩
set_option maxHeartbeats 2000000 in
theorem protect_any (O : Option Addr) (len cap : Nat) (l : List Reg) (f c : Int) (wr : Bool) (w : World) (hI : RegsK w O l) (hl : l.length = len) (hcap : len ≤ cap) (hwf : ∀ i, i < len → (rg l i).wf)
    (hf : U64 f) (hc : -9223372036854775808 ≤ c ∧ c < 9223372036854775808) :
    Calls Try.prog 12 #[.slice O len cap, .int .u64 f, .int .i64 c, .bool wr] w fun e w' => Told w w' e (chgE l f c (l.flatMap (pcs (kpP wr) f (f + c)))) (l.flatMap (pcs (kpP wr) f (f + c))) := by
  go_enter Try.func12, Try.ntmps12
  go_wp2_with fail
  have hx := Arr.new w #[.bool wr] 4
  have hb0 := ba (Below.refl w.heap.size w) (.cells #[.bool wr] 4)
  refine (change_any O len cap l f c 34 #[.pointer (some ⟨w.heap.size, 0, none⟩)] (kpP wr) _ (hI.call hb0) hl hcap hwf hf hc ⟨fun args w => by go_simp, fun a i r w' hW => protect1_any a i r _ wr w' (hx.call hW)⟩ (fun a i r => by simp [kpP])).mono ?_
  rintro e w1 ⟨v, rfl, ho, hb⟩
  have HO := Lib.hid (ho.less hb0.size)
  have HB := Lib.hid (bthen hb0 hb)
  clear ho hb hb0 hx
  go_wp2_with fail
  refine bodyPost_ret (results_tmp2 rfl _ _ _) rfl ?_
  exact ⟨_, rfl, HO.out, HB.out⟩
end Go.Proofs.Ytaikkdlphfmgiaa
