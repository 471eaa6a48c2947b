/-
  The document's Unmap, Protect, Same.
-/
import Derived.Test.YtaikkdlphfmgiaaSpRefCut
namespace Go.Proofs.Ytaikkdlphfmgiaa
open Go.RowKit
set_option linter.unusedVariables false
set_option linter.unusedSimpArgs false
set_option maxHeartbeats 2000000 in
theorem r19changed_any (O : Option Addr) (len cap : Nat) (l : List Reg) (f c : Int) (st wt : Bool) (w : World) (hI : RegsK w O l) (hl : l.length = len) (hcap : len ≤ cap) (hm : len ≤ 1000) (hwf : ∀ i, i < len → (rg l i).wf)
    (hf : U64 f) :
    Calls Try.prog 33 #[.slice O len cap, .int .u64 f, .int .i64 c, .bool st, .bool wt] w fun e w' => Told w w' e (chgE l f c (l.flatMap (pcs (kpS st wt) f (f + c)))) (l.flatMap (pcs (kpS st wt) f (f + c))) := by
  have HI := Lib.hid hI
  have HL := Lib.hid hl
  have HW := Lib.hid hwf
  have HF := Lib.hid hf
  have hf0 := hf.1
  have hf1 := hf.2
  clear hI hl hwf
  go_enter Try.func33, Try.ntmps33
  go_wp2_with fail
  refine (r19Check_any O len cap l _ HI.out HL.out hcap HW.out).mono ?_
  rintro e w1 ⟨rfl, hb1⟩
  have HB := Lib.hid hb1
  clear hb1
  rcases hck : chk l with _ | _
  · have HV := Lib.hid (show ckV l = 2 by simp [ckV, hck])
    have HE := Lib.hid (show chgE l f c (l.flatMap (pcs (kpS st wt) f (f + c))) = 2 by simp [chgE, hck])
    clear hck
    rw [HV.out]
    go_wp2_with fail
    refine bodyPost_ret (results_tmp2 rfl _ _ _) rfl ?_
    rw [HE.out]
    exact Told.no _ (by omega) HB.out
  have HV := Lib.hid (show ckV l = 0 by simp [ckV, hck])
  have HCK := Lib.hid hck
  have h8' : len ≤ 8 := by have := (chk_parts hck).1; have := HL.out; omega
  clear hck
  rw [HV.out]
  go_wp2_with fail
  refine (r19Whole_any O len cap f c l _ (HI.out.call HB.out) HL.out hcap hm HW.out HF.out).mono ?_
  rintro e w2 ⟨rfl, hb2⟩
  have HB2 := Lib.hid (bthen HB.out hb2)
  clear hb2 HB
  rcases hwh : whl l f c with _ | _
  · have HE := Lib.hid (show chgE l f c (l.flatMap (pcs (kpS st wt) f (f + c))) = 190 by simp [chgE, HCK.out, hwh])
    clear hwh
    go_wp2_with fail
    refine bodyPost_ret (results_tmp2 rfl _ _ _) rfl ?_
    rw [HE.out]
    exact Told.no _ (by omega) HB2.out
  obtain ⟨hc1, hc2, hc3⟩ := whl_parts hwh
  have HWH := Lib.hid hwh
  clear hwh
  go_wp2_with fail
  refine (r19cut_any O len cap l f c st wt _ (HI.out.call HB2.out) HL.out hcap h8' (fun k hk => rok_of HCK.out k hk) hf0 hc1 (by omega)).mono ?_
  rintro e w3 ⟨v3, rfl, ho3, hb3⟩
  have HB3 := Lib.hid (bthen HB2.out hb3)
  have HO3 := Lib.hid (ho3.less HB2.out.size)
  clear ho3 hb3 HB2
  generalize hout : l.flatMap (pcs (kpS st wt) f (f + c)) = out at HO3
  have HOUT := Lib.hid hout
  clear hout
  obtain ⟨O3, cap3, rfl, -, -, -⟩ := HO3.out.form encG_len
  by_cases h8 : out.length ≤ 8
  · have HE := Lib.hid (show chgE l f c (l.flatMap (pcs (kpS st wt) f (f + c))) = 0 by unfold chgE; rw [HOUT.out, HCK.out, HWH.out, if_pos rfl, if_pos rfl, if_pos h8])
    go_wp2_with fail
    refine bodyPost_ret (results_tmp2 rfl _ _ _) rfl ?_
    rw [HE.out]
    exact ⟨_, rfl, by unfold okL; rw [if_pos rfl, HOUT.out]; exact HO3.out, HB3.out⟩
  · have HE := Lib.hid (show chgE l f c (l.flatMap (pcs (kpS st wt) f (f + c))) = 20 by unfold chgE; rw [HOUT.out, HCK.out, HWH.out, if_pos rfl, if_pos rfl, if_neg h8])
    go_wp2_with fail
    refine bodyPost_ret (results_tmp2 rfl _ _ _) rfl ?_
    rw [HE.out]
    exact Told.no _ (by omega) HB3.out
set_option maxHeartbeats 2000000 in
theorem r19Unmap_any (O : Option Addr) (len cap : Nat) (l : List Reg) (f c : Int) (w : World) (hI : RegsK w O l) (hl : l.length = len) (hcap : len ≤ cap) (hm : len ≤ 1000) (hwf : ∀ i, i < len → (rg l i).wf) (hf : U64 f) :
    Calls Try.prog 11 #[.slice O len cap, .int .u64 f, .int .i64 c] w fun e w' => Told w w' e (chgE l f c (l.flatMap (pcs kpU f (f + c)))) (l.flatMap (pcs kpU f (f + c))) := by
  go_enter Try.func11, Try.ntmps11
  go_wp2_with fail
  refine (r19changed_any O len cap l f c false false _ hI hl hcap hm hwf hf).mono ?_
  rintro e w1 ⟨v, rfl, ho, hb⟩
  have HO := Lib.hid ho
  have HB := Lib.hid hb
  clear ho hb
  go_wp2_with fail
  refine bodyPost_ret (results_tmp2 rfl _ _ _) rfl ?_
  exact ⟨_, rfl, HO.out, HB.out⟩
set_option maxHeartbeats 2000000 in
theorem r19Protect_any (O : Option Addr) (len cap : Nat) (l : List Reg) (f c : Int) (wt : Bool) (w : World) (hI : RegsK w O l) (hl : l.length = len) (hcap : len ≤ cap) (hm : len ≤ 1000) (hwf : ∀ i, i < len → (rg l i).wf) (hf : U64 f) :
    Calls Try.prog 13 #[.slice O len cap, .int .u64 f, .int .i64 c, .bool wt] w fun e w' => Told w w' e (chgE l f c (l.flatMap (pcs (kpP wt) f (f + c)))) (l.flatMap (pcs (kpP wt) f (f + c))) := by
  go_enter Try.func13, Try.ntmps13
  go_wp2_with fail
  refine (r19changed_any O len cap l f c true wt _ hI hl hcap hm hwf hf).mono ?_
  rintro e w1 ⟨v, rfl, ho, hb⟩
  have HO := Lib.hid ho
  have HB := Lib.hid hb
  clear ho hb
  go_wp2_with fail
  refine bodyPost_ret (results_tmp2 rfl _ _ _) rfl ?_
  exact ⟨_, rfl, HO.out, HB.out⟩
/-- Two rows that are the same. -/
theorem r19Same_same (O P : Option Addr) (c d : Nat) (l : List Reg) (w : World) (hO : RegsK w O l) (hP : RegsK w P l) (hc : l.length ≤ c) (hd : l.length ≤ d) (hm : l.length ≤ 150) :
    Calls Try.prog 14 #[.slice O l.length c, .slice P l.length d] w fun e w' => e = .returned (.bool true) ∧ Below w.heap.size w w' := by
  have HO := Lib.hid hO
  have HP := Lib.hid hP
  clear hO hP
  obtain ⟨n, hn⟩ : ∃ n, n = l.length := ⟨_, rfl⟩
  rw [← hn] at hc hd hm ⊢
  have HN := Lib.hid hn
  clear hn
  go_enter Try.func14, Try.ntmps14
  go_wp2_with fail
  go_loopw [5] (fun i wr => ∃ k : Nat, i = .int .i64 k ∧ k ≤ n ∧ Below w.heap.size w wr) (fun i _ => n - (intOf i).toNat)
  case atStart => exact ⟨0, rfl, by omega, Below.refl _ _⟩
  case round =>
    obtain ⟨k, rfl, hk, hB⟩ := hrel
    have HB := Lib.hid hB
    clear hB
    by_cases hlt : k < n
    · obtain ⟨b, off, rfl, h1⟩ := (HO.out.call HB.out) (by have := HN.out; omega)
      obtain ⟨b', off', rfl, h2⟩ := (HP.out.call HB.out) (by have := HN.out; omega)
      obtain ⟨d0, d1, d2⟩ := h1 k (by have := HN.out; omega)
      obtain ⟨e0, e1, e2⟩ := h2 k (by have := HN.out; omega)
      clear h1 h2
      go_upto_region 6 with fail
      rename_i hKJ
      have hKJ := Lib.hid hKJ
      go_region
      refine hKJ.out _ _ ?_
      clear hKJ
      go_wp2_with fail
      go_roundw
      case rel => exact ⟨k + 1, by go_num, by omega, bd HB.out⟩
      case measure => simp [intOf]; omega
    · obtain rfl : k = n := by omega
      go_wp2_with fail
      go_ret
      exact ⟨rfl, HB.out⟩
end Go.Proofs.Ytaikkdlphfmgiaa
