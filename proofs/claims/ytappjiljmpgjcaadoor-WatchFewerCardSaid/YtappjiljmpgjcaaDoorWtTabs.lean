/-
  Layer 29: tables: all tables on ways from some roots, each once a level.
-/
import Derived.Test.YtappjiljmpgjcaaDoorWtBelow
import Derived.Test.YtappjiljmpgjcaaDoorWtHold
namespace Go.Proofs.YtappjiljmpgjcaaDoor
open Go.RowKit Go.Maps Go.Shelf
set_option linter.unusedVariables false
set_option linter.unusedSimpArgs false
attribute [local go_sem] Oper.semAt_some
theorem RK.keeps {α : Type} {enc : α → List Value} {k : Nat} {w w' : World} {O : Option Addr} {xs : List α} {G : Nat → Prop} (h : RK enc k w O xs) (hk : Keeps G w w') (hG : ∀ g o, O = some ⟨g, o, none⟩ → ¬ G g) : RK enc k w' O xs := fun h0 => by
  obtain ⟨b, off, e, hc⟩ := h h0
  refine ⟨b, off, e, fun i x hi j u hu => ?_⟩
  have := hc i x hi j u hu
  exact (World.cell?_of_block (a := ⟨b, off + i * k + j, none⟩) (hk.block b (World.block_lt_of_cell? w ⟨b, off + i * k + j, none⟩ this) (hG b off e))).trans this
theorem tabsL_snoc (s : Sn) : ∀ (l : List Int) (r : Int) (sn : Int → Int → Bool), tabsL s (l ++ [r]) sn = if r = 0 then tabsL s l sn else belowP s 3 0 r (tabsL s l sn)
  | [], r, sn => rfl
  | q :: l, r, sn => by rw [List.cons_append, tabsL, tabsL, tabsL_snoc s l]
theorem tabsL_take (s : Sn) {l : List Int} {k : Nat} {r : Int} (h : l[k]? = some r) (sn : Int → Int → Bool) : tabsL s (l.take (k + 1)) sn = if r = 0 then tabsL s (l.take k) sn else belowP s 3 0 r (tabsL s (l.take k) sn) := by
  rw [List.take_add_one, h, Option.toList_some, tabsL_snoc]
theorem SnM.made (w : World) : SnM (w.alloc (.map #[] 0)) w.heap.size (fun _ _ => false) :=
  ⟨0, _, Mp.made _ w, fun _ _ _ _ => rfl, Nat.zero_le _⟩
set_option maxRecDepth 100000 in
set_option maxHeartbeats 4000000 in
theorem tables1_any {w0 : World} {s : Sn} {P S R l Rb Vb : Nat} {E0 E : Nat → Prop} {J : (Int → Int → Bool) → World → Prop} {W : World} {rl : List Int} {O : Option Addr} {cap : Nat}
    (hs : s.Given w0) (hG : G w0) (hn : s.fl.length ≤ 1000) (hJ : BelowJ w0 s P S R l E0 J) (hrl : ∀ x ∈ rl, I64 x) (hln : rl.length ≤ 1000) (hS : S = W.heap.size) (hE0 : ∀ y, E0 y → E y ∨ y = S) (hE : ∀ y, E y → y < W.heap.size)
    (hV : Vx w0 E W P s (.out R)) (hj : J (fun _ _ => false) W) (hRb : Bk W Rb 59 #[.slice O rl.length cap]) (hVb : Bk W Vb 63 #[.pointer (some ⟨P, 0, none⟩)]) (hEV : E Vb)
    (hO : RK encI 1 W O rl) (hEO : ∀ g o, O = some ⟨g, o, none⟩ → E g ∧ g ≠ R ∧ g ≠ l) :
    Calls Tryd.prog 40 #[.func (.yield l) #[] #[], .pointer (some ⟨Rb, 0, none⟩), .pointer (some ⟨Vb, 0, none⟩)] W fun e W' => (∃ v, e = .returned v) ∧ Vx w0 E W' P s (.out R) ∧ J (tabsL s rl fun _ _ => false) W' ∧ KpX E S R l W W' := by
  have HJ := Lib.hid hJ
  have hmm := @run_makeMap Tryd.prog
  have hbm : Below W.heap.size W (W.alloc (.map #[] 0)) := ba (Below.refl _ _) _
  have HSn := SnM.made W
  have HV := hV.add (.map #[] 0)
  have Hj := hJ.keep _ _ _ hj ((Keeps.of_below (F := fun _ => False) hbm).mono (fun _ h => h.elim))
  have HR := hRb.call hbm
  have HVb := hVb.call hbm
  have HO := hO.call hbm
  have hOS : ∀ g o, O = some ⟨g, o, none⟩ → E g ∧ g ≠ S ∧ g ≠ R ∧ g ≠ l := fun g o h => ⟨(hEO g o h).1, fun e => by have := hE g (hEO g o h).1; omega, (hEO g o h).2⟩
  have HOS := Lib.hid hOS
  have hVS : Vb ≠ S := fun e => by have := hE Vb hEV; omega
  have HRL := Lib.hid hrl
  have HSS := Lib.hid hs
  have HG := Lib.hid hG
  have HN := Lib.hid hn
  have HE0 := Lib.hid hE0
  have HE := Lib.hid (show ∀ y, (E y ∨ y = S) → y < (W.alloc (.map #[] 0)).heap.size from fun y hy => by
    rw [World.size_alloc]
    rcases hy with hy | rfl
    · have := hE y hy; omega
    · omega)
  have HEV := Lib.hid hEV
  rw [← hS] at HSn HV
  go_enter Tryd.func40, Tryd.ntmps40
  go_upto_region 1 with fail
  refine (show ∀ W1 : World, SnM W1 S (fun _ _ => false) → Vx w0 (fun y => E y ∨ y = S) W1 P s (.out R) → J (fun _ _ => false) W1 → Bk W1 Rb 59 #[.slice O rl.length cap] → Bk W1 Vb 63 #[.pointer (some ⟨P, 0, none⟩)] → RK encI 1 W1 O rl → (∀ y, (E y ∨ y = S) → y < W1.heap.size) → Below W.heap.size W W1 → Code.wp _ _ _ _ W1 from fun W1 h1 h2 h3 h4 h5 h6 h7 h8 => ?_) _ HSn HV Hj HR HVb HO HE.out hbm
  rw [← hS]
  clear HSn HV Hj HR HVb HO hmm hbm hV hj hRb hVb hO hEO hE hE0 hJ hrl hs hG hn hS HE hEV hOS
  have HSn := Lib.hid h1
  have HV := Lib.hid h2
  have Hj := Lib.hid h3
  have HVb := Lib.hid h5
  have HO := Lib.hid h6
  have HE := Lib.hid h7
  have HB1 := Lib.hid h8
  have c1 : W1.cell? ⟨Rb, 0, none⟩ = some (.slice O rl.length cap) := h4.cell 0
  clear h1 h2 h3 h4 h5 h6 h7 h8
  go_wp2_with fail
  clear c1
  go_loopw [10] (fun i wr => ∃ k : Nat, k ≤ rl.length ∧ i = .int .i64 k ∧ SnM wr S (tabsL s (rl.take k) fun _ _ => false) ∧ Vx w0 (fun y => E y ∨ y = S) wr P s (.out R) ∧ J (tabsL s (rl.take k) fun _ _ => false) wr ∧ Bk wr Vb 63 #[.pointer (some ⟨P, 0, none⟩)] ∧ RK encI 1 wr O rl ∧ W1.heap.size ≤ wr.heap.size ∧ KpX E S R l W wr) (fun i _ => rl.length - (intOf i).toNat)
  case atStart => exact ⟨0, by omega, rfl, HSn.out, HV.out, Hj.out, HVb.out, HO.out, Nat.le_refl _, KpX.of_kp (Kp.of_below HB1.out)⟩
  case round =>
    clear HSn HV Hj HVb HO
    obtain ⟨k, hk, rfl, hsn, hv, hj, hvb, ho, hz, hkp⟩ := hrel
    have HKP := Lib.hid hkp
    have HSn := Lib.hid hsn
    have HV := Lib.hid hv
    have Hj := Lib.hid hj
    have HVb := Lib.hid hvb
    have HO := Lib.hid ho
    have HZ := Lib.hid hz
    by_cases hlt : k < rl.length
    · obtain ⟨r, hr⟩ : ∃ r, rl[k]? = some r := ⟨_, List.getElem?_eq_getElem hlt⟩
      obtain ⟨b, off, hO2, hc⟩ := ho (by omega)
      have q0 : wr.cell? ⟨b, off + k, none⟩ = some (.int .i64 r) := by have := hc k r hr 0 (.int .i64 r) rfl; rwa [Nat.mul_one, Nat.add_zero] at this
      have d0 : wr.cell? ⟨Vb, 0, none⟩ = some (.pointer (some ⟨P, 0, none⟩)) := hvb.cell 0
      have HT := Lib.hid (tabsL_take s hr fun _ _ => false)
      have HI := Lib.hid (HRL.out r (List.mem_of_getElem? hr))
      clear hsn hv hj hvb ho hz hr hc hkp
      rw [hO2]
      by_cases r0 : r = 0
      · have HT2 := Lib.hid (HT.out.trans (if_pos r0))
        subst r0
        go_wp2_with fail
        go_roundw
        case rel => exact ⟨k + 1, by omega, by go_num, by rw [HT2.out]; exact HSn.out, HV.out, by rw [HT2.out]; exact Hj.out, HVb.out, by rw [← hO2]; exact HO.out, HZ.out, HKP.out⟩
        case measure => simp [intOf]; omega
      · have HT2 := Lib.hid (HT.out.trans (if_neg r0))
        have rb : (r != 0) = true := by simp [r0]
        clear r0
        go_wp2_with fail
        refine (below_any HSS.out HG.out HN.out HJ.out 3 0 r _ (fun y => E y ∨ y = S) wr (by omega) (by omega) HI.out HE0.out (fun y hy => Nat.lt_of_lt_of_le (HE.out y hy) HZ.out) HV.out HSn.out Hj.out).mono ?_
        rintro e W2 ⟨rfl, hv2, hs2, hj2, hk2⟩
        have HV2 := Lib.hid hv2
        have HS2 := Lib.hid hs2
        have Hj2 := Lib.hid hj2
        have HVb2 := Lib.hid (hk2.bk HVb.out (.inl HEV.out) hVS (HJ.out.bks _ _ _ _ _ Hj.out HVb.out).1 (HJ.out.bks _ _ _ _ _ Hj.out HVb.out).2)
        have HO2 := Lib.hid (HO.out.keeps hk2.1 (fun g o hg hn => by
          have := HOS.out g o hg
          rcases hn with hn | hn | hn | hn
          · exact hn (.inl this.1)
          · exact this.2.1 hn
          · exact this.2.2.1 hn
          · exact this.2.2.2 hn))
        have HKP2 := Lib.hid (HKP.out.trans (hk2.mono (fun y hy => .inl hy)))
        have HZ2 := Lib.hid (Nat.le_trans HZ.out hk2.1.size)
        clear hv2 hs2 hj2 hk2 q0 d0
        go_wp2_with fail
        go_roundw
        case rel => exact ⟨k + 1, by omega, by go_num, by rw [HT2.out]; exact HS2.out, HV2.out, by rw [HT2.out]; exact Hj2.out, HVb2.out, by rw [← hO2]; exact HO2.out, HZ2.out, HKP2.out⟩
        case measure => simp [intOf]; omega
    · obtain rfl : k = rl.length := by omega
      rw [List.take_length] at Hj
      clear hsn hv hj hvb ho hz hkp
      go_wp2_with fail
      go_end0
      exact ⟨⟨_, rfl⟩, HV.out.mono (fun y hy => .inl hy), Hj.out, HKP.out⟩
set_option maxRecDepth 100000 in
set_option maxHeartbeats 2000000 in
theorem tables_any (P : Nat) (O : Option Addr) (n cap : Nat) (w : World) : Calls Tryd.prog 37 #[.pointer (some ⟨P, 0, none⟩), .slice O n cap] w fun e w' => e = .returned (.func (.func 40) #[] #[.pointer (some ⟨w.heap.size + 1, 0, none⟩), .pointer (some ⟨w.heap.size, 0, none⟩)]) ∧ Below w.heap.size w w' ∧ Bk w' w.heap.size 63 #[.pointer (some ⟨P, 0, none⟩)] ∧ Bk w' (w.heap.size + 1) 59 #[.slice O n cap] := by
  have hb1 := Lib.hid ((Bk.new w 63 #[.pointer (some ⟨P, 0, none⟩)]).call (ba (Below.refl _ _) (.cells #[.slice O n cap] 59)))
  have hb2 := Lib.hid (Bk.new (w.alloc (.cells #[.pointer (some ⟨P, 0, none⟩)] 63)) 59 #[.slice O n cap])
  rw [World.size_alloc] at hb2
  go_enter Tryd.func37, Tryd.ntmps37
  go_wp2_with fail
  go_ret
  exact ⟨by simp, ba (ba (Below.refl _ _) _) _, hb1.out, hb2.out⟩
end Go.Proofs.YtappjiljmpgjcaaDoor
