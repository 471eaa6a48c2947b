/-
  The document's Map.
-/
import Derived.Test.YtaikkdlphfmgiaaSpRefChg
namespace Go.Proofs.Ytaikkdlphfmgiaa
open Go.RowKit
set_option linter.unusedVariables false
set_option linter.unusedSimpArgs false
def insStep (r : Reg) (s : List Reg × Bool) (x : Reg) : List Reg × Bool := if s.2 = false ∧ r.f < x.f then (s.1 ++ [r] ++ [x], true) else (s.1 ++ [x], s.2)
def insF (l : List Reg) (r : Reg) : List Reg × Bool := l.foldl (insStep r) ([], false)
theorem insF_true (r : Reg) : ∀ (l pre : List Reg), l.foldl (insStep r) (pre, true) = (pre ++ l, true)
  | [], pre => by simp
  | x :: t, pre => by
    rw [List.foldl_cons, show insStep r (pre, true) x = (pre ++ [x], true) by simp [insStep], insF_true r t]
    simp
theorem insF_end (r : Reg) : ∀ (l pre : List Reg), (if (l.foldl (insStep r) (pre, false)).2 then (l.foldl (insStep r) (pre, false)).1 else (l.foldl (insStep r) (pre, false)).1 ++ [r]) = pre ++ insR l r
  | [], pre => by simp [insR]
  | x :: t, pre => by
    rw [List.foldl_cons]
    by_cases h : r.f < x.f
    · rw [show insStep r (pre, false) x = (pre ++ [r] ++ [x], true) by simp [insStep, h], insF_true r t]
      simp [insR, h]
    · rw [show insStep r (pre, false) x = (pre ++ [x], false) by simp [insStep, h], insF_end r t]
      simp [insR, h]
theorem insF_len (r : Reg) : ∀ (l pre : List Reg) (d : Bool), (l.foldl (insStep r) (pre, d)).1.length ≤ pre.length + l.length + 1
  | [], pre, d => by simp
  | x :: t, pre, true => by rw [insF_true]; simp
  | x :: t, pre, false => by
    rw [List.foldl_cons]
    by_cases h : r.f < x.f
    · rw [show insStep r (pre, false) x = (pre ++ [r] ++ [x], true) by simp [insStep, h], insF_true r t]
      simp; omega
    · rw [show insStep r (pre, false) x = (pre ++ [x], false) by simp [insStep, h]]
      have := insF_len r t (pre ++ [x]) false
      simp only [List.length_append, List.length_cons, List.length_nil] at this ⊢
      omega
theorem insF_take {l : List Reg} {k : Nat} (r : Reg) (h : k < l.length) : insF (l.take (k + 1)) r = insStep r (insF (l.take k) r) (rg l k) := by
  unfold insF
  rw [List.take_add_one, rg_some h, Option.toList_some, List.foldl_append]
  rfl
theorem pgs_app (l m : List Reg) : pgs (l ++ m) = pgs l + pgs m := by
  induction l with
  | nil => simp [pgs]
  | cons r l ih => simp only [List.cons_append, pgs, ih]; omega
theorem pgs_take {l : List Reg} {k : Nat} (h : k < l.length) : pgs (l.take (k + 1)) = pgs (l.take k) + (rg l k).c := by
  rw [List.take_add_one, rg_some h, Option.toList_some, pgs_app]
  simp [pgs]
theorem pgs_take_le {l : List Reg} (hc : chainB 0 l = true) : ∀ k, k ≤ l.length → 0 ≤ pgs (l.take k) ∧ pgs (l.take k) ≤ pgs l := fun k hk => by
  have e : pgs l = pgs (l.take k) + pgs (l.drop k) := by rw [← pgs_app, List.take_append_drop]
  have h1 : ∀ (m : List Reg), (∀ x ∈ m, 1 ≤ x.c) → 0 ≤ pgs m := fun m => by
    induction m with
    | nil => simp [pgs]
    | cons x m ih =>
      intro hx
      have := hx x (by simp)
      have := ih (fun y hy => hx y (by simp [hy]))
      simp only [pgs]
      omega
  have h2 : ∀ x ∈ l, 1 ≤ x.c := fun x hx => by
    obtain ⟨i, hi, rfl⟩ := List.mem_iff_getElem.1 hx
    have := chain_at l 0 hc i hi
    rw [rg_get (List.getElem?_eq_getElem hi)] at this
    exact this.2.1
  have := h1 (l.take k) (fun x hx => h2 x (List.mem_of_mem_take hx))
  have := h1 (l.drop k) (fun x hx => h2 x (List.mem_of_mem_drop hx))
  omega
set_option maxHeartbeats 8000000 in
set_option maxRecDepth 100000 in
theorem r19Map_any (O : Option Addr) (len cap : Nat) (l : List Reg) (r : Reg) (w : World) (hI : RegsK w O l) (hl : l.length = len) (hcap : len ≤ cap) (hwf : ∀ i, i < len → (rg l i).wf) (hr : r.wf) :
    Calls Try.prog 9 #[.slice O len cap, gV r] w fun e w' => Told w w' e (mapE l r) (insR l r) := by
  have HI := Lib.hid hI
  have HL := Lib.hid hl
  have HW := Lib.hid hwf
  obtain ⟨⟨f0, f1⟩, c0, c1⟩ := hr
  clear hI hl hwf
  have HA0 := Lib.hid (Arr.new w #[.int .u64 r.f, .int .i64 r.c, .bool r.w] 25)
  have HB0 := Lib.hid (ba (Below.refl w.heap.size w) (.cells #[.int .u64 r.f, .int .i64 r.c, .bool r.w] 25))
  unfold gV
  go_enter Try.func9, Try.ntmps9
  go_wp2_with fail
  generalize w.alloc (.cells #[.int .u64 r.f, .int .i64 r.c, .bool r.w] 25) = W0 at *
  refine (r19Check_any O len cap l _ (HI.out.call HB0.out) HL.out hcap HW.out).mono ?_
  rintro e w1 ⟨rfl, hb1⟩
  have HA1 := Lib.hid (HA0.out.call hb1)
  have HB1 := Lib.hid (bthen HB0.out hb1)
  clear hb1 HA0 HB0
  rcases hck : chk l with _ | _
  · have HV := Lib.hid (show ckV l = 2 by simp [ckV, hck])
    have HE := Lib.hid (show mapE l r = 2 by simp [mapE, hck])
    clear hck
    rw [HV.out]
    go_wp2_with fail
    refine bodyPost_ret (results_tmp2 rfl _ _ _) rfl ?_
    rw [HE.out]
    exact Told.no _ (by omega) HB1.out
  have HV := Lib.hid (show ckV l = 0 by simp [ckV, hck])
  have HCK := Lib.hid hck
  have hch := (chk_parts hck).2.1
  have h8' : len ≤ 8 := by have := (chk_parts hck).1; have := HL.out; omega
  have HCH := Lib.hid hch
  have HAT := Lib.hid (show ∀ k, k < len → 0 ≤ (rg l k).f ∧ 1 ≤ (rg l k).c ∧ (rg l k).c ≤ 34359738368 ∧ (rg l k).f ≤ 34359738368 - (rg l k).c from fun k hk => chain_at l 0 hch k (by have := HL.out; omega))
  have HPG := Lib.hid (show pgs l ≤ 16 from (chk_parts hck).2.2)
  have HPT := Lib.hid (pgs_take_le hch)
  clear hck hch
  rw [HV.out]
  have z0 := HA1.out.cell 0 _ rfl
  have z1 := HA1.out.cell 1 _ rfl
  by_cases e1 : 1 ≤ r.c
  case neg =>
    have HE := Lib.hid (show mapE l r = 190 by simp only [mapE, HCK.out, if_true]; rw [if_neg (by rw [eB_iff]; omega)])
    have e1' : r.c < 1 := by omega
    go_wp2_with fail
    refine bodyPost_ret (results_tmp2 rfl _ _ _) rfl ?_
    rw [HE.out]
    exact Told.no _ (by omega) HB1.out
  by_cases e2 : r.c ≤ 34359738368
  case neg =>
    have HE := Lib.hid (show mapE l r = 190 by simp only [mapE, HCK.out, if_true]; rw [if_neg (by rw [eB_iff]; omega)])
    go_wp2_with fail
    refine bodyPost_ret (results_tmp2 rfl _ _ _) rfl ?_
    rw [HE.out]
    exact Told.no _ (by omega) HB1.out
  by_cases e3 : r.f ≤ 34359738368 - r.c
  case neg =>
    have HE := Lib.hid (show mapE l r = 190 by simp only [mapE, HCK.out, if_true]; rw [if_neg (by rw [eB_iff]; omega)])
    go_wp2_with fail
    refine bodyPost_ret (results_tmp2 rfl _ _ _) rfl ?_
    rw [HE.out]
    exact Told.no _ (by omega) HB1.out
  have HEB := Lib.hid ((eB_iff r.f r.c).2 ⟨e1, e2, e3⟩)
  go_wp2_with fail
  go_loopw [6, 7] (fun n i wr => ∃ k : Nat, n = .int .i64 (pgs (l.take k)) ∧ i = .int .i64 k ∧ k ≤ len ∧ (∀ i, i < k → (rg l i).f < r.f + r.c → ¬ r.f < (rg l i).f + (rg l i).c) ∧ Arr wr w.heap.size [.int .u64 r.f, .int .i64 r.c, .bool r.w] ∧ Below w.heap.size w wr) (fun _ i _ => len - (intOf i).toNat)
  case atStart => exact ⟨0, rfl, rfl, by omega, fun i hi => by omega, HA1.out, HB1.out⟩
  case round =>
    clear HA1 HB1 z0 z1
    obtain ⟨k, rfl, rfl, hk, hno, hA, hB⟩ := hrel
    have HNO := Lib.hid hno
    have HA := Lib.hid hA
    have HB := Lib.hid hB
    clear hno hA hB
    by_cases hlt : k < len
    · have hlt' : k < l.length := by rw [HL.out]; exact hlt
      obtain ⟨b, off, rfl, hc⟩ := (HI.out.call HB.out) (by rw [HL.out]; omega)
      obtain ⟨d0, d1, d2⟩ := hc k hlt'
      clear hc
      obtain ⟨q0, q1, q2, q3⟩ := HAT.out k hlt
      obtain ⟨p0, p1⟩ := HPT.out k (by omega)
      have p2 := HPG.out
      have HP1 := Lib.hid (pgs_take hlt')
      have z0 := HA.out.cell 0 _ rfl
      have z1 := HA.out.cell 1 _ rfl
      generalize pgs (l.take k) = n at *
      generalize pgs l = m at *
      go_upto_region 10 with fail
      rename_i hKJ
      have hKJ := Lib.hid hKJ
      by_cases h1 : (rg l k).f < r.f + r.c
      · by_cases h2 : r.f < (rg l k).f + (rg l k).c
        · go_region
          refine hKJ.out _ _ ?_
          clear hKJ
          have HE := Lib.hid (show mapE l r = 190 by simp only [mapE, HCK.out, HEB.out, ovl_yes k hlt' h1 h2, if_true])
          go_wp2_with fail
          refine bodyPost_ret (results_tmp2 rfl _ _ _) rfl ?_
          rw [HE.out]
          exact Told.no _ (by omega) (bd HB.out)
        · go_region
          refine hKJ.out _ _ ?_
          clear hKJ
          go_wp2_with fail
          go_roundw
          case rel =>
            refine ⟨k + 1, by rw [HP1.out], by go_num, by omega, fun i hi ha hb => ?_, HA.out.drew, bd HB.out⟩
            by_cases e : i = k
            · rw [e] at ha hb; exact h2 hb
            · exact HNO.out i (by omega) ha hb
          case measure => simp [intOf]; omega
      · go_region
        refine hKJ.out _ _ ?_
        clear hKJ
        go_wp2_with fail
        go_roundw
        case rel =>
          refine ⟨k + 1, by rw [HP1.out], by go_num, by omega, fun i hi ha hb => ?_, HA.out.drew, bd HB.out⟩
          by_cases e : i = k
          · rw [e] at ha hb; exact h1 ha
          · exact HNO.out i (by omega) ha hb
        case measure => simp [intOf]; omega
    · obtain rfl : k = len := by omega
      have HT := Lib.hid (show l.take k = l by rw [← HL.out, List.take_length])
      have HOV := Lib.hid (show ovl l r = false from ovl_no (fun i hi h1 h2 => HNO.out i (by have := HL.out; omega) h1 h2))
      rw [HT.out]
      obtain ⟨p0, p1⟩ := HPT.out l.length (Nat.le_refl _)
      rw [List.take_length] at p0
      have p2 := HPG.out
      clear p1 HNO
      have z0 := HA.out.cell 0 _ rfl
      have z1 := HA.out.cell 1 _ rfl
      by_cases h7 : k < 8
      case neg =>
        have HE := Lib.hid (show mapE l r = 20 by unfold mapE; rw [HCK.out, HEB.out, HOV.out, if_pos rfl, if_pos rfl, if_neg (by simp), if_neg (by have := HL.out; omega)])
        go_wp2_with fail
        refine bodyPost_ret (results_tmp2 rfl _ _ _) rfl ?_
        rw [HE.out]
        exact Told.no _ (by omega) HB.out
      by_cases hbig : pgs l + r.c ≤ 16
      case neg =>
        have HE := Lib.hid (show mapE l r = 20 by unfold mapE; rw [HCK.out, HEB.out, HOV.out, if_pos rfl, if_pos rfl, if_neg (by simp), if_neg (by omega)])
        have hbig' : 16 - pgs l < r.c := by omega
        go_wp2_with fail
        refine bodyPost_ret (results_tmp2 rfl _ _ _) rfl ?_
        rw [HE.out]
        exact Told.no _ (by omega) HB.out
      have HE := Lib.hid (show mapE l r = 0 by unfold mapE; rw [HCK.out, HEB.out, HOV.out, if_pos rfl, if_pos rfl, if_neg (by simp), if_pos ⟨hbig, by have := HL.out; omega⟩])
      have hbig' : ¬ 16 - pgs l < r.c := by omega
      have hCx := Cx.mk (w0 := w) (r := r) (Ow.nil _ _ _) HA.out (fun e => by cases e) HB.out
      go_wp2_with fail
      go_loopw [8, 9, 10] (fun v d i wr => ∃ k2 : Nat, i = .int .i64 k2 ∧ d = .bool (insF (l.take k2) r).2 ∧ k2 ≤ k ∧ Cx w wr v (insF (l.take k2) r).1 w.heap.size r) (fun _ _ i _ => k - (intOf i).toNat)
      case atStart => exact ⟨0, rfl, rfl, by omega, hCx⟩
      case round =>
        clear HA HB z0 z1 hCx
        obtain ⟨k2, rfl, rfl, hk2, hC⟩ := hrel
        have HC0 := Lib.hid hC
        clear hC
        have HLE := Lib.hid (show (insF (l.take k2) r).1.length ≤ 20 by
          have := insF_len r (l.take k2) [] false
          unfold insF
          rw [List.length_take] at this
          simp only [List.length_nil] at this
          omega)
        by_cases hlt : k2 < k
        · have hlt' : k2 < l.length := by rw [HL.out]; exact hlt
          obtain ⟨b, off, rfl, hc⟩ := (HI.out.call HC0.out.b) (by rw [HL.out]; omega)
          obtain ⟨d0, d1, d2⟩ := hc k2 hlt'
          have HF := Lib.hid (insF_take r hlt')
          clear hc
          have z0 := HC0.out.a.cell 0 _ rfl
          have z1 := HC0.out.a.cell 1 _ rfl
          have z2 := HC0.out.a.cell 2 _ rfl
          generalize insF (l.take k2) r = s at *
          obtain ⟨xs, dn⟩ := s
          have HC0 := Lib.hid (show Cx w wr _ xs w.heap.size r from HC0.out)
          have HLE := Lib.hid (show xs.length ≤ 20 from HLE.out)
          cases dn
          · by_cases hf : r.f < (rg l k2).f
            · have HF2 := Lib.hid (show insF (l.take (k2 + 1)) r = (xs ++ [r] ++ [rg l k2], true) by rw [HF.out]; simp [insStep, hf])
              clear HF
              go_upto_region 19 with fail
              rename_i hKJ
              have hKJ := Lib.hid hKJ
              go_region
              refine hKJ.out _ _ ?_
              clear hKJ
              refine (show ∀ W : World, Cx w W _ xs w.heap.size r → Code.wp _ _ _ _ W from fun W hW => ?_) _ HC0.out.drew
              clear z0 z1 z2 d0 d1 d2 HC0
              have HC0 := Lib.hid hW
              have z0 := hW.a.cell 0 _ rfl
              have z1 := hW.a.cell 1 _ rfl
              have z2 := hW.a.cell 2 _ rfl
              obtain ⟨b1, off1, e1', hc1'⟩ := (HI.out.call hW.b) (by rw [HL.out]; omega)
              cases e1'
              obtain ⟨d0, d1, d2⟩ := hc1' k2 hlt'
              clear hc1' hW
              go_wp2_with (first
                | (at_builtin; refine wp_snocC rfl _ _ rfl rfl HC0.out r rfl (by have := HLE.out; (try simp only [List.length_append, List.length_cons, List.length_nil] at this ⊢); omega) ?_; intro v1 w1 hc1; have HC1 := Lib.hid hc1; obtain ⟨b1, off1, e1', hc1'⟩ := (HI.out.call HC1.out.b) (by rw [HL.out]; omega); cases e1'; obtain ⟨d0', d1', d2'⟩ := hc1' k2 hlt'; clear hc1'; clear hc1)
                | (at_builtin; refine wp_snocC rfl _ _ rfl rfl HC1.out ⟨(rg l k2).f, (rg l k2).c, (rg l k2).w⟩ rfl (by have := HLE.out; (try simp only [List.length_append, List.length_cons, List.length_nil] at this ⊢); omega) ?_; intro v2 w2 hc2; have HC2 := Lib.hid hc2; clear hc2))
              go_roundw
              case rel => exact ⟨k2 + 1, by go_num, by rw [HF2.out], by omega, by rw [HF2.out]; exact HC2.out⟩
              case measure => simp [intOf]; omega
            · have HF2 := Lib.hid (show insF (l.take (k2 + 1)) r = (xs ++ [rg l k2], false) by rw [HF.out]; simp [insStep, hf])
              clear HF
              go_upto_region 19 with fail
              rename_i hKJ
              have hKJ := Lib.hid hKJ
              go_region
              refine hKJ.out _ _ ?_
              clear hKJ
              refine (show ∀ W : World, Cx w W _ xs w.heap.size r → Code.wp _ _ _ _ W from fun W hW => ?_) _ HC0.out.drew
              clear z0 z1 z2 d0 d1 d2 HC0
              have HC0 := Lib.hid hW
              have z0 := hW.a.cell 0 _ rfl
              have z1 := hW.a.cell 1 _ rfl
              have z2 := hW.a.cell 2 _ rfl
              obtain ⟨b1, off1, e1', hc1'⟩ := (HI.out.call hW.b) (by rw [HL.out]; omega)
              cases e1'
              obtain ⟨d0, d1, d2⟩ := hc1' k2 hlt'
              clear hc1' hW
              go_wp2_with (at_builtin; refine wp_snocC rfl _ _ rfl rfl HC0.out ⟨(rg l k2).f, (rg l k2).c, (rg l k2).w⟩ rfl (by have := HLE.out; (try simp only [List.length_append, List.length_cons, List.length_nil] at this ⊢); omega) ?_; intro v1 w1 hc1; have HC1 := Lib.hid hc1; clear hc1)
              go_roundw
              case rel => exact ⟨k2 + 1, by go_num, by rw [HF2.out], by omega, by rw [HF2.out]; exact HC1.out⟩
              case measure => simp [intOf]; omega
          · have HF2 := Lib.hid (show insF (l.take (k2 + 1)) r = (xs ++ [rg l k2], true) by rw [HF.out]; simp [insStep])
            clear HF
            go_upto_region 19 with fail
            rename_i hKJ
            have hKJ := Lib.hid hKJ
            go_region
            refine hKJ.out _ _ ?_
            clear hKJ
            refine (show ∀ W : World, Cx w W _ xs w.heap.size r → Code.wp _ _ _ _ W from fun W hW => ?_) _ HC0.out.drew
            clear z0 z1 z2 d0 d1 d2 HC0
            have HC0 := Lib.hid hW
            have z0 := hW.a.cell 0 _ rfl
            have z1 := hW.a.cell 1 _ rfl
            have z2 := hW.a.cell 2 _ rfl
            obtain ⟨b1, off1, e1', hc1'⟩ := (HI.out.call hW.b) (by rw [HL.out]; omega)
            cases e1'
            obtain ⟨d0, d1, d2⟩ := hc1' k2 hlt'
            clear hc1' hW
            go_wp2_with (at_builtin; refine wp_snocC rfl _ _ rfl rfl HC0.out ⟨(rg l k2).f, (rg l k2).c, (rg l k2).w⟩ rfl (by have := HLE.out; (try simp only [List.length_append, List.length_cons, List.length_nil] at this ⊢); omega) ?_; intro v1 w1 hc1; have HC1 := Lib.hid hc1; clear hc1)
            go_roundw
            case rel => exact ⟨k2 + 1, by go_num, by rw [HF2.out], by omega, by rw [HF2.out]; exact HC1.out⟩
            case measure => simp [intOf]; omega
        · obtain rfl : k2 = k := by omega
          have z0 := HC0.out.a.cell 0 _ rfl
          have z1 := HC0.out.a.cell 1 _ rfl
          have z2 := HC0.out.a.cell 2 _ rfl
          have HEND := Lib.hid (show (if (insF (l.take k2) r).2 then (insF (l.take k2) r).1 else (insF (l.take k2) r).1 ++ [r]) = insR l r by rw [HT.out]; have := insF_end r l []; rw [List.nil_append] at this; exact this)
          generalize insF (l.take k2) r = s at *
          obtain ⟨xs, dn⟩ := s
          have HC0 := Lib.hid (show Cx w wr _ xs w.heap.size r from HC0.out)
          have HLE := Lib.hid (show xs.length ≤ 20 from HLE.out)
          cases dn
          · go_wp2_with (at_builtin; refine wp_snocC rfl _ _ rfl rfl HC0.out r rfl (by have := HLE.out; (try simp only [List.length_append, List.length_cons, List.length_nil] at this ⊢); omega) ?_; intro v1 w1 hc1; have HC1 := Lib.hid hc1; clear hc1)
            refine bodyPost_ret (results_tmp2 rfl _ _ _) rfl ?_
            rw [HE.out]
            exact ⟨_, rfl, by unfold okL; rw [if_pos rfl, ← HEND.out]; exact HC1.out.o, HC1.out.b⟩
          · go_wp2_with fail
            refine bodyPost_ret (results_tmp2 rfl _ _ _) rfl ?_
            rw [HE.out]
            exact ⟨_, rfl, by unfold okL; rw [if_pos rfl, ← HEND.out]; exact HC0.out.o, HC0.out.b⟩
end Go.Proofs.Ytaikkdlphfmgiaa
