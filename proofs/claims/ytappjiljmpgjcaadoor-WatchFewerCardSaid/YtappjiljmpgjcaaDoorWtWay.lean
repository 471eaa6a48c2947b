/-
  Layer 29: way: where the way by a page's indices leads.
-/
import Derived.Test.YtappjiljmpgjcaaDoorWtTable
namespace Go.Proofs.YtappjiljmpgjcaaDoor
open Go.RowKit Go.Maps
set_option linter.unusedVariables false
set_option linter.unusedSimpArgs false
def wayL (s : Sn) (page : Int) : Nat → Int → Int → Int × Bool × Bool
  | 0, _, _ => (0, false, false)
  | n + 1, lv, a =>
    if thr s a = true ∧ aOk page lv = true then
      if de (tb s a (aIdx page lv).toNat) lv = 0 then
        if dk (tb s a (aIdx page lv).toNat) lv = 1 then wayL s page n (lv + 1) (df (tb s a (aIdx page lv).toNat) lv)
        else if dk (tb s a (aIdx page lv).toNat) lv = 2 ∧ dfl (tb s a (aIdx page lv).toNat) lv 6 = true ∧ thr s (df (tb s a (aIdx page lv).toNat) lv) = true then
          (df (tb s a (aIdx page lv).toNat) lv, dfl (tb s a (aIdx page lv).toNat) lv 7, true)
        else (0, false, false)
      else (0, false, false)
    else (0, false, false)
def wayP (s : Sn) (root page : Int) : Int × Bool × Bool := if root = 0 then (0, false, false) else wayL s page 4 0 root
def wayV (r : Int × Bool × Bool) : Value := .tuple #[.int .i64 r.1, .bool r.2.1, .bool r.2.2]
theorem index_any (page level : Int) (w : World) (hp : U64 page) :
    Calls Tryd.prog 27 #[.int .u64 page, .int .i64 level] w fun e w' => (aOk page level = true ∧ e = .returned (.tuple #[.int .i64 (aIdx page level), .int .i64 0]) ∨ aOk page level = false ∧ e = .returned (.tuple #[.int .i64 0, .int .i64 2])) ∧ Below w.heap.size w w' := by
  cases h : aOk page level
  · exact (index_no page level w h).mono fun e w' ⟨h1, h2⟩ => ⟨.inr ⟨rfl, h1⟩, h2⟩
  · exact (index_yes page level w hp h).mono fun e w' ⟨h1, h2⟩ => ⟨.inl ⟨rfl, h1⟩, h2⟩
theorem aIdx_nat (page : Int) (k : Nat) (hk : k ≤ 3) : ∃ i : Nat, aIdx page k = i ∧ i < 512 := by
  have := fGet_9 page (9 * (3 - (k : Int)) + 8) (9 * (3 - (k : Int))) (by omega)
  exact ⟨(aIdx page k).toNat, by unfold aIdx; omega, by unfold aIdx; omega⟩
theorem df_i64 (x l : Int) : I64 (df x l) := by
  unfold df
  split
  · have := fGet_lt x 47 12 36 (by omega)
    exact ⟨by omega, by omega⟩
  · exact ⟨by omega, by omega⟩
set_option maxRecDepth 100000 in
set_option maxHeartbeats 2000000 in
theorem wtWay_any {w0 w : World} {E : Nat → Prop} {P : Nat} {s : Sn} {rt : Rt} (root page : Int) (hI : I64 root) (hp : U64 page) (h : Vx w0 E w P s rt) (hs : s.Given w0) (hG : G w0) (hn : s.fl.length ≤ 1000) (hE : ∀ x, E x → x < w.heap.size) :
    Calls Tryd.prog 15 #[.pointer (some ⟨P, 0, none⟩), .int .i64 root, .int .u64 page] w fun e w' => e = .returned (wayV (wayP s root page)) ∧ Vx w0 E w' P s rt ∧ Kp E w w' := by
  have HX := Lib.hid h
  have HS := Lib.hid hs
  have HG := Lib.hid hG
  have HN := Lib.hid hn
  have HE := Lib.hid hE
  have HP := Lib.hid hp
  clear h hs hG hn hE hp
  by_cases h0 : root = 0
  · subst h0
    go_enter Tryd.func15, Tryd.ntmps15
    go_wp2_with fail
    go_ret3
    exact ⟨by simp [wayP, wayV], HX.out, Kp.refl _ _⟩
  · have HW := Lib.hid (show wayP s root page = wayL s page 4 0 root from if_neg h0)
    rw [HW.out]
    have HI := Lib.hid hI
    obtain ⟨i0, i1⟩ := hI
    have hb0 : (root == 0) = false := by simpa using h0
    go_enter Tryd.func15, Tryd.ntmps15
    go_wp2_with fail
    go_loopw [9, 18] (fun a i wr => ∃ (k : Nat) (q : Int), k ≤ 4 ∧ i = .int .i64 k ∧ a = .int .i64 q ∧ I64 q ∧ wayL s page (4 - k) k q = wayL s page 4 0 root ∧ Vx w0 E wr P s rt ∧ Kp E w wr) (fun a i _ => 4 - (intOf i).toNat)
    case atStart => exact ⟨0, root, by omega, rfl, rfl, HI.out, rfl, HX.out, Kp.refl _ _⟩
    case round =>
      obtain ⟨k, q, hk, rfl, rfl, hq, hw, hX, hK⟩ := hrel
      have HQ := Lib.hid hq
      have HWL := Lib.hid hw
      have HX1 := Lib.hid hX
      have HK1 := Lib.hid hK
      clear hq hw hX hK
      by_cases hlt : k < 4
      · obtain ⟨g, hg⟩ : ∃ g, 4 - k = g + 1 := ⟨3 - k, by omega⟩
        rw [hg] at HWL
        go_wp2_with fail
        refine (wtTable_any q HQ.out HX1.out (HS.out.call HX1.out.below) HN.out (fun x hx => Nat.lt_of_lt_of_le (HE.out x hx) HK1.out.1.size)).mono ?_
        rintro e w1 ⟨v, rfl, htr, hX2, hK2⟩
        have HTR := Lib.hid htr
        have HX2 := Lib.hid hX2
        have HK2 := Lib.hid (HK1.out.trans hK2)
        clear htr hX2 hK2
        go_wp2_with fail
        refine (index_any page k _ HP.out).mono ?_
        rintro e w2 ⟨⟨ha, rfl⟩ | ⟨ha, rfl⟩, hb2⟩
        · have HX3 := Lib.hid (HX2.out.call hb2)
          have HK3 := Lib.hid (HK2.out.trans (Kp.of_below hb2))
          have HA := Lib.hid ha
          rcases tbRes_call HTR.out hb2 with ⟨ht, rfl⟩ | ⟨ht, b, rfl, hBb⟩
          · have HT := Lib.hid ht
            clear hb2 HX2 HK2 HTR ha ht
            go_wp2_with fail
            go_ret3
            refine ⟨?_, HX3.out, HK3.out⟩
            rw [← HWL.out]
            simp only [wayL, HT.out]
            rfl
          · obtain ⟨ix, hix, hi5⟩ := aIdx_nat page k (by omega)
            rw [hix]
            have hx5 : w2.cell? ⟨b, ix, none⟩ = some (.int .u64 (tb s q ix)) := (hBb.cell ix).trans (rowOf_at _ _ hi5)
            have HU := Lib.hid (show U64 (tb s q ix) from tb_u64 HS.out q ix)
            have hw2 : wayL s page (g + 1) k q = if de (tb s q ix) k = 0 then
                if dk (tb s q ix) k = 1 then wayL s page g (k + 1) (df (tb s q ix) k)
                else if dk (tb s q ix) k = 2 ∧ dfl (tb s q ix) k 6 = true ∧ thr s (df (tb s q ix) k) = true then (df (tb s q ix) k, dfl (tb s q ix) k 7, true) else (0, false, false)
              else (0, false, false) := by
              simp only [wayL]
              rw [if_pos ⟨ht, ha⟩, hix, show ((ix : Nat) : Int).toNat = ix from rfl]
            rw [hw2] at HWL
            have hGw := Lib.hid (HG.out.call HX3.out.below)
            clear hb2 HX2 HK2 HTR ha ht hix hBb hw2
            generalize tb s q ix = x at *
            go_wp2_with fail
            refine (dDecode_any x k _ hGw.out HU.out).mono ?_
            rintro e w3 ⟨rfl, hb3⟩
            have HX4 := Lib.hid (HX3.out.call hb3)
            have HK4 := Lib.hid (HK3.out.trans (Kp.of_below hb3))
            have HDF := Lib.hid (df_i64 x k)
            clear hb3 hGw hx5
            by_cases e0 : de x k = 0
            · rw [if_pos e0] at HWL
              rw [e0]
              clear e0
              generalize hdk : dk x k = kd at *
              generalize hdf : df x k = fr at *
              generalize hd6 : dfl x k 6 = us at *
              generalize hd7 : dfl x k 7 = ro at *
              generalize dfl x k 10 = af at *
              generalize dfl x k 11 = ng at *
              clear hdk hdf hd6 hd7
              by_cases k1 : kd = 1
              · subst k1
                rw [if_pos rfl] at HWL
                go_wp2_with fail
                go_roundw
                case rel =>
                  refine ⟨k + 1, fr, ?_, ?_, ?_, HDF.out, ?_, HX4.out.call (ba (Below.refl _ _) _), HK4.out.trans (Kp.of_below (ba (Below.refl _ _) _))⟩
                  · omega
                  · go_num
                  · rfl
                  · rw [show 4 - (k + 1) = g by omega]; exact HWL.out
                case measure => simp [intOf]; omega
              · rw [if_neg k1] at HWL
                by_cases k2 : kd = 2
                · subst k2
                  cases us with
                  | true =>
                    obtain ⟨mm, rr, hstr⟩ := (HX4.out.call (ba (Below.refl _ _) (.cells #[.int .i8 2, .int .i64 fr, .bool af, .bool ro, .bool true, .bool ng] 96))).str
                    have HST := Lib.hid hstr
                    clear hstr
                    go_wp2_with fail
                    refine (wtThere_any fr HST.out).mono ?_
                    rintro e w4 ⟨rfl, rfl⟩
                    cases ht4 : thr s fr with
                    | true =>
                      rw [if_pos ⟨trivial, trivial, ht4⟩] at HWL
                      go_upto_region 18 with fail
                      rename_i hKJ
                      have hKJ := Lib.hid hKJ
                      go_region
                      refine hKJ.out _ _ ?_
                      clear hKJ
                      go_wp2_with fail
                      go_ret3
                      exact ⟨by rw [← HWL.out]; rfl, HX4.out.call (bd (ba (Below.refl _ _) _)), HK4.out.trans (Kp.of_below (bd (ba (Below.refl _ _) _)))⟩
                    | false =>
                      rw [if_neg (fun h => by rw [ht4] at h; cases h.2.2)] at HWL
                      go_wp2_with fail
                      go_ret3
                      exact ⟨by rw [← HWL.out]; rfl, HX4.out.call (ba (Below.refl _ _) _), HK4.out.trans (Kp.of_below (ba (Below.refl _ _) _))⟩
                  | false =>
                    rw [if_neg (fun h => by cases h.2.1)] at HWL
                    go_wp2_with fail
                    go_ret3
                    exact ⟨by rw [← HWL.out]; rfl, HX4.out.call (ba (Below.refl _ _) _), HK4.out.trans (Kp.of_below (ba (Below.refl _ _) _))⟩
                · rw [if_neg (fun h => k2 h.1)] at HWL
                  go_wp2_with fail
                  go_ret3
                  exact ⟨by rw [← HWL.out]; rfl, HX4.out.call (ba (Below.refl _ _) _), HK4.out.trans (Kp.of_below (ba (Below.refl _ _) _))⟩
            · rw [if_neg e0] at HWL
              generalize de x k = dE at *
              go_wp2_with fail
              go_ret3
              exact ⟨by rw [← HWL.out]; rfl, HX4.out.call (ba (Below.refl _ _) _), HK4.out.trans (Kp.of_below (ba (Below.refl _ _) _))⟩
        · have HX3 := Lib.hid (HX2.out.call hb2)
          have HK3 := Lib.hid (HK2.out.trans (Kp.of_below hb2))
          have HA := Lib.hid ha
          have hres : wayL s page (g + 1) k q = (0, false, false) := by
            simp only [wayL]
            rw [if_neg (fun h => by rw [ha] at h; cases h.2)]
          have HRES := Lib.hid hres
          rcases tbRes_call HTR.out hb2 with ⟨ht, rfl⟩ | ⟨ht, b, rfl, hBb⟩
          all_goals
            clear hb2 HX2 HK2 HTR ha hres
            go_wp2_with fail
            go_ret3
            refine ⟨?_, HX3.out, HK3.out⟩
            rw [← HWL.out, HRES.out]
            rfl
      · obtain rfl : k = 4 := by omega
        go_wp2_with fail
        go_ret3
        exact ⟨by rw [← HWL.out]; rfl, HX1.out, HK1.out⟩
end Go.Proofs.YtappjiljmpgjcaaDoor
