/-
  Layer 12: a walk from its root to its end.
  Layer 12: a walk from its root to its end.
-/
import Derived.Test.YtgdkkhdhomehdaaDoorMwN
import Derived.Test.YtgdkkhdhomehdaaDoorMwK
import Derived.Test.YtgdkkhdhomehdaaDoorMwL2
import Derived.Deep.DeepCutAuto
namespace Go.Proofs.YtgdkkhdhomehdaaDoor
section
open Go.RowKit Go.Maps
set_option linter.unusedVariables false
set_option linter.unusedSimpArgs false
theorem best_nil (a p : Int) : bestO [] a p = none := by
  unfold bestO
  split <;> rfl
theorem bgW_nil (root a p : Int) : bgW root a p [] = ⟨true, a, p, 0, root⟩ := bgW_none (best_nil a p)
theorem wdN_div (x : Wk) (hx : WkOk x) : ∃ f i : Nat, x.f = f ∧ aIdx x.p x.l = i ∧ wdN x / 512 = f ∧ wdN x % 512 = i ∧ i < 512 ∧ f < 64 ∧ U64 (wdN x) ∧ x.f.toNat = f ∧ (aIdx x.p x.l).toNat = i := by
  obtain ⟨h0, h1⟩ := aIdx_bound x.p x.l
  have hf0 := hx.2.2.2.1
  have hf1 := hx.2.2.2.2.1
  unfold wdN
  exact ⟨x.f.toNat, (aIdx x.p x.l).toNat, by omega, by omega, by omega, by omega, by omega, by omega, ⟨by omega, by omega⟩, rfl, rfl⟩
theorem RK.none {α : Type} {enc : α → List Value} {k : Nat} (w : World) : RK enc k w none [] := fun h => by cases h
theorem begin_nil (root asid page : Int) (w : World) :
    Calls Tryd.prog 11 #[.int .i64 root, .int .i64 asid, .int .u64 page, .slice none 0 0] w
      fun e w' => e = .returned (.tuple #[wkV (bgV root asid page []), .int .i64 (bgE root asid page [])]) ∧ Below w.heap.size w w' :=
  begin_any root asid page none 0 [] w (RK.none w) (by simp)
/-- What stands at a round's head. -/
structure AlS (w W : World) (p k : Nat) (c : Nat → Nat → Int) (F : Nat → Prop) (b : Nat) (x : Wk) : Prop where
  mem : MemS W p 16 c F k
  hF : ∀ y, F y → y < w.heap.size
  hr : Bk W w.heap.size 42 (encR zR)
  hx : Bk W b 26 #[.bool x.on, .int .i64 x.a, .int .u64 x.p, .int .i8 x.l, .int .i64 x.f]
  lt : w.heap.size < b
  hb : Below w.heap.size w W
section
variable {w W W' : World} {p k : Nat} {c : Nat → Nat → Int} {F : Nat → Prop} {b : Nat} {x : Wk}
theorem AlS.call (h : AlS w W p k c F b x) (hb : Below W.heap.size W W') : AlS w W' p k c F b x := ⟨h.mem.call hb, h.hF, h.hr.call hb, h.hx.call hb, h.lt, bthen h.hb hb⟩
theorem AlS.walk (h : AlS w W p k c F b x) (y : Wk) : AlS w (((((W.setCell ⟨b, 0, none⟩ (.bool y.on)).setCell ⟨b, 1, none⟩ (.int .i64 y.a)).setCell ⟨b, 2, none⟩ (.int .u64 y.p)).setCell ⟨b, 3, none⟩ (.int .i8 y.l)).setCell ⟨b, 4, none⟩ (.int .i64 y.f)) p k c F b y := by
  have hl := h.lt
  have hK : ∀ (u : World) (i : Nat) (v : Value), Keeps (fun z => z = b) u (u.setCell ⟨b, i, none⟩ v) := fun u i v => Keeps.setCell (F := fun z => z = b) (p := ⟨b, i, none⟩) rfl v
  have hn : ∀ z, F z → ¬ z = b := fun z hz => by have := h.hF z hz; omega
  refine ⟨((((h.mem.keep (hK _ _ _) hn).keep (hK _ _ _) hn).keep (hK _ _ _) hn).keep (hK _ _ _) hn).keep (hK _ _ _) hn, h.hF, ?_, ?_, h.lt, ?_⟩
  · exact ((((h.hr.far (p := ⟨b, 0, none⟩) (by simp; omega) _).far (p := ⟨b, 1, none⟩) (by simp; omega) _).far (p := ⟨b, 2, none⟩) (by simp; omega) _).far (p := ⟨b, 3, none⟩) (by simp; omega) _).far (p := ⟨b, 4, none⟩) (by simp; omega) _
  · exact ((((h.hx.set 0 _).set 1 _).set 2 _).set 3 _).set 4 _
  · exact bs (bs (bs (bs (bs h.hb (p := ⟨b, 0, none⟩) (by simp; omega) _) (p := ⟨b, 1, none⟩) (by simp; omega) _) (p := ⟨b, 2, none⟩) (by simp; omega) _) (p := ⟨b, 3, none⟩) (by simp; omega) _) (p := ⟨b, 4, none⟩) (by simp; omega) _
end
def allV (r : Rd × Int × Int) : Value := .tuple #[rdV r.1, .int .i64 r.2.1, .int .i64 r.2.2]
theorem all_no {n : Nat} {c : Nat → Nat → Int} {root a p : Int} (h : ¬ BgOk root a p []) : allR n c root a p = (zR, 0, 2) := by unfold allR; rw [if_neg h]
theorem all_none {n : Nat} {c : Nat → Nat → Int} {root a p : Int} (h : BgOk root a p []) (hf : fin n c 4 ⟨true, a, p, 0, root⟩ = none) : allR n c root a p = (zR, 0, 80) := by unfold allR; rw [if_pos h, hf]
theorem all_some {n : Nat} {c : Nat → Nat → Int} {root a p : Int} {r : Rd} {m : Int} (h : BgOk root a p []) (hf : fin n c 4 ⟨true, a, p, 0, root⟩ = some (r, m)) : allR n c root a p = (r, m, 0) := by unfold allR; rw [if_pos h, hf]
theorem ret_all {a b : Rd × Int × Int} (h : a = b) : Ending.returned (allV a) = .returned (allV b) := by rw [h]
/-- A round's head. -/
def AlRel (w : World) (p k : Nat) (c : Nat → Nat → Int) (F : Nat → Prop) (b : Nat) (x0 : Wk) (words : Value) (W : World) : Prop :=
  ∃ (j : Nat) (x : Wk), words = .int .i64 j ∧ j ≤ 3 ∧ WkOk x ∧ x.l = j ∧ fin 16 c 4 x0 = fin 16 c (4 - j) x ∧ x.p = x0.p ∧ AlS w W p k c F b x
set_option maxRecDepth 100000 in
set_option maxHeartbeats 8000000 in
theorem wall_in (p k : Nat) (root asid page : Int) (c : Nat → Nat → Int) (F : Nat → Prop) (w : World) (hM : MemS w p 16 c F k) (hc : ∀ f i, U64 (c f i)) (hG : G w) (hp : U64 page) (hok : BgOk root asid page []) :
    Calls Tryd.prog 20 #[.pointer (some ⟨p, 0, none⟩), .int .i64 root, .int .i64 asid, .int .u64 page] w fun e w' => e = .returned (allV (allR 16 c root asid page)) ∧ Below w.heap.size w w' := by
  have HOK := Lib.hid hok
  have HC := Lib.hid hc
  have HG := Lib.hid hG
  have HP := Lib.hid hp
  have HB := Lib.hid (ba (Below.refl w.heap.size w) (.cells (encR zR) 42))
  have HR := Lib.hid (Bk.new w 42 (encR zR))
  have HF := Lib.hid hM.all
  have HM := Lib.hid hM
  have HV := Lib.hid (show bgV root asid page [] = ⟨true, asid, page, 0, root⟩ ∧ bgE root asid page [] = 0 from by
    rcases bg_cases root asid page [] with ⟨-, h1, h2⟩ | ⟨h, -⟩
    · rw [h1, bgW_nil]; exact ⟨rfl, h2⟩
    · exact absurd hok h)
  clear hok hc hG hp hM
  go_enter Tryd.func20, Tryd.ntmps20
  go_wp2_with fail
  go_step3
  go_wp2_with fail
  refine (begin_nil root asid page _).mono ?_
  rintro e w1 ⟨rfl, hb⟩
  rw [HV.out.1, HV.out.2]
  simp only [wkV]
  have HR1 := Lib.hid (HR.out.call hb)
  have HB1 := Lib.hid (bthen HB.out hb)
  have HM1 := Lib.hid ((HM.out.alloc (.cells (encR zR) 42)).call hb)
  have HL := Lib.hid (show w.heap.size < w1.heap.size from (HR.out.call hb).lt)
  clear hb HR HB HM HV
  have HS := Lib.hid (show AlS w (w1.alloc (.cells #[.bool true, .int .i64 asid, .int .u64 page, .int .i8 0, .int .i64 root] 26)) p k c F w1.heap.size ⟨true, asid, page, 0, root⟩ from
    ⟨HM1.out.alloc _, HF.out, HR1.out.call (ba (Below.refl _ _) _), Bk.new _ _ _, HL.out, ba HB1.out _⟩)
  clear HR1 HB1 HM1 HL
  go_wp2_with fail
  generalize w1.heap.size = b at *
  generalize w1.alloc (.cells #[.bool true, .int .i64 asid, .int .u64 page, .int .i8 0, .int .i64 root] 26) = W0 at *
  go_step3
  go_wp2_with fail
  go_loopw [13] (fun words wr => AlRel w p k c F b ⟨true, asid, page, 0, root⟩ words wr) (fun words _ => 4 - (intOf words).toNat)
  case atStart => exact ⟨0, ⟨true, asid, page, 0, root⟩, rfl, by omega, HOK.out.2.1, rfl, rfl, rfl, HS.out⟩
  case round =>
    obtain ⟨j, x, rfl, hj, hx, hl, hfin, hxp, hS⟩ := hrel
    obtain ⟨f, i, e1, e2, e3, e4, e5, e6, e7, e8, e9⟩ := wdN_div x hx
    have hstep := fin_step 16 c (4 - j) x hx (by omega)
    rw [e8, e9] at hstep
    have HX := Lib.hid hx
    have HXP := Lib.hid hxp
    have HLJ := Lib.hid hl
    have HFIN := Lib.hid (hfin.trans hstep)
    have HE1 := Lib.hid e1
    have HE3 := Lib.hid e3
    have HE4 := Lib.hid e4
    have HE7 := Lib.hid e7
    clear hx hl hfin hstep hxp e1 e2 e3 e4 e7 e8 e9
    have x0 := hS.hx.cell 0
    have x1 := hS.hx.cell 1
    have x2 := hS.hx.cell 2
    have x3 := hS.hx.cell 3
    have x4 := hS.hx.cell 4
    simp only [List.getElem?_toArray, List.getElem?_cons_zero, List.getElem?_cons_succ] at x0 x1 x2 x3 x4
    have HS2 := Lib.hid hS
    clear hS HS
    go_wp2_with fail
    refine (wword_yes x _ HX.out (by rw [HXP.out]; exact HP.out)).mono ?_
    rintro e w2 ⟨rfl, hb⟩
    have HS3 := Lib.hid (HS2.out.call hb)
    clear hb HS2 x0 x1 x2 x3 x4
    by_cases hf : f < 16
    · go_wp2_with fail
      refine (read_yes p 16 k f i (wdN x) c F _ HS3.out.mem (by omega) HE7.out HE3.out HE4.out hf).mono ?_
      rintro e w3 ⟨rfl, rfl⟩
      have x0 := HS3.out.hx.cell 0
      have x1 := HS3.out.hx.cell 1
      have x2 := HS3.out.hx.cell 2
      have x3 := HS3.out.hx.cell 3
      have x4 := HS3.out.hx.cell 4
      simp only [List.getElem?_toArray, List.getElem?_cons_zero, List.getElem?_cons_succ] at x0 x1 x2 x3 x4
      go_wp2_with fail
      refine (next_ok x (c f i) _ (HG.out.call HS3.out.hb) (HC.out f i) HX.out).mono ?_
      rintro e w4 ⟨rfl, hb⟩
      have HS4 := Lib.hid (HS3.out.call hb)
      clear hb HS3 x0 x1 x2 x3 x4
      have hfin := HFIN.out
      rw [if_neg (by rw [HE1.out]; omega)] at hfin
      have hro := rd_on x (c f i) HX.out
      have HO := Lib.hid hro
      have HFIN2 := Lib.hid hfin
      clear hfin hro HFIN
      generalize hq : rd x (c f i) = r at *
      have HQ := Lib.hid hq
      clear hq
      simp only [rdV]
      have HN := Lib.hid (Bk.new w4 42 (encR zR))
      go_upto_region 13 with (refine put_read rfl _ _ rfl w4.heap.size r _ rfl rfl HN.out rfl ?_)
      have hS5 := HS4.out.call (brow (ba (Below.refl w4.heap.size w4) (.cells (encR zR) 42)) (Nat.le_refl _) (encR r))
      have hN5 := HN.out.row (encR r)
      have hne : b < w4.heap.size := HS4.out.hx.lt
      refine (show ∀ W : World, AlS w W p k c F b x → Bk W w4.heap.size 42 (encR r) → Code.wp _ _ _ _ W from fun W hS hN => ?_) _ hS5 hN5
      clear hS5 hN5 HN HS4
      have n1 : b ≠ w4.heap.size := by omega
      have n2 : w4.heap.size ≠ b := by omega
      have n3 := hN.lt
      have t0 : W.cell? ⟨w4.heap.size, 0, none⟩ = some (.bool r.k.on) := hN.cell 0
      rcases HO.out with ⟨o1, o2, o3, o4⟩ | ⟨o1, o2⟩
      · rw [o1] at t0
        have hfin := HFIN2.out
        rw [if_pos o1] at hfin
        have HFIN3 := Lib.hid hfin
        have HO1 := Lib.hid o1
        have HO3 := Lib.hid o3
        have HO4 := Lib.hid o4
        have t1 : W.cell? ⟨w4.heap.size, 1, none⟩ = some (.int .i64 r.k.a) := hN.cell 1
        have t2 : W.cell? ⟨w4.heap.size, 2, none⟩ = some (.int .u64 r.k.p) := hN.cell 2
        have t3 : W.cell? ⟨w4.heap.size, 3, none⟩ = some (.int .i8 r.k.l) := hN.cell 3
        have t4 : W.cell? ⟨w4.heap.size, 4, none⟩ = some (.int .i64 r.k.f) := hN.cell 4
        have y0 := hS.hx.cell 0
        have y1 := hS.hx.cell 1
        have y2 := hS.hx.cell 2
        have y3 := hS.hx.cell 3
        have y4 := hS.hx.cell 4
        simp only [List.getElem?_toArray, List.getElem?_cons_zero, List.getElem?_cons_succ] at y0 y1 y2 y3 y4
        have z0 := hS.hx.frozen 0
        have z1 := hS.hx.frozen 1
        have z2 := hS.hx.frozen 2
        have z3 := hS.hx.frozen 3
        have z4 := hS.hx.frozen 4
        have hSw := hS.walk r.k
        rw [o1] at hSw
        have HSW := Lib.hid hSw
        clear hS hN o1 o2 o3 o4 hfin HFIN2 HO hSw
        go_wp2_with fail
        go_roundw
        case rel =>
          refine ⟨j + 1, r.k, by go_num, by have := HO4.out; have := HLJ.out; omega, ?_, ?_, ?_, ?_, HSW.out⟩
          · rw [HO3.out]; exact rdT_ok x _ HX.out HO4.out
          · rw [HO3.out]; show x.l + 1 = _; have := HLJ.out; omega
          · rw [HFIN3.out]; rfl
          · rw [HO3.out]; exact HXP.out
        case measure => simp [intOf]; omega
      · rw [o1] at t0
        have hfin := HFIN2.out
        rw [if_neg (by rw [o1]; exact Bool.noConfusion)] at hfin
        have HA := Lib.hid (all_some HOK.out hfin)
        have HS := Lib.hid hS
        have HN := Lib.hid hN
        clear hS hN o1 o2 hfin HFIN2 HO n1 n2
        go_wp2_with (first | (refine get_read rfl _ rfl w4.heap.size _ rfl HN.out rfl ?_) | (refine put_read rfl _ _ rfl w.heap.size r _ rfl rfl HS.out.hr rfl ?_))
        rw [Exit.noGoto_ret]
        refine bodyPost_ret (res_read3 rfl _ _ _ _ _ _ rfl rfl rfl (HS.out.hr.row _) rfl) rfl ⟨by rw [HA.out, HLJ.out]; rfl, ?_⟩
        exact brow HS.out.hb (by omega) _
    · go_wp2_with fail
      refine (read_no p 16 k (wdN x) c F _ HS3.out.mem (by omega) HE7.out (by rw [HE3.out]; omega)).mono ?_
      rintro e w3 ⟨rfl, rfl⟩
      have hfin := HFIN.out
      rw [if_pos (by rw [HE1.out]; omega)] at hfin
      have HA := Lib.hid (all_none HOK.out hfin)
      clear hfin HFIN
      go_wp2_with (refine put_read rfl _ _ rfl w.heap.size zR _ rfl rfl HS3.out.hr rfl ?_)
      rw [Exit.noGoto_ret]
      refine bodyPost_ret (res_read3 rfl _ _ _ _ _ _ rfl rfl rfl (HS3.out.hr.row _) rfl) rfl ⟨by rw [HA.out]; rfl, ?_⟩
      exact brow HS3.out.hb (by omega) _
end
section
open Go.RowKit Go.Maps
set_option linter.unusedVariables false
set_option linter.unusedSimpArgs false
set_option maxRecDepth 100000 in
set_option maxHeartbeats 8000000 in
theorem wall_no (P : Option Addr) (root asid page : Int) (n : Nat) (c : Nat → Nat → Int) (w : World) (hok : ¬ BgOk root asid page []) :
    Calls Tryd.prog 20 #[.pointer P, .int .i64 root, .int .i64 asid, .int .u64 page] w fun e w' => e = .returned (allV (allR n c root asid page)) ∧ Below w.heap.size w w' := by
  have HA := Lib.hid (all_no (n := n) (c := c) hok)
  have HB := Lib.hid (ba (Below.refl w.heap.size w) (.cells (encR zR) 42))
  have HR := Lib.hid (Bk.new w 42 (encR zR))
  have HV := Lib.hid (show bgV root asid page [] = zW ∧ bgE root asid page [] = 2 from by
    rcases bg_cases root asid page [] with ⟨h, -⟩ | ⟨-, h⟩
    · exact absurd h hok
    · exact h)
  clear hok
  go_enter Tryd.func20, Tryd.ntmps20
  go_wp2_with fail
  go_step3
  go_wp2_with fail
  refine (begin_nil root asid page _).mono ?_
  rintro e w1 ⟨rfl, hb⟩
  rw [HV.out.1, HV.out.2]
  simp only [wkV, zW]
  have HR1 := Lib.hid ((HR.out.call hb).call (ba (Below.refl _ _) (.cells #[.bool false, .int .i64 0, .int .u64 0, .int .i8 0, .int .i64 0] 26)))
  have HB1 := Lib.hid (ba (bthen HB.out hb) (.cells #[.bool false, .int .i64 0, .int .u64 0, .int .i8 0, .int .i64 0] 26))
  clear hb HR HB HV
  go_wp2_with (refine put_read rfl _ _ rfl w.heap.size zR _ rfl rfl HR1.out rfl ?_)
  rw [Exit.noGoto_ret]
  refine bodyPost_ret (res_read3 rfl _ _ _ _ _ _ rfl rfl rfl (HR1.out.row _) rfl) rfl ⟨by rw [HA.out]; rfl, ?_⟩
  exact brow HB1.out (by omega) _
set_option maxRecDepth 100000 in
set_option maxHeartbeats 8000000 in
/-- All of no memory. -/
theorem wall_nil (root asid page : Int) (w : World) (hp : U64 page) (hok : BgOk root asid page []) :
    Calls Tryd.prog 20 #[.pointer none, .int .i64 root, .int .i64 asid, .int .u64 page] w fun e w' => e = .returned (allV (zR, 0, 80)) ∧ Below w.heap.size w w' := by
  have HP := Lib.hid hp
  have HX := Lib.hid hok.2.1
  have HB := Lib.hid (ba (Below.refl w.heap.size w) (.cells (encR zR) 42))
  have HR := Lib.hid (Bk.new w 42 (encR zR))
  have HV := Lib.hid (show bgV root asid page [] = ⟨true, asid, page, 0, root⟩ ∧ bgE root asid page [] = 0 from by
    rcases bg_cases root asid page [] with ⟨-, h1, h2⟩ | ⟨h, -⟩
    · rw [h1, bgW_nil]; exact ⟨rfl, h2⟩
    · exact absurd hok h)
  clear hok hp
  go_enter Tryd.func20, Tryd.ntmps20
  go_wp2_with fail
  go_step3
  go_wp2_with fail
  refine (begin_nil root asid page _).mono ?_
  rintro e w1 ⟨rfl, hb⟩
  rw [HV.out.1, HV.out.2]
  simp only [wkV]
  have HR1 := Lib.hid ((HR.out.call hb).call (ba (Below.refl _ _) (.cells #[.bool true, .int .i64 asid, .int .u64 page, .int .i8 0, .int .i64 root] 26)))
  have HB1 := Lib.hid (ba (bthen HB.out hb) (.cells #[.bool true, .int .i64 asid, .int .u64 page, .int .i8 0, .int .i64 root] 26))
  clear hb HR HB HV
  go_wp2_with fail
  go_step3
  go_wp2_with fail
  refine wp_loop_rounds 1 ?_
  rw [rounds_succ]
  go_wp2_with fail
  refine (wword_yes ⟨true, asid, page, 0, root⟩ _ HX.out HP.out).mono ?_
  rintro e w2 ⟨rfl, hb⟩
  have HR2 := Lib.hid (HR1.out.call hb)
  have HB2 := Lib.hid (bthen HB1.out hb)
  clear hb HR1 HB1
  go_wp2_with fail
  refine (read_nil _ _).mono ?_
  rintro e w3 ⟨rfl, rfl⟩
  go_wp2_with (refine put_read rfl _ _ rfl w.heap.size zR _ rfl rfl HR2.out rfl ?_)
  rw [Exit.noGoto_ret]
  refine bodyPost_ret (res_read3 rfl _ _ _ _ _ _ rfl rfl rfl (HR2.out.row _) rfl) rfl ⟨rfl, ?_⟩
  exact brow HB2.out (by omega) _
theorem wall_any (p k : Nat) (root asid page : Int) (c : Nat → Nat → Int) (F : Nat → Prop) (w : World) (hM : MemS w p 16 c F k) (hc : ∀ f i, U64 (c f i)) (hG : G w) (hp : U64 page) :
    Calls Tryd.prog 20 #[.pointer (some ⟨p, 0, none⟩), .int .i64 root, .int .i64 asid, .int .u64 page] w fun e w' => e = .returned (allV (allR 16 c root asid page)) ∧ Below w.heap.size w w' := by
  by_cases h : BgOk root asid page []
  · exact wall_in p k root asid page c F w hM hc hG hp h
  · exact wall_no _ root asid page 16 c w h
end
end Go.Proofs.YtgdkkhdhomehdaaDoor
