/-
  Layer 12: a walk from its root to its end.
  The law WalkAll: the walk.
-/
import Derived.Test.YtgdkkhdhomehdaaDoorMwO
import Derived.Test.YtgdkkhdhomehdaaDoorMwS
import Derived.Test.YtgdkkhdhomehdaaDoorMwR
import Derived.Test.YtgdkkhdhomehdaaDoorMwT
import Derived.Test.YtgdkkhdhomehdaaDoorMwV
import Derived.Deep.DeepCutAuto
namespace Go.Proofs.YtgdkkhdhomehdaaDoor
section
open Go.RowKit Go.Maps
set_option linter.unusedVariables false
set_option linter.unusedSimpArgs false
theorem rbegin_nil (root asid page : Int) (w : World) :
    Calls Tryd.prog 12 #[.int .i64 root, .int .i64 asid, .int .u64 page, .slice none 0 0] w
      fun e w' => e = .returned (.tuple #[wkV (bgV root asid page []), .int .i64 (bgE root asid page [])]) ∧ Below w.heap.size w w' :=
  rbegin_any root asid page none 0 [] w (RK.none w) (by simp) (by unfold maxLen; omega)
theorem rwword_yes' (x : Wk) (w : World) (hx : WkOk x) (hp : U64 x.p) (ho : x.on = true) : Calls Tryd.prog 14 #[.agg #[.bool true, .int .i64 x.a, .int .u64 x.p, .int .i8 x.l, .int .i64 x.f]] w fun e w' => e = .returned (.tuple #[.int .u64 (wdN x), .int .i64 0]) ∧ Below w.heap.size w w' := by
  have h := rwword_yes x w hx hp
  rw [ho] at h
  exact h
/-- What stands at a round's head of the document's All. -/
structure RlS (w W : World) (q : Nat) (c : Nat → Nat → Int) (F : Nat → Prop) (b g : Nat) (x : Wk) (r : Rd) : Prop where
  mem : RefS W q 16 c F
  hF : ∀ y, F y → y < w.heap.size
  hr : Bk W w.heap.size 42 (encR zR)
  hx : Bk W b 26 #[.bool x.on, .int .i64 x.a, .int .u64 x.p, .int .i8 x.l, .int .i64 x.f]
  ht : Bk W g 42 (encR r)
  lt : w.heap.size < b
  lt2 : b < g
  hb : Below w.heap.size w W
section
variable {w W W' : World} {q : Nat} {c : Nat → Nat → Int} {F : Nat → Prop} {b g : Nat} {x : Wk} {r : Rd}
theorem RlS.call (h : RlS w W q c F b g x r) (hb : Below W.heap.size W W') : RlS w W' q c F b g x r := ⟨h.mem.call hb, h.hF, h.hr.call hb, h.hx.call hb, h.ht.call hb, h.lt, h.lt2, bthen h.hb hb⟩
theorem RlS.walk (h : RlS w W q c F b g x r) (y : Wk) : RlS w (((((W.setCell ⟨b, 0, none⟩ (.bool y.on)).setCell ⟨b, 1, none⟩ (.int .i64 y.a)).setCell ⟨b, 2, none⟩ (.int .u64 y.p)).setCell ⟨b, 3, none⟩ (.int .i8 y.l)).setCell ⟨b, 4, none⟩ (.int .i64 y.f)) q c F b g y r := by
  have hl := h.lt
  have hl2 := h.lt2
  have hK : ∀ (u : World) (i : Nat) (v : Value), Keeps (fun z => z = b) u (u.setCell ⟨b, i, none⟩ v) := fun u i v => Keeps.setCell (F := fun z => z = b) (p := ⟨b, i, none⟩) rfl v
  have hn : ∀ z, F z → ¬ z = b := fun z hz => by have := h.hF z hz; omega
  refine ⟨((((h.mem.keep (hK _ _ _) hn).keep (hK _ _ _) hn).keep (hK _ _ _) hn).keep (hK _ _ _) hn).keep (hK _ _ _) hn, h.hF, ?_, ?_, ?_, h.lt, h.lt2, ?_⟩
  · exact ((((h.hr.far (p := ⟨b, 0, none⟩) (by simp; omega) _).far (p := ⟨b, 1, none⟩) (by simp; omega) _).far (p := ⟨b, 2, none⟩) (by simp; omega) _).far (p := ⟨b, 3, none⟩) (by simp; omega) _).far (p := ⟨b, 4, none⟩) (by simp; omega) _
  · exact ((((h.hx.set 0 _).set 1 _).set 2 _).set 3 _).set 4 _
  · exact ((((h.ht.far (p := ⟨b, 0, none⟩) (by simp; omega) _).far (p := ⟨b, 1, none⟩) (by simp; omega) _).far (p := ⟨b, 2, none⟩) (by simp; omega) _).far (p := ⟨b, 3, none⟩) (by simp; omega) _).far (p := ⟨b, 4, none⟩) (by simp; omega) _
  · exact bs (bs (bs (bs (bs h.hb (p := ⟨b, 0, none⟩) (by simp; omega) _) (p := ⟨b, 1, none⟩) (by simp; omega) _) (p := ⟨b, 2, none⟩) (by simp; omega) _) (p := ⟨b, 3, none⟩) (by simp; omega) _) (p := ⟨b, 4, none⟩) (by simp; omega) _
theorem RlS.read (h : RlS w W q c F b g x r) (r' : Rd) : RlS w (W.setRow g (encR r')) q c F b g x r' := by
  have hl := h.lt
  have hl2 := h.lt2
  refine ⟨h.mem.keep (G := fun z => z = g) ?_ (fun z hz => by have := h.hF z hz; omega), h.hF, h.hr.farRow (by omega) _, h.hx.farRow (by omega) _, h.ht.row _, h.lt, h.lt2, brow h.hb (by omega) _⟩
  exact ⟨rfl, rfl, rfl, by simp, fun y hy hn => setRow_other W g y (encR r') hn⟩
end
/-- A round's head. -/
def RlRel (w : World) (q : Nat) (c : Nat → Nat → Int) (F : Nat → Prop) (b g : Nat) (x0 : Wk) (words : Value) (W : World) : Prop :=
  ∃ (j : Nat) (x : Wk) (r : Rd), words = .int .i64 j ∧ j ≤ 4 ∧ ((j ≤ 3 ∧ WkOk x ∧ x.l = j ∧ fin 16 c 4 x0 = fin 16 c (4 - j) x ∧ x.p = x0.p) ∨ (x.on = false ∧ fin 16 c 4 x0 = some (r, (j : Int)))) ∧ RlS w W q c F b g x r
set_option maxRecDepth 100000 in
set_option maxHeartbeats 8000000 in
theorem rall_in (q : Nat) (root asid page : Int) (c : Nat → Nat → Int) (F : Nat → Prop) (w : World) (hM : RefS w q 16 c F) (hc : ∀ f i, U64 (c f i)) (hp : U64 page) (hok : BgOk root asid page []) :
    Calls Tryd.prog 21 #[.pointer (some ⟨q, 0, none⟩), .int .i64 root, .int .i64 asid, .int .u64 page] w fun e w' => e = .returned (allV (allR 16 c root asid page)) ∧ Below w.heap.size w w' := by
  have HOK := Lib.hid hok
  have HC := Lib.hid hc
  have HP := Lib.hid hp
  have HB := Lib.hid (ba (Below.refl w.heap.size w) (.cells (encR zR) 42))
  have HR := Lib.hid (Bk.new w 42 (encR zR))
  have HF := Lib.hid hM.all
  have HM := Lib.hid (hM.call HB.out)
  have HV := Lib.hid (show bgV root asid page [] = ⟨true, asid, page, 0, root⟩ ∧ bgE root asid page [] = 0 from by
    rcases bg_cases root asid page [] with ⟨-, h1, h2⟩ | ⟨h, -⟩
    · rw [h1, bgW_nil]; exact ⟨rfl, h2⟩
    · exact absurd hok h)
  clear hok hc hp hM
  go_enter Tryd.func21, Tryd.ntmps21
  go_wp2_with fail
  refine (rbegin_nil root asid page _).mono ?_
  rintro e w1 ⟨rfl, hb⟩
  rw [HV.out.1, HV.out.2]
  simp only [wkV]
  have HR1 := Lib.hid ((HR.out.call hb).call (ba (Below.refl _ _) (.cells #[.bool true, .int .i64 asid, .int .u64 page, .int .i8 0, .int .i64 root] 26)))
  have HB1 := Lib.hid (ba (bthen HB.out hb) (.cells #[.bool true, .int .i64 asid, .int .u64 page, .int .i8 0, .int .i64 root] 26))
  have HM1 := Lib.hid ((HM.out.call hb).call (ba (Below.refl _ _) (.cells #[.bool true, .int .i64 asid, .int .u64 page, .int .i8 0, .int .i64 root] 26)))
  have HL := Lib.hid (show w.heap.size < w1.heap.size from (HR.out.call hb).lt)
  have HX1 := Lib.hid (Bk.new w1 26 #[.bool true, .int .i64 asid, .int .u64 page, .int .i8 0, .int .i64 root])
  clear hb HR HB HM HV
  go_upto_region 4 with fail
  refine (show ∀ (W1 : World) (b : Nat), w.heap.size < b → Bk W1 b 26 #[.bool true, .int .i64 asid, .int .u64 page, .int .i8 0, .int .i64 root] → Bk W1 w.heap.size 42 (encR zR) → Below w.heap.size w W1 → RefS W1 q 16 c F → Code.wp _ _ _ ⟨#[_, _, _, _, _, _, _, _, _, _, _, .pointer (some ⟨b, 0, none⟩), _, _, _, _, _, _, _, _, _, _, _, _, _, _, _, _, _, _, _, _, _, _, _, _, _, _, _, _, _, _, _, _, _, _, _, _, _, _, _, _, _, _, _, _, _, _, _, _], _⟩ W1 from fun W1 b hl hX hR hB hM => ?_) _ _ HL.out HX1.out HR1.out HB1.out HM1.out
  clear HL HX1 HR1 HB1 HM1
  have hK4 := Bk.new W1 42 (encR zR)
  have HN := Lib.hid hK4
  have HS := Lib.hid (show RlS w ((W1.alloc (.cells (encR zR) 42)).setRow W1.heap.size (encR zR)) q c F b W1.heap.size ⟨true, asid, page, 0, root⟩ zR from
    RlS.read (r := zR) ⟨hM.call (ba (Below.refl _ _) _), HF.out, hR.call (ba (Below.refl _ _) _), hX.call (ba (Below.refl _ _) _), hK4, hl, hX.lt, ba hB _⟩ zR)
  clear hl hX hR hB hM hK4
  go_upto_region 5 with (refine put_read rfl _ _ rfl W1.heap.size zR _ rfl rfl HN.out rfl ?_)
  refine (show ∀ (W : World) (g : Nat), RlS w W q c F b g ⟨true, asid, page, 0, root⟩ zR → Code.wp _ _ _ ⟨#[_, _, _, _, _, _, _, _, _, _, _, _, _, .pointer (some ⟨g, 0, none⟩), _, _, _, _, _, _, _, _, _, _, _, _, _, _, _, _, _, _, _, _, _, _, _, _, _, _, _, _, _, _, _, _, _, _, _, _, _, _, _, _, _, _, _, _, _, _], _⟩ W from fun W g hS => ?_) _ _ HS.out
  clear HS HN
  have HS := Lib.hid hS
  clear hS
  go_wp2_with fail
  go_loopw [14] (fun words wr => RlRel w q c F b g ⟨true, asid, page, 0, root⟩ words wr) (fun words _ => 5 - (intOf words).toNat)
  case atStart => exact ⟨0, ⟨true, asid, page, 0, root⟩, zR, rfl, by omega, .inl ⟨by omega, HOK.out.2.1, rfl, rfl, rfl⟩, HS.out⟩
  case round =>
    obtain ⟨j, x, r0, rfl, hj4, hcase, hS⟩ := hrel
    clear HS
    have x0 := hS.hx.cell 0
    simp only [List.getElem?_toArray, List.getElem?_cons_zero] at x0
    rcases hcase with ⟨hj, hx, hl, hfin, hxp⟩ | ⟨hon, hfin⟩
    · obtain ⟨f, i, e1, e2, e3, e4, e5, e6, e7, e8, e9⟩ := wdN_div x hx
      have hstep := fin_step 16 c (4 - j) x hx (by omega)
      rw [e8, e9] at hstep
      have HX := Lib.hid hx
      have HXP := Lib.hid hxp
      have HLJ := Lib.hid hl
      have HFIN := Lib.hid (hfin.trans hstep)
      have HE1 := Lib.hid e1
      have HE3 := Lib.hid e3
      have HE4 := Lib.hid e4
      have HE7 := Lib.hid e7
      rw [hx.1] at x0
      have HON := Lib.hid hx.1
      clear hx hl hfin hstep hxp e1 e2 e3 e4 e7 e8 e9
      have x1 := hS.hx.cell 1
      have x2 := hS.hx.cell 2
      have x3 := hS.hx.cell 3
      have x4 := hS.hx.cell 4
      simp only [List.getElem?_toArray, List.getElem?_cons_zero, List.getElem?_cons_succ] at x1 x2 x3 x4
      have HS2 := Lib.hid hS
      clear hS
      go_wp2_with fail
      refine (rwword_yes' x _ HX.out (by rw [HXP.out]; exact HP.out) HON.out).mono ?_
      rintro e w2 ⟨rfl, hb⟩
      have HS3 := Lib.hid (HS2.out.call hb)
      clear hb HS2 x0 x1 x2 x3 x4
      by_cases hf : f < 16
      · go_wp2_with fail
        refine (rread_yes q 16 f i (wdN x) c F _ HS3.out.mem (by omega) HE7.out HE3.out HE4.out hf).mono ?_
        rintro e w3 ⟨rfl, rfl⟩
        have x0 := HS3.out.hx.cell 0
        have x1 := HS3.out.hx.cell 1
        have x2 := HS3.out.hx.cell 2
        have x3 := HS3.out.hx.cell 3
        have x4 := HS3.out.hx.cell 4
        simp only [List.getElem?_toArray, List.getElem?_cons_zero, List.getElem?_cons_succ] at x0 x1 x2 x3 x4
        go_wp2_with fail
        refine (rnext_ok x (c f i) _ (HC.out f i) HX.out).mono ?_
        rintro e w4 ⟨rfl, hb⟩
        have HS4 := Lib.hid (HS3.out.call hb)
        clear hb HS3 x0 x1 x2 x3 x4
        have hfin := HFIN.out
        rw [if_neg (by rw [HE1.out]; omega)] at hfin
        have hro := rd_on x (c f i) HX.out
        have HO := Lib.hid hro
        have HFIN2 := Lib.hid hfin
        clear hfin hro HFIN
        generalize hq : rd x (c f i) = r at *
        have HQ := Lib.hid hq
        clear hq
        simp only [rdV]
        go_upto_region 12 with (refine put_read rfl _ _ rfl g r _ rfl rfl HS4.out.ht rfl ?_)
        refine (show ∀ W : World, RlS w W q c F b g x r → Code.wp _ _ _ _ W from fun W hS => ?_) _ (HS4.out.read r)
        clear HS4
        have n1 : b ≠ g := by have := hS.lt2; omega
        have n2 : g ≠ b := by omega
        have t0 : W.cell? ⟨g, 0, none⟩ = some (.bool r.k.on) := hS.ht.cell 0
        have t1 : W.cell? ⟨g, 1, none⟩ = some (.int .i64 r.k.a) := hS.ht.cell 1
        have t2 : W.cell? ⟨g, 2, none⟩ = some (.int .u64 r.k.p) := hS.ht.cell 2
        have t3 : W.cell? ⟨g, 3, none⟩ = some (.int .i8 r.k.l) := hS.ht.cell 3
        have t4 : W.cell? ⟨g, 4, none⟩ = some (.int .i64 r.k.f) := hS.ht.cell 4
        have y0 := hS.hx.cell 0
        have y1 := hS.hx.cell 1
        have y2 := hS.hx.cell 2
        have y3 := hS.hx.cell 3
        have y4 := hS.hx.cell 4
        simp only [List.getElem?_toArray, List.getElem?_cons_zero, List.getElem?_cons_succ] at y0 y1 y2 y3 y4
        have z0 := hS.hx.frozen 0
        have z1 := hS.hx.frozen 1
        have z2 := hS.hx.frozen 2
        have z3 := hS.hx.frozen 3
        have z4 := hS.hx.frozen 4
        have HSW := Lib.hid (hS.walk r.k)
        clear hS
        go_wp2_with fail
        go_roundw
        case rel =>
          refine ⟨j + 1, r.k, r, by go_num, by omega, ?_, HSW.out⟩
          rcases HO.out with ⟨o1, o2, o3, o4⟩ | ⟨o1, o2⟩
          · have hfin := HFIN2.out
            rw [if_pos o1] at hfin
            refine .inl ⟨by have := HLJ.out; omega, by rw [o3]; exact rdT_ok x _ HX.out o4, by rw [o3]; show x.l + 1 = _; have := HLJ.out; omega, by rw [hfin]; rfl, by rw [o3]; exact HXP.out⟩
          · have hfin := HFIN2.out
            rw [if_neg (by rw [o1]; exact Bool.noConfusion)] at hfin
            exact .inr ⟨o1, by rw [hfin, HLJ.out]; rfl⟩
        case measure => simp [intOf]; omega
      · go_wp2_with fail
        refine (rread_no q 16 (wdN x) c F _ HS3.out.mem (by omega) HE7.out (by rw [HE3.out]; omega)).mono ?_
        rintro e w3 ⟨rfl, rfl⟩
        have hfin := HFIN.out
        rw [if_pos (by rw [HE1.out]; omega)] at hfin
        have HA := Lib.hid (all_none HOK.out hfin)
        clear hfin HFIN
        go_wp2_with (refine put_read rfl _ _ rfl w.heap.size zR _ rfl rfl HS3.out.hr rfl ?_)
        refine bodyPost_ret (res_read3 rfl _ _ _ _ _ _ rfl rfl rfl (HS3.out.hr.row _) rfl) rfl ⟨by rw [HA.out]; rfl, ?_⟩
        exact brow HS3.out.hb (by omega) _
    · rw [hon] at x0
      have HA := Lib.hid (all_some HOK.out hfin)
      have HS := Lib.hid hS
      clear hS hon hfin
      go_wp2_with (first | (refine get_read rfl _ rfl g _ rfl HS.out.ht rfl ?_) | (refine put_read rfl _ _ rfl w.heap.size r0 _ rfl rfl HS.out.hr rfl ?_))
      refine bodyPost_ret (res_read3 rfl _ _ _ _ _ _ rfl rfl rfl (HS.out.hr.row _) rfl) rfl ⟨by rw [HA.out]; rfl, ?_⟩
      exact brow HS.out.hb (by omega) _
set_option maxRecDepth 100000 in
set_option maxHeartbeats 8000000 in
theorem rall_no (P : Option Addr) (root asid page : Int) (n : Nat) (c : Nat → Nat → Int) (w : World) (hok : ¬ BgOk root asid page []) :
    Calls Tryd.prog 21 #[.pointer P, .int .i64 root, .int .i64 asid, .int .u64 page] w fun e w' => e = .returned (allV (allR n c root asid page)) ∧ Below w.heap.size w w' := by
  have HA := Lib.hid (all_no (n := n) (c := c) hok)
  have HB := Lib.hid (ba (Below.refl w.heap.size w) (.cells (encR zR) 42))
  have HR := Lib.hid (Bk.new w 42 (encR zR))
  have HV := Lib.hid (show bgV root asid page [] = zW ∧ bgE root asid page [] = 2 from by
    rcases bg_cases root asid page [] with ⟨h, -⟩ | ⟨-, h⟩
    · exact absurd h hok
    · exact h)
  clear hok
  go_enter Tryd.func21, Tryd.ntmps21
  go_wp2_with fail
  refine (rbegin_nil root asid page _).mono ?_
  rintro e w1 ⟨rfl, hb⟩
  rw [HV.out.1, HV.out.2]
  simp only [wkV, zW]
  have HR1 := Lib.hid ((HR.out.call hb).call (ba (Below.refl _ _) (.cells #[.bool false, .int .i64 0, .int .u64 0, .int .i8 0, .int .i64 0] 26)))
  have HB1 := Lib.hid (ba (bthen HB.out hb) (.cells #[.bool false, .int .i64 0, .int .u64 0, .int .i8 0, .int .i64 0] 26))
  clear hb HR HB HV
  go_wp2_with (refine put_read rfl _ _ rfl w.heap.size zR _ rfl rfl HR1.out rfl ?_)
  refine bodyPost_ret (res_read3 rfl _ _ _ _ _ _ rfl rfl rfl (HR1.out.row _) rfl) rfl ⟨by rw [HA.out]; rfl, ?_⟩
  exact brow HB1.out (by omega) _
theorem rall_any (q : Nat) (root asid page : Int) (c : Nat → Nat → Int) (F : Nat → Prop) (w : World) (hM : RefS w q 16 c F) (hc : ∀ f i, U64 (c f i)) (hp : U64 page) :
    Calls Tryd.prog 21 #[.pointer (some ⟨q, 0, none⟩), .int .i64 root, .int .i64 asid, .int .u64 page] w fun e w' => e = .returned (allV (allR 16 c root asid page)) ∧ Below w.heap.size w w' := by
  by_cases h : BgOk root asid page []
  · exact rall_in q root asid page c F w hM hc hp h
  · exact rall_no _ root asid page 16 c w h
end
section
open Go.RowKit Go.Maps
set_option linter.unusedVariables false
set_option linter.unusedSimpArgs false
theorem bg_nil (page : Int) : BgOk 1 1 (page % 34359738368) [] := ⟨by omega, ⟨rfl, by simp, by simp, by simp, by simp, by simp, by simp, by show page % 34359738368 < 34359738368; omega⟩, ck_nil4⟩
set_option maxRecDepth 100000 in
set_option maxHeartbeats 8000000 in
theorem walkAll_in (O : Option Addr) (len cap : Nat) (xs ys : Nat → Int) (root asid page : Int) (w : World) (hG : G w) (hl : len ≤ 300) (hc : len ≤ cap) (hI : PairsK .u64 .u64 w O len xs ys) (hwf : ∀ i, i < len → U64 (xs i) ∧ U64 (ys i)) (hp : U64 page) :
    Calls Tryd.prog 5 #[.slice O len cap, .int .i64 root, .int .i64 asid, .int .u64 page] w fun e w' => e = .returned (.bool true) ∧ Below w.heap.size w w' := by
  have HG := Lib.hid hG
  have HI := Lib.hid hI
  have HW := Lib.hid hwf
  have HP := Lib.hid hp
  have h0 := hp.1
  clear hG hI hwf
  go_enter Tryd.func5, Tryd.ntmps5
  go_wp2_with fail
  refine (both_any O len cap xs ys _ hl hc HI.out HW.out).mono ?_
  rintro e w1 ⟨p, q, k, c, F, G1, rfl, hP, hcu, hk⟩
  have HPr := Lib.hid hP
  have HC := Lib.hid hcu
  clear hP hcu
  go_wp2_with fail
  refine (wall_any p k root asid page c F _ HPr.out.mem HC.out (HG.out.call HPr.out.below) HP.out).mono ?_
  rintro e w2 ⟨rfl, hb⟩
  generalize hr : allR 16 c root asid page = r at *
  have HR := Lib.hid hr
  clear hr
  obtain ⟨r, n, ee⟩ := r
  simp only [allV, rdV]
  have HP2 := Lib.hid ((HPr.out.call hb).call (brow (ba (Below.refl _ _) (.cells (encR zR) 42)) (Nat.le_refl _) (encR r)))
  have HN2 := Lib.hid (Bk.new w2 42 (encR zR))
  have HT2 := Lib.hid (HN2.out.row (encR r))
  clear hb HPr
  go_upto_region 7 with (refine put_read rfl _ _ rfl w2.heap.size r _ rfl rfl HN2.out rfl ?_)
  refine (show ∀ W : World, Pair w W p q 16 c c F G1 k → Bk W w2.heap.size 42 (encR r) → Code.wp _ _ _ _ W from fun W hP hT => ?_) _ HP2.out HT2.out
  clear HP2 HN2 HT2
  have HPr := Lib.hid hP
  have HT := Lib.hid hT
  clear hP hT
  go_wp2_with fail
  refine (rall_any q root asid page c G1 _ HPr.out.ref HC.out HP.out).mono ?_
  rintro e w3 ⟨rfl, hb⟩
  rw [HR.out]
  simp only [allV, rdV]
  have HP3 := Lib.hid ((HPr.out.call hb).call (brow (ba (Below.refl _ _) (.cells (encR zR) 42)) (Nat.le_refl _) (encR r)))
  have HA3 := Lib.hid ((HT.out.call hb).call (brow (ba (Below.refl _ _) (.cells (encR zR) 42)) (Nat.le_refl _) (encR r)))
  have HN3 := Lib.hid (Bk.new w3 42 (encR zR))
  have HT3 := Lib.hid (HN3.out.row (encR r))
  clear hb HPr HT
  go_upto_region 8 with (refine put_read rfl _ _ rfl w3.heap.size r _ rfl rfl HN3.out rfl ?_)
  refine (show ∀ W : World, Pair w W p q 16 c c F G1 k → Bk W w2.heap.size 42 (encR r) → Bk W w3.heap.size 42 (encR r) → Code.wp _ _ _ _ W from fun W hP hA hT => ?_) _ HP3.out HA3.out HT3.out
  clear HP3 HN3 HT3 HA3
  have HPr := Lib.hid hP
  have HA := Lib.hid hA
  have HT := Lib.hid hT
  clear hP hA hT
  go_wp2_with fail
  refine (wall_nil 1 1 (page % 34359738368) _ ⟨by omega, by omega⟩ (bg_nil page)).mono ?_
  rintro e w4 ⟨rfl, hb⟩
  simp only [allV, rdV]
  have HB4 := Lib.hid (bthen (HPr.out.call hb).below (brow (ba (Below.refl _ _) (.cells (encR zR) 42)) (Nat.le_refl _) (encR zR)))
  have HA4 := Lib.hid ((HA.out.call hb).call (brow (ba (Below.refl _ _) (.cells (encR zR) 42)) (Nat.le_refl _) (encR zR)))
  have HT4 := Lib.hid ((HT.out.call hb).call (brow (ba (Below.refl _ _) (.cells (encR zR) 42)) (Nat.le_refl _) (encR zR)))
  have HN4 := Lib.hid (Bk.new w4 42 (encR zR))
  clear hb HPr HA HT
  go_upto_region 9 with (refine put_read rfl _ _ rfl w4.heap.size zR _ rfl rfl HN4.out rfl ?_)
  refine (show ∀ W : World, Below w.heap.size w W → Bk W w2.heap.size 42 (encR r) → Bk W w3.heap.size 42 (encR r) → Code.wp _ _ _ _ W from fun W hB hA hT => ?_) _ HB4.out HA4.out HT4.out
  clear HB4 HA4 HT4 HN4
  have HB := Lib.hid hB
  have HA := Lib.hid hA
  have HT := Lib.hid hT
  clear hB hA hT h0
  have hE := eq_read r
  go_wp2_with (first | (refine get_read rfl _ rfl w2.heap.size _ rfl HA.out rfl ?_) | (refine get_read rfl _ rfl w3.heap.size _ rfl HT.out rfl ?_))
  refine (wakes12_any _ (HG.out.call HB.out)).mono ?_
  rintro e w5 ⟨rfl, hb⟩
  have HB5 := Lib.hid (bthen HB.out hb)
  clear hb
  go_wp2_with fail
  go_ret
  exact ⟨rfl, HB5.out⟩
theorem walkAll_any (O : Option Addr) (len cap : Nat) (xs ys : Nat → Int) (root asid page : Int) (w : World) (hG : G w) (hc : len ≤ cap) (hm : cap ≤ maxLen) (hI : PairsK .u64 .u64 w O len xs ys) (hwf : ∀ i, i < len → (Lit.int .u64 (xs i)).wf = true ∧ (Lit.int .u64 (ys i)).wf = true) (hp : U64 page) :
    Calls Tryd.prog 5 #[.slice O len cap, .int .i64 root, .int .i64 asid, .int .u64 page] w fun e w' => e = .returned (.bool true) ∧ Below w.heap.size w w' := by
  by_cases h : len ≤ 300
  · exact walkAll_in O len cap xs ys root asid page w hG h hc hI (fun i hi => ⟨u64_wf (hwf i hi).1, u64_wf (hwf i hi).2⟩) hp
  · have h2 : 300 < len := by omega
    unfold maxLen at hm
    clear h hI hwf
    go_enter Tryd.func5, Tryd.ntmps5
    go_wp2_with fail
    refine (wakes12_any _ hG).mono ?_
    rintro e w1 ⟨rfl, hb⟩
    go_wp2_with fail
    go_ret
    exact ⟨rfl, hb⟩
end
end Go.Proofs.YtgdkkhdhomehdaaDoor
