/-
  The law WalkTouch: the walk.
-/
import Derived.Test.YtgdkkhdhomehdaaDoorMwV
import Derived.Test.YtgdkkhdhomehdaaDoorMwO
namespace Go.Proofs.YtgdkkhdhomehdaaDoor
section
open Go.RowKit Go.Maps
set_option linter.unusedVariables false
set_option linter.unusedSimpArgs false
/-- What stands at a round's head. -/
structure ToS (w W : World) (p q k : Nat) (c : Nat → Nat → Int) (F G' : Nat → Prop) (b : Nat) (x : Wk) : Prop where
  pr : Pair w W p q 16 c c F G' k
  nF : ¬ F b
  nG : ¬ G' b
  hx : Bk W b 26 #[.bool x.on, .int .i64 x.a, .int .u64 x.p, .int .i8 x.l, .int .i64 x.f]
  lt : w.heap.size ≤ b
section
variable {w W W' : World} {p q k : Nat} {c : Nat → Nat → Int} {F G' : Nat → Prop} {b : Nat} {x : Wk}
theorem ToS.call (h : ToS w W p q k c F G' b x) (hb : Below W.heap.size W W') : ToS w W' p q k c F G' b x := ⟨h.pr.call hb, h.nF, h.nG, h.hx.call hb, h.lt⟩
theorem Pair.far (h : Pair w W p q 16 c c F G' k) (nF : ¬ F b) (nG : ¬ G' b) (lt : w.heap.size ≤ b) (i : Nat) (v : Value) : Pair w (W.setCell ⟨b, i, none⟩ v) p q 16 c c F G' k := by
  have hK : Keeps (fun z => z = b) W (W.setCell ⟨b, i, none⟩ v) := Keeps.setCell (F := fun z => z = b) (p := ⟨b, i, none⟩) rfl v
  exact ⟨h.mem.keep hK (fun z hz e => nF (e ▸ hz)), h.ref.keep hK (fun z hz e => nG (e ▸ hz)), h.ap, h.hF, h.hG, bs h.below lt v⟩
theorem ToS.walk (h : ToS w W p q k c F G' b x) (y : Wk) : ToS w (((((W.setCell ⟨b, 0, none⟩ (.bool y.on)).setCell ⟨b, 1, none⟩ (.int .i64 y.a)).setCell ⟨b, 2, none⟩ (.int .u64 y.p)).setCell ⟨b, 3, none⟩ (.int .i8 y.l)).setCell ⟨b, 4, none⟩ (.int .i64 y.f)) p q k c F G' b y :=
  ⟨((((h.pr.far h.nF h.nG h.lt 0 _).far h.nF h.nG h.lt 1 _).far h.nF h.nG h.lt 2 _).far h.nF h.nG h.lt 3 _).far h.nF h.nG h.lt 4 _, h.nF, h.nG, ((((h.hx.set 0 _).set 1 _).set 2 _).set 3 _).set 4 _, h.lt⟩
end
/-- What a step writes back, or not. -/
theorem to_cases (x : Wk) (v : Int) (hx : WkOk x) (hv : U64 v) : ((rd x v).to = false ∧ ((rd x v).k.on = true ∧ WkOk (rd x v).k ∧ (rd x v).k.l = x.l + 1 ∧ (rd x v).k.p = x.p ∧ x.l ≤ 2 ∨ (rd x v).k.on = false)) ∨
    (rd x v = rdQ x (df v x.l) (dfl v x.l 7) true (v + 1024) ∧ bits .or .u64 v 1024 = v + 1024 ∧ U64 (v + 1024) ∧ rd x (v + 1024) = rdQ x (df v x.l) (dfl v x.l 7) false 0) := by
  rcases dk_cases v x.l hx.2.1 hx.2.2.1 with ⟨h, -⟩ | ⟨h, hl, hg⟩ | ⟨h, hl, hg⟩
  · left
    rw [rd_miss h]
    exact ⟨rfl, .inr rfl⟩
  · left
    have e : rd x v = rdT x v := by unfold rd; rw [if_pos h]
    rw [e]
    exact ⟨rfl, .inl ⟨hx.1, rdT_ok x v hx hl, rfl, rfl, hl⟩⟩
  · rcases hu : dfl v x.l 6 with _ | _
    · left
      rw [rd_deny h hu]
      exact ⟨rfl, .inr rfl⟩
    · rcases ha : dfl v x.l 10 with _ | _
      · right
        obtain ⟨ht, e⟩ := rd_new h hl hg hu ha
        obtain ⟨o1, o2⟩ := or_1024 v hv ht
        obtain ⟨t1, t2, t3, t4, t5, -, t7, -⟩ := touched hv ht
        refine ⟨e, o1, o2, ?_⟩
        rw [hl] at h hu ⊢
        have h' : dk (v + 1024) x.l = 2 := by rw [hl, t7]; exact h
        have hu' : dfl (v + 1024) x.l 6 = true := by rw [hl, t5]; exact hu
        have ha' : dfl (v + 1024) x.l 10 = true := by rw [hl, t3]
        obtain ⟨-, e'⟩ := rd_old h' hl hu' ha'
        rw [e', hl, t2, t4]
      · left
        obtain ⟨-, e⟩ := rd_old h hl hu ha
        rw [e]
        exact ⟨rfl, .inr rfl⟩
theorem wword_on (x : Wk) (w : World) (hx : WkOk x) (hp : U64 x.p) (ho : x.on = true) : Calls Tryd.prog 13 #[.agg #[.bool true, .int .i64 x.a, .int .u64 x.p, .int .i8 x.l, .int .i64 x.f]] w fun e w' => e = .returned (.tuple #[.int .u64 (wdN x), .int .i64 0]) ∧ Below w.heap.size w w' := by
  have h := wword_yes x w hx hp
  rw [ho] at h
  exact h
def TouRel (w : World) (p q k : Nat) (c : Nat → Nat → Int) (F G' : Nat → Prop) (b : Nat) (i : Value) (W : World) : Prop :=
  ∃ (j : Nat) (x : Wk), i = .int .i64 j ∧ ((j ≤ 3 ∧ WkOk x ∧ x.l = j ∧ U64 x.p) ∨ (j ≤ 4 ∧ x.on = false)) ∧ ToS w W p q k c F G' b x
set_option maxRecDepth 100000 in
set_option maxHeartbeats 16000000 in
theorem walkTouch_in (O : Option Addr) (len cap : Nat) (xs ys : Nat → Int) (root0 asid0 page0 : Int) (w : World) (hG : G w) (hl : len ≤ 300) (hc : len ≤ cap) (hI : PairsK .u64 .u64 w O len xs ys) (hwf : ∀ i, i < len → U64 (xs i) ∧ U64 (ys i)) (hp : U64 page0) :
    Calls Tryd.prog 7 #[.slice O len cap, .int .i64 root0, .int .i64 asid0, .int .u64 page0] w fun e w' => e = .returned (.bool true) ∧ Below w.heap.size w w' := by
  have HG := Lib.hid hG
  have HI := Lib.hid hI
  have HW := Lib.hid hwf
  have h0 := hp.1
  have nr := norm_mod root0 15 (by omega) (by omega)
  have na := norm_mod asid0 255 (by omega) (by omega)
  clear hG hI hwf
  go_enter Tryd.func7, Tryd.ntmps7
  go_wp2_with fail
  refine (both_any O len cap xs ys _ hl hc HI.out HW.out).mono ?_
  rintro e w1 ⟨p, q, k, c, F, G1, rfl, hP, hcu, hk⟩
  have HPr := Lib.hid hP
  have HC := Lib.hid hcu
  clear hP hcu
  go_wp2_with fail
  obtain ⟨root, hroot⟩ : ∃ r : Int, r = 1 + (wrap64 (root0.tmod 15 + 15)).tmod 15 := ⟨_, rfl⟩
  obtain ⟨asid, hasid⟩ : ∃ r : Int, r = 1 + (wrap64 (asid0.tmod 255 + 255)).tmod 255 := ⟨_, rfl⟩
  obtain ⟨pg, hpage⟩ : ∃ r : Int, r = page0 % 34359738368 := ⟨_, rfl⟩
  have hr1 : 1 ≤ root ∧ root ≤ 15 := by omega
  have ha1 : 1 ≤ asid ∧ asid ≤ 255 := by omega
  have hp1 : U64 pg ∧ pg < 34359738368 := ⟨⟨by omega, by omega⟩, by omega⟩
  rw [← hroot, ← hasid, ← hpage]
  clear hroot hasid hpage nr na h0 hp
  have HP := Lib.hid hp1.1
  have HOK := Lib.hid (show BgOk root asid pg [] from ⟨hr1.1, ⟨rfl, by simp, by simp, by simp; omega, by simp; omega, ha1.1, ha1.2, hp1.2⟩, ck_nil4⟩)
  have HV := Lib.hid (show bgV root asid pg [] = ⟨true, asid, pg, 0, root⟩ ∧ bgE root asid pg [] = 0 from by
    rcases bg_cases root asid pg [] with ⟨-, h1, h2⟩ | ⟨h, -⟩
    · rw [h1, bgW_nil]; exact ⟨rfl, h2⟩
    · exact absurd HOK.out h)
  clear hr1 ha1 hp1
  refine (begin_nil root asid pg _).mono ?_
  rintro e w2 ⟨rfl, hb⟩
  rw [HV.out.1, HV.out.2]
  simp only [wkV]
  have hPn := (HPr.out.call hb).call (ba (Below.refl _ _) (.cells #[.bool true, .int .i64 asid, .int .u64 pg, .int .i8 0, .int .i64 root] 26))
  have HS := Lib.hid (show ToS w (w2.alloc (.cells #[.bool true, .int .i64 asid, .int .u64 pg, .int .i8 0, .int .i64 root] 26)) p q k c F G1 w2.heap.size ⟨true, asid, pg, 0, root⟩ from
    ⟨hPn, fun h => by have := (HPr.out.call hb).mem.all _ h; omega, fun h => by have := (HPr.out.call hb).ref.all _ h; omega, Bk.new _ _ _, (HPr.out.call hb).below.size⟩)
  clear hb HPr HV hPn
  go_wp2_with fail
  generalize w2.heap.size = b at *
  generalize w2.alloc (.cells #[.bool true, .int .i64 asid, .int .u64 pg, .int .i8 0, .int .i64 root] 26) = W0 at *
  go_loopw [14] (fun i wr => TouRel w p q k c F G1 b i wr) (fun i _ => 5 - (intOf i).toNat)
  case atStart => exact ⟨0, ⟨true, asid, pg, 0, root⟩, rfl, .inl ⟨by omega, HOK.out.2.1, rfl, HP.out⟩, HS.out⟩
  case round =>
    obtain ⟨j, x, rfl, hcase, hS⟩ := hrel
    clear HS
    rcases hcase with ⟨hj, hx, hlx, hpx⟩ | ⟨hj, hon⟩
    · obtain ⟨f, i, e1, e2, e3, e4, e5, e6, e7, e8, e9⟩ := wdN_div x hx
      have htc := fun v hv => to_cases x v hx hv
      have HTC := Lib.hid htc
      have HX := Lib.hid hx
      have HPX := Lib.hid hpx
      have HLX := Lib.hid hlx
      have HE3 := Lib.hid e3
      have HE4 := Lib.hid e4
      have HE7 := Lib.hid e7
      have HON := Lib.hid hx.1
      clear hx hlx hpx e1 e2 e3 e4 e7 e8 e9 htc
      have x0 := hS.hx.cell 0
      have x1 := hS.hx.cell 1
      have x2 := hS.hx.cell 2
      have x3 := hS.hx.cell 3
      have x4 := hS.hx.cell 4
      simp only [List.getElem?_toArray, List.getElem?_cons_zero, List.getElem?_cons_succ] at x0 x1 x2 x3 x4
      rw [HON.out] at x0
      have HS2 := Lib.hid hS
      clear hS
      go_wp2_with fail
      refine (wword_on x _ HX.out HPX.out HON.out).mono ?_
      rintro e w3 ⟨rfl, hb⟩
      have HS3 := Lib.hid (HS2.out.call hb)
      clear hb HS2 x0 x1 x2 x3 x4
      by_cases hf : f < 16
      · go_wp2_with fail
        refine (read_yes p 16 k f i (wdN x) c F _ HS3.out.pr.mem (by omega) HE7.out HE3.out HE4.out hf).mono ?_
        rintro e w4 ⟨rfl, rfl⟩
        have x0 := HS3.out.hx.cell 0
        have x1 := HS3.out.hx.cell 1
        have x2 := HS3.out.hx.cell 2
        have x3 := HS3.out.hx.cell 3
        have x4 := HS3.out.hx.cell 4
        simp only [List.getElem?_toArray, List.getElem?_cons_zero, List.getElem?_cons_succ] at x0 x1 x2 x3 x4
        have HU := Lib.hid (HC.out f i)
        generalize hv : c f i = v at *
        clear hv
        go_wp2_with fail
        refine (next_ok x v _ (HG.out.call HS3.out.pr.below) HU.out HX.out).mono ?_
        rintro e w5 ⟨rfl, hb⟩
        have HS4 := Lib.hid (HS3.out.call hb)
        clear hb HS3 x0 x1 x2 x3 x4
        have HTV := Lib.hid (HTC.out v HU.out)
        generalize hr : rd x v = r at *
        simp only [rdV]
        have HN := Lib.hid (Bk.new w5 42 (encR zR))
        go_upto_region 20 with (refine put_read rfl _ _ rfl w5.heap.size r _ rfl rfl HN.out rfl ?_)
        have hS5 := HS4.out.call (brow (ba (Below.refl w5.heap.size w5) (.cells (encR zR) 42)) (Nat.le_refl _) (encR r))
        have hN5 := HN.out.row (encR r)
        have hne : b < w5.heap.size := HS4.out.hx.lt
        have hnF : ¬ F w5.heap.size ∧ ¬ G1 w5.heap.size := ⟨fun h => by have := HS4.out.pr.mem.all _ h; omega, fun h => by have := HS4.out.pr.ref.all _ h; omega⟩
        refine (show ∀ W : World, ToS w W p q k c F G1 b x → Bk W w5.heap.size 42 (encR r) → Code.wp _ _ _ _ W from fun W hS hN => ?_) _ hS5 hN5
        clear hS5 hN5 HN HS4
        have n1 : b ≠ w5.heap.size := by omega
        have n2 : w5.heap.size ≠ b := by omega
        have n3 := hN.lt
        have HNF := Lib.hid hnF
        clear hnF
        rcases HTV.out with ⟨hto, hk2⟩ | ⟨hrq, hor, hu2, hr2⟩
        · have HK2 := Lib.hid hk2
          have t18 : W.cell? ⟨w5.heap.size, 18, none⟩ = some (.bool r.to) := hN.cell 18
          rw [hto] at t18
          have t0 : W.cell? ⟨w5.heap.size, 0, none⟩ = some (.bool r.k.on) := hN.cell 0
          have t1 : W.cell? ⟨w5.heap.size, 1, none⟩ = some (.int .i64 r.k.a) := hN.cell 1
          have t2 : W.cell? ⟨w5.heap.size, 2, none⟩ = some (.int .u64 r.k.p) := hN.cell 2
          have t3 : W.cell? ⟨w5.heap.size, 3, none⟩ = some (.int .i8 r.k.l) := hN.cell 3
          have t4 : W.cell? ⟨w5.heap.size, 4, none⟩ = some (.int .i64 r.k.f) := hN.cell 4
          have y0 := hS.hx.cell 0
          have y1 := hS.hx.cell 1
          have y2 := hS.hx.cell 2
          have y3 := hS.hx.cell 3
          have y4 := hS.hx.cell 4
          simp only [List.getElem?_toArray, List.getElem?_cons_zero, List.getElem?_cons_succ] at y0 y1 y2 y3 y4
          have z0 := hS.hx.frozen 0
          have z1 := hS.hx.frozen 1
          have z2 := hS.hx.frozen 2
          have z3 := hS.hx.frozen 3
          have z4 := hS.hx.frozen 4
          have HSW := Lib.hid (hS.walk r.k)
          have HR := Lib.hid hr
          clear hS hN hto hk2 HTV hr
          go_wp2_with fail
          go_roundw
          case rel =>
            refine ⟨j + 1, r.k, by go_num, ?_, HSW.out⟩
            rcases HK2.out with ⟨o1, o2, o3, o4, o5⟩ | o1
            · exact .inl ⟨by have := HLX.out; omega, o2, by rw [o3]; have := HLX.out; omega, by rw [o4]; exact HPX.out⟩
            · exact .inr ⟨by omega, o1⟩
          case measure => simp [intOf]; omega
        · rw [hrq] at hN
          have HHN := Lib.hid hN
          have HR2 := Lib.hid hr2
          have HU2 := Lib.hid hu2
          have t18 : W.cell? ⟨w5.heap.size, 18, none⟩ = some (.bool true) := hN.cell 18
          have t10 : W.cell? ⟨w5.heap.size, 10, none⟩ = some (.bool true) := hN.cell 10
          have t19 : W.cell? ⟨w5.heap.size, 19, none⟩ = some (.int .u64 (v + 1024)) := hN.cell 19
          have HS := Lib.hid hS
          clear hS hN hr hrq HTV hr2 hu2
          go_wp2_with fail
          refine (write_yes p 16 k f i (wdN x) (v + 1024) c F _ HS.out.pr.mem (by omega) (by omega) HE7.out HE3.out HE4.out hf).mono ?_
          rintro e w6 ⟨rfl, F2, k2, m1, m2, m3, m4, m5⟩
          have hB6 := m3.below HS.out.pr.below HS.out.pr.hF
          have hX6 := HS.out.hx.keep m3 HS.out.nF
          have hN6 := HHN.out.keep m3 HNF.out.1
          clear m1 m2 m3 m4 m5 HS HHN t18 t10 t19
          have s10 : w6.cell? ⟨w5.heap.size, 10, none⟩ = some (.bool true) := hN6.cell 10
          have s11 : w6.cell? ⟨w5.heap.size, 11, none⟩ = some (.int .i64 x.a) := hN6.cell 11
          have s12 : w6.cell? ⟨w5.heap.size, 12, none⟩ = some (.int .u64 x.p) := hN6.cell 12
          have s13 : w6.cell? ⟨w5.heap.size, 13, none⟩ = some (.int .i64 (df v x.l)) := hN6.cell 13
          have s14 : w6.cell? ⟨w5.heap.size, 14, none⟩ = some (.bool (dfl v x.l 7)) := hN6.cell 14
          have s19 : w6.cell? ⟨w5.heap.size, 19, none⟩ = some (.int .u64 (v + 1024)) := hN6.cell 19
          have x0 := hX6.cell 0
          have x1 := hX6.cell 1
          have x2 := hX6.cell 2
          have x3 := hX6.cell 3
          have x4 := hX6.cell 4
          simp only [List.getElem?_toArray, List.getElem?_cons_zero, List.getElem?_cons_succ] at x0 x1 x2 x3 x4
          have lx := hX6.lt
          have ln := hN6.lt
          have HB6 := Lib.hid hB6
          have HN6 := Lib.hid hN6
          clear hB6 hX6 hN6
          go_wp2_with fail
          refine (next_ok x (v + 1024) _ (HG.out.call HB6.out) HU2.out HX.out).mono ?_
          rintro e w7 ⟨rfl, hb⟩
          rw [HR2.out]
          simp only [rdV]
          have HB7 := Lib.hid (bthen (bthen HB6.out hb) (brow (ba (Below.refl w7.heap.size w7) (.cells (encR zR) 42)) (Nat.le_refl _) (encR (rdQ x (df v x.l) (dfl v x.l 7) false 0))))
          have HN7 := Lib.hid ((HN6.out.call hb).call (brow (ba (Below.refl w7.heap.size w7) (.cells (encR zR) 42)) (Nat.le_refl _) (encR (rdQ x (df v x.l) (dfl v x.l 7) false 0))))
          have HK7 := Lib.hid (Bk.new w7 42 (encR zR))
          clear hb HB6 HN6 s10 s11 s12 s13 s14 s19 x0 x1 x2 x3 x4 lx ln
          go_upto_region 26 with (refine put_read rfl _ _ rfl w7.heap.size (rdQ x (df v x.l) (dfl v x.l 7) false 0) _ rfl rfl HK7.out rfl ?_)
          refine (show ∀ W : World, Below w.heap.size w W → Bk W w5.heap.size 42 (encR (rdQ x (df v x.l) (dfl v x.l 7) true (v + 1024))) → Bk W w7.heap.size 42 (encR (rdQ x (df v x.l) (dfl v x.l 7) false 0)) → Code.wp _ _ _ _ W from fun W hB hA hT => ?_) _ HB7.out HN7.out (HK7.out.row _)
          clear HB7 HN7 HK7
          generalize df v x.l = fr at *
          generalize dfl v x.l 7 = ro at *
          have a11 : W.cell? ⟨w5.heap.size, 11, none⟩ = some (.int .i64 x.a) := hA.cell 11
          have a12 : W.cell? ⟨w5.heap.size, 12, none⟩ = some (.int .u64 x.p) := hA.cell 12
          have a13 : W.cell? ⟨w5.heap.size, 13, none⟩ = some (.int .i64 fr) := hA.cell 13
          have a14 : W.cell? ⟨w5.heap.size, 14, none⟩ = some (.bool ro) := hA.cell 14
          have b10 : W.cell? ⟨w7.heap.size, 10, none⟩ = some (.bool true) := hT.cell 10
          have b11 : W.cell? ⟨w7.heap.size, 11, none⟩ = some (.int .i64 x.a) := hT.cell 11
          have b12 : W.cell? ⟨w7.heap.size, 12, none⟩ = some (.int .u64 x.p) := hT.cell 12
          have b13 : W.cell? ⟨w7.heap.size, 13, none⟩ = some (.int .i64 fr) := hT.cell 13
          have b14 : W.cell? ⟨w7.heap.size, 14, none⟩ = some (.bool ro) := hT.cell 14
          have b18 : W.cell? ⟨w7.heap.size, 18, none⟩ = some (.bool false) := hT.cell 18
          have HB := Lib.hid hB
          have hE := eq_tlb x.a x.p fr x.a x.p fr ro ro
          simp only [beq_self_eq_true, Bool.and_true] at hE
          clear hB hA hT
          go_wp2_with fail
          refine (wakes12_any _ (HG.out.call HB.out)).mono ?_
          rintro e w8 ⟨rfl, hb⟩
          have HB8 := Lib.hid (bthen HB.out hb)
          clear hb
          go_wp2_with fail
          go_ret
          exact ⟨rfl, HB8.out⟩
      · go_wp2_with fail
        refine (read_no p 16 k (wdN x) c F _ HS3.out.pr.mem (by omega) HE7.out (by rw [HE3.out]; omega)).mono ?_
        rintro e w4 ⟨rfl, rfl⟩
        go_wp2_with fail
        refine (wakes12_any _ (HG.out.call HS3.out.pr.below)).mono ?_
        rintro e w5 ⟨rfl, hb⟩
        have HB5 := Lib.hid (bthen HS3.out.pr.below hb)
        clear hb
        go_wp2_with fail
        go_ret
        exact ⟨rfl, HB5.out⟩
    · have x0 := hS.hx.cell 0
      simp only [List.getElem?_toArray, List.getElem?_cons_zero] at x0
      rw [hon] at x0
      have HS := Lib.hid hS
      clear hS hon
      by_cases hj4 : j < 4
      all_goals
        go_wp2_with fail
        refine (wakes12_any _ (HG.out.call HS.out.pr.below)).mono ?_
        rintro e w5 ⟨rfl, hb⟩
        have HB5 := Lib.hid (bthen HS.out.pr.below hb)
        clear hb
        go_wp2_with fail
        go_ret
        exact ⟨rfl, HB5.out⟩
theorem walkTouch_any (O : Option Addr) (len cap : Nat) (xs ys : Nat → Int) (root asid page : Int) (w : World) (hG : G w) (hc : len ≤ cap) (hm : cap ≤ maxLen) (hI : PairsK .u64 .u64 w O len xs ys) (hwf : ∀ i, i < len → (Lit.int .u64 (xs i)).wf = true ∧ (Lit.int .u64 (ys i)).wf = true) (hp : U64 page) :
    Calls Tryd.prog 7 #[.slice O len cap, .int .i64 root, .int .i64 asid, .int .u64 page] w fun e w' => e = .returned (.bool true) ∧ Below w.heap.size w w' := by
  by_cases h : len ≤ 300
  · exact walkTouch_in O len cap xs ys root asid page w hG h hc hI (fun i hi => ⟨u64_wf (hwf i hi).1, u64_wf (hwf i hi).2⟩) hp
  · have h2 : 300 < len := by omega
    unfold maxLen at hm
    clear h hI hwf
    go_enter Tryd.func7, Tryd.ntmps7
    go_wp2_with fail
    refine (wakes12_any _ hG).mono ?_
    rintro e w1 ⟨rfl, hb⟩
    go_wp2_with fail
    go_ret
    exact ⟨rfl, hb⟩
end
end Go.Proofs.YtgdkkhdhomehdaaDoor
