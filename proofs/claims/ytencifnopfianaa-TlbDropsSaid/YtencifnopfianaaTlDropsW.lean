/-
  TlbDrops: the walk.
-/
import Derived.Test.YtencifnopfianaaTlSame
namespace Go.Proofs.Ytencifnopfianaa
open Go.RowKit
set_option linter.unusedVariables false
set_option linter.unusedSimpArgs false
set_option maxRecDepth 100000 in
set_option maxHeartbeats 40000000 in
theorem drops_any (O : Option Addr) (cap : Nat) (xs : List Tb) (ev : Tb) (tk ta tp asid page : Int) (w : World) (hI : RK encT 4 w O xs) (hcap : xs.length ≤ cap) :
    Calls Try.prog 3 #[.slice O xs.length cap, .agg #[.int .i64 ev.a, .int .u64 ev.p, .int .i64 ev.f, .bool ev.ro], .agg #[.int .i8 tk, .int .i64 ta, .int .u64 tp], .int .i64 asid, .int .u64 page] w fun e w' => e = .returned (.bool true) ∧ Below w.heap.size w w' := by
  have hB0 := ba (ba (Below.refl w.heap.size w) (.cells #[.int .i64 ev.a, .int .u64 ev.p, .int .i64 ev.f, .bool ev.ro] 25)) (.cells #[.int .i8 tk, .int .i64 ta, .int .u64 tp] 28)
  have e1 : (w.alloc (.cells #[.int .i64 ev.a, .int .u64 ev.p, .int .i64 ev.f, .bool ev.ro] 25)).heap.size = w.heap.size + 1 := by simp
  have HB := Lib.hid hB0
  have HV := Lib.hid ((Arr.new w #[.int .i64 ev.a, .int .u64 ev.p, .int .i64 ev.f, .bool ev.ro] 25).alloc (.cells #[.int .i8 tk, .int .i64 ta, .int .u64 tp] 28))
  have HT := Lib.hid (e1 ▸ Arr.new (w.alloc (.cells #[.int .i64 ev.a, .int .u64 ev.p, .int .i64 ev.f, .bool ev.ro] 25)) #[.int .i8 tk, .int .i64 ta, .int .u64 tp] 28)
  have HI := Lib.hid (hI.call hB0)
  clear hI hB0 e1
  go_enter Try.func3, Try.ntmps3
  go_wp2_with fail
  generalize (w.alloc (.cells #[.int .i64 ev.a, .int .u64 ev.p, .int .i64 ev.f, .bool ev.ro] 25)).alloc (.cells #[.int .i8 tk, .int .i64 ta, .int .u64 tp] 28) = W0 at *
  refine (checkT_out O cap xs _ HI.out hcap).mono ?_
  rintro e Wc ⟨rfl, hb⟩
  have HB := Lib.hid (bthen HB.out hb)
  have HV := Lib.hid (HV.out.call hb)
  have HT := Lib.hid (HT.out.call hb)
  have HI := Lib.hid (HI.out.call hb)
  clear hb
  rcases ckE_cases mayT plT 8 xs with ⟨hk, h2⟩ | ⟨hk, h2⟩
  · rw [h2]
    have HK := Lib.hid hk
    have h8 := hk.1
    clear hk h2
    go_wp2_with fail
    refine (find_out O cap xs asid page _ HI.out hcap).mono ?_
    rintro e w1 ⟨rfl, hb⟩
    rw [fndO_eq HK.out]
    have HD := Lib.hid (fnd_drop HK.out (fun y : Tb => hitB tk ta tp y.a y.p) (asid, 0, page))
    have HKm := Lib.hid (drp_ck HK.out (fun y : Tb => hitB tk ta tp y.a y.p))
    obtain ⟨ms, hms⟩ : ∃ ms, drpL mayT plT 8 xs (fun y : Tb => hitB tk ta tp y.a y.p) = ms := ⟨_, rfl⟩
    rw [hms] at HD HKm
    generalize fnd plT xs (asid, 0, page) = o at *
    have HB := Lib.hid (bthen HB.out hb)
    have HV := Lib.hid (HV.out.call hb)
    have HT := Lib.hid (HT.out.call hb)
    have HI := Lib.hid (HI.out.call hb)
    clear hb
    have hq := ba (Below.refl _ w1) (.cells #[.int .i64 (o.getD zT).a, .int .u64 (o.getD zT).p, .int .i64 (o.getD zT).f, .bool (o.getD zT).ro] 25)
    have HX := Lib.hid (Arr.new w1 #[.int .i64 (o.getD zT).a, .int .u64 (o.getD zT).p, .int .i64 (o.getD zT).f, .bool (o.getD zT).ro] 25)
    have HXs := Lib.hid (show w1.heap.size < (w1.alloc (.cells #[.int .i64 (o.getD zT).a, .int .u64 (o.getD zT).p, .int .i64 (o.getD zT).f, .bool (o.getD zT).ro] 25)).heap.size by simp)
    have HB := Lib.hid (bthen HB.out hq)
    have HV := Lib.hid (HV.out.call hq)
    have HT := Lib.hid (HT.out.call hq)
    have HI := Lib.hid (HI.out.call hq)
    clear hq
    have t0 := HT.out.cell 0 _ rfl
    have t1 := HT.out.cell 1 _ rfl
    have t2 := HT.out.cell 2 _ rfl
    go_wp2_with fail
    clear t0 t1 t2
    generalize w1.heap.size = Y1 at *
    generalize w1.alloc (.cells #[.int .i64 (o.getD zT).a, .int .u64 (o.getD zT).p, .int .i64 (o.getD zT).f, .bool (o.getD zT).ro] 25) = W1 at *
    refine (dropT_out O cap xs tk ta tp _ HI.out hcap).mono ?_
    rintro e w2 ⟨v, rfl, hO, hb⟩
    rw [hms] at hO
    obtain ⟨Om, pm, rfl, lm, mm, rm⟩ := hO.form encT_len
    have HRm := Lib.hid rm
    clear hO rm mm hms
    have HB := Lib.hid (bthen HB.out hb)
    have HV := Lib.hid (HV.out.call hb)
    have HT := Lib.hid (HT.out.call hb)
    have HI := Lib.hid (HI.out.call hb)
    have HX := Lib.hid (HX.out.call hb)
    clear hb
    go_wp2_with fail
    refine (find_out Om pm ms asid page _ HRm.out lm).mono ?_
    rintro e w3 ⟨rfl, hb⟩
    rw [fndO_eq HKm.out, HD.out]
    have HB := Lib.hid (bthen HB.out hb)
    have HV := Lib.hid (HV.out.call hb)
    have HT := Lib.hid (HT.out.call hb)
    have HI := Lib.hid (HI.out.call hb)
    have HX := Lib.hid (HX.out.call hb)
    have HRm := Lib.hid (HRm.out.call hb)
    clear hb
    obtain ⟨o', ho'⟩ : ∃ o', o.filter (fun x => !hitB tk ta tp x.a x.p) = o' := ⟨_, rfl⟩
    rw [ho']
    have HXw := HX
    have HTw := HT
    have hq := ba (Below.refl _ w3) (.cells #[.int .i64 (o'.getD zT).a, .int .u64 (o'.getD zT).p, .int .i64 (o'.getD zT).f, .bool (o'.getD zT).ro] 25)
    have HY := Lib.hid (Arr.new w3 #[.int .i64 (o'.getD zT).a, .int .u64 (o'.getD zT).p, .int .i64 (o'.getD zT).f, .bool (o'.getD zT).ro] 25)
    have HYs := Lib.hid (show w3.heap.size < (w3.alloc (.cells #[.int .i64 (o'.getD zT).a, .int .u64 (o'.getD zT).p, .int .i64 (o'.getD zT).f, .bool (o'.getD zT).ro] 25)).heap.size by simp)
    have HB := Lib.hid (bthen HB.out hq)
    have HV := Lib.hid (HV.out.call hq)
    have HT := Lib.hid (HT.out.call hq)
    have HI := Lib.hid (HI.out.call hq)
    have HX := Lib.hid (HX.out.call hq)
    have HRm := Lib.hid (HRm.out.call hq)
    clear hq
    have EM := Lib.hid (ck_yes HKm.out)
    have key : (o = none ∧ o' = none) ∨ (∃ x, o = some x ∧ hitB tk ta tp x.a x.p = true ∧ o' = none) ∨ (∃ x, o = some x ∧ hitB tk ta tp x.a x.p = false ∧ o' = some x) := by
      rw [← ho']
      rcases o with _ | x
      · exact Or.inl ⟨rfl, rfl⟩
      · rcases hh : hitB tk ta tp x.a x.p with _ | _
        · exact Or.inr (Or.inr ⟨x, rfl, hh, by simp [hh]⟩)
        · exact Or.inr (Or.inl ⟨x, rfl, hh, by simp [hh]⟩)
    clear ho' HD
    rcases key with ⟨rfl, rfl⟩ | ⟨x, rfl, hh, rfl⟩ | ⟨x, rfl, hh, rfl⟩
    · simp only [Option.getD_none, Option.getD_some, Option.isSome_none, Option.isSome_some, zT] at HX HXw HY ⊢
      have x0 := HXw.out.cell 0 _ rfl
      have x1 := HXw.out.cell 1 _ rfl
      have x2 := HXw.out.cell 2 _ rfl
      have x3 := HXw.out.cell 3 _ rfl
      have t0 := HTw.out.cell 0 _ rfl
      have t1 := HTw.out.cell 1 _ rfl
      have t2 := HTw.out.cell 2 _ rfl
      have lX := HXw.out.lt
      have lT := HTw.out.lt
      go_wp2_with fail
      refine (checkT_out Om pm ms _ HRm.out lm).mono ?_
      rintro e w5 ⟨rfl, hb⟩
      rw [EM.out]
      have HB := Lib.hid (bthen HB.out hb)
      have HV := Lib.hid (HV.out.call hb)
      have HI := Lib.hid (HI.out.call hb)
      clear hb
      clear x0 x1 x2 x3 t0 t1 t2 lX lT HX HY HT HRm HXw HTw
      have v0 := HV.out.cell 0 _ rfl
      have v1 := HV.out.cell 1 _ rfl
      have v2 := HV.out.cell 2 _ rfl
      have v3 := HV.out.cell 3 _ rfl
      go_wp2_with fail
      clear v0 v1 v2 v3
      refine (fillT_out O cap xs ev _ HI.out hcap).mono ?_
      rintro e w6 ⟨v, rfl, hO, hb⟩
      have HB := Lib.hid (bthen HB.out hb)
      have HV := Lib.hid (HV.out.call hb)
      have HI := Lib.hid (HI.out.call hb)
      clear hb
      rcases hm : mayT ev with _ | _
      · rw [show filE mayT plT 8 xs ev = 2 from if_neg (fun h => by rw [hm] at h; exact Bool.noConfusion h.2)]
        clear hO hm
        go_wp2_with fail
        refine (wakes11_any _).mono ?_
        rintro e w99 ⟨rfl, hb⟩
        have HB := Lib.hid (bthen HB.out hb)
        clear hb
        go_wp2_with fail
        go_ret
        exact ⟨rfl, HB.out⟩
      · rw [show filE mayT plT 8 xs ev = 0 from if_pos ⟨HK.out, hm⟩]
        have HKf := Lib.hid (Ck.fill (by decide) HK.out hm).1
        have HMf := Lib.hid (Ck.fill (by decide) HK.out hm).2
        have HFO := Lib.hid (fun (i : Nat) (o : Tb) (h1 : xs[i]? = some o) (h2 : plT o ≠ plT ev) => fill_other (by decide) HK.out hm h1 h2)
        generalize filL mayT plT 8 xs ev = fs at *
        obtain ⟨On, pn, rfl, ln, mn, rn⟩ := hO.form encT_len
        have HR := Lib.hid rn
        clear hO hm rn mn
        have v0 := HV.out.cell 0 _ rfl
        have v1 := HV.out.cell 1 _ rfl
        have v2 := HV.out.cell 2 _ rfl
        have v3 := HV.out.cell 3 _ rfl
        go_wp2_with fail
        clear v0 v1 v2 v3
        refine (find_out On pn fs ev.a ev.p _ HR.out ln).mono ?_
        rintro e w7 ⟨rfl, hb⟩
        rw [fndO_eq HKf.out, show ((ev.a, 0, ev.p) : Int × Int × Int) = plT ev from rfl, fnd_mem (ck_iff.1 HKf.out).2.2 HMf.out]
        simp only [Option.getD_some, Option.isSome_some]
        have HB := Lib.hid (bthen HB.out hb)
        have HV := Lib.hid (HV.out.call hb)
        have HI := Lib.hid (HI.out.call hb)
        have HR := Lib.hid (HR.out.call hb)
        clear hb
        have hq := ba (Below.refl _ w7) (.cells #[.int .i64 ev.a, .int .u64 ev.p, .int .i64 ev.f, .bool ev.ro] 25)
        have HZ := Lib.hid (Arr.new w7 #[.int .i64 ev.a, .int .u64 ev.p, .int .i64 ev.f, .bool ev.ro] 25)
        have HZs := Lib.hid (show w7.heap.size < (w7.alloc (.cells #[.int .i64 ev.a, .int .u64 ev.p, .int .i64 ev.f, .bool ev.ro] 25)).heap.size by simp)
        have HB := Lib.hid (bthen HB.out hq)
        have HV := Lib.hid (HV.out.call hq)
        have HI := Lib.hid (HI.out.call hq)
        have HR := Lib.hid (HR.out.call hq)
        clear hq
        have v0 := HV.out.cell 0 _ rfl
        have v1 := HV.out.cell 1 _ rfl
        have v2 := HV.out.cell 2 _ rfl
        have v3 := HV.out.cell 3 _ rfl
        have z0 := HZ.out.cell 0 _ rfl
        have z1 := HZ.out.cell 1 _ rfl
        have z2 := HZ.out.cell 2 _ rfl
        have z3 := HZ.out.cell 3 _ rfl
        go_wp2_with fail
        clear v0 v1 v2 v3 z0 z1 z2 z3
        generalize w7.heap.size = Y7 at *
        generalize w7.alloc (.cells #[.int .i64 ev.a, .int .u64 ev.p, .int .i64 ev.f, .bool ev.ro] 25) = W7 at *
        refine (checkT_out On pn fs _ HR.out ln).mono ?_
        rintro e w8 ⟨rfl, hb⟩
        rw [ck_yes HKf.out]
        have HB := Lib.hid (bthen HB.out hb)
        have HV := Lib.hid (HV.out.call hb)
        have HI := Lib.hid (HI.out.call hb)
        have HR := Lib.hid (HR.out.call hb)
        clear hb
        have v0 := HV.out.cell 0 _ rfl
        have v1 := HV.out.cell 1 _ rfl
        have v2 := HV.out.cell 2 _ rfl
        have v3 := HV.out.cell 3 _ rfl
        go_wp2_with fail
        clear v0 v1 v2 v3
        refine (find_out O cap xs ev.a ev.p _ HI.out hcap).mono ?_
        rintro e w9 ⟨rfl, hb⟩
        rw [fndO_eq HK.out, show ((ev.a, 0, ev.p) : Int × Int × Int) = plT ev from rfl]
        have HB := Lib.hid (bthen HB.out hb)
        have HV := Lib.hid (HV.out.call hb)
        have HI := Lib.hid (HI.out.call hb)
        have HR := Lib.hid (HR.out.call hb)
        clear hb
        obtain ⟨oe, hoe⟩ : ∃ oe, fnd plT xs (plT ev) = oe := ⟨_, rfl⟩
        rw [hoe]
        obtain ⟨th, hth⟩ : ∃ th : Bool, oe.isSome = th := ⟨_, rfl⟩
        rw [hth]
        have HTH := Lib.hid (show th = (fnd plT xs (plT ev)).isSome from by rw [hoe, hth])
        generalize oe.getD zT = ze at *
        clear hoe hth
        have hq := ba (Below.refl _ w9) (.cells #[.int .i64 ze.a, .int .u64 ze.p, .int .i64 ze.f, .bool ze.ro] 25)
        have HQ := Lib.hid (Arr.new w9 #[.int .i64 ze.a, .int .u64 ze.p, .int .i64 ze.f, .bool ze.ro] 25)
        have HQs := Lib.hid (show w9.heap.size < (w9.alloc (.cells #[.int .i64 ze.a, .int .u64 ze.p, .int .i64 ze.f, .bool ze.ro] 25)).heap.size by simp)
        have HB := Lib.hid (bthen HB.out hq)
        have HV := Lib.hid (HV.out.call hq)
        have HI := Lib.hid (HI.out.call hq)
        have HR := Lib.hid (HR.out.call hq)
        clear hq
        obtain ⟨len, hlen⟩ : ∃ len, len = xs.length := ⟨_, rfl⟩
        rw [← hlen] at hcap h8 ⊢
        have HL := Lib.hid hlen
        clear hlen
        go_wp2_with fail
        generalize w9.heap.size = Y9 at *
        generalize w9.alloc (.cells #[.int .i64 ze.a, .int .u64 ze.p, .int .i64 ze.f, .bool ze.ro] 25) = W9 at *
        go_loopw [111] (fun i wr => ∃ j : Nat, i = .int .i64 j ∧ j ≤ len ∧ Below W9.heap.size W9 wr) (fun i _ => len - (intOf i).toNat)
        case atStart => exact ⟨0, rfl, by omega, Below.refl _ _⟩
        case round =>
          obtain ⟨j, rfl, hj, hBr⟩ := hrel
          by_cases hlt : j < len
          · obtain ⟨b, off, hO, hcell⟩ := (HI.out.call hBr) (by have := HL.out; omega)
            subst hO
            obtain ⟨x, hx⟩ : ∃ x, xs[j]? = some x := ⟨xs[j]'(by have := HL.out; omega), List.getElem?_eq_getElem _⟩
            obtain ⟨c0, c1, c2, c3⟩ := tb_cells hx hcell
            have HB1 := Lib.hid hBr
            have HX := Lib.hid hx
            have v0 := (HV.out.call hBr).cell 0 _ rfl
            have v1 := (HV.out.call hBr).cell 1 _ rfl
            have v2 := (HV.out.call hBr).cell 2 _ rfl
            have v3 := (HV.out.call hBr).cell 3 _ rfl
            have lV := (HV.out.call hBr).lt
            have HB2 := Lib.hid (ba hBr (.cells #[.int .i64 x.a, .int .u64 x.p, .int .i64 x.f, .bool x.ro] 25))
            have HX2 := Lib.hid (Arr.new wr #[.int .i64 x.a, .int .u64 x.p, .int .i64 x.f, .bool x.ro] 25)
            clear hcell hx hBr
            rcases ha : (x.a == ev.a) with _ | _
            · have hne : plT x ≠ plT ev := fun h => by simp [plT] at h; rw [h.1] at ha; simp at ha
              have HO := Lib.hid (HFO.out j x HX.out hne)
              clear hne
              go_wp2_with fail
              clear v0 v1 v2 v3 c0 c1 c2 c3 lV
              generalize wr.heap.size = Y2 at *
              generalize wr.alloc (.cells #[.int .i64 x.a, .int .u64 x.p, .int .i64 x.f, .bool x.ro] 25) = W10 at *
              have x0 := HX2.out.cell 0 _ rfl
              have x1 := HX2.out.cell 1 _ rfl
              have x2 := HX2.out.cell 2 _ rfl
              have x3 := HX2.out.cell 3 _ rfl
              go_wp2_with fail
              clear x0 x1 x2 x3
              refine (find_out On pn fs x.a x.p _ (HR.out.call HB2.out) ln).mono ?_
              rintro e w11 ⟨rfl, hb⟩
              rw [fndO_eq HKf.out, show ((x.a, 0, x.p) : Int × Int × Int) = plT x from rfl, HO.out]
              have HB3 := Lib.hid (bthen HB2.out hb)
              have HX3 := Lib.hid (HX2.out.call hb)
              clear hb HX2 HB2
              by_cases hg : j = 0 ∧ len = 8 ∧ th = false
              · obtain ⟨g1, g2, g3⟩ := hg
                subst g1 g2 g3
                rw [if_pos ⟨rfl, HL.out.symm, by have := HTH.out; cases hn : fnd plT xs (plT ev) with | none => rfl | some y => rw [hn] at this; cases this⟩]
                simp only [Option.getD_none, Option.isSome_none, zT]
                clear HO
                have HB4 := Lib.hid (ba HB3.out (.cells #[.int .i64 0, .int .u64 0, .int .i64 0, .bool false] 25))
                go_wp2_with fail
                go_roundw
                case rel => exact ⟨1, by go_num, by omega, HB4.out⟩
                case measure => simp [intOf]
              · rw [if_neg (fun h => hg ⟨h.1, HL.out.trans h.2.1, by rw [HTH.out, h.2.2]; rfl⟩)]
                simp only [Option.getD_some, Option.isSome_some]
                clear HO
                have hcs : (j ≠ 0) ∨ (j = 0 ∧ len ≠ 8) ∨ (j = 0 ∧ len = 8 ∧ th = true) := by
                  by_cases a1 : j = 0
                  · by_cases a2 : len = 8
                    · cases th
                      · exact absurd ⟨a1, a2, rfl⟩ hg
                      · exact Or.inr (Or.inr ⟨a1, a2, rfl⟩)
                    · exact Or.inr (Or.inl ⟨a1, a2⟩)
                  · exact Or.inl a1
                clear hg
                have HB4 := Lib.hid (ba HB3.out (.cells #[.int .i64 x.a, .int .u64 x.p, .int .i64 x.f, .bool x.ro] 25))
                have HX4 := Lib.hid (HX3.out.alloc (.cells #[.int .i64 x.a, .int .u64 x.p, .int .i64 x.f, .bool x.ro] 25))
                have HY4 := Lib.hid (Arr.new w11 #[.int .i64 x.a, .int .u64 x.p, .int .i64 x.f, .bool x.ro] 25)
                have hsz : Y2 < w11.heap.size := HX3.out.lt
                have x0 := HX4.out.cell 0 _ rfl
                have x1 := HX4.out.cell 1 _ rfl
                have x2 := HX4.out.cell 2 _ rfl
                have x3 := HX4.out.cell 3 _ rfl
                rcases hcs with g1 | ⟨g1, g2⟩ | ⟨g1, g2, g3⟩
                · have g1' : ((j : Int) == 0) = false := by simp; omega
                  go_wp2_with fail
                  go_roundw
                  case rel => exact ⟨j + 1, by go_num, by omega, HB4.out⟩
                  case measure => simp [intOf]; omega
                · subst g1
                  have g2' : ((len : Int) == 8) = false := by simp; omega
                  go_wp2_with fail
                  go_roundw
                  case rel => exact ⟨1, by go_num, by omega, HB4.out⟩
                  case measure => simp [intOf]; omega
                · subst g1 g2 g3
                  go_wp2_with fail
                  go_roundw
                  case rel => exact ⟨1, by go_num, by omega, HB4.out⟩
                  case measure => simp [intOf]
            · rcases hp : (x.p == ev.p) with _ | _
              · have hne : plT x ≠ plT ev := fun h => by simp [plT] at h; rw [h.2] at hp; simp at hp
                have HO := Lib.hid (HFO.out j x HX.out hne)
                clear hne
                go_wp2_with fail
                clear v0 v1 v2 v3 c0 c1 c2 c3 lV
                generalize wr.heap.size = Y2 at *
                generalize wr.alloc (.cells #[.int .i64 x.a, .int .u64 x.p, .int .i64 x.f, .bool x.ro] 25) = W10 at *
                have x0 := HX2.out.cell 0 _ rfl
                have x1 := HX2.out.cell 1 _ rfl
                have x2 := HX2.out.cell 2 _ rfl
                have x3 := HX2.out.cell 3 _ rfl
                go_wp2_with fail
                clear x0 x1 x2 x3
                refine (find_out On pn fs x.a x.p _ (HR.out.call HB2.out) ln).mono ?_
                rintro e w11 ⟨rfl, hb⟩
                rw [fndO_eq HKf.out, show ((x.a, 0, x.p) : Int × Int × Int) = plT x from rfl, HO.out]
                have HB3 := Lib.hid (bthen HB2.out hb)
                have HX3 := Lib.hid (HX2.out.call hb)
                clear hb HX2 HB2
                by_cases hg : j = 0 ∧ len = 8 ∧ th = false
                · obtain ⟨g1, g2, g3⟩ := hg
                  subst g1 g2 g3
                  rw [if_pos ⟨rfl, HL.out.symm, by have := HTH.out; cases hn : fnd plT xs (plT ev) with | none => rfl | some y => rw [hn] at this; cases this⟩]
                  simp only [Option.getD_none, Option.isSome_none, zT]
                  clear HO
                  have HB4 := Lib.hid (ba HB3.out (.cells #[.int .i64 0, .int .u64 0, .int .i64 0, .bool false] 25))
                  go_wp2_with fail
                  go_roundw
                  case rel => exact ⟨1, by go_num, by omega, HB4.out⟩
                  case measure => simp [intOf]
                · rw [if_neg (fun h => hg ⟨h.1, HL.out.trans h.2.1, by rw [HTH.out, h.2.2]; rfl⟩)]
                  simp only [Option.getD_some, Option.isSome_some]
                  clear HO
                  have hcs : (j ≠ 0) ∨ (j = 0 ∧ len ≠ 8) ∨ (j = 0 ∧ len = 8 ∧ th = true) := by
                    by_cases a1 : j = 0
                    · by_cases a2 : len = 8
                      · cases th
                        · exact absurd ⟨a1, a2, rfl⟩ hg
                        · exact Or.inr (Or.inr ⟨a1, a2, rfl⟩)
                      · exact Or.inr (Or.inl ⟨a1, a2⟩)
                    · exact Or.inl a1
                  clear hg
                  have HB4 := Lib.hid (ba HB3.out (.cells #[.int .i64 x.a, .int .u64 x.p, .int .i64 x.f, .bool x.ro] 25))
                  have HX4 := Lib.hid (HX3.out.alloc (.cells #[.int .i64 x.a, .int .u64 x.p, .int .i64 x.f, .bool x.ro] 25))
                  have HY4 := Lib.hid (Arr.new w11 #[.int .i64 x.a, .int .u64 x.p, .int .i64 x.f, .bool x.ro] 25)
                  have hsz : Y2 < w11.heap.size := HX3.out.lt
                  have x0 := HX4.out.cell 0 _ rfl
                  have x1 := HX4.out.cell 1 _ rfl
                  have x2 := HX4.out.cell 2 _ rfl
                  have x3 := HX4.out.cell 3 _ rfl
                  rcases hcs with g1 | ⟨g1, g2⟩ | ⟨g1, g2, g3⟩
                  · have g1' : ((j : Int) == 0) = false := by simp; omega
                    go_wp2_with fail
                    go_roundw
                    case rel => exact ⟨j + 1, by go_num, by omega, HB4.out⟩
                    case measure => simp [intOf]; omega
                  · subst g1
                    have g2' : ((len : Int) == 8) = false := by simp; omega
                    go_wp2_with fail
                    go_roundw
                    case rel => exact ⟨1, by go_num, by omega, HB4.out⟩
                    case measure => simp [intOf]; omega
                  · subst g1 g2 g3
                    go_wp2_with fail
                    go_roundw
                    case rel => exact ⟨1, by go_num, by omega, HB4.out⟩
                    case measure => simp [intOf]
              · go_wp2_with fail
                go_roundw
                case rel => exact ⟨j + 1, by go_num, by omega, HB2.out⟩
                case measure => simp [intOf]; omega
          · have HB := Lib.hid (bthen HB.out hBr)
            clear hBr
            go_wp2_with fail
            refine (wakes11_any _).mono ?_
            rintro e w99 ⟨rfl, hb⟩
            have HB := Lib.hid (bthen HB.out hb)
            clear hb
            go_wp2_with fail
            go_ret
            exact ⟨rfl, HB.out⟩
    · simp only [Option.getD_none, Option.getD_some, Option.isSome_none, Option.isSome_some, zT] at HX HXw HY ⊢
      have x0 := HXw.out.cell 0 _ rfl
      have x1 := HXw.out.cell 1 _ rfl
      have x2 := HXw.out.cell 2 _ rfl
      have x3 := HXw.out.cell 3 _ rfl
      have t0 := HTw.out.cell 0 _ rfl
      have t1 := HTw.out.cell 1 _ rfl
      have t2 := HTw.out.cell 2 _ rfl
      have lX := HXw.out.lt
      have lT := HTw.out.lt
      go_wp2_with fail
      refine (rhits_any tk ta tp x.a x.p x.f x.ro _).mono ?_
      rintro e w4 ⟨rfl, hb⟩
      rw [hh]
      clear x0 x1 x2 x3 t0 t1 t2 lX lT
      have HB := Lib.hid (bthen HB.out hb)
      have HV := Lib.hid (HV.out.call hb)
      have HT := Lib.hid (HT.out.call hb)
      have HI := Lib.hid (HI.out.call hb)
      have HX := Lib.hid (HX.out.call hb)
      have HY := Lib.hid (HY.out.call hb)
      have HRm := Lib.hid (HRm.out.call hb)
      clear hb
      have x0 := HX.out.cell 0 _ rfl
      have x1 := HX.out.cell 1 _ rfl
      have x2 := HX.out.cell 2 _ rfl
      have x3 := HX.out.cell 3 _ rfl
      have y0 := HY.out.cell 0 _ rfl
      have y1 := HY.out.cell 1 _ rfl
      have y2 := HY.out.cell 2 _ rfl
      have y3 := HY.out.cell 3 _ rfl
      go_wp2_with fail
      refine (checkT_out Om pm ms _ HRm.out lm).mono ?_
      rintro e w5 ⟨rfl, hb⟩
      rw [EM.out]
      have HB := Lib.hid (bthen HB.out hb)
      have HV := Lib.hid (HV.out.call hb)
      have HI := Lib.hid (HI.out.call hb)
      clear hb
      clear x0 x1 x2 x3 y0 y1 y2 y3 HX HY HT HRm HXw HTw
      have v0 := HV.out.cell 0 _ rfl
      have v1 := HV.out.cell 1 _ rfl
      have v2 := HV.out.cell 2 _ rfl
      have v3 := HV.out.cell 3 _ rfl
      go_wp2_with fail
      clear v0 v1 v2 v3
      refine (fillT_out O cap xs ev _ HI.out hcap).mono ?_
      rintro e w6 ⟨v, rfl, hO, hb⟩
      have HB := Lib.hid (bthen HB.out hb)
      have HV := Lib.hid (HV.out.call hb)
      have HI := Lib.hid (HI.out.call hb)
      clear hb
      rcases hm : mayT ev with _ | _
      · rw [show filE mayT plT 8 xs ev = 2 from if_neg (fun h => by rw [hm] at h; exact Bool.noConfusion h.2)]
        clear hO hm
        go_wp2_with fail
        refine (wakes11_any _).mono ?_
        rintro e w99 ⟨rfl, hb⟩
        have HB := Lib.hid (bthen HB.out hb)
        clear hb
        go_wp2_with fail
        go_ret
        exact ⟨rfl, HB.out⟩
      · rw [show filE mayT plT 8 xs ev = 0 from if_pos ⟨HK.out, hm⟩]
        have HKf := Lib.hid (Ck.fill (by decide) HK.out hm).1
        have HMf := Lib.hid (Ck.fill (by decide) HK.out hm).2
        have HFO := Lib.hid (fun (i : Nat) (o : Tb) (h1 : xs[i]? = some o) (h2 : plT o ≠ plT ev) => fill_other (by decide) HK.out hm h1 h2)
        generalize filL mayT plT 8 xs ev = fs at *
        obtain ⟨On, pn, rfl, ln, mn, rn⟩ := hO.form encT_len
        have HR := Lib.hid rn
        clear hO hm rn mn
        have v0 := HV.out.cell 0 _ rfl
        have v1 := HV.out.cell 1 _ rfl
        have v2 := HV.out.cell 2 _ rfl
        have v3 := HV.out.cell 3 _ rfl
        go_wp2_with fail
        clear v0 v1 v2 v3
        refine (find_out On pn fs ev.a ev.p _ HR.out ln).mono ?_
        rintro e w7 ⟨rfl, hb⟩
        rw [fndO_eq HKf.out, show ((ev.a, 0, ev.p) : Int × Int × Int) = plT ev from rfl, fnd_mem (ck_iff.1 HKf.out).2.2 HMf.out]
        simp only [Option.getD_some, Option.isSome_some]
        have HB := Lib.hid (bthen HB.out hb)
        have HV := Lib.hid (HV.out.call hb)
        have HI := Lib.hid (HI.out.call hb)
        have HR := Lib.hid (HR.out.call hb)
        clear hb
        have hq := ba (Below.refl _ w7) (.cells #[.int .i64 ev.a, .int .u64 ev.p, .int .i64 ev.f, .bool ev.ro] 25)
        have HZ := Lib.hid (Arr.new w7 #[.int .i64 ev.a, .int .u64 ev.p, .int .i64 ev.f, .bool ev.ro] 25)
        have HZs := Lib.hid (show w7.heap.size < (w7.alloc (.cells #[.int .i64 ev.a, .int .u64 ev.p, .int .i64 ev.f, .bool ev.ro] 25)).heap.size by simp)
        have HB := Lib.hid (bthen HB.out hq)
        have HV := Lib.hid (HV.out.call hq)
        have HI := Lib.hid (HI.out.call hq)
        have HR := Lib.hid (HR.out.call hq)
        clear hq
        have v0 := HV.out.cell 0 _ rfl
        have v1 := HV.out.cell 1 _ rfl
        have v2 := HV.out.cell 2 _ rfl
        have v3 := HV.out.cell 3 _ rfl
        have z0 := HZ.out.cell 0 _ rfl
        have z1 := HZ.out.cell 1 _ rfl
        have z2 := HZ.out.cell 2 _ rfl
        have z3 := HZ.out.cell 3 _ rfl
        go_wp2_with fail
        clear v0 v1 v2 v3 z0 z1 z2 z3
        generalize w7.heap.size = Y7 at *
        generalize w7.alloc (.cells #[.int .i64 ev.a, .int .u64 ev.p, .int .i64 ev.f, .bool ev.ro] 25) = W7 at *
        refine (checkT_out On pn fs _ HR.out ln).mono ?_
        rintro e w8 ⟨rfl, hb⟩
        rw [ck_yes HKf.out]
        have HB := Lib.hid (bthen HB.out hb)
        have HV := Lib.hid (HV.out.call hb)
        have HI := Lib.hid (HI.out.call hb)
        have HR := Lib.hid (HR.out.call hb)
        clear hb
        have v0 := HV.out.cell 0 _ rfl
        have v1 := HV.out.cell 1 _ rfl
        have v2 := HV.out.cell 2 _ rfl
        have v3 := HV.out.cell 3 _ rfl
        go_wp2_with fail
        clear v0 v1 v2 v3
        refine (find_out O cap xs ev.a ev.p _ HI.out hcap).mono ?_
        rintro e w9 ⟨rfl, hb⟩
        rw [fndO_eq HK.out, show ((ev.a, 0, ev.p) : Int × Int × Int) = plT ev from rfl]
        have HB := Lib.hid (bthen HB.out hb)
        have HV := Lib.hid (HV.out.call hb)
        have HI := Lib.hid (HI.out.call hb)
        have HR := Lib.hid (HR.out.call hb)
        clear hb
        obtain ⟨oe, hoe⟩ : ∃ oe, fnd plT xs (plT ev) = oe := ⟨_, rfl⟩
        rw [hoe]
        obtain ⟨th, hth⟩ : ∃ th : Bool, oe.isSome = th := ⟨_, rfl⟩
        rw [hth]
        have HTH := Lib.hid (show th = (fnd plT xs (plT ev)).isSome from by rw [hoe, hth])
        generalize oe.getD zT = ze at *
        clear hoe hth
        have hq := ba (Below.refl _ w9) (.cells #[.int .i64 ze.a, .int .u64 ze.p, .int .i64 ze.f, .bool ze.ro] 25)
        have HQ := Lib.hid (Arr.new w9 #[.int .i64 ze.a, .int .u64 ze.p, .int .i64 ze.f, .bool ze.ro] 25)
        have HQs := Lib.hid (show w9.heap.size < (w9.alloc (.cells #[.int .i64 ze.a, .int .u64 ze.p, .int .i64 ze.f, .bool ze.ro] 25)).heap.size by simp)
        have HB := Lib.hid (bthen HB.out hq)
        have HV := Lib.hid (HV.out.call hq)
        have HI := Lib.hid (HI.out.call hq)
        have HR := Lib.hid (HR.out.call hq)
        clear hq
        obtain ⟨len, hlen⟩ : ∃ len, len = xs.length := ⟨_, rfl⟩
        rw [← hlen] at hcap h8 ⊢
        have HL := Lib.hid hlen
        clear hlen
        go_wp2_with fail
        generalize w9.heap.size = Y9 at *
        generalize w9.alloc (.cells #[.int .i64 ze.a, .int .u64 ze.p, .int .i64 ze.f, .bool ze.ro] 25) = W9 at *
        go_loopw [111] (fun i wr => ∃ j : Nat, i = .int .i64 j ∧ j ≤ len ∧ Below W9.heap.size W9 wr) (fun i _ => len - (intOf i).toNat)
        case atStart => exact ⟨0, rfl, by omega, Below.refl _ _⟩
        case round =>
          obtain ⟨j, rfl, hj, hBr⟩ := hrel
          by_cases hlt : j < len
          · obtain ⟨b, off, hO, hcell⟩ := (HI.out.call hBr) (by have := HL.out; omega)
            subst hO
            obtain ⟨x, hx⟩ : ∃ x, xs[j]? = some x := ⟨xs[j]'(by have := HL.out; omega), List.getElem?_eq_getElem _⟩
            obtain ⟨c0, c1, c2, c3⟩ := tb_cells hx hcell
            have HB1 := Lib.hid hBr
            have HX := Lib.hid hx
            have v0 := (HV.out.call hBr).cell 0 _ rfl
            have v1 := (HV.out.call hBr).cell 1 _ rfl
            have v2 := (HV.out.call hBr).cell 2 _ rfl
            have v3 := (HV.out.call hBr).cell 3 _ rfl
            have lV := (HV.out.call hBr).lt
            have HB2 := Lib.hid (ba hBr (.cells #[.int .i64 x.a, .int .u64 x.p, .int .i64 x.f, .bool x.ro] 25))
            have HX2 := Lib.hid (Arr.new wr #[.int .i64 x.a, .int .u64 x.p, .int .i64 x.f, .bool x.ro] 25)
            clear hcell hx hBr
            rcases ha : (x.a == ev.a) with _ | _
            · have hne : plT x ≠ plT ev := fun h => by simp [plT] at h; rw [h.1] at ha; simp at ha
              have HO := Lib.hid (HFO.out j x HX.out hne)
              clear hne
              go_wp2_with fail
              clear v0 v1 v2 v3 c0 c1 c2 c3 lV
              generalize wr.heap.size = Y2 at *
              generalize wr.alloc (.cells #[.int .i64 x.a, .int .u64 x.p, .int .i64 x.f, .bool x.ro] 25) = W10 at *
              have x0 := HX2.out.cell 0 _ rfl
              have x1 := HX2.out.cell 1 _ rfl
              have x2 := HX2.out.cell 2 _ rfl
              have x3 := HX2.out.cell 3 _ rfl
              go_wp2_with fail
              clear x0 x1 x2 x3
              refine (find_out On pn fs x.a x.p _ (HR.out.call HB2.out) ln).mono ?_
              rintro e w11 ⟨rfl, hb⟩
              rw [fndO_eq HKf.out, show ((x.a, 0, x.p) : Int × Int × Int) = plT x from rfl, HO.out]
              have HB3 := Lib.hid (bthen HB2.out hb)
              have HX3 := Lib.hid (HX2.out.call hb)
              clear hb HX2 HB2
              by_cases hg : j = 0 ∧ len = 8 ∧ th = false
              · obtain ⟨g1, g2, g3⟩ := hg
                subst g1 g2 g3
                rw [if_pos ⟨rfl, HL.out.symm, by have := HTH.out; cases hn : fnd plT xs (plT ev) with | none => rfl | some y => rw [hn] at this; cases this⟩]
                simp only [Option.getD_none, Option.isSome_none, zT]
                clear HO
                have HB4 := Lib.hid (ba HB3.out (.cells #[.int .i64 0, .int .u64 0, .int .i64 0, .bool false] 25))
                go_wp2_with fail
                go_roundw
                case rel => exact ⟨1, by go_num, by omega, HB4.out⟩
                case measure => simp [intOf]
              · rw [if_neg (fun h => hg ⟨h.1, HL.out.trans h.2.1, by rw [HTH.out, h.2.2]; rfl⟩)]
                simp only [Option.getD_some, Option.isSome_some]
                clear HO
                have hcs : (j ≠ 0) ∨ (j = 0 ∧ len ≠ 8) ∨ (j = 0 ∧ len = 8 ∧ th = true) := by
                  by_cases a1 : j = 0
                  · by_cases a2 : len = 8
                    · cases th
                      · exact absurd ⟨a1, a2, rfl⟩ hg
                      · exact Or.inr (Or.inr ⟨a1, a2, rfl⟩)
                    · exact Or.inr (Or.inl ⟨a1, a2⟩)
                  · exact Or.inl a1
                clear hg
                have HB4 := Lib.hid (ba HB3.out (.cells #[.int .i64 x.a, .int .u64 x.p, .int .i64 x.f, .bool x.ro] 25))
                have HX4 := Lib.hid (HX3.out.alloc (.cells #[.int .i64 x.a, .int .u64 x.p, .int .i64 x.f, .bool x.ro] 25))
                have HY4 := Lib.hid (Arr.new w11 #[.int .i64 x.a, .int .u64 x.p, .int .i64 x.f, .bool x.ro] 25)
                have hsz : Y2 < w11.heap.size := HX3.out.lt
                have x0 := HX4.out.cell 0 _ rfl
                have x1 := HX4.out.cell 1 _ rfl
                have x2 := HX4.out.cell 2 _ rfl
                have x3 := HX4.out.cell 3 _ rfl
                rcases hcs with g1 | ⟨g1, g2⟩ | ⟨g1, g2, g3⟩
                · have g1' : ((j : Int) == 0) = false := by simp; omega
                  go_wp2_with fail
                  go_roundw
                  case rel => exact ⟨j + 1, by go_num, by omega, HB4.out⟩
                  case measure => simp [intOf]; omega
                · subst g1
                  have g2' : ((len : Int) == 8) = false := by simp; omega
                  go_wp2_with fail
                  go_roundw
                  case rel => exact ⟨1, by go_num, by omega, HB4.out⟩
                  case measure => simp [intOf]; omega
                · subst g1 g2 g3
                  go_wp2_with fail
                  go_roundw
                  case rel => exact ⟨1, by go_num, by omega, HB4.out⟩
                  case measure => simp [intOf]
            · rcases hp : (x.p == ev.p) with _ | _
              · have hne : plT x ≠ plT ev := fun h => by simp [plT] at h; rw [h.2] at hp; simp at hp
                have HO := Lib.hid (HFO.out j x HX.out hne)
                clear hne
                go_wp2_with fail
                clear v0 v1 v2 v3 c0 c1 c2 c3 lV
                generalize wr.heap.size = Y2 at *
                generalize wr.alloc (.cells #[.int .i64 x.a, .int .u64 x.p, .int .i64 x.f, .bool x.ro] 25) = W10 at *
                have x0 := HX2.out.cell 0 _ rfl
                have x1 := HX2.out.cell 1 _ rfl
                have x2 := HX2.out.cell 2 _ rfl
                have x3 := HX2.out.cell 3 _ rfl
                go_wp2_with fail
                clear x0 x1 x2 x3
                refine (find_out On pn fs x.a x.p _ (HR.out.call HB2.out) ln).mono ?_
                rintro e w11 ⟨rfl, hb⟩
                rw [fndO_eq HKf.out, show ((x.a, 0, x.p) : Int × Int × Int) = plT x from rfl, HO.out]
                have HB3 := Lib.hid (bthen HB2.out hb)
                have HX3 := Lib.hid (HX2.out.call hb)
                clear hb HX2 HB2
                by_cases hg : j = 0 ∧ len = 8 ∧ th = false
                · obtain ⟨g1, g2, g3⟩ := hg
                  subst g1 g2 g3
                  rw [if_pos ⟨rfl, HL.out.symm, by have := HTH.out; cases hn : fnd plT xs (plT ev) with | none => rfl | some y => rw [hn] at this; cases this⟩]
                  simp only [Option.getD_none, Option.isSome_none, zT]
                  clear HO
                  have HB4 := Lib.hid (ba HB3.out (.cells #[.int .i64 0, .int .u64 0, .int .i64 0, .bool false] 25))
                  go_wp2_with fail
                  go_roundw
                  case rel => exact ⟨1, by go_num, by omega, HB4.out⟩
                  case measure => simp [intOf]
                · rw [if_neg (fun h => hg ⟨h.1, HL.out.trans h.2.1, by rw [HTH.out, h.2.2]; rfl⟩)]
                  simp only [Option.getD_some, Option.isSome_some]
                  clear HO
                  have hcs : (j ≠ 0) ∨ (j = 0 ∧ len ≠ 8) ∨ (j = 0 ∧ len = 8 ∧ th = true) := by
                    by_cases a1 : j = 0
                    · by_cases a2 : len = 8
                      · cases th
                        · exact absurd ⟨a1, a2, rfl⟩ hg
                        · exact Or.inr (Or.inr ⟨a1, a2, rfl⟩)
                      · exact Or.inr (Or.inl ⟨a1, a2⟩)
                    · exact Or.inl a1
                  clear hg
                  have HB4 := Lib.hid (ba HB3.out (.cells #[.int .i64 x.a, .int .u64 x.p, .int .i64 x.f, .bool x.ro] 25))
                  have HX4 := Lib.hid (HX3.out.alloc (.cells #[.int .i64 x.a, .int .u64 x.p, .int .i64 x.f, .bool x.ro] 25))
                  have HY4 := Lib.hid (Arr.new w11 #[.int .i64 x.a, .int .u64 x.p, .int .i64 x.f, .bool x.ro] 25)
                  have hsz : Y2 < w11.heap.size := HX3.out.lt
                  have x0 := HX4.out.cell 0 _ rfl
                  have x1 := HX4.out.cell 1 _ rfl
                  have x2 := HX4.out.cell 2 _ rfl
                  have x3 := HX4.out.cell 3 _ rfl
                  rcases hcs with g1 | ⟨g1, g2⟩ | ⟨g1, g2, g3⟩
                  · have g1' : ((j : Int) == 0) = false := by simp; omega
                    go_wp2_with fail
                    go_roundw
                    case rel => exact ⟨j + 1, by go_num, by omega, HB4.out⟩
                    case measure => simp [intOf]; omega
                  · subst g1
                    have g2' : ((len : Int) == 8) = false := by simp; omega
                    go_wp2_with fail
                    go_roundw
                    case rel => exact ⟨1, by go_num, by omega, HB4.out⟩
                    case measure => simp [intOf]; omega
                  · subst g1 g2 g3
                    go_wp2_with fail
                    go_roundw
                    case rel => exact ⟨1, by go_num, by omega, HB4.out⟩
                    case measure => simp [intOf]
              · go_wp2_with fail
                go_roundw
                case rel => exact ⟨j + 1, by go_num, by omega, HB2.out⟩
                case measure => simp [intOf]; omega
          · have HB := Lib.hid (bthen HB.out hBr)
            clear hBr
            go_wp2_with fail
            refine (wakes11_any _).mono ?_
            rintro e w99 ⟨rfl, hb⟩
            have HB := Lib.hid (bthen HB.out hb)
            clear hb
            go_wp2_with fail
            go_ret
            exact ⟨rfl, HB.out⟩
    · simp only [Option.getD_none, Option.getD_some, Option.isSome_none, Option.isSome_some, zT] at HX HXw HY ⊢
      have x0 := HXw.out.cell 0 _ rfl
      have x1 := HXw.out.cell 1 _ rfl
      have x2 := HXw.out.cell 2 _ rfl
      have x3 := HXw.out.cell 3 _ rfl
      have t0 := HTw.out.cell 0 _ rfl
      have t1 := HTw.out.cell 1 _ rfl
      have t2 := HTw.out.cell 2 _ rfl
      have lX := HXw.out.lt
      have lT := HTw.out.lt
      go_wp2_with fail
      refine (rhits_any tk ta tp x.a x.p x.f x.ro _).mono ?_
      rintro e w4 ⟨rfl, hb⟩
      rw [hh]
      clear x0 x1 x2 x3 t0 t1 t2 lX lT
      have HB := Lib.hid (bthen HB.out hb)
      have HV := Lib.hid (HV.out.call hb)
      have HT := Lib.hid (HT.out.call hb)
      have HI := Lib.hid (HI.out.call hb)
      have HX := Lib.hid (HX.out.call hb)
      have HY := Lib.hid (HY.out.call hb)
      have HRm := Lib.hid (HRm.out.call hb)
      clear hb
      have x0 := HX.out.cell 0 _ rfl
      have x1 := HX.out.cell 1 _ rfl
      have x2 := HX.out.cell 2 _ rfl
      have x3 := HX.out.cell 3 _ rfl
      have y0 := HY.out.cell 0 _ rfl
      have y1 := HY.out.cell 1 _ rfl
      have y2 := HY.out.cell 2 _ rfl
      have y3 := HY.out.cell 3 _ rfl
      go_wp2_with fail
      refine (checkT_out Om pm ms _ HRm.out lm).mono ?_
      rintro e w5 ⟨rfl, hb⟩
      rw [EM.out]
      have HB := Lib.hid (bthen HB.out hb)
      have HV := Lib.hid (HV.out.call hb)
      have HI := Lib.hid (HI.out.call hb)
      clear hb
      clear x0 x1 x2 x3 y0 y1 y2 y3 HX HY HT HRm HXw HTw
      have v0 := HV.out.cell 0 _ rfl
      have v1 := HV.out.cell 1 _ rfl
      have v2 := HV.out.cell 2 _ rfl
      have v3 := HV.out.cell 3 _ rfl
      go_wp2_with fail
      clear v0 v1 v2 v3
      refine (fillT_out O cap xs ev _ HI.out hcap).mono ?_
      rintro e w6 ⟨v, rfl, hO, hb⟩
      have HB := Lib.hid (bthen HB.out hb)
      have HV := Lib.hid (HV.out.call hb)
      have HI := Lib.hid (HI.out.call hb)
      clear hb
      rcases hm : mayT ev with _ | _
      · rw [show filE mayT plT 8 xs ev = 2 from if_neg (fun h => by rw [hm] at h; exact Bool.noConfusion h.2)]
        clear hO hm
        go_wp2_with fail
        refine (wakes11_any _).mono ?_
        rintro e w99 ⟨rfl, hb⟩
        have HB := Lib.hid (bthen HB.out hb)
        clear hb
        go_wp2_with fail
        go_ret
        exact ⟨rfl, HB.out⟩
      · rw [show filE mayT plT 8 xs ev = 0 from if_pos ⟨HK.out, hm⟩]
        have HKf := Lib.hid (Ck.fill (by decide) HK.out hm).1
        have HMf := Lib.hid (Ck.fill (by decide) HK.out hm).2
        have HFO := Lib.hid (fun (i : Nat) (o : Tb) (h1 : xs[i]? = some o) (h2 : plT o ≠ plT ev) => fill_other (by decide) HK.out hm h1 h2)
        generalize filL mayT plT 8 xs ev = fs at *
        obtain ⟨On, pn, rfl, ln, mn, rn⟩ := hO.form encT_len
        have HR := Lib.hid rn
        clear hO hm rn mn
        have v0 := HV.out.cell 0 _ rfl
        have v1 := HV.out.cell 1 _ rfl
        have v2 := HV.out.cell 2 _ rfl
        have v3 := HV.out.cell 3 _ rfl
        go_wp2_with fail
        clear v0 v1 v2 v3
        refine (find_out On pn fs ev.a ev.p _ HR.out ln).mono ?_
        rintro e w7 ⟨rfl, hb⟩
        rw [fndO_eq HKf.out, show ((ev.a, 0, ev.p) : Int × Int × Int) = plT ev from rfl, fnd_mem (ck_iff.1 HKf.out).2.2 HMf.out]
        simp only [Option.getD_some, Option.isSome_some]
        have HB := Lib.hid (bthen HB.out hb)
        have HV := Lib.hid (HV.out.call hb)
        have HI := Lib.hid (HI.out.call hb)
        have HR := Lib.hid (HR.out.call hb)
        clear hb
        have hq := ba (Below.refl _ w7) (.cells #[.int .i64 ev.a, .int .u64 ev.p, .int .i64 ev.f, .bool ev.ro] 25)
        have HZ := Lib.hid (Arr.new w7 #[.int .i64 ev.a, .int .u64 ev.p, .int .i64 ev.f, .bool ev.ro] 25)
        have HZs := Lib.hid (show w7.heap.size < (w7.alloc (.cells #[.int .i64 ev.a, .int .u64 ev.p, .int .i64 ev.f, .bool ev.ro] 25)).heap.size by simp)
        have HB := Lib.hid (bthen HB.out hq)
        have HV := Lib.hid (HV.out.call hq)
        have HI := Lib.hid (HI.out.call hq)
        have HR := Lib.hid (HR.out.call hq)
        clear hq
        have v0 := HV.out.cell 0 _ rfl
        have v1 := HV.out.cell 1 _ rfl
        have v2 := HV.out.cell 2 _ rfl
        have v3 := HV.out.cell 3 _ rfl
        have z0 := HZ.out.cell 0 _ rfl
        have z1 := HZ.out.cell 1 _ rfl
        have z2 := HZ.out.cell 2 _ rfl
        have z3 := HZ.out.cell 3 _ rfl
        go_wp2_with fail
        clear v0 v1 v2 v3 z0 z1 z2 z3
        generalize w7.heap.size = Y7 at *
        generalize w7.alloc (.cells #[.int .i64 ev.a, .int .u64 ev.p, .int .i64 ev.f, .bool ev.ro] 25) = W7 at *
        refine (checkT_out On pn fs _ HR.out ln).mono ?_
        rintro e w8 ⟨rfl, hb⟩
        rw [ck_yes HKf.out]
        have HB := Lib.hid (bthen HB.out hb)
        have HV := Lib.hid (HV.out.call hb)
        have HI := Lib.hid (HI.out.call hb)
        have HR := Lib.hid (HR.out.call hb)
        clear hb
        have v0 := HV.out.cell 0 _ rfl
        have v1 := HV.out.cell 1 _ rfl
        have v2 := HV.out.cell 2 _ rfl
        have v3 := HV.out.cell 3 _ rfl
        go_wp2_with fail
        clear v0 v1 v2 v3
        refine (find_out O cap xs ev.a ev.p _ HI.out hcap).mono ?_
        rintro e w9 ⟨rfl, hb⟩
        rw [fndO_eq HK.out, show ((ev.a, 0, ev.p) : Int × Int × Int) = plT ev from rfl]
        have HB := Lib.hid (bthen HB.out hb)
        have HV := Lib.hid (HV.out.call hb)
        have HI := Lib.hid (HI.out.call hb)
        have HR := Lib.hid (HR.out.call hb)
        clear hb
        obtain ⟨oe, hoe⟩ : ∃ oe, fnd plT xs (plT ev) = oe := ⟨_, rfl⟩
        rw [hoe]
        obtain ⟨th, hth⟩ : ∃ th : Bool, oe.isSome = th := ⟨_, rfl⟩
        rw [hth]
        have HTH := Lib.hid (show th = (fnd plT xs (plT ev)).isSome from by rw [hoe, hth])
        generalize oe.getD zT = ze at *
        clear hoe hth
        have hq := ba (Below.refl _ w9) (.cells #[.int .i64 ze.a, .int .u64 ze.p, .int .i64 ze.f, .bool ze.ro] 25)
        have HQ := Lib.hid (Arr.new w9 #[.int .i64 ze.a, .int .u64 ze.p, .int .i64 ze.f, .bool ze.ro] 25)
        have HQs := Lib.hid (show w9.heap.size < (w9.alloc (.cells #[.int .i64 ze.a, .int .u64 ze.p, .int .i64 ze.f, .bool ze.ro] 25)).heap.size by simp)
        have HB := Lib.hid (bthen HB.out hq)
        have HV := Lib.hid (HV.out.call hq)
        have HI := Lib.hid (HI.out.call hq)
        have HR := Lib.hid (HR.out.call hq)
        clear hq
        obtain ⟨len, hlen⟩ : ∃ len, len = xs.length := ⟨_, rfl⟩
        rw [← hlen] at hcap h8 ⊢
        have HL := Lib.hid hlen
        clear hlen
        go_wp2_with fail
        generalize w9.heap.size = Y9 at *
        generalize w9.alloc (.cells #[.int .i64 ze.a, .int .u64 ze.p, .int .i64 ze.f, .bool ze.ro] 25) = W9 at *
        go_loopw [111] (fun i wr => ∃ j : Nat, i = .int .i64 j ∧ j ≤ len ∧ Below W9.heap.size W9 wr) (fun i _ => len - (intOf i).toNat)
        case atStart => exact ⟨0, rfl, by omega, Below.refl _ _⟩
        case round =>
          obtain ⟨j, rfl, hj, hBr⟩ := hrel
          by_cases hlt : j < len
          · obtain ⟨b, off, hO, hcell⟩ := (HI.out.call hBr) (by have := HL.out; omega)
            subst hO
            obtain ⟨x, hx⟩ : ∃ x, xs[j]? = some x := ⟨xs[j]'(by have := HL.out; omega), List.getElem?_eq_getElem _⟩
            obtain ⟨c0, c1, c2, c3⟩ := tb_cells hx hcell
            have HB1 := Lib.hid hBr
            have HX := Lib.hid hx
            have v0 := (HV.out.call hBr).cell 0 _ rfl
            have v1 := (HV.out.call hBr).cell 1 _ rfl
            have v2 := (HV.out.call hBr).cell 2 _ rfl
            have v3 := (HV.out.call hBr).cell 3 _ rfl
            have lV := (HV.out.call hBr).lt
            have HB2 := Lib.hid (ba hBr (.cells #[.int .i64 x.a, .int .u64 x.p, .int .i64 x.f, .bool x.ro] 25))
            have HX2 := Lib.hid (Arr.new wr #[.int .i64 x.a, .int .u64 x.p, .int .i64 x.f, .bool x.ro] 25)
            clear hcell hx hBr
            rcases ha : (x.a == ev.a) with _ | _
            · have hne : plT x ≠ plT ev := fun h => by simp [plT] at h; rw [h.1] at ha; simp at ha
              have HO := Lib.hid (HFO.out j x HX.out hne)
              clear hne
              go_wp2_with fail
              clear v0 v1 v2 v3 c0 c1 c2 c3 lV
              generalize wr.heap.size = Y2 at *
              generalize wr.alloc (.cells #[.int .i64 x.a, .int .u64 x.p, .int .i64 x.f, .bool x.ro] 25) = W10 at *
              have x0 := HX2.out.cell 0 _ rfl
              have x1 := HX2.out.cell 1 _ rfl
              have x2 := HX2.out.cell 2 _ rfl
              have x3 := HX2.out.cell 3 _ rfl
              go_wp2_with fail
              clear x0 x1 x2 x3
              refine (find_out On pn fs x.a x.p _ (HR.out.call HB2.out) ln).mono ?_
              rintro e w11 ⟨rfl, hb⟩
              rw [fndO_eq HKf.out, show ((x.a, 0, x.p) : Int × Int × Int) = plT x from rfl, HO.out]
              have HB3 := Lib.hid (bthen HB2.out hb)
              have HX3 := Lib.hid (HX2.out.call hb)
              clear hb HX2 HB2
              by_cases hg : j = 0 ∧ len = 8 ∧ th = false
              · obtain ⟨g1, g2, g3⟩ := hg
                subst g1 g2 g3
                rw [if_pos ⟨rfl, HL.out.symm, by have := HTH.out; cases hn : fnd plT xs (plT ev) with | none => rfl | some y => rw [hn] at this; cases this⟩]
                simp only [Option.getD_none, Option.isSome_none, zT]
                clear HO
                have HB4 := Lib.hid (ba HB3.out (.cells #[.int .i64 0, .int .u64 0, .int .i64 0, .bool false] 25))
                go_wp2_with fail
                go_roundw
                case rel => exact ⟨1, by go_num, by omega, HB4.out⟩
                case measure => simp [intOf]
              · rw [if_neg (fun h => hg ⟨h.1, HL.out.trans h.2.1, by rw [HTH.out, h.2.2]; rfl⟩)]
                simp only [Option.getD_some, Option.isSome_some]
                clear HO
                have hcs : (j ≠ 0) ∨ (j = 0 ∧ len ≠ 8) ∨ (j = 0 ∧ len = 8 ∧ th = true) := by
                  by_cases a1 : j = 0
                  · by_cases a2 : len = 8
                    · cases th
                      · exact absurd ⟨a1, a2, rfl⟩ hg
                      · exact Or.inr (Or.inr ⟨a1, a2, rfl⟩)
                    · exact Or.inr (Or.inl ⟨a1, a2⟩)
                  · exact Or.inl a1
                clear hg
                have HB4 := Lib.hid (ba HB3.out (.cells #[.int .i64 x.a, .int .u64 x.p, .int .i64 x.f, .bool x.ro] 25))
                have HX4 := Lib.hid (HX3.out.alloc (.cells #[.int .i64 x.a, .int .u64 x.p, .int .i64 x.f, .bool x.ro] 25))
                have HY4 := Lib.hid (Arr.new w11 #[.int .i64 x.a, .int .u64 x.p, .int .i64 x.f, .bool x.ro] 25)
                have hsz : Y2 < w11.heap.size := HX3.out.lt
                have x0 := HX4.out.cell 0 _ rfl
                have x1 := HX4.out.cell 1 _ rfl
                have x2 := HX4.out.cell 2 _ rfl
                have x3 := HX4.out.cell 3 _ rfl
                rcases hcs with g1 | ⟨g1, g2⟩ | ⟨g1, g2, g3⟩
                · have g1' : ((j : Int) == 0) = false := by simp; omega
                  go_wp2_with fail
                  go_roundw
                  case rel => exact ⟨j + 1, by go_num, by omega, HB4.out⟩
                  case measure => simp [intOf]; omega
                · subst g1
                  have g2' : ((len : Int) == 8) = false := by simp; omega
                  go_wp2_with fail
                  go_roundw
                  case rel => exact ⟨1, by go_num, by omega, HB4.out⟩
                  case measure => simp [intOf]; omega
                · subst g1 g2 g3
                  go_wp2_with fail
                  go_roundw
                  case rel => exact ⟨1, by go_num, by omega, HB4.out⟩
                  case measure => simp [intOf]
            · rcases hp : (x.p == ev.p) with _ | _
              · have hne : plT x ≠ plT ev := fun h => by simp [plT] at h; rw [h.2] at hp; simp at hp
                have HO := Lib.hid (HFO.out j x HX.out hne)
                clear hne
                go_wp2_with fail
                clear v0 v1 v2 v3 c0 c1 c2 c3 lV
                generalize wr.heap.size = Y2 at *
                generalize wr.alloc (.cells #[.int .i64 x.a, .int .u64 x.p, .int .i64 x.f, .bool x.ro] 25) = W10 at *
                have x0 := HX2.out.cell 0 _ rfl
                have x1 := HX2.out.cell 1 _ rfl
                have x2 := HX2.out.cell 2 _ rfl
                have x3 := HX2.out.cell 3 _ rfl
                go_wp2_with fail
                clear x0 x1 x2 x3
                refine (find_out On pn fs x.a x.p _ (HR.out.call HB2.out) ln).mono ?_
                rintro e w11 ⟨rfl, hb⟩
                rw [fndO_eq HKf.out, show ((x.a, 0, x.p) : Int × Int × Int) = plT x from rfl, HO.out]
                have HB3 := Lib.hid (bthen HB2.out hb)
                have HX3 := Lib.hid (HX2.out.call hb)
                clear hb HX2 HB2
                by_cases hg : j = 0 ∧ len = 8 ∧ th = false
                · obtain ⟨g1, g2, g3⟩ := hg
                  subst g1 g2 g3
                  rw [if_pos ⟨rfl, HL.out.symm, by have := HTH.out; cases hn : fnd plT xs (plT ev) with | none => rfl | some y => rw [hn] at this; cases this⟩]
                  simp only [Option.getD_none, Option.isSome_none, zT]
                  clear HO
                  have HB4 := Lib.hid (ba HB3.out (.cells #[.int .i64 0, .int .u64 0, .int .i64 0, .bool false] 25))
                  go_wp2_with fail
                  go_roundw
                  case rel => exact ⟨1, by go_num, by omega, HB4.out⟩
                  case measure => simp [intOf]
                · rw [if_neg (fun h => hg ⟨h.1, HL.out.trans h.2.1, by rw [HTH.out, h.2.2]; rfl⟩)]
                  simp only [Option.getD_some, Option.isSome_some]
                  clear HO
                  have hcs : (j ≠ 0) ∨ (j = 0 ∧ len ≠ 8) ∨ (j = 0 ∧ len = 8 ∧ th = true) := by
                    by_cases a1 : j = 0
                    · by_cases a2 : len = 8
                      · cases th
                        · exact absurd ⟨a1, a2, rfl⟩ hg
                        · exact Or.inr (Or.inr ⟨a1, a2, rfl⟩)
                      · exact Or.inr (Or.inl ⟨a1, a2⟩)
                    · exact Or.inl a1
                  clear hg
                  have HB4 := Lib.hid (ba HB3.out (.cells #[.int .i64 x.a, .int .u64 x.p, .int .i64 x.f, .bool x.ro] 25))
                  have HX4 := Lib.hid (HX3.out.alloc (.cells #[.int .i64 x.a, .int .u64 x.p, .int .i64 x.f, .bool x.ro] 25))
                  have HY4 := Lib.hid (Arr.new w11 #[.int .i64 x.a, .int .u64 x.p, .int .i64 x.f, .bool x.ro] 25)
                  have hsz : Y2 < w11.heap.size := HX3.out.lt
                  have x0 := HX4.out.cell 0 _ rfl
                  have x1 := HX4.out.cell 1 _ rfl
                  have x2 := HX4.out.cell 2 _ rfl
                  have x3 := HX4.out.cell 3 _ rfl
                  rcases hcs with g1 | ⟨g1, g2⟩ | ⟨g1, g2, g3⟩
                  · have g1' : ((j : Int) == 0) = false := by simp; omega
                    go_wp2_with fail
                    go_roundw
                    case rel => exact ⟨j + 1, by go_num, by omega, HB4.out⟩
                    case measure => simp [intOf]; omega
                  · subst g1
                    have g2' : ((len : Int) == 8) = false := by simp; omega
                    go_wp2_with fail
                    go_roundw
                    case rel => exact ⟨1, by go_num, by omega, HB4.out⟩
                    case measure => simp [intOf]; omega
                  · subst g1 g2 g3
                    go_wp2_with fail
                    go_roundw
                    case rel => exact ⟨1, by go_num, by omega, HB4.out⟩
                    case measure => simp [intOf]
              · go_wp2_with fail
                go_roundw
                case rel => exact ⟨j + 1, by go_num, by omega, HB2.out⟩
                case measure => simp [intOf]; omega
          · have HB := Lib.hid (bthen HB.out hBr)
            clear hBr
            go_wp2_with fail
            refine (wakes11_any _).mono ?_
            rintro e w99 ⟨rfl, hb⟩
            have HB := Lib.hid (bthen HB.out hb)
            clear hb
            go_wp2_with fail
            go_ret
            exact ⟨rfl, HB.out⟩
  · rw [h2]
    clear hk h2
    go_wp2_with fail
    refine (wakes11_any _).mono ?_
    rintro e w99 ⟨rfl, hb⟩
    have HB := Lib.hid (bthen HB.out hb)
    clear hb
    go_wp2_with fail
    go_ret
    exact ⟨rfl, HB.out⟩
end Go.Proofs.Ytencifnopfianaa
