/-
  The document's fill (T).
-/
import Derived.Test.YtencifnopfianaaTlRefCT
import Derived.Test.YtencifnopfianaaTlMid
namespace Go.Proofs.Ytencifnopfianaa
open Go.RowKit
set_option linter.unusedVariables false
set_option linter.unusedSimpArgs false
set_option maxRecDepth 100000 in
set_option maxHeartbeats 16000000 in
theorem rfillT_any (O : Option Addr) (cap : Nat) (xs : List Tb) (ev : Tb) (w : World) (hI : RK encT 4 w O xs) (hcap : xs.length ≤ cap) :
    Calls Try.prog 18 #[.slice O xs.length cap, .agg #[.int .i64 ev.a, .int .u64 ev.p, .int .i64 ev.f, .bool ev.ro]] w fun e w' => ∃ O' c', e = .returned (.tuple #[.slice O' (filL mayT plT 8 xs ev).length c', .int .i64 (filE mayT plT 8 xs ev)]) ∧ (filL mayT plT 8 xs ev).length ≤ c' ∧ RK encT 4 w' O' (filL mayT plT 8 xs ev) ∧ Below w.heap.size w w' := by
  have HB0 := Lib.hid (ba (Below.refl w.heap.size w) (.cells #[.int .i64 ev.a, .int .u64 ev.p, .int .i64 ev.f, .bool ev.ro] 25))
  have HV := Lib.hid (Arr.new w #[.int .i64 ev.a, .int .u64 ev.p, .int .i64 ev.f, .bool ev.ro] 25)
  have HI := Lib.hid (hI.call HB0.out)
  clear hI
  obtain ⟨i0, hi, hz0, hz1, hz2⟩ := tbInfo
  go_enter Try.func18, Try.ntmps18
  go_wp2_with fail
  generalize w.alloc (.cells #[.int .i64 ev.a, .int .u64 ev.p, .int .i64 ev.f, .bool ev.ro] 25) = W0 at *
  refine (rcheckT_any O cap xs _ HI.out hcap).mono ?_
  rintro e W1 ⟨rfl, hb⟩
  have HB1 := Lib.hid (bthen HB0.out hb)
  have HI1 := Lib.hid (HI.out.call hb)
  have HV1 := Lib.hid (HV.out.call hb)
  clear hb HB0 HI HV
  rcases ckE_cases mayT plT 8 xs with ⟨hk, h2⟩ | ⟨hk, h2⟩
  · rw [h2]
    have a0 := HV1.out.cell 0 _ rfl
    have a1 := HV1.out.cell 1 _ rfl
    have a2 := HV1.out.cell 2 _ rfl
    have a3 := HV1.out.cell 3 _ rfl
    have HKK := Lib.hid hk
    clear h2 hk
    go_wp2_with fail
    refine (rmayT_any ev _).mono ?_
    rintro e Wc ⟨rfl, hb⟩
    have HBc := Lib.hid (bthen HB1.out hb)
    have HIc := Lib.hid (HI1.out.call hb)
    have HVc := Lib.hid (HV1.out.call hb)
    clear hb HB1 HI1 HV1 a0 a1 a2 a3
    rcases hm : mayT ev with _ | _
    · have HE1 := Lib.hid (show filL mayT plT 8 xs ev = [] from if_neg (fun h => by rw [hm] at h; exact Bool.noConfusion h.2))
      have HE2 := Lib.hid (show filE mayT plT 8 xs ev = 2 from if_neg (fun h => by rw [hm] at h; exact Bool.noConfusion h.2))
      clear hm
      go_wp2_with fail
      go_ret2
      exact ⟨none, 0, by rw [HE2.out, HE1.out]; rfl, by rw [HE1.out]; simp, by rw [HE1.out]; exact fun h => by simp at h, HBc.out⟩
    · have HE1 := Lib.hid (show filL mayT plT 8 xs ev = _ from if_pos ⟨HKK.out, hm⟩)
      have HE2 := Lib.hid (show filE mayT plT 8 xs ev = 0 from if_pos ⟨HKK.out, hm⟩)
      have h8 := HKK.out.1
      clear hm HKK
      obtain ⟨len, hlen⟩ : ∃ len, len = xs.length := ⟨_, rfl⟩
      rw [← hlen] at hcap h8 ⊢
      have HL := Lib.hid hlen
      clear hlen
      go_wp2_with (at_builtin; refine wp_app (enc := encT) rfl _ _ 22 rfl Wc.heap.size 25 i0 _ 32 Try.underlying22 hi hz0 hz1 hz2 rfl (by decide) encT_len encT_one _ [] rfl (Ow.nil _ _ _) xs O len cap rfl HL.out.symm HIc.out (by simp; omega) (by decide) Wc (Below.refl _ _) (Nat.le_refl _) ?_; intro v8 w8 hO8 hB8)
      rw [List.nil_append] at hO8
      obtain ⟨O8, c8, hv, lc8, mc8, r8⟩ := hO8.form encT_len
      rw [← HL.out] at hv lc8
      subst hv
      have HO8 := Lib.hid hO8
      have HB8 := Lib.hid hB8
      have HR8 := Lib.hid r8
      have l0 : w.heap.size < Wc.heap.size := HVc.out.lt
      clear hO8 hB8 r8
      go_loopw [7] (fun i wr => ∃ j : Nat, i = .int .i64 j ∧ j ≤ len ∧ NoB plT xs (plT ev) j ∧ Below w8.heap.size w8 wr) (fun i _ => len - (intOf i).toNat)
      case atStart => exact ⟨0, rfl, by omega, NoB.zero _ _, Below.refl _ _⟩
      case round =>
        obtain ⟨j, rfl, hj, hN, hBr⟩ := hrel
        have HO8 := Lib.hid (HO8.out.call hBr)
        have HR8 := Lib.hid (HR8.out.call hBr)
        have HN := Lib.hid hN
        have HB8 := Lib.hid (HB8.out.trans (hBr.mono HB8.out.size))
        have HBr := Lib.hid hBr
        clear hN hBr
        by_cases hlt : j < len
        · have HJ := Lib.hid (show j < xs.length by have := HL.out; omega)
          obtain ⟨y, hy⟩ : ∃ y, xs[j]? = some y := ⟨xs[j]'(by have := HL.out; omega), List.getElem?_eq_getElem _⟩
          have HY := Lib.hid hy
          obtain ⟨g, cg, hv, hg, hg2, hcg, -⟩ := HO8.out.head (by have := HL.out; omega)
          rw [← HL.out] at hv hcg
          simp only [Value.slice.injEq] at hv
          obtain ⟨rfl, -, rfl⟩ := hv
          obtain ⟨d0, d1, d2, d3⟩ := HO8.out.cells4 encT_len hy rfl
          have v0 := (HVc.out.call HB8.out).cell 0 _ rfl
          have v1 := (HVc.out.call HB8.out).cell 1 _ rfl
          have v2 := (HVc.out.call HB8.out).cell 2 _ rfl
          have v3 := (HVc.out.call HB8.out).cell 3 _ rfl
          have lV8 := (HVc.out.call HB8.out).lt
          have i1 : (0 : Int) ≤ (j : Int) := by omega
          have i2 : (j : Int) < (len : Int) := by omega
          clear hy
          by_cases hq : plT y = plT ev
          · have HE3 := Lib.hid (show filL mayT plT 8 xs ev = xs.set j ev from by rw [HE1.out, fd_hit HN.out HY.out hq])
            simp only [plT, Prod.mk.injEq] at hq
            obtain ⟨q1, -, q3⟩ := hq
            have p1 : (y.a == ev.a) = true := by simpa using q1
            have p3 : (y.p == ev.p) = true := by simpa using q3
            clear q1 q3
            have HX0 := trivial
            have HNN := trivial
            go_wp2_with fail
            go_quiet (fail)
            rename_i nq
            generalize hww : wr.drewN nq = WW at *
            have HB9 := Lib.hid (bthen HB8.out (show Below wr.heap.size wr WW from hww ▸ bdn (Below.refl _ _) _))
            have HO9 := Lib.hid (HO8.out.call (show Below wr.heap.size wr WW from hww ▸ bdn (Below.refl _ _) _))
            clear HX0 HNN d0 d1 d2 d3 v0 v1 v2 v3
            have HV9 := Lib.hid (HVc.out.call HB9.out)
            have b0 := HV9.out.cell 0 _ rfl
            have b1 := HV9.out.cell 1 _ rfl
            have b2 := HV9.out.cell 2 _ rfl
            have b3 := HV9.out.cell 3 _ rfl
            obtain ⟨c0, c1, c2, c3⟩ := HO9.out.cells4 encT_len HY.out rfl
            have f0 := HO9.out.frozen4 (j * 4)
            have f1 := HO9.out.frozen4 (j * 4 + 1)
            have f2 := HO9.out.frozen4 (j * 4 + 2)
            have f3 := HO9.out.frozen4 (j * 4 + 3)
            have lV := HV9.out.lt
            have lG : g < WW.heap.size := HO9.out.lt g rfl |>.2
            have nG : ¬ w.heap.size = g := by omega
            go_wp2_with fail
            go_ret2
            have hput := Ow.put4 encT_len (xs := xs) (by rw [← HL.out]; exact HO9.out) ev HJ.out rfl
            rw [← HL.out] at hput
            obtain ⟨Oz, cz, ez, lz, -, rz⟩ := hput.form encT_len
            rw [List.length_set, ← HL.out] at ez lz
            refine ⟨Oz, cz, ?_, ?_, ?_, ?_⟩
            · rw [HE2.out, HE3.out, List.length_set, ← HL.out, ← ez]
              rfl
            · rw [HE3.out, List.length_set, ← HL.out]; exact lz
            · rw [HE3.out]; exact rz
            · exact bs (bs (bs (bs (bthen HBc.out HB9.out) (Nat.le_trans HBc.out.size hg) _) (Nat.le_trans HBc.out.size hg) _) (Nat.le_trans HBc.out.size hg) _) (Nat.le_trans HBc.out.size hg) _
          · have HS := Lib.hid (NoB.succ HN.out HY.out hq)
            have hc : (y.a == ev.a) = false ∨ ((y.a == ev.a) = true ∧ (y.p == ev.p) = false) := by
              by_cases q1 : y.a = ev.a
              · refine Or.inr ⟨by simpa using q1, ?_⟩
                simp only [beq_eq_false_iff_ne, ne_eq]
                exact fun q3 => hq (by simp [plT, q1, q3])
              · exact Or.inl (by simpa using q1)
            clear hq
            rcases hc with p1 | ⟨p1, p3⟩
            all_goals
              go_wp2_with fail
              go_quiet (fail)
              go_wp2_with fail
              go_roundw
              case rel => exact ⟨j + 1, by go_num, by omega, HS.out, bdn HBr.out _⟩
              case measure => simp [intOf]; omega
        · have HE4 := Lib.hid (fd_no HN.out (by have := HL.out; omega))
          by_cases hl : len = 8
          · have HE3 := Lib.hid (show filL mayT plT 8 xs ev = xs.drop 1 ++ [ev] from by rw [HE1.out, HE4.out]; simp only; rw [if_pos (HL.out.symm.trans hl)])
            subst hl
            obtain ⟨g, cg, hv, hg, hg2, hcg, -⟩ := HO8.out.head (by have := HL.out; omega)
            rw [← HL.out] at hv hcg
            simp only [Value.slice.injEq] at hv
            obtain ⟨rfl, -, rfl⟩ := hv
            have v0 := (HVc.out.call HB8.out).cell 0 _ rfl
            have v1 := (HVc.out.call HB8.out).cell 1 _ rfl
            have v2 := (HVc.out.call HB8.out).cell 2 _ rfl
            have v3 := (HVc.out.call HB8.out).cell 3 _ rfl
            have lV8 := (HVc.out.call HB8.out).lt
            have i3 : (1 : Int) ≤ (c8 : Int) := by omega
            have i4 : ¬ c8 = 1 := by omega
            have HB9 := Lib.hid (ba HB8.out (.cells #[.int .i64 ev.a, .int .u64 ev.p, .int .i64 ev.f, .bool ev.ro] 25))
            have HN9 := Lib.hid (Arr.new wr #[.int .i64 ev.a, .int .u64 ev.p, .int .i64 ev.f, .bool ev.ro] 25)
            have HO9 := Lib.hid (Ow.call HO8.out (ba (Below.refl _ _) (.cells #[.int .i64 ev.a, .int .u64 ev.p, .int .i64 ev.f, .bool ev.ro] 25)))
            go_wp2_with (at_builtin; refine wp_mid (enc := encT) (k := 4) rfl _ _ 22 rfl 25 i0 _ 32 Try.underlying22 hi hz0 hz1 hz2 rfl (by decide) encT_len encT_one Wc.heap.size g 8 c8 xs rfl HO9.out HL.out.symm (by decide) ev wr.heap.size rfl ?m1 (by decide) (by decide) Wc HB9.out (Nat.le_refl _) ?_)
            case m1 => first | exact fun q u hu => HN9.out.cell q u hu | exact fun q u hu => hu
            intro O9 c9 w9 l9 r9 hb9
            have HR9 := Lib.hid r9
            have HB10 := Lib.hid hb9
            clear r9 hb9
            go_wp2_with fail
            go_ret2
            exact ⟨O9, c9, by rw [HE2.out, HE3.out]; simp [← HL.out], by rw [HE3.out]; simp [← HL.out]; omega, by rw [HE3.out]; (try rw [List.drop_one]); exact HR9.out, bthen HBc.out HB10.out⟩
          · have HE3 := Lib.hid (show filL mayT plT 8 xs ev = xs ++ [ev] from by rw [HE1.out, HE4.out]; simp only; rw [if_neg (fun h => hl (HL.out.trans h))])
            have hl' : ¬ 8 ≤ len := by omega
            have hl'' : ¬ (8 : Int) ≤ (len : Int) := by omega
            have v0 := (HVc.out.call HB8.out).cell 0 _ rfl
            have v1 := (HVc.out.call HB8.out).cell 1 _ rfl
            have v2 := (HVc.out.call HB8.out).cell 2 _ rfl
            have v3 := (HVc.out.call HB8.out).cell 3 _ rfl
            have lV8 := (HVc.out.call HB8.out).lt
            have HO9 := Lib.hid (Ow.call HO8.out (ba (Below.refl _ _) (.cells #[.int .i64 ev.a, .int .u64 ev.p, .int .i64 ev.f, .bool ev.ro] 25)))
            have HB9 := Lib.hid (ba HB8.out (.cells #[.int .i64 ev.a, .int .u64 ev.p, .int .i64 ev.f, .bool ev.ro] 25))
            have HN9 := Lib.hid (Arr.new wr #[.int .i64 ev.a, .int .u64 ev.p, .int .i64 ev.f, .bool ev.ro] 25)
            go_wp2_with (at_builtin; refine wp_snoc (enc := encT) rfl _ _ 22 rfl Wc.heap.size 25 i0 _ 32 Try.underlying22 hi hz0 hz1 hz2 rfl (by decide) encT_len _ _ rfl HO9.out ev wr.heap.size rfl ?c1 ?c2 ?c3 (by decide) Wc HB9.out (Nat.le_refl _) ?_)
            case c1 => first | exact fun q u hu => HN9.out.cell q u hu | exact fun q u hu => hu
            case c2 => intro u hu; simp [encT] at hu; rcases hu with rfl | rfl | rfl | rfl <;> rfl
            case c3 => have := HL.out; omega
            intro v9 w9 hO9 hB9
            clear HO9 HB9
            have HO8 := Lib.hid hO9
            have HB8 := Lib.hid hB9
            clear hO9 hB9
            obtain ⟨O9, c9, hv, l9, m9, r9⟩ := HO8.out.form encT_len
            subst hv
            have HR9 := Lib.hid r9
            clear r9 m9
            go_wp2_with fail
            go_ret2
            exact ⟨O9, c9, by rw [HE2.out, HE3.out]; rfl, by rw [HE3.out]; exact l9, by rw [HE3.out]; exact HR9.out, bthen HBc.out HB8.out⟩
  · have HE1 := Lib.hid (show filL mayT plT 8 xs ev = [] from if_neg (fun h => hk h.1))
    have HE2 := Lib.hid (show filE mayT plT 8 xs ev = 2 from if_neg (fun h => hk h.1))
    rw [h2]
    clear hk h2
    go_wp2_with fail
    go_ret2
    exact ⟨none, 0, by rw [HE2.out, HE1.out]; rfl, by rw [HE1.out]; simp, by rw [HE1.out]; exact fun h => by simp at h, HB1.out⟩
end Go.Proofs.Ytencifnopfianaa
