/-
  The document's eviction and dropping (S).
-/
import Derived.Test.YtencifnopfianaaTlRefCS
import Derived.Test.YtencifnopfianaaTlRows
namespace Go.Proofs.Ytencifnopfianaa
open Go.RowKit
set_option linter.unusedVariables false
set_option linter.unusedSimpArgs false
set_option maxRecDepth 100000 in
set_option maxHeartbeats 4000000 in
theorem rwithoutS_any (O : Option Addr) (cap : Nat) (xs : List Sb) (k : Int) (w : World) (hI : RK encS 4 w O xs) (hcap : xs.length ≤ cap) (hm : cap ≤ maxLen) :
    Calls Try.prog 27 #[.slice O xs.length cap, .int .i64 k] w fun e w' => ∃ v, e = .returned (.tuple #[v, .int .i64 (witE mayS plS 4 xs k)]) ∧ Ow encS 4 44 w' w.heap.size v (witL mayS plS 4 xs k) ∧ Below w.heap.size w w' := by
  unfold maxLen at hm
  have HI := Lib.hid hI
  clear hI
  obtain ⟨i0, hi, hz0, hz1, hz2⟩ := sbInfo
  go_enter Try.func27, Try.ntmps27
  go_wp2_with fail
  refine (rcheckS_any O cap xs _ HI.out hcap).mono ?_
  rintro e Wc ⟨rfl, hb⟩
  have HBc := Lib.hid hb
  have HIc := Lib.hid (HI.out.call hb)
  clear hb HI
  rcases ckE_cases mayS plS 4 xs with ⟨hk, h2⟩ | ⟨hk, h2⟩
  · rw [h2]
    have HKK := Lib.hid hk
    have h8 := hk.1
    clear h2 hk
    by_cases hr : 0 ≤ k ∧ k < xs.length
    · have HE1 := Lib.hid (show witL mayS plS 4 xs k = xs.take k.toNat ++ xs.drop (k.toNat + 1) from if_pos ⟨HKK.out, hr⟩)
      have HE2 := Lib.hid (show witE mayS plS 4 xs k = 0 from by unfold witE; rw [if_pos HKK.out, if_pos hr])
      obtain ⟨n, rfl⟩ : ∃ n : Nat, k = n := ⟨k.toNat, by omega⟩
      rw [Int.toNat_natCast] at HE1
      have hn : n < xs.length := by omega
      clear hr HKK
      obtain ⟨b, off, hO, -⟩ := HIc.out (by omega)
      subst hO
      obtain ⟨len, hlen⟩ : ∃ len, len = xs.length := ⟨_, rfl⟩
      rw [← hlen] at hcap h8 hn ⊢
      have HL := Lib.hid hlen
      clear hlen
      have i0' : (0 : Int) ≤ (n : Int) := by omega
      have i1 : (n : Int) ≤ (cap : Int) := by omega
      have i2 : (n : Int) < (len : Int) := by omega
      have i3 : ¬ (len : Int) ≤ (n : Int) := by omega
      by_cases hc1 : cap = n + 1
      · have hl1 : len = n + 1 := by omega
        subst hc1 hl1
        have t1 := (fun (v8 : Value) (w8 : World) => True.intro)
        go_wp2_with (at_builtin; refine wp_app (enc := encS) rfl _ _ 41 rfl Wc.heap.size 44 i0 _ 32 Try.underlying41 hi hz0 hz1 hz2 rfl (by decide) encS_len encS_one (.slice none 0 0) [] rfl (Ow.nil _ _ _) (xs.take n) (some ⟨b, off, none⟩) n _ rfl ?d1 (HIc.out.take n) ?d2 (by decide) Wc (Below.refl _ _) (Nat.le_refl _) ?_)
        case d1 => have := HL.out; rw [List.length_take]; omega
        case d2 => simp; omega
        intro v8 w8 hO8 hB8
        (try rw [List.nil_append] at hO8)
        have HO8 := Lib.hid hO8
        have HB8 := Lib.hid hB8
        clear hO8 hB8
        go_wp2_with (at_builtin; refine wp_app (enc := encS) rfl _ _ 41 rfl Wc.heap.size 44 i0 _ 32 Try.underlying41 hi hz0 hz1 hz2 rfl (by decide) encS_len encS_one _ (xs.take n) rfl HO8.out (xs.drop (n + 1)) (some ⟨b, off, none⟩) _ _ rfl ?c1 (fun h0 => by rw [List.length_drop, ← HL.out] at h0; omega) ?c2 (by decide) Wc HB8.out (Nat.le_refl _) ?_)
        case c1 => have := HL.out; rw [List.length_drop]; omega
        case c2 => have := HL.out; rw [List.length_take]; omega
        intro v9 w9 hO9 hB9
        have HO9 := Lib.hid hO9
        have HB9 := Lib.hid hB9
        clear hO9 hB9
        go_wp2_with fail
        go_ret2
        exact ⟨_, by rw [HE2.out]; rfl, by rw [HE1.out]; exact HO9.out.low HBc.out.size, bthen HBc.out HB9.out⟩
      · have i5 : ¬ (cap : Int) = (n : Int) + 1 := by omega
        have i6 : ¬ cap - (n + 1) = 0 := by omega
        go_wp2_with (at_builtin; refine wp_app (enc := encS) rfl _ _ 41 rfl Wc.heap.size 44 i0 _ 32 Try.underlying41 hi hz0 hz1 hz2 rfl (by decide) encS_len encS_one (.slice none 0 0) [] rfl (Ow.nil _ _ _) (xs.take n) (some ⟨b, off, none⟩) n _ rfl ?f1 (HIc.out.take n) ?f2 (by decide) Wc (Below.refl _ _) (Nat.le_refl _) ?_)
        case f1 => have := HL.out; rw [List.length_take]; omega
        case f2 => simp; omega
        intro v8 w8 hO8 hB8
        (try rw [List.nil_append] at hO8)
        have HO8 := Lib.hid hO8
        have HB8 := Lib.hid hB8
        clear hO8 hB8
        go_wp2_with (at_builtin; refine wp_app (enc := encS) rfl _ _ 41 rfl Wc.heap.size 44 i0 _ 32 Try.underlying41 hi hz0 hz1 hz2 rfl (by decide) encS_len encS_one _ (xs.take n) rfl HO8.out (xs.drop (n + 1)) (some ⟨b, off + (n + 1) * 4, none⟩) _ _ rfl ?e1 ((HIc.out.call HB8.out).dropn (n + 1)) ?e2 (by decide) Wc HB8.out (Nat.le_refl _) ?_)
        case e1 => have := HL.out; rw [List.length_drop]; omega
        case e2 => have := HL.out; rw [List.length_take]; omega
        intro v9 w9 hO9 hB9
        have HO9 := Lib.hid hO9
        have HB9 := Lib.hid hB9
        clear hO9 hB9
        go_wp2_with fail
        go_ret2
        exact ⟨_, by rw [HE2.out]; rfl, by rw [HE1.out]; exact HO9.out.low HBc.out.size, bthen HBc.out HB9.out⟩
    · have HE1 := Lib.hid (show witL mayS plS 4 xs k = [] from if_neg (fun h => hr h.2))
      have HE2 := Lib.hid (show witE mayS plS 4 xs k = 4 from by unfold witE; rw [if_pos HKK.out, if_neg hr])
      clear HKK
      obtain ⟨len, hlen⟩ : ∃ len, len = xs.length := ⟨_, rfl⟩
      rw [← hlen] at hr hcap h8 ⊢
      clear hlen
      rcases (show k < 0 ∨ (0 ≤ k ∧ (len : Int) ≤ k) by omega) with h | ⟨h0, h⟩
      all_goals
        clear hr
        go_wp2_with fail
        go_ret2
        exact ⟨_, by rw [HE2.out]; rfl, by rw [HE1.out]; exact Ow.nil _ _ _, HBc.out⟩
  · have HE1 := Lib.hid (show witL mayS plS 4 xs k = [] from if_neg (fun h => hk h.1))
    have HE2 := Lib.hid (show witE mayS plS 4 xs k = 2 from if_neg hk)
    rw [h2]
    clear hk h2
    go_wp2_with fail
    go_ret2
    exact ⟨_, by rw [HE2.out]; rfl, by rw [HE1.out]; exact Ow.nil _ _ _, HBc.out⟩
set_option maxRecDepth 100000 in
set_option maxHeartbeats 4000000 in
theorem rdropS_any (O : Option Addr) (cap : Nat) (xs : List Sb) (tk ta tp : Int) (w : World) (hI : RK encS 4 w O xs) (hcap : xs.length ≤ cap) (hm : cap ≤ maxLen) :
    Calls Try.prog 31 #[.slice O xs.length cap, .agg #[.int .i8 tk, .int .i64 ta, .int .u64 tp]] w fun e w' => ∃ v, e = .returned v ∧ Ow encS 4 44 w' w.heap.size v (drpL mayS plS 4 xs (fun y : Sb => stepB tk ta tp y.a y.l y.p)) ∧ Below w.heap.size w w' := by
  unfold maxLen at hm
  have HB0 := Lib.hid (ba (Below.refl w.heap.size w) (.cells #[.int .i8 tk, .int .i64 ta, .int .u64 tp] 28))
  have HT := Lib.hid (Arr.new w #[.int .i8 tk, .int .i64 ta, .int .u64 tp] 28)
  have HI := Lib.hid (hI.call HB0.out)
  clear hI
  obtain ⟨i0, hi, hz0, hz1, hz2⟩ := sbInfo
  rcases ckE_cases mayS plS 4 xs with ⟨hk, h2⟩ | ⟨hk, h2⟩
  · have HE := Lib.hid (show drpL mayS plS 4 xs (fun y : Sb => stepB tk ta tp y.a y.l y.p) = xs.filter (fun y : Sb => !(stepB tk ta tp y.a y.l y.p)) from if_pos hk)
    have HC2 := Lib.hid h2
    have h8 := hk.1
    clear hk h2
    obtain ⟨len, hlen⟩ : ∃ len, len = xs.length := ⟨_, rfl⟩
    have HCap := Lib.hid hcap
    rw [← hlen] at hcap h8 ⊢
    have HL := Lib.hid hlen
    clear hlen
    go_enter Try.func31, Try.ntmps31
    go_wp2_with fail
    generalize w.alloc (.cells #[.int .i8 tk, .int .i64 ta, .int .u64 tp] 28) = Wc at *
    go_loopw [5, 6] (fun v i wr => ∃ j : Nat, i = .int .i64 j ∧ j ≤ len ∧ Ow encS 4 44 wr Wc.heap.size v ((xs.take j).filter (fun y : Sb => !(stepB tk ta tp y.a y.l y.p))) ∧ Below Wc.heap.size Wc wr) (fun _ i _ => len - (intOf i).toNat)
    case atStart => exact ⟨0, rfl, by omega, Ow.nil _ _ _, Below.refl _ _⟩
    case round =>
      obtain ⟨j, rfl, hj, hO, hB⟩ := hrel
      have HO := Lib.hid hO
      have HB := Lib.hid hB
      clear hO hB
      by_cases hlt : j < len
      · go_wp2_with fail
        rw [HL.out]
        refine (rcheckS_any O cap xs _ (HI.out.call HB.out) HCap.out).mono ?_
        rintro e w1 ⟨rfl, hb⟩
        rw [HC2.out, ← HL.out]
        have HB1 := Lib.hid (bthen HB.out hb)
        have HO1 := Lib.hid (HO.out.call hb)
        clear hb HO HB
        obtain ⟨b, off, rfl, hcell⟩ := (HI.out.call HB1.out) (by have := HL.out; omega)
        obtain ⟨x, hx⟩ : ∃ x, xs[j]? = some x := ⟨xs[j]'(by have := HL.out; omega), List.getElem?_eq_getElem _⟩
        obtain ⟨c0, c1, c2, c3⟩ := sb_cells hx hcell
        have HCE := Lib.hid hcell
        have HX := Lib.hid hx
        have HT2 := Lib.hid (take_filter_succ (fun y : Sb => !(stepB tk ta tp y.a y.l y.p)) xs j x hx)
        have HQ := Lib.hid (take_filter_len (fun y : Sb => !(stepB tk ta tp y.a y.l y.p)) xs j)
        have t0 := (HT.out.call HB1.out).cell 0 _ rfl
        have t1 := (HT.out.call HB1.out).cell 1 _ rfl
        have t2 := (HT.out.call HB1.out).cell 2 _ rfl
        have lT := (HT.out.call HB1.out).lt
        have lb : b < w1.heap.size := World.block_lt_of_cell? w1 ⟨b, off + j * 4, none⟩ c0
        have i1 : (0 : Int) ≤ (j : Int) := by omega
        have i2 : (j : Int) < (len : Int) := by omega
        clear hcell hx
        rcases hq : (stepB tk ta tp x.a x.l x.p) with _ | _
        · have HH := Lib.hid hq
          have HT3 := Lib.hid (show (xs.take (j + 1)).filter (fun y : Sb => !(stepB tk ta tp y.a y.l y.p)) = (xs.take j).filter (fun y : Sb => !(stepB tk ta tp y.a y.l y.p)) ++ [x] from HT2.out.trans (if_pos (by rw [hq]; rfl)))
          clear hq HT2
          go_wp2_with fail
          refine wp_region_held_drew (S := fun w' => Below w1.heap.size w1 w') (by kernel_rfl) (bd (Below.refl _ _)) (fun hHeld => ?_)
          refine wpAnyH_take (i := 0) (oi := ⟨_, _, _, _, _, _⟩) (v := ?va0) rfl (by kernel_rfl) (by kernel_rfl) (by kernel_rfl) (fun _ _ _ h => h) (Or.inl ⟨by rfl, ?hya0⟩) hHeld ?resta0
          case hya0 => (intro w' hSw; obtain ⟨hcc, hff⟩ := bcell hSw; go_simp; try with_reducible rfl)
          try simp only [Act.put, List.setIfInBounds_toArray, List.set_cons_zero, List.set_cons_succ]
          refine wpAnyH_take (i := 1) (oi := ⟨_, _, _, _, _, _⟩) (v := ?va1) rfl (by kernel_rfl) (by kernel_rfl) (by kernel_rfl) (fun _ _ _ h => h) (Or.inl ⟨by rfl, ?hya1⟩) hHeld ?resta1
          case hya1 => (intro w' hSw; go_simp; try with_reducible rfl)
          try simp only [Act.put, List.setIfInBounds_toArray, List.set_cons_zero, List.set_cons_succ]
          refine wpAnyH_take (i := 2) (oi := ⟨_, _, _, _, _, _⟩) (v := ?va2) rfl (by kernel_rfl) (by kernel_rfl) (by kernel_rfl) (fun _ _ _ h => h) (Or.inl ⟨by rfl, ?hya2⟩) hHeld ?resta2
          case hya2 => (intro w' hSw; go_simp; try with_reducible rfl)
          try simp only [Act.put, List.setIfInBounds_toArray, List.set_cons_zero, List.set_cons_succ]
          refine wpAnyH_take (i := 3) (oi := ⟨_, _, _, _, _, _⟩) (v := ?va3) rfl (by kernel_rfl) (by kernel_rfl) (by kernel_rfl) (fun _ _ _ h => h) (Or.inl ⟨by rfl, ?hya3⟩) hHeld ?resta3
          case hya3 => (intro w' hSw; go_simp; try with_reducible rfl)
          try simp only [Act.put, List.setIfInBounds_toArray, List.set_cons_zero, List.set_cons_succ]
          refine wpAnyH_take (i := 4) (oi := ⟨_, _, _, _, _, _⟩) (v := ?va4) rfl (by kernel_rfl) (by kernel_rfl) (by kernel_rfl) (fun _ _ _ h => h) (Or.inl ⟨by rfl, ?hya4⟩) hHeld ?resta4
          case hya4 => (intro w' hSw; obtain ⟨hcc, hff⟩ := bcell hSw; go_simp; try with_reducible rfl)
          try simp only [Act.put, List.setIfInBounds_toArray, List.set_cons_zero, List.set_cons_succ]
          refine wpAnyH_ready (rs := [5]) (by kernel_rfl) (by simp) ?_
          refine AllReadyH.cons (o := ⟨_, _, _, _, _, _⟩) rfl (fun K hK => ?_) AllReadyH.nil
          go_simp
          refine (rhitsStep_any tk ta tp x.a x.l x.p x.f _).mono ?_
          rintro e wra1 ⟨rfl, hb⟩
          rw [HH.out]
          go_wp2_with fail
          have hB2 := bthen hHeld hb
          clear hHeld hb
          refine hK.out _ _ hB2 (fun hHeld => ?_)
          clear hB2 hK K
          try simp only [Act.put, List.setIfInBounds_toArray, List.set_cons_zero, List.set_cons_succ]
          refine wpAnyH_take (i := 6) (oi := ⟨_, _, _, _, _, _⟩) (v := ?va6) rfl (by kernel_rfl) (by kernel_rfl) (by kernel_rfl) (fun _ _ _ h => h) (Or.inl ⟨by rfl, ?hya6⟩) hHeld ?resta6
          case hya6 => (intro w' hSw; go_simp; try with_reducible rfl)
          try simp only [Act.put, List.setIfInBounds_toArray, List.set_cons_zero, List.set_cons_succ]
          refine wpAnyH_done (by kernel_rfl) ?_ _
          have HB2 := Lib.hid (bthen HB1.out hHeld)
          have HO2 := Lib.hid (HO1.out.call hHeld)
          obtain ⟨d0, d1, d2, d3⟩ := (show wra1.cell? ⟨b, off + j * 4, none⟩ = _ ∧ wra1.cell? ⟨b, off + j * 4 + 1, none⟩ = _ ∧ wra1.cell? ⟨b, off + j * 4 + 2, none⟩ = _ ∧ wra1.cell? ⟨b, off + j * 4 + 3, none⟩ = _ from ⟨(hHeld.cell (p := ⟨b, off + j * 4, none⟩) lb).trans c0, (hHeld.cell (p := ⟨b, off + j * 4 + 1, none⟩) lb).trans c1, (hHeld.cell (p := ⟨b, off + j * 4 + 2, none⟩) lb).trans c2, (hHeld.cell (p := ⟨b, off + j * 4 + 3, none⟩) lb).trans c3⟩)
          clear hHeld c0 c1 c2 c3 t0 t1 t2 lT lb HB1 HO1
          have HO9 := Lib.hid (Ow.call HO2.out (ba (Below.refl _ _) (.cells #[.int .i64 x.a, .int .i8 x.l, .int .u64 x.p, .int .i64 x.f] 44)))
          have HB9 := Lib.hid (ba HB2.out (.cells #[.int .i64 x.a, .int .i8 x.l, .int .u64 x.p, .int .i64 x.f] 44))
          have HN9 := Lib.hid (Arr.new wra1 #[.int .i64 x.a, .int .i8 x.l, .int .u64 x.p, .int .i64 x.f] 44)
          go_wp2_with (at_builtin; refine wp_snoc (enc := encS) rfl _ _ 41 rfl Wc.heap.size 44 i0 _ 32 Try.underlying41 hi hz0 hz1 hz2 rfl (by decide) encS_len _ _ rfl HO9.out x wra1.heap.size rfl ?c1 ?c2 ?c3 (by decide) Wc HB9.out (Nat.le_refl _) ?_)
          case c1 => first | exact fun q u hu => HN9.out.cell q u hu | exact fun q u hu => hu
          case c2 => intro u hu; simp [encS] at hu; rcases hu with rfl | rfl | rfl | rfl <;> rfl
          case c3 => have := HQ.out; have := HL.out; omega
          intro v9 w9 hO9 hB9
          clear HO9 HB9
          have HO8 := Lib.hid hO9
          have HB8 := Lib.hid hB9
          clear hO9 hB9
          go_wp2_with fail
          go_roundw
          case rel => exact ⟨j + 1, by go_num, by omega, by rw [HT3.out]; exact HO8.out, HB8.out⟩
          case measure => simp [intOf]; omega
        · have HH := Lib.hid hq
          have HT3 := Lib.hid (show (xs.take (j + 1)).filter (fun y : Sb => !(stepB tk ta tp y.a y.l y.p)) = (xs.take j).filter (fun y : Sb => !(stepB tk ta tp y.a y.l y.p)) from HT2.out.trans (if_neg (by rw [hq]; simp)))
          clear hq HT2
          go_wp2_with fail
          refine wp_region_held_drew (S := fun w' => Below w1.heap.size w1 w') (by kernel_rfl) (bd (Below.refl _ _)) (fun hHeld => ?_)
          refine wpAnyH_take (i := 0) (oi := ⟨_, _, _, _, _, _⟩) (v := ?vb0) rfl (by kernel_rfl) (by kernel_rfl) (by kernel_rfl) (fun _ _ _ h => h) (Or.inl ⟨by rfl, ?hyb0⟩) hHeld ?restb0
          case hyb0 => (intro w' hSw; obtain ⟨hcc, hff⟩ := bcell hSw; go_simp; try with_reducible rfl)
          try simp only [Act.put, List.setIfInBounds_toArray, List.set_cons_zero, List.set_cons_succ]
          refine wpAnyH_take (i := 1) (oi := ⟨_, _, _, _, _, _⟩) (v := ?vb1) rfl (by kernel_rfl) (by kernel_rfl) (by kernel_rfl) (fun _ _ _ h => h) (Or.inl ⟨by rfl, ?hyb1⟩) hHeld ?restb1
          case hyb1 => (intro w' hSw; go_simp; try with_reducible rfl)
          try simp only [Act.put, List.setIfInBounds_toArray, List.set_cons_zero, List.set_cons_succ]
          refine wpAnyH_take (i := 2) (oi := ⟨_, _, _, _, _, _⟩) (v := ?vb2) rfl (by kernel_rfl) (by kernel_rfl) (by kernel_rfl) (fun _ _ _ h => h) (Or.inl ⟨by rfl, ?hyb2⟩) hHeld ?restb2
          case hyb2 => (intro w' hSw; go_simp; try with_reducible rfl)
          try simp only [Act.put, List.setIfInBounds_toArray, List.set_cons_zero, List.set_cons_succ]
          refine wpAnyH_take (i := 3) (oi := ⟨_, _, _, _, _, _⟩) (v := ?vb3) rfl (by kernel_rfl) (by kernel_rfl) (by kernel_rfl) (fun _ _ _ h => h) (Or.inl ⟨by rfl, ?hyb3⟩) hHeld ?restb3
          case hyb3 => (intro w' hSw; go_simp; try with_reducible rfl)
          try simp only [Act.put, List.setIfInBounds_toArray, List.set_cons_zero, List.set_cons_succ]
          refine wpAnyH_take (i := 4) (oi := ⟨_, _, _, _, _, _⟩) (v := ?vb4) rfl (by kernel_rfl) (by kernel_rfl) (by kernel_rfl) (fun _ _ _ h => h) (Or.inl ⟨by rfl, ?hyb4⟩) hHeld ?restb4
          case hyb4 => (intro w' hSw; obtain ⟨hcc, hff⟩ := bcell hSw; go_simp; try with_reducible rfl)
          try simp only [Act.put, List.setIfInBounds_toArray, List.set_cons_zero, List.set_cons_succ]
          refine wpAnyH_ready (rs := [5]) (by kernel_rfl) (by simp) ?_
          refine AllReadyH.cons (o := ⟨_, _, _, _, _, _⟩) rfl (fun K hK => ?_) AllReadyH.nil
          go_simp
          refine (rhitsStep_any tk ta tp x.a x.l x.p x.f _).mono ?_
          rintro e wrb1 ⟨rfl, hb⟩
          rw [HH.out]
          go_wp2_with fail
          have hB2 := bthen hHeld hb
          clear hHeld hb
          refine hK.out _ _ hB2 (fun hHeld => ?_)
          clear hB2 hK K
          try simp only [Act.put, List.setIfInBounds_toArray, List.set_cons_zero, List.set_cons_succ]
          refine wpAnyH_take (i := 6) (oi := ⟨_, _, _, _, _, _⟩) (v := ?vb6) rfl (by kernel_rfl) (by kernel_rfl) (by kernel_rfl) (fun _ _ _ h => h) (Or.inl ⟨by rfl, ?hyb6⟩) hHeld ?restb6
          case hyb6 => (intro w' hSw; go_simp; try with_reducible rfl)
          try simp only [Act.put, List.setIfInBounds_toArray, List.set_cons_zero, List.set_cons_succ]
          refine wpAnyH_done (by kernel_rfl) ?_ _
          have HB2 := Lib.hid (bthen HB1.out hHeld)
          have HO2 := Lib.hid (HO1.out.call hHeld)
          clear hHeld
          go_wp2_with fail
          go_roundw
          case rel => exact ⟨j + 1, by go_num, by omega, by rw [HT3.out]; exact HO2.out, HB2.out⟩
          case measure => simp [intOf]; omega
      · have HE2 := Lib.hid (show (xs.take j).filter (fun y : Sb => !(stepB tk ta tp y.a y.l y.p)) = xs.filter (fun y : Sb => !(stepB tk ta tp y.a y.l y.p)) from by rw [List.take_of_length_le (by have := HL.out; omega)])
        go_wp2_with fail
        go_ret
        exact ⟨_, rfl, by rw [HE.out, ← HE2.out]; exact HO.out.low HB0.out.size, bthen HB0.out HB.out⟩
  · have HE := Lib.hid (show drpL mayS plS 4 xs (fun y : Sb => stepB tk ta tp y.a y.l y.p) = [] from if_neg hk)
    have HC2 := Lib.hid h2
    clear hk h2
    obtain ⟨len, hlen⟩ : ∃ len, len = xs.length := ⟨_, rfl⟩
    have HCap := Lib.hid hcap
    rw [← hlen] at hcap ⊢
    have HL := Lib.hid hlen
    clear hlen
    go_enter Try.func31, Try.ntmps31
    go_wp2_with fail
    generalize w.alloc (.cells #[.int .i8 tk, .int .i64 ta, .int .u64 tp] 28) = Wc at *
    refine wp_loop_rounds 1 ?_
    rw [rounds_succ]
    by_cases h0 : 0 < len
    · have h0' : (0 : Int) < (len : Int) := by omega
      go_wp2_with fail
      rw [HL.out]
      refine (rcheckS_any O cap xs _ HI.out HCap.out).mono ?_
      rintro e w1 ⟨rfl, hb⟩
      rw [HC2.out]
      have HB1 := Lib.hid (bthen HB0.out hb)
      clear hb
      go_wp2_with fail
      go_ret
      exact ⟨_, rfl, by rw [HE.out]; exact Ow.nil _ _ _, HB1.out⟩
    · obtain rfl : len = 0 := by omega
      go_wp2_with fail
      go_ret
      exact ⟨_, rfl, by rw [HE.out]; exact Ow.nil _ _ _, HB0.out⟩
end Go.Proofs.Ytencifnopfianaa
