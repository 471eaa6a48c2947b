/-
  The document's check of a walk cache.
-/
import Derived.Test.YtencifnopfianaaTlSame
import Derived.Deep.RegionHeld
namespace Go.Proofs.Ytencifnopfianaa
open Go.RowKit
set_option linter.unusedVariables false
set_option linter.unusedSimpArgs false
theorem lim_eq {l : Int} (h1 : 1 ≤ l) (h3 : l ≤ 3) : (34359738368 : Int) / 2 ^ (9 * (3 - l)).toNat = limS l := by
  rcases (show l = 1 ∨ l = 2 ∨ l = 3 by omega) with rfl | rfl | rfl <;> decide
set_option maxRecDepth 100000 in
set_option maxHeartbeats 4000000 in
theorem rmayS_any (x : Sb) (w : World) : Calls Try.prog 52 #[.agg #[.int .i64 x.a, .int .i8 x.l, .int .u64 x.p, .int .i64 x.f]] w fun e w' => e = .returned (.bool (mayS x)) ∧ Below w.heap.size w w' := by
  obtain ⟨xa, xl, xp, xf⟩ := x
  simp only
  by_cases h1 : 0 ≤ xa
  · by_cases h2 : xa ≤ 255
    · by_cases h3 : 1 ≤ xl
      · by_cases h4 : xl ≤ 3
        · by_cases h5 : xp < 34359738368 / 2 ^ (9 * (3 - xl)).toNat
          · by_cases h6 : 0 ≤ xf
            · by_cases h7 : xf < 64
              · have HE := Lib.hid (show mayS ⟨xa, xl, xp, xf⟩ = true from decide_eq_true ⟨h1, h2, h6, h7, h3, h4, (lim_eq h3 h4) ▸ h5⟩)
                have d1 := decide_eq_true h1
                have d2 := decide_eq_true h2
                have d3 := decide_eq_true h3
                have d4 := decide_eq_true h4
                have d5 := decide_eq_true h5
                have d6 := decide_eq_true h6
                have d7 := decide_eq_true h7
                go_enter Try.func52, Try.ntmps52
                go_wp2_with fail
                go_quiet ((go_at_call 55; exact Calls.quiet_of_same (rpre_q _ _ _ (by omega) (by omega))))
                go_wp2_with fail
                go_ret
                exact ⟨by rw [HE.out]; rfl, bdn (ba (Below.refl _ _) _) _⟩
              · have HE := Lib.hid (show mayS ⟨xa, xl, xp, xf⟩ = false from decide_eq_false (fun h => h7 (h.2.2.2.1)))
                have d1 := decide_eq_true h1
                have d2 := decide_eq_true h2
                have d3 := decide_eq_true h3
                have d4 := decide_eq_true h4
                have d5 := decide_eq_true h5
                have d6 := decide_eq_true h6
                have d7 := decide_eq_false h7
                go_enter Try.func52, Try.ntmps52
                go_wp2_with fail
                go_quiet ((go_at_call 55; exact Calls.quiet_of_same (rpre_q _ _ _ (by omega) (by omega))))
                go_wp2_with fail
                go_ret
                exact ⟨by rw [HE.out]; rfl, bdn (ba (Below.refl _ _) _) _⟩
            · have HE := Lib.hid (show mayS ⟨xa, xl, xp, xf⟩ = false from decide_eq_false (fun h => h6 (h.2.2.1)))
              have d1 := decide_eq_true h1
              have d2 := decide_eq_true h2
              have d3 := decide_eq_true h3
              have d4 := decide_eq_true h4
              have d5 := decide_eq_true h5
              have d6 := decide_eq_false h6
              go_enter Try.func52, Try.ntmps52
              go_wp2_with fail
              go_quiet ((go_at_call 55; exact Calls.quiet_of_same (rpre_q _ _ _ (by omega) (by omega))))
              go_wp2_with fail
              go_ret
              exact ⟨by rw [HE.out]; rfl, bdn (ba (Below.refl _ _) _) _⟩
          · have HE := Lib.hid (show mayS ⟨xa, xl, xp, xf⟩ = false from decide_eq_false (fun h => h5 ((lim_eq h.2.2.2.2.1 h.2.2.2.2.2.1).symm ▸ h.2.2.2.2.2.2)))
            have d1 := decide_eq_true h1
            have d2 := decide_eq_true h2
            have d3 := decide_eq_true h3
            have d4 := decide_eq_true h4
            have d5 := decide_eq_false h5
            go_enter Try.func52, Try.ntmps52
            go_wp2_with fail
            go_quiet ((go_at_call 55; exact Calls.quiet_of_same (rpre_q _ _ _ (by omega) (by omega))))
            go_wp2_with fail
            go_ret
            exact ⟨by rw [HE.out]; rfl, bdn (ba (Below.refl _ _) _) _⟩
        · have HE := Lib.hid (show mayS ⟨xa, xl, xp, xf⟩ = false from decide_eq_false (fun h => h4 (h.2.2.2.2.2.1)))
          have d1 := decide_eq_true h1
          have d2 := decide_eq_true h2
          have d3 := decide_eq_true h3
          have d4 := decide_eq_false h4
          go_enter Try.func52, Try.ntmps52
          go_wp2_with fail
          go_quiet (fail)
          go_wp2_with fail
          go_ret
          exact ⟨by rw [HE.out]; rfl, bdn (ba (Below.refl _ _) _) _⟩
      · have HE := Lib.hid (show mayS ⟨xa, xl, xp, xf⟩ = false from decide_eq_false (fun h => h3 (h.2.2.2.2.1)))
        have d1 := decide_eq_true h1
        have d2 := decide_eq_true h2
        have d3 := decide_eq_false h3
        go_enter Try.func52, Try.ntmps52
        go_wp2_with fail
        go_quiet (fail)
        go_wp2_with fail
        go_ret
        exact ⟨by rw [HE.out]; rfl, bdn (ba (Below.refl _ _) _) _⟩
    · have HE := Lib.hid (show mayS ⟨xa, xl, xp, xf⟩ = false from decide_eq_false (fun h => h2 (h.2.1)))
      have d1 := decide_eq_true h1
      have d2 := decide_eq_false h2
      go_enter Try.func52, Try.ntmps52
      go_wp2_with fail
      go_quiet (fail)
      go_wp2_with fail
      go_ret
      exact ⟨by rw [HE.out]; rfl, bdn (ba (Below.refl _ _) _) _⟩
  · have HE := Lib.hid (show mayS ⟨xa, xl, xp, xf⟩ = false from decide_eq_false (fun h => h1 (h.1)))
    have d1 := decide_eq_false h1
    go_enter Try.func52, Try.ntmps52
    go_wp2_with fail
    go_quiet (fail)
    go_wp2_with fail
    go_ret
    exact ⟨by rw [HE.out]; rfl, bdn (ba (Below.refl _ _) _) _⟩
theorem place_any (x y : Sb) (w : World) : Calls Try.prog 53 #[.agg #[.int .i64 x.a, .int .i8 x.l, .int .u64 x.p, .int .i64 x.f], .agg #[.int .i64 y.a, .int .i8 y.l, .int .u64 y.p, .int .i64 y.f]] w fun e w' => e = .returned (.bool (decide (plS x = plS y))) ∧ Below w.heap.size w w' := by
  by_cases h : plS x = plS y
  · have HE := Lib.hid (decide_eq_true h)
    simp only [plS, Prod.mk.injEq] at h
    obtain ⟨q1, q2, q3⟩ := h
    have p1 : (x.a == y.a) = true := by simpa using q1
    have p2 : (x.l == y.l) = true := by simpa using q2
    have p3 : (x.p == y.p) = true := by simpa using q3
    clear q1 q2 q3
    obtain ⟨xa, xl, xp, xf⟩ := x
    obtain ⟨ya, yl, yp, yf⟩ := y
    simp only at p1 p2 p3 ⊢
    go_enter Try.func53, Try.ntmps53
    go_wp2_with fail
    go_ret
    exact ⟨by rw [HE.out]; rfl, ba (ba (Below.refl _ _) _) _⟩
  · have HE := Lib.hid (decide_eq_false h)
    have hc := ne3 (show ¬ ((x.a, x.l, x.p) : Int × Int × Int) = (y.a, y.l, y.p) from h)
    clear h
    have hc' : (x.a == y.a) = false ∨ ((x.a == y.a) = true ∧ (x.l == y.l) = false) ∨ ((x.a == y.a) = true ∧ (x.l == y.l) = true ∧ (x.p == y.p) = false) := by
      rcases hc with h | ⟨h, h'⟩ | ⟨h, h', h''⟩
      · exact Or.inl (by simpa using h)
      · exact Or.inr (Or.inl ⟨by simpa using h, by simpa using h'⟩)
      · exact Or.inr (Or.inr ⟨by simpa using h, by simpa using h', by simpa using h''⟩)
    clear hc
    obtain ⟨xa, xl, xp, xf⟩ := x
    obtain ⟨ya, yl, yp, yf⟩ := y
    simp only at hc' ⊢
    rcases hc' with p1 | ⟨p1, p2⟩ | ⟨p1, p2, p3⟩
    all_goals
      go_enter Try.func53, Try.ntmps53
      go_wp2_with fail
      go_ret
      exact ⟨by rw [HE.out]; rfl, ba (ba (Below.refl _ _) _) _⟩
set_option maxRecDepth 100000 in
set_option maxHeartbeats 4000000 in
theorem rcheckS_short (O : Option Addr) (cap : Nat) (xs : List Sb) (w : World) (hI : RK encS 4 w O xs) (hcap : xs.length ≤ cap) (h8 : xs.length ≤ 4) :
    Calls Try.prog 29 #[.slice O xs.length cap] w fun e w' => e = .returned (.int .i64 (ckE mayS plS 4 xs)) ∧ Below w.heap.size w w' := by
  have HI := Lib.hid hI
  clear hI
  have H8 := Lib.hid h8
  obtain ⟨len, hlen⟩ : ∃ len, len = xs.length := ⟨_, rfl⟩
  rw [← hlen] at hcap h8 ⊢
  have HL := Lib.hid hlen
  clear hlen
  go_enter Try.func29, Try.ntmps29
  go_wp2_with fail
  go_loopw [3] (fun i wr => ∃ j : Nat, i = .int .i64 j ∧ j ≤ len ∧ OkB mayS plS xs j ∧ Below w.heap.size w wr) (fun i _ => len - (intOf i).toNat)
  case atStart => exact ⟨0, rfl, by omega, OkB.zero _, Below.refl _ _⟩
  case round =>
    obtain ⟨j, rfl, hj, hN, hB⟩ := hrel
    have HN := Lib.hid hN
    clear hN
    by_cases hlt : j < len
    · obtain ⟨b, off, hO2, hcell⟩ := (HI.out.call hB) (by have := HL.out; omega)
      subst hO2
      obtain ⟨x, hx⟩ : ∃ x, xs[j]? = some x := ⟨xs[j]'(by have := HL.out; omega), List.getElem?_eq_getElem _⟩
      obtain ⟨c0, c1, c2, c3⟩ := sb_cells hx hcell
      have HX := Lib.hid hx
      have HB := Lib.hid hB
      clear hcell hB hx
      go_wp2_with fail
      refine (rmayS_any x _).mono ?_
      rintro e w1 ⟨rfl, hb⟩
      have HB1 := Lib.hid (bthen HB.out hb)
      clear hb HB c0 c1 c2 c3
      rcases hm : mayS x with _ | _
      · have HE := Lib.hid (ck_may (pl := plS) (mx := 4) HX.out hm)
        clear hm HX HN
        go_wp2_with fail
        go_ret
        exact ⟨by rw [HE.out]; rfl, HB1.out⟩
      · have HM := Lib.hid hm
        clear hm
        go_wp2_with fail
        obtain ⟨wo, hwo⟩ : ∃ wo : World, wo = w1 := ⟨_, rfl⟩
        clear hwo wo
        go_loopw [4] (fun i wr => ∃ k : Nat, i = .int .i64 k ∧ k ≤ j ∧ NoB plS xs (plS x) k ∧ Below w.heap.size w wr) (fun i _ => j - (intOf i).toNat)
        case atStart => exact ⟨0, rfl, by omega, NoB.zero _ _, HB1.out⟩
        case round =>
          obtain ⟨k, rfl, hk, hN2, hB2⟩ := hrel
          by_cases hlt2 : k < j
          · obtain ⟨b', off', hO2, hcell⟩ := (HI.out.call hB2) (by have := HL.out; omega)
            simp only [Option.some.injEq, Addr.mk.injEq, and_true] at hO2
            obtain ⟨rfl, rfl⟩ := hO2
            obtain ⟨y, hy⟩ : ∃ y, xs[k]? = some y := ⟨xs[k]'(by have := HL.out; omega), List.getElem?_eq_getElem _⟩
            obtain ⟨c0, c1, c2, c3⟩ := sb_cells HX.out hcell
            obtain ⟨d0, d1, d2, d3⟩ := sb_cells hy hcell
            have lb : b < wr.heap.size := World.block_lt_of_cell? wr ⟨b, off + j * 4, none⟩ c0
            have HY := Lib.hid hy
            have HN2 := Lib.hid hN2
            have HB2 := Lib.hid hB2
            have i1 : (0 : Int) ≤ (k : Int) := by omega
            have i2 : (k : Int) < (len : Int) := by omega
            have i3 : (0 : Int) ≤ (j : Int) := by omega
            have i4 : (j : Int) < (len : Int) := by omega
            clear hcell hy hN2 hB2 HB1
            by_cases hq : plS y = plS x
            · have HE := Lib.hid (ck_twice (may := mayS) (mx := 4) HX.out (fun hn => hn k y hlt2 HY.out hq))
              have HD := Lib.hid (decide_eq_true hq)
              clear hq HX HY HN2
              go_wp2_with fail
              refine wp_region_held_drew (S := fun w' => Below wr.heap.size wr w') (by kernel_rfl) (bd (Below.refl _ _)) (fun hHeld => ?_)
              refine wpAnyH_take (i := 0) (oi := ⟨_, _, _, _, _, _⟩) (v := ?va0) rfl (by kernel_rfl) (by kernel_rfl) (by kernel_rfl) (fun _ _ _ h => h) (Or.inl ⟨by rfl, ?hya0⟩) hHeld ?resta0
              case hya0 => (intro w' hSw; go_simp; try with_reducible rfl)
              try simp only [Act.put, List.setIfInBounds_toArray, List.set_cons_zero, List.set_cons_succ]
              refine wpAnyH_take (i := 1) (oi := ⟨_, _, _, _, _, _⟩) (v := ?va1) rfl (by kernel_rfl) (by kernel_rfl) (by kernel_rfl) (fun _ _ _ h => h) (Or.inl ⟨by rfl, ?hya1⟩) hHeld ?resta1
              case hya1 => (intro w' hSw; go_simp; try with_reducible rfl)
              try simp only [Act.put, List.setIfInBounds_toArray, List.set_cons_zero, List.set_cons_succ]
              refine wpAnyH_take (i := 2) (oi := ⟨_, _, _, _, _, _⟩) (v := ?va2) rfl (by kernel_rfl) (by kernel_rfl) (by kernel_rfl) (fun _ _ _ h => h) (Or.inl ⟨by rfl, ?hya2⟩) hHeld ?resta2
              case hya2 => (intro w' hSw; go_simp; try with_reducible rfl)
              try simp only [Act.put, List.setIfInBounds_toArray, List.set_cons_zero, List.set_cons_succ]
              refine wpAnyH_take (i := 3) (oi := ⟨_, _, _, _, _, _⟩) (v := ?va3) rfl (by kernel_rfl) (by kernel_rfl) (by kernel_rfl) (fun _ _ _ h => h) (Or.inl ⟨by rfl, ?hya3⟩) hHeld ?resta3
              case hya3 => (intro w' hSw; obtain ⟨hcc, hff⟩ := bcell hSw; go_simp; try with_reducible rfl)
              try simp only [Act.put, List.setIfInBounds_toArray, List.set_cons_zero, List.set_cons_succ]
              refine wpAnyH_take (i := 4) (oi := ⟨_, _, _, _, _, _⟩) (v := ?va4) rfl (by kernel_rfl) (by kernel_rfl) (by kernel_rfl) (fun _ _ _ h => h) (Or.inl ⟨by rfl, ?hya4⟩) hHeld ?resta4
              case hya4 => (intro w' hSw; go_simp; try with_reducible rfl)
              try simp only [Act.put, List.setIfInBounds_toArray, List.set_cons_zero, List.set_cons_succ]
              refine wpAnyH_take (i := 5) (oi := ⟨_, _, _, _, _, _⟩) (v := ?va5) rfl (by kernel_rfl) (by kernel_rfl) (by kernel_rfl) (fun _ _ _ h => h) (Or.inl ⟨by rfl, ?hya5⟩) hHeld ?resta5
              case hya5 => (intro w' hSw; go_simp; try with_reducible rfl)
              try simp only [Act.put, List.setIfInBounds_toArray, List.set_cons_zero, List.set_cons_succ]
              refine wpAnyH_take (i := 6) (oi := ⟨_, _, _, _, _, _⟩) (v := ?va6) rfl (by kernel_rfl) (by kernel_rfl) (by kernel_rfl) (fun _ _ _ h => h) (Or.inl ⟨by rfl, ?hya6⟩) hHeld ?resta6
              case hya6 => (intro w' hSw; go_simp; try with_reducible rfl)
              try simp only [Act.put, List.setIfInBounds_toArray, List.set_cons_zero, List.set_cons_succ]
              refine wpAnyH_take (i := 7) (oi := ⟨_, _, _, _, _, _⟩) (v := ?va7) rfl (by kernel_rfl) (by kernel_rfl) (by kernel_rfl) (fun _ _ _ h => h) (Or.inl ⟨by rfl, ?hya7⟩) hHeld ?resta7
              case hya7 => (intro w' hSw; obtain ⟨hcc, hff⟩ := bcell hSw; go_simp; try with_reducible rfl)
              try simp only [Act.put, List.setIfInBounds_toArray, List.set_cons_zero, List.set_cons_succ]
              refine wpAnyH_ready (rs := [8]) (by kernel_rfl) (by simp) ?_
              refine AllReadyH.cons (o := ⟨_, _, _, _, _, _⟩) rfl (fun K hK => ?_) AllReadyH.nil
              go_simp
              refine (place_any y x _).mono ?_
              rintro e wra1 ⟨rfl, hb⟩
              rw [HD.out]
              go_wp2_with fail
              have hB2 := bthen hHeld hb
              clear hHeld hb
              refine hK.out _ _ hB2 (fun hHeld => ?_)
              clear hB2 hK K
              try simp only [Act.put, List.setIfInBounds_toArray, List.set_cons_zero, List.set_cons_succ]
              refine wpAnyH_done (by kernel_rfl) ?_ _
              have HH := Lib.hid hHeld
              clear hHeld
              go_wp2_with fail
              go_ret
              exact ⟨by rw [HE.out]; rfl, bthen HB2.out HH.out⟩
            · have HS := Lib.hid (NoB.succ HN2.out HY.out hq)
              have HD := Lib.hid (decide_eq_false hq)
              clear hq HX HY HN2
              go_wp2_with fail
              refine wp_region_held_drew (S := fun w' => Below wr.heap.size wr w') (by kernel_rfl) (bd (Below.refl _ _)) (fun hHeld => ?_)
              refine wpAnyH_take (i := 0) (oi := ⟨_, _, _, _, _, _⟩) (v := ?vb0) rfl (by kernel_rfl) (by kernel_rfl) (by kernel_rfl) (fun _ _ _ h => h) (Or.inl ⟨by rfl, ?hyb0⟩) hHeld ?restb0
              case hyb0 => (intro w' hSw; go_simp; try with_reducible rfl)
              try simp only [Act.put, List.setIfInBounds_toArray, List.set_cons_zero, List.set_cons_succ]
              refine wpAnyH_take (i := 1) (oi := ⟨_, _, _, _, _, _⟩) (v := ?vb1) rfl (by kernel_rfl) (by kernel_rfl) (by kernel_rfl) (fun _ _ _ h => h) (Or.inl ⟨by rfl, ?hyb1⟩) hHeld ?restb1
              case hyb1 => (intro w' hSw; go_simp; try with_reducible rfl)
              try simp only [Act.put, List.setIfInBounds_toArray, List.set_cons_zero, List.set_cons_succ]
              refine wpAnyH_take (i := 2) (oi := ⟨_, _, _, _, _, _⟩) (v := ?vb2) rfl (by kernel_rfl) (by kernel_rfl) (by kernel_rfl) (fun _ _ _ h => h) (Or.inl ⟨by rfl, ?hyb2⟩) hHeld ?restb2
              case hyb2 => (intro w' hSw; go_simp; try with_reducible rfl)
              try simp only [Act.put, List.setIfInBounds_toArray, List.set_cons_zero, List.set_cons_succ]
              refine wpAnyH_take (i := 3) (oi := ⟨_, _, _, _, _, _⟩) (v := ?vb3) rfl (by kernel_rfl) (by kernel_rfl) (by kernel_rfl) (fun _ _ _ h => h) (Or.inl ⟨by rfl, ?hyb3⟩) hHeld ?restb3
              case hyb3 => (intro w' hSw; obtain ⟨hcc, hff⟩ := bcell hSw; go_simp; try with_reducible rfl)
              try simp only [Act.put, List.setIfInBounds_toArray, List.set_cons_zero, List.set_cons_succ]
              refine wpAnyH_take (i := 4) (oi := ⟨_, _, _, _, _, _⟩) (v := ?vb4) rfl (by kernel_rfl) (by kernel_rfl) (by kernel_rfl) (fun _ _ _ h => h) (Or.inl ⟨by rfl, ?hyb4⟩) hHeld ?restb4
              case hyb4 => (intro w' hSw; go_simp; try with_reducible rfl)
              try simp only [Act.put, List.setIfInBounds_toArray, List.set_cons_zero, List.set_cons_succ]
              refine wpAnyH_take (i := 5) (oi := ⟨_, _, _, _, _, _⟩) (v := ?vb5) rfl (by kernel_rfl) (by kernel_rfl) (by kernel_rfl) (fun _ _ _ h => h) (Or.inl ⟨by rfl, ?hyb5⟩) hHeld ?restb5
              case hyb5 => (intro w' hSw; go_simp; try with_reducible rfl)
              try simp only [Act.put, List.setIfInBounds_toArray, List.set_cons_zero, List.set_cons_succ]
              refine wpAnyH_take (i := 6) (oi := ⟨_, _, _, _, _, _⟩) (v := ?vb6) rfl (by kernel_rfl) (by kernel_rfl) (by kernel_rfl) (fun _ _ _ h => h) (Or.inl ⟨by rfl, ?hyb6⟩) hHeld ?restb6
              case hyb6 => (intro w' hSw; go_simp; try with_reducible rfl)
              try simp only [Act.put, List.setIfInBounds_toArray, List.set_cons_zero, List.set_cons_succ]
              refine wpAnyH_take (i := 7) (oi := ⟨_, _, _, _, _, _⟩) (v := ?vb7) rfl (by kernel_rfl) (by kernel_rfl) (by kernel_rfl) (fun _ _ _ h => h) (Or.inl ⟨by rfl, ?hyb7⟩) hHeld ?restb7
              case hyb7 => (intro w' hSw; obtain ⟨hcc, hff⟩ := bcell hSw; go_simp; try with_reducible rfl)
              try simp only [Act.put, List.setIfInBounds_toArray, List.set_cons_zero, List.set_cons_succ]
              refine wpAnyH_ready (rs := [8]) (by kernel_rfl) (by simp) ?_
              refine AllReadyH.cons (o := ⟨_, _, _, _, _, _⟩) rfl (fun K hK => ?_) AllReadyH.nil
              go_simp
              refine (place_any y x _).mono ?_
              rintro e wrb1 ⟨rfl, hb⟩
              rw [HD.out]
              go_wp2_with fail
              have hB2 := bthen hHeld hb
              clear hHeld hb
              refine hK.out _ _ hB2 (fun hHeld => ?_)
              clear hB2 hK K
              try simp only [Act.put, List.setIfInBounds_toArray, List.set_cons_zero, List.set_cons_succ]
              refine wpAnyH_done (by kernel_rfl) ?_ _
              have HH := Lib.hid hHeld
              clear hHeld
              go_wp2_with fail
              go_roundw
              case rel => exact ⟨k + 1, by go_num, by omega, HS.out, bthen HB2.out HH.out⟩
              case measure => simp [intOf]; omega
          · have HS := Lib.hid (OkB.succ HN.out HX.out HM.out (fun i y hi hy => hN2 i y (by omega) hy))
            have HB2 := Lib.hid hB2
            clear hN2 hB2 HN HX
            go_wp2_with fail
            go_roundw
            case rel => exact ⟨j + 1, by go_num, by omega, HS.out, HB2.out⟩
            case measure => simp [intOf]; omega
    · have HE := Lib.hid (ck_done (mx := 4) HN.out (by have := HL.out; omega) H8.out)
      have HB := Lib.hid hB
      clear hB
      go_wp2_with fail
      go_ret
      exact ⟨by rw [HE.out]; rfl, HB.out⟩
theorem rcheckS_any (O : Option Addr) (cap : Nat) (xs : List Sb) (w : World) (hI : RK encS 4 w O xs) (hcap : xs.length ≤ cap) :
    Calls Try.prog 29 #[.slice O xs.length cap] w fun e w' => e = .returned (.int .i64 (ckE mayS plS 4 xs)) ∧ Below w.heap.size w w' := by
  by_cases h : xs.length ≤ 4
  · exact rcheckS_short O cap xs w hI hcap h
  · have HE := Lib.hid (ck_long (may := mayS) (pl := plS) (show 4 < xs.length by omega))
    have h' : 4 < xs.length := by omega
    obtain ⟨len, hlen⟩ : ∃ len, len = xs.length := ⟨_, rfl⟩
    rw [← hlen] at h' ⊢
    clear h hcap hI hlen
    go_enter Try.func29, Try.ntmps29
    go_wp2_with fail
    go_ret
    exact ⟨by rw [HE.out]; rfl, Below.refl _ _⟩
end Go.Proofs.Ytencifnopfianaa
