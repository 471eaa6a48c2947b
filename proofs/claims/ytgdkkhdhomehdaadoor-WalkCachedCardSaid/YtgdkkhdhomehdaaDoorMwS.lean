/-
  The document's check of a walk cache.
  The document's Find and Best.
  Layer 12: where the document's walk begins; its word.
-/
import Derived.Test.YtgdkkhdhomehdaaDoorMwJ
import Derived.Test.YtgdkkhdhomehdaaDoorMwN
import Derived.Deep.RegionHeld
namespace Go.Proofs.YtgdkkhdhomehdaaDoor
section
open Go.RowKit
set_option linter.unusedVariables false
set_option linter.unusedSimpArgs false
theorem lim_eq {l : Int} (h1 : 1 ≤ l) (h3 : l ≤ 3) : (34359738368 : Int) / 2 ^ (9 * (3 - l)).toNat = limS l := by
  rcases (show l = 1 ∨ l = 2 ∨ l = 3 by omega) with rfl | rfl | rfl <;> decide
set_option maxRecDepth 100000 in
set_option maxHeartbeats 4000000 in
theorem rmayS_any (x : Sb) (w : World) : Calls Tryd.prog 64 #[.agg #[.int .i64 x.a, .int .i8 x.l, .int .u64 x.p, .int .i64 x.f]] w fun e w' => e = .returned (.bool (mayS x)) ∧ Below w.heap.size w w' := by
  obtain ⟨xa, xl, xp, xf⟩ := x
  simp only
  by_cases h1 : 0 ≤ xa
  · by_cases h2 : xa ≤ 255
    · by_cases h3 : 1 ≤ xl
      · by_cases h4 : xl ≤ 3
        · by_cases h5 : xp < 34359738368 / 2 ^ (9 * (3 - xl)).toNat
          · by_cases h6 : 0 ≤ xf
            · by_cases h7 : xf < 64
              · have HE := Lib.hid (show mayS ⟨xa, xl, xp, xf⟩ = true from decide_eq_true ⟨h1, h2, h6, h7, h3, h4, (lim_eq h3 h4) ▸ h5⟩)
                have d1 := decide_eq_true h1
                have d2 := decide_eq_true h2
                have d3 := decide_eq_true h3
                have d4 := decide_eq_true h4
                have d5 := decide_eq_true h5
                have d6 := decide_eq_true h6
                have d7 := decide_eq_true h7
                go_enter Tryd.func64, Tryd.ntmps64
                go_wp2_with fail
                go_quiet ((go_at_call 66; exact Calls.quiet_of_same (rpre_q _ _ _ (by omega) (by omega))))
                go_wp2_with fail
                go_ret
                exact ⟨by rw [HE.out]; rfl, bdn (ba (Below.refl _ _) _) _⟩
              · have HE := Lib.hid (show mayS ⟨xa, xl, xp, xf⟩ = false from decide_eq_false (fun h => h7 (h.2.2.2.1)))
                have d1 := decide_eq_true h1
                have d2 := decide_eq_true h2
                have d3 := decide_eq_true h3
                have d4 := decide_eq_true h4
                have d5 := decide_eq_true h5
                have d6 := decide_eq_true h6
                have d7 := decide_eq_false h7
                go_enter Tryd.func64, Tryd.ntmps64
                go_wp2_with fail
                go_quiet ((go_at_call 66; exact Calls.quiet_of_same (rpre_q _ _ _ (by omega) (by omega))))
                go_wp2_with fail
                go_ret
                exact ⟨by rw [HE.out]; rfl, bdn (ba (Below.refl _ _) _) _⟩
            · have HE := Lib.hid (show mayS ⟨xa, xl, xp, xf⟩ = false from decide_eq_false (fun h => h6 (h.2.2.1)))
              have d1 := decide_eq_true h1
              have d2 := decide_eq_true h2
              have d3 := decide_eq_true h3
              have d4 := decide_eq_true h4
              have d5 := decide_eq_true h5
              have d6 := decide_eq_false h6
              go_enter Tryd.func64, Tryd.ntmps64
              go_wp2_with fail
              go_quiet ((go_at_call 66; exact Calls.quiet_of_same (rpre_q _ _ _ (by omega) (by omega))))
              go_wp2_with fail
              go_ret
              exact ⟨by rw [HE.out]; rfl, bdn (ba (Below.refl _ _) _) _⟩
          · have HE := Lib.hid (show mayS ⟨xa, xl, xp, xf⟩ = false from decide_eq_false (fun h => h5 ((lim_eq h.2.2.2.2.1 h.2.2.2.2.2.1).symm ▸ h.2.2.2.2.2.2)))
            have d1 := decide_eq_true h1
            have d2 := decide_eq_true h2
            have d3 := decide_eq_true h3
            have d4 := decide_eq_true h4
            have d5 := decide_eq_false h5
            go_enter Tryd.func64, Tryd.ntmps64
            go_wp2_with fail
            go_quiet ((go_at_call 66; exact Calls.quiet_of_same (rpre_q _ _ _ (by omega) (by omega))))
            go_wp2_with fail
            go_ret
            exact ⟨by rw [HE.out]; rfl, bdn (ba (Below.refl _ _) _) _⟩
        · have HE := Lib.hid (show mayS ⟨xa, xl, xp, xf⟩ = false from decide_eq_false (fun h => h4 (h.2.2.2.2.2.1)))
          have d1 := decide_eq_true h1
          have d2 := decide_eq_true h2
          have d3 := decide_eq_true h3
          have d4 := decide_eq_false h4
          go_enter Tryd.func64, Tryd.ntmps64
          go_wp2_with fail
          go_quiet (fail)
          go_wp2_with fail
          go_ret
          exact ⟨by rw [HE.out]; rfl, bdn (ba (Below.refl _ _) _) _⟩
      · have HE := Lib.hid (show mayS ⟨xa, xl, xp, xf⟩ = false from decide_eq_false (fun h => h3 (h.2.2.2.2.1)))
        have d1 := decide_eq_true h1
        have d2 := decide_eq_true h2
        have d3 := decide_eq_false h3
        go_enter Tryd.func64, Tryd.ntmps64
        go_wp2_with fail
        go_quiet (fail)
        go_wp2_with fail
        go_ret
        exact ⟨by rw [HE.out]; rfl, bdn (ba (Below.refl _ _) _) _⟩
    · have HE := Lib.hid (show mayS ⟨xa, xl, xp, xf⟩ = false from decide_eq_false (fun h => h2 (h.2.1)))
      have d1 := decide_eq_true h1
      have d2 := decide_eq_false h2
      go_enter Tryd.func64, Tryd.ntmps64
      go_wp2_with fail
      go_quiet (fail)
      go_wp2_with fail
      go_ret
      exact ⟨by rw [HE.out]; rfl, bdn (ba (Below.refl _ _) _) _⟩
  · have HE := Lib.hid (show mayS ⟨xa, xl, xp, xf⟩ = false from decide_eq_false (fun h => h1 (h.1)))
    have d1 := decide_eq_false h1
    go_enter Tryd.func64, Tryd.ntmps64
    go_wp2_with fail
    go_quiet (fail)
    go_wp2_with fail
    go_ret
    exact ⟨by rw [HE.out]; rfl, bdn (ba (Below.refl _ _) _) _⟩
theorem rplaceS_any (x y : Sb) (w : World) : Calls Tryd.prog 65 #[.agg #[.int .i64 x.a, .int .i8 x.l, .int .u64 x.p, .int .i64 x.f], .agg #[.int .i64 y.a, .int .i8 y.l, .int .u64 y.p, .int .i64 y.f]] w fun e w' => e = .returned (.bool (decide (plS x = plS y))) ∧ Below w.heap.size w w' := by
  by_cases h : plS x = plS y
  · have HE := Lib.hid (decide_eq_true h)
    simp only [plS, Prod.mk.injEq] at h
    obtain ⟨q1, q2, q3⟩ := h
    have p1 : (x.a == y.a) = true := by simpa using q1
    have p2 : (x.l == y.l) = true := by simpa using q2
    have p3 : (x.p == y.p) = true := by simpa using q3
    clear q1 q2 q3
    obtain ⟨xa, xl, xp, xf⟩ := x
    obtain ⟨ya, yl, yp, yf⟩ := y
    simp only at p1 p2 p3 ⊢
    go_enter Tryd.func65, Tryd.ntmps65
    go_wp2_with fail
    go_ret
    exact ⟨by rw [HE.out]; rfl, ba (ba (Below.refl _ _) _) _⟩
  · have HE := Lib.hid (decide_eq_false h)
    have hc := ne3 (show ¬ ((x.a, x.l, x.p) : Int × Int × Int) = (y.a, y.l, y.p) from h)
    clear h
    have hc' : (x.a == y.a) = false ∨ ((x.a == y.a) = true ∧ (x.l == y.l) = false) ∨ ((x.a == y.a) = true ∧ (x.l == y.l) = true ∧ (x.p == y.p) = false) := by
      rcases hc with h | ⟨h, h'⟩ | ⟨h, h', h''⟩
      · exact Or.inl (by simpa using h)
      · exact Or.inr (Or.inl ⟨by simpa using h, by simpa using h'⟩)
      · exact Or.inr (Or.inr ⟨by simpa using h, by simpa using h', by simpa using h''⟩)
    clear hc
    obtain ⟨xa, xl, xp, xf⟩ := x
    obtain ⟨ya, yl, yp, yf⟩ := y
    simp only at hc' ⊢
    rcases hc' with p1 | ⟨p1, p2⟩ | ⟨p1, p2, p3⟩
    all_goals
      go_enter Tryd.func65, Tryd.ntmps65
      go_wp2_with fail
      go_ret
      exact ⟨by rw [HE.out]; rfl, ba (ba (Below.refl _ _) _) _⟩
set_option maxRecDepth 100000 in
set_option maxHeartbeats 4000000 in
theorem rcheckS_short (O : Option Addr) (cap : Nat) (xs : List Sb) (w : World) (hI : RK encS 4 w O xs) (hcap : xs.length ≤ cap) (h8 : xs.length ≤ 4) :
    Calls Tryd.prog 33 #[.slice O xs.length cap] w fun e w' => e = .returned (.int .i64 (ckE mayS plS 4 xs)) ∧ Below w.heap.size w w' := by
  have HI := Lib.hid hI
  clear hI
  have H8 := Lib.hid h8
  obtain ⟨len, hlen⟩ : ∃ len, len = xs.length := ⟨_, rfl⟩
  rw [← hlen] at hcap h8 ⊢
  have HL := Lib.hid hlen
  clear hlen
  go_enter Tryd.func33, Tryd.ntmps33
  go_wp2_with fail
  go_loopw [3] (fun i wr => ∃ j : Nat, i = .int .i64 j ∧ j ≤ len ∧ OkB mayS plS xs j ∧ Below w.heap.size w wr) (fun i _ => len - (intOf i).toNat)
  case atStart => exact ⟨0, rfl, by omega, OkB.zero _, Below.refl _ _⟩
  case round =>
    obtain ⟨j, rfl, hj, hN, hB⟩ := hrel
    have HN := Lib.hid hN
    clear hN
    by_cases hlt : j < len
    · obtain ⟨b, off, hO2, hcell⟩ := (HI.out.call hB) (by have := HL.out; omega)
      subst hO2
      obtain ⟨x, hx⟩ : ∃ x, xs[j]? = some x := ⟨xs[j]'(by have := HL.out; omega), List.getElem?_eq_getElem _⟩
      obtain ⟨c0, c1, c2, c3⟩ := sb_cells hx hcell
      have HX := Lib.hid hx
      have HB := Lib.hid hB
      clear hcell hB hx
      go_wp2_with fail
      refine (rmayS_any x _).mono ?_
      rintro e w1 ⟨rfl, hb⟩
      have HB1 := Lib.hid (bthen HB.out hb)
      clear hb HB c0 c1 c2 c3
      rcases hm : mayS x with _ | _
      · have HE := Lib.hid (ck_may (pl := plS) (mx := 4) HX.out hm)
        clear hm HX HN
        go_wp2_with fail
        go_ret
        exact ⟨by rw [HE.out]; rfl, HB1.out⟩
      · have HM := Lib.hid hm
        clear hm
        go_wp2_with fail
        obtain ⟨wo, hwo⟩ : ∃ wo : World, wo = w1 := ⟨_, rfl⟩
        clear hwo wo
        go_loopw [4] (fun i wr => ∃ k : Nat, i = .int .i64 k ∧ k ≤ j ∧ NoB plS xs (plS x) k ∧ Below w.heap.size w wr) (fun i _ => j - (intOf i).toNat)
        case atStart => exact ⟨0, rfl, by omega, NoB.zero _ _, HB1.out⟩
        case round =>
          obtain ⟨k, rfl, hk, hN2, hB2⟩ := hrel
          by_cases hlt2 : k < j
          · obtain ⟨b', off', hO2, hcell⟩ := (HI.out.call hB2) (by have := HL.out; omega)
            simp only [Option.some.injEq, Addr.mk.injEq, and_true] at hO2
            obtain ⟨rfl, rfl⟩ := hO2
            obtain ⟨y, hy⟩ : ∃ y, xs[k]? = some y := ⟨xs[k]'(by have := HL.out; omega), List.getElem?_eq_getElem _⟩
            obtain ⟨c0, c1, c2, c3⟩ := sb_cells HX.out hcell
            obtain ⟨d0, d1, d2, d3⟩ := sb_cells hy hcell
            have lb : b < wr.heap.size := World.block_lt_of_cell? wr ⟨b, off + j * 4, none⟩ c0
            have HY := Lib.hid hy
            have HN2 := Lib.hid hN2
            have HB2 := Lib.hid hB2
            have i1 : (0 : Int) ≤ (k : Int) := by omega
            have i2 : (k : Int) < (len : Int) := by omega
            have i3 : (0 : Int) ≤ (j : Int) := by omega
            have i4 : (j : Int) < (len : Int) := by omega
            clear hcell hy hN2 hB2 HB1
            by_cases hq : plS y = plS x
            · have HE := Lib.hid (ck_twice (may := mayS) (mx := 4) HX.out (fun hn => hn k y hlt2 HY.out hq))
              have HD := Lib.hid (decide_eq_true hq)
              clear hq HX HY HN2
              go_wp2_with fail
              refine wp_region_held_drew (S := fun w' => Below wr.heap.size wr w') (by kernel_rfl) (bd (Below.refl _ _)) (fun hHeld => ?_)
              refine wpAnyH_take (i := 0) (oi := ⟨_, _, _, _, _, _⟩) (v := ?va0) rfl (by kernel_rfl) (by kernel_rfl) (by kernel_rfl) (fun _ _ _ h => h) (Or.inl ⟨by rfl, ?hya0⟩) hHeld ?resta0
              case hya0 => (intro w' hSw; go_simp; try with_reducible rfl)
              try simp only [Act.put, List.setIfInBounds_toArray, List.set_cons_zero, List.set_cons_succ]
              refine wpAnyH_take (i := 1) (oi := ⟨_, _, _, _, _, _⟩) (v := ?va1) rfl (by kernel_rfl) (by kernel_rfl) (by kernel_rfl) (fun _ _ _ h => h) (Or.inl ⟨by rfl, ?hya1⟩) hHeld ?resta1
              case hya1 => (intro w' hSw; go_simp; try with_reducible rfl)
              try simp only [Act.put, List.setIfInBounds_toArray, List.set_cons_zero, List.set_cons_succ]
              refine wpAnyH_take (i := 2) (oi := ⟨_, _, _, _, _, _⟩) (v := ?va2) rfl (by kernel_rfl) (by kernel_rfl) (by kernel_rfl) (fun _ _ _ h => h) (Or.inl ⟨by rfl, ?hya2⟩) hHeld ?resta2
              case hya2 => (intro w' hSw; go_simp; try with_reducible rfl)
              try simp only [Act.put, List.setIfInBounds_toArray, List.set_cons_zero, List.set_cons_succ]
              refine wpAnyH_take (i := 3) (oi := ⟨_, _, _, _, _, _⟩) (v := ?va3) rfl (by kernel_rfl) (by kernel_rfl) (by kernel_rfl) (fun _ _ _ h => h) (Or.inl ⟨by rfl, ?hya3⟩) hHeld ?resta3
              case hya3 => (intro w' hSw; obtain ⟨hcc, hff⟩ := bcell hSw; go_simp; try with_reducible rfl)
              try simp only [Act.put, List.setIfInBounds_toArray, List.set_cons_zero, List.set_cons_succ]
              refine wpAnyH_take (i := 4) (oi := ⟨_, _, _, _, _, _⟩) (v := ?va4) rfl (by kernel_rfl) (by kernel_rfl) (by kernel_rfl) (fun _ _ _ h => h) (Or.inl ⟨by rfl, ?hya4⟩) hHeld ?resta4
              case hya4 => (intro w' hSw; go_simp; try with_reducible rfl)
              try simp only [Act.put, List.setIfInBounds_toArray, List.set_cons_zero, List.set_cons_succ]
              refine wpAnyH_take (i := 5) (oi := ⟨_, _, _, _, _, _⟩) (v := ?va5) rfl (by kernel_rfl) (by kernel_rfl) (by kernel_rfl) (fun _ _ _ h => h) (Or.inl ⟨by rfl, ?hya5⟩) hHeld ?resta5
              case hya5 => (intro w' hSw; go_simp; try with_reducible rfl)
              try simp only [Act.put, List.setIfInBounds_toArray, List.set_cons_zero, List.set_cons_succ]
              refine wpAnyH_take (i := 6) (oi := ⟨_, _, _, _, _, _⟩) (v := ?va6) rfl (by kernel_rfl) (by kernel_rfl) (by kernel_rfl) (fun _ _ _ h => h) (Or.inl ⟨by rfl, ?hya6⟩) hHeld ?resta6
              case hya6 => (intro w' hSw; go_simp; try with_reducible rfl)
              try simp only [Act.put, List.setIfInBounds_toArray, List.set_cons_zero, List.set_cons_succ]
              refine wpAnyH_take (i := 7) (oi := ⟨_, _, _, _, _, _⟩) (v := ?va7) rfl (by kernel_rfl) (by kernel_rfl) (by kernel_rfl) (fun _ _ _ h => h) (Or.inl ⟨by rfl, ?hya7⟩) hHeld ?resta7
              case hya7 => (intro w' hSw; obtain ⟨hcc, hff⟩ := bcell hSw; go_simp; try with_reducible rfl)
              try simp only [Act.put, List.setIfInBounds_toArray, List.set_cons_zero, List.set_cons_succ]
              refine wpAnyH_ready (rs := [8]) (by kernel_rfl) (by simp) ?_
              refine AllReadyH.cons (o := ⟨_, _, _, _, _, _⟩) rfl (fun K hK => ?_) AllReadyH.nil
              go_simp
              refine (rplaceS_any y x _).mono ?_
              rintro e wra1 ⟨rfl, hb⟩
              rw [HD.out]
              go_wp2_with fail
              have hB2 := bthen hHeld hb
              clear hHeld hb
              refine hK.out _ _ hB2 (fun hHeld => ?_)
              clear hB2 hK K
              try simp only [Act.put, List.setIfInBounds_toArray, List.set_cons_zero, List.set_cons_succ]
              refine wpAnyH_done (by kernel_rfl) ?_ _
              have HH := Lib.hid hHeld
              clear hHeld
              go_wp2_with fail
              go_ret
              exact ⟨by rw [HE.out]; rfl, bthen HB2.out HH.out⟩
            · have HS := Lib.hid (NoB.succ HN2.out HY.out hq)
              have HD := Lib.hid (decide_eq_false hq)
              clear hq HX HY HN2
              go_wp2_with fail
              refine wp_region_held_drew (S := fun w' => Below wr.heap.size wr w') (by kernel_rfl) (bd (Below.refl _ _)) (fun hHeld => ?_)
              refine wpAnyH_take (i := 0) (oi := ⟨_, _, _, _, _, _⟩) (v := ?vb0) rfl (by kernel_rfl) (by kernel_rfl) (by kernel_rfl) (fun _ _ _ h => h) (Or.inl ⟨by rfl, ?hyb0⟩) hHeld ?restb0
              case hyb0 => (intro w' hSw; go_simp; try with_reducible rfl)
              try simp only [Act.put, List.setIfInBounds_toArray, List.set_cons_zero, List.set_cons_succ]
              refine wpAnyH_take (i := 1) (oi := ⟨_, _, _, _, _, _⟩) (v := ?vb1) rfl (by kernel_rfl) (by kernel_rfl) (by kernel_rfl) (fun _ _ _ h => h) (Or.inl ⟨by rfl, ?hyb1⟩) hHeld ?restb1
              case hyb1 => (intro w' hSw; go_simp; try with_reducible rfl)
              try simp only [Act.put, List.setIfInBounds_toArray, List.set_cons_zero, List.set_cons_succ]
              refine wpAnyH_take (i := 2) (oi := ⟨_, _, _, _, _, _⟩) (v := ?vb2) rfl (by kernel_rfl) (by kernel_rfl) (by kernel_rfl) (fun _ _ _ h => h) (Or.inl ⟨by rfl, ?hyb2⟩) hHeld ?restb2
              case hyb2 => (intro w' hSw; go_simp; try with_reducible rfl)
              try simp only [Act.put, List.setIfInBounds_toArray, List.set_cons_zero, List.set_cons_succ]
              refine wpAnyH_take (i := 3) (oi := ⟨_, _, _, _, _, _⟩) (v := ?vb3) rfl (by kernel_rfl) (by kernel_rfl) (by kernel_rfl) (fun _ _ _ h => h) (Or.inl ⟨by rfl, ?hyb3⟩) hHeld ?restb3
              case hyb3 => (intro w' hSw; obtain ⟨hcc, hff⟩ := bcell hSw; go_simp; try with_reducible rfl)
              try simp only [Act.put, List.setIfInBounds_toArray, List.set_cons_zero, List.set_cons_succ]
              refine wpAnyH_take (i := 4) (oi := ⟨_, _, _, _, _, _⟩) (v := ?vb4) rfl (by kernel_rfl) (by kernel_rfl) (by kernel_rfl) (fun _ _ _ h => h) (Or.inl ⟨by rfl, ?hyb4⟩) hHeld ?restb4
              case hyb4 => (intro w' hSw; go_simp; try with_reducible rfl)
              try simp only [Act.put, List.setIfInBounds_toArray, List.set_cons_zero, List.set_cons_succ]
              refine wpAnyH_take (i := 5) (oi := ⟨_, _, _, _, _, _⟩) (v := ?vb5) rfl (by kernel_rfl) (by kernel_rfl) (by kernel_rfl) (fun _ _ _ h => h) (Or.inl ⟨by rfl, ?hyb5⟩) hHeld ?restb5
              case hyb5 => (intro w' hSw; go_simp; try with_reducible rfl)
              try simp only [Act.put, List.setIfInBounds_toArray, List.set_cons_zero, List.set_cons_succ]
              refine wpAnyH_take (i := 6) (oi := ⟨_, _, _, _, _, _⟩) (v := ?vb6) rfl (by kernel_rfl) (by kernel_rfl) (by kernel_rfl) (fun _ _ _ h => h) (Or.inl ⟨by rfl, ?hyb6⟩) hHeld ?restb6
              case hyb6 => (intro w' hSw; go_simp; try with_reducible rfl)
              try simp only [Act.put, List.setIfInBounds_toArray, List.set_cons_zero, List.set_cons_succ]
              refine wpAnyH_take (i := 7) (oi := ⟨_, _, _, _, _, _⟩) (v := ?vb7) rfl (by kernel_rfl) (by kernel_rfl) (by kernel_rfl) (fun _ _ _ h => h) (Or.inl ⟨by rfl, ?hyb7⟩) hHeld ?restb7
              case hyb7 => (intro w' hSw; obtain ⟨hcc, hff⟩ := bcell hSw; go_simp; try with_reducible rfl)
              try simp only [Act.put, List.setIfInBounds_toArray, List.set_cons_zero, List.set_cons_succ]
              refine wpAnyH_ready (rs := [8]) (by kernel_rfl) (by simp) ?_
              refine AllReadyH.cons (o := ⟨_, _, _, _, _, _⟩) rfl (fun K hK => ?_) AllReadyH.nil
              go_simp
              refine (rplaceS_any y x _).mono ?_
              rintro e wrb1 ⟨rfl, hb⟩
              rw [HD.out]
              go_wp2_with fail
              have hB2 := bthen hHeld hb
              clear hHeld hb
              refine hK.out _ _ hB2 (fun hHeld => ?_)
              clear hB2 hK K
              try simp only [Act.put, List.setIfInBounds_toArray, List.set_cons_zero, List.set_cons_succ]
              refine wpAnyH_done (by kernel_rfl) ?_ _
              have HH := Lib.hid hHeld
              clear hHeld
              go_wp2_with fail
              go_roundw
              case rel => exact ⟨k + 1, by go_num, by omega, HS.out, bthen HB2.out HH.out⟩
              case measure => simp [intOf]; omega
          · have HS := Lib.hid (OkB.succ HN.out HX.out HM.out (fun i y hi hy => hN2 i y (by omega) hy))
            have HB2 := Lib.hid hB2
            clear hN2 hB2 HN HX
            go_wp2_with fail
            go_roundw
            case rel => exact ⟨j + 1, by go_num, by omega, HS.out, HB2.out⟩
            case measure => simp [intOf]; omega
    · have HE := Lib.hid (ck_done (mx := 4) HN.out (by have := HL.out; omega) H8.out)
      have HB := Lib.hid hB
      clear hB
      go_wp2_with fail
      go_ret
      exact ⟨by rw [HE.out]; rfl, HB.out⟩
theorem rcheckS_any (O : Option Addr) (cap : Nat) (xs : List Sb) (w : World) (hI : RK encS 4 w O xs) (hcap : xs.length ≤ cap) :
    Calls Tryd.prog 33 #[.slice O xs.length cap] w fun e w' => e = .returned (.int .i64 (ckE mayS plS 4 xs)) ∧ Below w.heap.size w w' := by
  by_cases h : xs.length ≤ 4
  · exact rcheckS_short O cap xs w hI hcap h
  · have HE := Lib.hid (ck_long (may := mayS) (pl := plS) (show 4 < xs.length by omega))
    have h' : 4 < xs.length := by omega
    obtain ⟨len, hlen⟩ : ∃ len, len = xs.length := ⟨_, rfl⟩
    rw [← hlen] at h' ⊢
    clear h hcap hI hlen
    go_enter Tryd.func33, Tryd.ntmps33
    go_wp2_with fail
    go_ret
    exact ⟨by rw [HE.out]; rfl, Below.refl _ _⟩
end
section
open Go.RowKit
set_option linter.unusedVariables false
set_option linter.unusedSimpArgs false
/-- What holds at the head of a round. -/
def RRel (w : World) (of : Sb → Bool) (xs : List Sb) (len : Nat) (found i : Value) (wr : World) : Prop :=
  ∃ j : Nat, i = .int .i64 j ∧ j ≤ len ∧ found = .bool (bst of (xs.take j)).isSome ∧ Below w.heap.size w wr ∧ Arr wr w.heap.size [.int .i64 0, .int .i8 0, .int .u64 0, .int .i64 0] ∧ Arr wr (w.heap.size + 1) (encS ((bst of (xs.take j)).getD zS))
set_option maxRecDepth 100000 in
set_option maxHeartbeats 16000000 in
theorem rbest_any (O : Option Addr) (cap : Nat) (xs : List Sb) (asid page : Int) (w : World) (hI : RK encS 4 w O xs) (hcap : xs.length ≤ cap) (hm : cap ≤ maxLen) :
    Calls Tryd.prog 34 #[.slice O xs.length cap, .int .i64 asid, .int .u64 page] w
      fun e w' => e = .returned (.tuple #[.agg #[.int .i64 ((bestO xs asid page).getD zS).a, .int .i8 ((bestO xs asid page).getD zS).l, .int .u64 ((bestO xs asid page).getD zS).p, .int .i64 ((bestO xs asid page).getD zS).f], .bool (bestO xs asid page).isSome]) ∧ Below w.heap.size w w' := by
  unfold maxLen at hm
  have hB0 := ba (ba (Below.refl w.heap.size w) (.cells #[.int .i64 0, .int .i8 0, .int .u64 0, .int .i64 0] 36)) (.cells #[.int .i64 0, .int .i8 0, .int .u64 0, .int .i64 0] 36)
  have e1 : (w.alloc (.cells #[.int .i64 0, .int .i8 0, .int .u64 0, .int .i64 0] 36)).heap.size = w.heap.size + 1 := by simp
  have HB0 := Lib.hid hB0
  have HR0 := Lib.hid ((Arr.new w #[.int .i64 0, .int .i8 0, .int .u64 0, .int .i64 0] 36).alloc (.cells #[.int .i64 0, .int .i8 0, .int .u64 0, .int .i64 0] 36))
  have HT0 := Lib.hid (e1 ▸ Arr.new (w.alloc (.cells #[.int .i64 0, .int .i8 0, .int .u64 0, .int .i64 0] 36)) #[.int .i64 0, .int .i8 0, .int .u64 0, .int .i64 0] 36)
  have HI0 := Lib.hid hI
  have HI := Lib.hid (hI.call hB0)
  clear hI hB0 e1
  have HCap := Lib.hid hcap
  rcases ckE_cases mayS plS 4 xs with ⟨hk, h2⟩ | ⟨hk, h2⟩
  · have HE := Lib.hid (show bestO xs asid page = bst (ofB asid page) xs from if_pos hk)
    have HM := Lib.hid hk.2
    have HC2 := Lib.hid h2
    have h8 := hk.1
    clear hk h2
    obtain ⟨len, hlen⟩ : ∃ len, len = xs.length := ⟨_, rfl⟩
    rw [← hlen] at hcap h8 ⊢
    have HL := Lib.hid hlen
    clear hlen
    go_enter Tryd.func34, Tryd.ntmps34
    go_wp2_with fail
    generalize (w.alloc (.cells #[.int .i64 0, .int .i8 0, .int .u64 0, .int .i64 0] 36)).alloc (.cells #[.int .i64 0, .int .i8 0, .int .u64 0, .int .i64 0] 36) = W0 at *
    go_loopw [9, 10] (fun found i wr => RRel w (ofB asid page) xs len found i wr) (fun _ i _ => len - (intOf i).toNat)
    case atStart => exact ⟨0, rfl, by omega, rfl, HB0.out, HR0.out, HT0.out⟩
    case round =>
      obtain ⟨j, rfl, hj, HF, hB, hR, hT⟩ := hrel
      by_cases hlt : j < len
      · obtain ⟨x, hx⟩ : ∃ x, xs[j]? = some x := ⟨xs[j]'(by have := HL.out; omega), List.getElem?_eq_getElem _⟩
        have HS := Lib.hid (bst_succ (ofB asid page) xs j x hx)
        have hmx := (HM.out j x (by have := HL.out; omega) hx).1
        obtain ⟨-, -, -, -, hl1, hl3, -⟩ := of_decide_eq_true hmx
        generalize ho : bst (ofB asid page) (xs.take j) = o at *
        have HX := Lib.hid hx
        have HB := Lib.hid hB
        have HR := Lib.hid hR
        have HT := Lib.hid hT
        clear hB hR hT hx hmx ho
        go_wp2_with fail
        rw [HL.out]
        refine (rcheckS_any O cap xs _ (HI0.out.call HB.out) HCap.out).mono ?_
        rintro e w1 ⟨rfl, hb⟩
        rw [HC2.out, ← HL.out]
        have HBx := Lib.hid (bthen HB.out hb)
        obtain ⟨b, off, hO, hcell⟩ := (HI0.out.call HBx.out) (by have := HL.out; omega)
        subst hO
        obtain ⟨c0, c1, c2, c3⟩ := sb_cells HX.out hcell
        have HA1 := Lib.hid (Arr.new w1 #[.int .i64 x.a, .int .i8 x.l, .int .u64 x.p, .int .i64 x.f] 36)
        have HB1 := Lib.hid (ba HBx.out (.cells #[.int .i64 x.a, .int .i8 x.l, .int .u64 x.p, .int .i64 x.f] 36))
        have HR1 := Lib.hid ((HR.out.call hb).alloc (.cells #[.int .i64 x.a, .int .i8 x.l, .int .u64 x.p, .int .i64 x.f] 36))
        have HT1 := Lib.hid ((HT.out.call hb).alloc (.cells #[.int .i64 x.a, .int .i8 x.l, .int .u64 x.p, .int .i64 x.f] 36))
        have hY : w.heap.size + 1 < w1.heap.size := (HT.out.call hb).lt
        have j0 : (0 : Int) ≤ (j : Int) := by omega
        have j1 : (j : Int) < (len : Int) := by omega
        clear hb hcell HB HR HT HX HBx
        rcases ha : (x.a == asid) with _ | _
        · have HN := Lib.hid (HS.out.trans (bstep_no (by unfold ofB; rw [ha]; rfl)))
          go_wp2_with fail
          generalize w1.heap.size = Y at *
          generalize w1.alloc (.cells #[.int .i64 x.a, .int .i8 x.l, .int .u64 x.p, .int .i64 x.f] 36) = W1 at *
          have a0 := HA1.out.cell 0 _ rfl
          have a1 := HA1.out.cell 1 _ rfl
          have a2 := HA1.out.cell 2 _ rfl
          have a3 := HA1.out.cell 3 _ rfl
          go_quiet (fail)
          go_wp2_with fail
          go_roundw
          case rel => exact ⟨j + 1, by go_num, by omega, by first | (rw [HN.out]; done) | (rw [HN.out]; exact HF) | rw [HN.out], bdn HB1.out _, HR1.out.drewN _, by rw [HN.out]; exact HT1.out.drewN _⟩
          case measure => simp [intOf]; omega
        · rcases hp : (page / 2 ^ (9 * (3 - x.l)).toNat == x.p) with _ | _
          · have HN := Lib.hid (HS.out.trans (bstep_no (by unfold ofB; rw [ha, hp]; rfl)))
            go_wp2_with fail
            generalize w1.heap.size = Y at *
            generalize w1.alloc (.cells #[.int .i64 x.a, .int .i8 x.l, .int .u64 x.p, .int .i64 x.f] 36) = W1 at *
            have a0 := HA1.out.cell 0 _ rfl
            have a1 := HA1.out.cell 1 _ rfl
            have a2 := HA1.out.cell 2 _ rfl
            have a3 := HA1.out.cell 3 _ rfl
            go_quiet ((go_at_call 66; exact Calls.quiet_of_same (rpre_q _ _ _ hl1 hl3)))
            go_wp2_with fail
            go_roundw
            case rel => exact ⟨j + 1, by go_num, by omega, by first | (rw [HN.out]; done) | (rw [HN.out]; exact HF) | rw [HN.out], bdn HB1.out _, HR1.out.drewN _, by rw [HN.out]; exact HT1.out.drewN _⟩
            case measure => simp [intOf]; omega
          · rcases o with _ | bb
            · simp only [Option.isSome_none] at HF
              subst HF
              have HN := Lib.hid (HS.out.trans (bstep_first (by unfold ofB; rw [ha, hp]; rfl)))
              have HTT := Lib.hid (show Arr _ (w.heap.size + 1) [.int .i64 0, .int .i8 0, .int .u64 0, .int .i64 0] from HT1.out)
              go_wp2_with fail
              generalize w1.heap.size = Y at *
              generalize w1.alloc (.cells #[.int .i64 x.a, .int .i8 x.l, .int .u64 x.p, .int .i64 x.f] 36) = W1 at *
              have a0 := HA1.out.cell 0 _ rfl
              have a1 := HA1.out.cell 1 _ rfl
              have a2 := HA1.out.cell 2 _ rfl
              have a3 := HA1.out.cell 3 _ rfl
              have t0 := HTT.out.cell 0 _ rfl
              have t1 := HTT.out.cell 1 _ rfl
              have t2 := HTT.out.cell 2 _ rfl
              have t3 := HTT.out.cell 3 _ rfl
              have f0 := HTT.out.frozen 0 (by simp)
              have f1 := HTT.out.frozen 1 (by simp)
              have f2 := HTT.out.frozen 2 (by simp)
              have f3 := HTT.out.frozen 3 (by simp)
              have lA := HA1.out.lt
              have lT := HTT.out.lt
              have n1 : ¬ w.heap.size + 1 = Y := by omega
              go_quiet ((go_at_call 66; exact Calls.quiet_of_same (rpre_q _ _ _ hl1 hl3)))
              go_wp2_with fail
              go_roundw
              case rel => exact ⟨j + 1, by go_num, by omega, by rw [HN.out]; rfl, bs4 (bdn HB1.out _) (by omega) _ _ _ _, Arr.far4 (HR1.out.drewN _) (by omega) _ _ _ _, by rw [HN.out]; exact Arr.put4 (HTT.out.drewN _) _ _ _ _⟩
              case measure => simp [intOf]; omega
            · simp only [Option.isSome_some] at HF
              subst HF
              have HTT := Lib.hid (show Arr _ (w.heap.size + 1) [.int .i64 bb.a, .int .i8 bb.l, .int .u64 bb.p, .int .i64 bb.f] from HT1.out)
              by_cases hl : bb.l < x.l
              · have hl' : decide (bb.l < x.l) = true := decide_eq_true hl
                have HN := Lib.hid (HS.out.trans (bstep_more (by unfold ofB; rw [ha, hp]; rfl) hl))
                go_wp2_with fail
                generalize w1.heap.size = Y at *
                generalize w1.alloc (.cells #[.int .i64 x.a, .int .i8 x.l, .int .u64 x.p, .int .i64 x.f] 36) = W1 at *
                have a0 := HA1.out.cell 0 _ rfl
                have a1 := HA1.out.cell 1 _ rfl
                have a2 := HA1.out.cell 2 _ rfl
                have a3 := HA1.out.cell 3 _ rfl
                have t0 := HTT.out.cell 0 _ rfl
                have t1 := HTT.out.cell 1 _ rfl
                have t2 := HTT.out.cell 2 _ rfl
                have t3 := HTT.out.cell 3 _ rfl
                have f0 := HTT.out.frozen 0 (by simp)
                have f1 := HTT.out.frozen 1 (by simp)
                have f2 := HTT.out.frozen 2 (by simp)
                have f3 := HTT.out.frozen 3 (by simp)
                have lA := HA1.out.lt
                have lT := HTT.out.lt
                have n1 : ¬ w.heap.size + 1 = Y := by omega
                go_quiet ((go_at_call 66; exact Calls.quiet_of_same (rpre_q _ _ _ hl1 hl3)))
                go_wp2_with fail
                go_roundw
                case rel => exact ⟨j + 1, by go_num, by omega, by rw [HN.out]; rfl, bs4 (bdn HB1.out _) (by omega) _ _ _ _, Arr.far4 (HR1.out.drewN _) (by omega) _ _ _ _, by rw [HN.out]; exact Arr.put4 (HTT.out.drewN _) _ _ _ _⟩
                case measure => simp [intOf]; omega
              · have hl' : decide (bb.l < x.l) = false := decide_eq_false hl
                have HN := Lib.hid (HS.out.trans (bstep_less (by unfold ofB; rw [ha, hp]; rfl) hl))
                go_wp2_with fail
                generalize w1.heap.size = Y at *
                generalize w1.alloc (.cells #[.int .i64 x.a, .int .i8 x.l, .int .u64 x.p, .int .i64 x.f] 36) = W1 at *
                have a0 := HA1.out.cell 0 _ rfl
                have a1 := HA1.out.cell 1 _ rfl
                have a2 := HA1.out.cell 2 _ rfl
                have a3 := HA1.out.cell 3 _ rfl
                have t0 := HTT.out.cell 0 _ rfl
                have t1 := HTT.out.cell 1 _ rfl
                have t2 := HTT.out.cell 2 _ rfl
                have t3 := HTT.out.cell 3 _ rfl
                have lT := HTT.out.lt
                go_quiet ((go_at_call 66; exact Calls.quiet_of_same (rpre_q _ _ _ hl1 hl3)))
                go_wp2_with fail
                go_roundw
                case rel => exact ⟨j + 1, by go_num, by omega, by first | (rw [HN.out]; done) | (rw [HN.out]; rfl) | rw [HN.out], bdn HB1.out _, HR1.out.drewN _, by rw [HN.out]; exact HT1.out.drewN _⟩
                case measure => simp [intOf]; omega
      · have HN := Lib.hid (show bst (ofB asid page) (xs.take j) = bestO xs asid page from by rw [HE.out, List.take_of_length_le (by have := HL.out; omega)])
        rw [HN.out] at HF hT
        have HB := Lib.hid hB
        generalize hbo : (bestO xs asid page) = o at *
        have HBO := Lib.hid hbo
        clear hbo
        subst HF
        have r0 := hR.cell 0 _ rfl
        have r1 := hR.cell 1 _ rfl
        have r2 := hR.cell 2 _ rfl
        have r3 := hR.cell 3 _ rfl
        have t0 := hT.cell 0 _ rfl
        have t1 := hT.cell 1 _ rfl
        have t2 := hT.cell 2 _ rfl
        have t3 := hT.cell 3 _ rfl
        have f0 := hR.frozen 0 (by simp)
        have f1 := hR.frozen 1 (by simp)
        have f2 := hR.frozen 2 (by simp)
        have f3 := hR.frozen 3 (by simp)
        have lR := hR.lt
        have lT := hT.lt
        clear hB hR hT
        go_wp2_with fail
        refine bodyPost_ret (v := .tuple #[.agg #[.int .i64 (o.getD zS).a, .int .i8 (o.getD zS).l, .int .u64 (o.getD zS).p, .int .i64 (o.getD zS).f], .bool o.isSome]) (by simp [results, Tryd.results34, go_sem, r0, r1, r2, r3]) rfl ⟨by rw [HBO.out], ?_⟩
        exact bs4 HB.out (Nat.le_refl _) _ _ _ _
  · have HE2 := Lib.hid (show bestO xs asid page = none from if_neg hk)
    have HC2 := Lib.hid h2
    clear hk h2
    obtain ⟨len, hlen⟩ : ∃ len, len = xs.length := ⟨_, rfl⟩
    rw [← hlen] at hcap ⊢
    have HL := Lib.hid hlen
    clear hlen
    go_enter Tryd.func34, Tryd.ntmps34
    go_wp2_with fail
    generalize (w.alloc (.cells #[.int .i64 0, .int .i8 0, .int .u64 0, .int .i64 0] 36)).alloc (.cells #[.int .i64 0, .int .i8 0, .int .u64 0, .int .i64 0] 36) = W0 at *
    refine wp_loop_rounds 1 ?_
    rw [rounds_succ]
    by_cases h0 : 0 < len
    · have h0' : (0 : Int) < (len : Int) := by omega
      go_wp2_with fail
      rw [HL.out]
      refine (rcheckS_any O cap xs _ HI.out HCap.out).mono ?_
      rintro e w1 ⟨rfl, hb⟩
      rw [HC2.out]
      have HB := Lib.hid (bthen HB0.out hb)
      have hR := HR0.out.call hb
      have hT := HT0.out.call hb
      have r0 := hR.cell 0 _ rfl
      have r1 := hR.cell 1 _ rfl
      have r2 := hR.cell 2 _ rfl
      have r3 := hR.cell 3 _ rfl
      have t0 := hT.cell 0 _ rfl
      have t1 := hT.cell 1 _ rfl
      have t2 := hT.cell 2 _ rfl
      have t3 := hT.cell 3 _ rfl
      have f0 := hR.frozen 0 (by simp)
      have f1 := hR.frozen 1 (by simp)
      have f2 := hR.frozen 2 (by simp)
      have f3 := hR.frozen 3 (by simp)
      have lR := hR.lt
      have lT := hT.lt
      clear hb hR hT
      go_wp2_with fail
      refine bodyPost_ret (v := .tuple #[.agg #[.int .i64 0, .int .i8 0, .int .u64 0, .int .i64 0], .bool false]) (by simp [results, Tryd.results34, go_sem, r0, r1, r2, r3]) rfl ⟨by rw [HE2.out]; rfl, ?_⟩
      exact bs4 HB.out (Nat.le_refl _) _ _ _ _
    · obtain rfl : len = 0 := by omega
      have hR := HR0.out
      have hT := HT0.out
      have r0 := hR.cell 0 _ rfl
      have r1 := hR.cell 1 _ rfl
      have r2 := hR.cell 2 _ rfl
      have r3 := hR.cell 3 _ rfl
      have t0 := hT.cell 0 _ rfl
      have t1 := hT.cell 1 _ rfl
      have t2 := hT.cell 2 _ rfl
      have t3 := hT.cell 3 _ rfl
      have f0 := hR.frozen 0 (by simp)
      have f1 := hR.frozen 1 (by simp)
      have f2 := hR.frozen 2 (by simp)
      have f3 := hR.frozen 3 (by simp)
      have lR := hR.lt
      have lT := hT.lt
      clear hR hT
      go_wp2_with fail
      refine bodyPost_ret (v := .tuple #[.agg #[.int .i64 0, .int .i8 0, .int .u64 0, .int .i64 0], .bool false]) (by simp [results, Tryd.results34, go_sem, r0, r1, r2, r3]) rfl ⟨by rw [HE2.out]; rfl, ?_⟩
      exact bs4 HB0.out (Nat.le_refl _) _ _ _ _
end
section
open Go.RowKit
set_option linter.unusedVariables false
set_option linter.unusedSimpArgs false
set_option maxRecDepth 100000 in
set_option maxHeartbeats 4000000 in
theorem rbegin_num (root asid page : Int) (O : Option Addr) (cap : Nat) (xs : List Sb) (w : World)
    (h : root < 1 ∨ (1 ≤ root ∧ 64 ≤ root) ∨ (1 ≤ root ∧ root < 64 ∧ asid < 1) ∨ (1 ≤ root ∧ root < 64 ∧ 1 ≤ asid ∧ 255 < asid) ∨ (1 ≤ root ∧ root < 64 ∧ 1 ≤ asid ∧ asid ≤ 255 ∧ 34359738368 ≤ page)) :
    Calls Tryd.prog 12 #[.int .i64 root, .int .i64 asid, .int .u64 page, .slice O xs.length cap] w
      fun e w' => e = .returned (.tuple #[wkV (bgV root asid page xs), .int .i64 (bgE root asid page xs)]) ∧ Below w.heap.size w w' := by
  have HN := Lib.hid (show bgV root asid page xs = zW ∧ bgE root asid page xs = 2 from by
    rcases bg_cases root asid page xs with ⟨k, -, -⟩ | ⟨-, k⟩
    · have k1 := k.1
      obtain ⟨-, -, -, -, k2, k3, k4, k5⟩ := k.2.1
      simp only at k2 k3 k4 k5
      omega
    · exact k)
  have HB0 := Lib.hid (ba (Below.refl w.heap.size w) (.cells #[.bool false, .int .i64 0, .int .u64 0, .int .i8 0, .int .i64 0] 26))
  rcases h with h1 | ⟨h1, h2⟩ | ⟨h1, h2, h3⟩ | ⟨h1, h2, h3, h4⟩ | ⟨h1, h2, h3, h4, h5⟩
  all_goals
    go_enter Tryd.func12, Tryd.ntmps12
    go_wp2_with fail
    refine bodyPost_ret (v := .tuple #[wkV zW, .int .i64 2]) (by simp [results, Tryd.results12, go_sem, wkV, zW]) rfl ⟨ret_bg HN.out.1.symm HN.out.2.symm, ?_⟩
    exact HB0.out
set_option maxRecDepth 100000 in
set_option maxHeartbeats 4000000 in
theorem rbegin_in (root asid page : Int) (O : Option Addr) (cap : Nat) (xs : List Sb) (w : World) (hI : RK encS 4 w O xs) (hcap : xs.length ≤ cap) (hm : cap ≤ maxLen)
    (h1 : 1 ≤ root) (h2 : root < 64) (h3 : 1 ≤ asid) (h4 : asid ≤ 255) (h5 : page < 34359738368) :
    Calls Tryd.prog 12 #[.int .i64 root, .int .i64 asid, .int .u64 page, .slice O xs.length cap] w
      fun e w' => e = .returned (.tuple #[wkV (bgV root asid page xs), .int .i64 (bgE root asid page xs)]) ∧ Below w.heap.size w w' := by
  have HB0 := Lib.hid (ba (Below.refl w.heap.size w) (.cells #[.bool false, .int .i64 0, .int .u64 0, .int .i8 0, .int .i64 0] 26))
  have HR := Lib.hid (Arr.new w #[.bool false, .int .i64 0, .int .u64 0, .int .i8 0, .int .i64 0] 26)
  have HI := Lib.hid (hI.call HB0.out)
  have HK := Lib.hid (show WkOk ⟨true, asid, page, 0, root⟩ from ⟨rfl, by simp, by simp, by simp; omega, h2, h3, h4, h5⟩)
  have HM := Lib.hid hm
  clear hI hm
  go_enter Tryd.func12, Tryd.ntmps12
  go_wp2_with fail
  generalize w.alloc (.cells #[.bool false, .int .i64 0, .int .u64 0, .int .i8 0, .int .i64 0] 26) = W1 at *
  refine (rcheckS_any O cap xs _ HI.out hcap).mono ?_
  rintro e w2 ⟨rfl, hb⟩
  have HB2 := Lib.hid (bthen HB0.out hb)
  have HR2 := Lib.hid (HR.out.call hb)
  have HI2 := Lib.hid (HI.out.call hb)
  clear hb HB0 HR HI
  rcases ckE_cases mayS plS 4 xs with ⟨hc, e2⟩ | ⟨hc, e2⟩
  · rw [e2]
    have HN := Lib.hid (show bgV root asid page xs = bgW root asid page xs ∧ bgE root asid page xs = 0 from by
      rcases bg_cases root asid page xs with ⟨-, h⟩ | ⟨h, -⟩
      · exact h
      · exact absurd ⟨by omega, HK.out, hc⟩ h)
    clear hc e2
    have HB3 := Lib.hid (ba HB2.out (.cells #[.bool true, .int .i64 asid, .int .u64 page, .int .i8 0, .int .i64 root] 26))
    have HR3 := Lib.hid (HR2.out.alloc (.cells #[.bool true, .int .i64 asid, .int .u64 page, .int .i8 0, .int .i64 root] 26))
    have HW3 := Lib.hid (Arr.new w2 #[.bool true, .int .i64 asid, .int .u64 page, .int .i8 0, .int .i64 root] 26)
    have HI3 := Lib.hid (HI2.out.call (ba (Below.refl w2.heap.size w2) (.cells #[.bool true, .int .i64 asid, .int .u64 page, .int .i8 0, .int .i64 root] 26)))
    have HL := Lib.hid (show w.heap.size < w2.heap.size from HR2.out.lt)
    clear HB2 HR2 HI2
    go_wp2_with fail
    generalize hg : w2.heap.size = g at *
    have HG := Lib.hid hg
    clear hg
    generalize w2.alloc (.cells #[.bool true, .int .i64 asid, .int .u64 page, .int .i8 0, .int .i64 root] 26) = W3 at *
    refine (rbest_any O cap xs asid page _ HI3.out hcap HM.out).mono ?_
    rintro e w4 ⟨rfl, hb⟩
    have HB4 := Lib.hid (bthen HB3.out hb)
    have HR4 := Lib.hid (HR3.out.call hb)
    have HW4 := Lib.hid (HW3.out.call hb)
    clear hb HB3 HR3 HW3 HI3
    obtain ⟨r0, r1, r2, r3, r4⟩ := HR4.out.c5
    obtain ⟨z0, z1, z2, z3, z4⟩ := HR4.out.f5
    obtain ⟨s0, s1, s2, s3, s4⟩ := HW4.out.c5
    obtain ⟨y0, y1, y2, y3, y4⟩ := HW4.out.f5
    have l1 := HR4.out.lt
    have l2 := HW4.out.lt
    have l3 : w.heap.size < g := HL.out
    have l4 : w.heap.size ≠ g := by omega
    have l5 : g ≠ w.heap.size := by omega
    have l6 : w.heap.size ≤ g := by omega
    cases hbo : bestO xs asid page with
    | none =>
      have HS := Lib.hid (bgW_none (root := root) hbo)
      clear hbo
      simp only [Option.getD_none, Option.isSome_none]
      have HQ := Lib.hid (fun o => ((HR4.out.put5 (.bool true) (.int .i64 asid) (.int .u64 page) (.int .i8 0) (.int .i64 root)).alloc o).c5)
      go_wp2_with fail
      have hq := HQ.out
      clear HQ
      refine bodyPost_ret (v := .tuple #[wkV ⟨true, asid, page, 0, root⟩, .int .i64 0]) (by simp [results, Tryd.results12, go_sem, wkV, hq]) rfl ⟨ret_bg (HN.out.1.trans HS.out).symm HN.out.2.symm, ?_⟩
      repeat (first | (with_reducible refine bs ?_ (Nat.le_refl _) _) | (with_reducible apply ba) | (with_reducible exact HB4.out))
    | some s =>
      have HS := Lib.hid (bgW_some (root := root) hbo)
      clear hbo
      simp only [Option.getD_some, Option.isSome_some]
      have HQ := Lib.hid (fun o => ((((HR4.out.far (p := ⟨g, 3, none⟩) l5 (.int .i8 s.l)).far (p := ⟨g, 4, none⟩) l5 (.int .i64 s.f)).put5 (.bool true) (.int .i64 asid) (.int .u64 page) (.int .i8 s.l) (.int .i64 s.f)).alloc o).c5)
      go_wp2_with fail
      have hq := HQ.out
      clear HQ
      refine bodyPost_ret (v := .tuple #[wkV ⟨true, asid, page, s.l, s.f⟩, .int .i64 0]) (by simp [results, Tryd.results12, go_sem, wkV, hq]) rfl ⟨ret_bg (HN.out.1.trans HS.out).symm HN.out.2.symm, ?_⟩
      repeat (first | (with_reducible refine bs ?_ (Nat.le_refl _) _) | (with_reducible refine bs ?_ l6 _) | (with_reducible apply ba) | (with_reducible apply bd) | (with_reducible exact HB4.out))
  · rw [e2]
    have HN := Lib.hid (show bgV root asid page xs = zW ∧ bgE root asid page xs = 2 from by
      rcases bg_cases root asid page xs with ⟨h, -, -⟩ | ⟨-, h⟩
      · exact absurd h.2.2 hc
      · exact h)
    clear hc e2
    obtain ⟨r0, r1, r2, r3, r4⟩ := HR2.out.c5
    obtain ⟨z0, z1, z2, z3, z4⟩ := HR2.out.f5
    go_wp2_with fail
    refine bodyPost_ret (v := .tuple #[wkV zW, .int .i64 2]) (by simp [results, Tryd.results12, go_sem, wkV, zW, r0, r1, r2, r3, r4]) rfl ⟨ret_bg HN.out.1.symm HN.out.2.symm, ?_⟩
    repeat (first | (with_reducible refine bs ?_ (Nat.le_refl _) _) | (with_reducible exact HB2.out))
theorem rbegin_any (root asid page : Int) (O : Option Addr) (cap : Nat) (xs : List Sb) (w : World) (hI : RK encS 4 w O xs) (hcap : xs.length ≤ cap) (hm : cap ≤ maxLen) :
    Calls Tryd.prog 12 #[.int .i64 root, .int .i64 asid, .int .u64 page, .slice O xs.length cap] w
      fun e w' => e = .returned (.tuple #[wkV (bgV root asid page xs), .int .i64 (bgE root asid page xs)]) ∧ Below w.heap.size w w' := by
  by_cases h : 1 ≤ root ∧ root < 64 ∧ 1 ≤ asid ∧ asid ≤ 255 ∧ page < 34359738368
  · obtain ⟨h1, h2, h3, h4, h5⟩ := h
    exact rbegin_in root asid page O cap xs w hI hcap hm h1 h2 h3 h4 h5
  · exact rbegin_num root asid page O cap xs w (by omega)
set_option maxRecDepth 100000 in
set_option maxHeartbeats 4000000 in
theorem rwword_yes (x : Wk) (w : World) (hx : WkOk x) (hp : U64 x.p) : Calls Tryd.prog 14 #[.agg #[.bool x.on, .int .i64 x.a, .int .u64 x.p, .int .i8 x.l, .int .i64 x.f]] w fun e w' => e = .returned (.tuple #[.int .u64 (wdN x), .int .i64 0]) ∧ Below w.heap.size w w' := by
  have HE := Lib.hid (show wkE x = 0 from (if_pos hx))
  have hk : aOk x.p x.l = true := (aOk_iff _ _).2 ⟨hx.2.2.2.2.2.2.2, hx.2.1, hx.2.2.1⟩
  obtain ⟨i0, i1⟩ := aIdx_bound x.p x.l
  have HK := Lib.hid hk
  have HD := Lib.hid (show x.f * 512 + aIdx x.p x.l = wdN x by unfold wdN; omega)
  obtain ⟨-, l0, l3, f0, f1, -⟩ := hx
  clear hk
  have HB0 := Lib.hid (ba (Below.refl w.heap.size w) (.cells #[.bool x.on, .int .i64 x.a, .int .u64 x.p, .int .i8 x.l, .int .i64 x.f] 26))
  have HR := Lib.hid (Arr.new w #[.bool x.on, .int .i64 x.a, .int .u64 x.p, .int .i8 x.l, .int .i64 x.f] 26)
  go_enter Tryd.func14, Tryd.ntmps14
  go_wp2_with fail
  refine (rwcheck_any x _).mono ?_
  rintro e w1 ⟨rfl, hb⟩
  have HB1 := Lib.hid (bthen HB0.out hb)
  obtain ⟨-, -, c2, c3, c4⟩ := (HR.out.call hb).c5
  clear hb HB0 HR
  rw [HE.out]
  go_wp2_with fail
  refine (rindex_yes x.p x.l _ hp HK.out).mono ?_
  rintro e w2 ⟨rfl, rfl⟩
  go_wp2_with fail
  go_ret2
  exact ⟨by rw [← HD.out]; rfl, HB1.out⟩
set_option maxHeartbeats 4000000 in
theorem wword_no (x : Wk) (w : World) (hx : ¬ WkOk x) : Calls Tryd.prog 13 #[.agg #[.bool x.on, .int .i64 x.a, .int .u64 x.p, .int .i8 x.l, .int .i64 x.f]] w fun e w' => e = .returned (.tuple #[.int .u64 0, .int .i64 2]) ∧ Below w.heap.size w w' := by
  have HE := Lib.hid (show wkE x = 2 from (if_neg hx))
  have HB0 := Lib.hid (ba (Below.refl w.heap.size w) (.cells #[.bool x.on, .int .i64 x.a, .int .u64 x.p, .int .i8 x.l, .int .i64 x.f] 26))
  clear hx
  go_enter Tryd.func13, Tryd.ntmps13
  go_wp2_with fail
  refine (wcheck_any x _).mono ?_
  rintro e w1 ⟨rfl, hb⟩
  rw [HE.out]
  have HB1 := Lib.hid (bthen HB0.out hb)
  clear hb
  go_wp2_with fail
  go_ret2
  exact ⟨rfl, HB1.out⟩
set_option maxHeartbeats 4000000 in
theorem rwword_no (x : Wk) (w : World) (hx : ¬ WkOk x) : Calls Tryd.prog 14 #[.agg #[.bool x.on, .int .i64 x.a, .int .u64 x.p, .int .i8 x.l, .int .i64 x.f]] w fun e w' => e = .returned (.tuple #[.int .u64 0, .int .i64 2]) ∧ Below w.heap.size w w' := by
  have HE := Lib.hid (show wkE x = 2 from (if_neg hx))
  have HB0 := Lib.hid (ba (Below.refl w.heap.size w) (.cells #[.bool x.on, .int .i64 x.a, .int .u64 x.p, .int .i8 x.l, .int .i64 x.f] 26))
  clear hx
  go_enter Tryd.func14, Tryd.ntmps14
  go_wp2_with fail
  refine (rwcheck_any x _).mono ?_
  rintro e w1 ⟨rfl, hb⟩
  rw [HE.out]
  have HB1 := Lib.hid (bthen HB0.out hb)
  clear hb
  go_wp2_with fail
  go_ret2
  exact ⟨rfl, HB1.out⟩
end
end Go.Proofs.YtgdkkhdhomehdaaDoor
