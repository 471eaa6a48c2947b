/-
  The document's check of a TLB.
-/
import Derived.Test.YtencifnopfianaaTlSame
import Derived.Deep.RegionHeld
namespace Go.Proofs.Ytencifnopfianaa
open Go.RowKit
set_option linter.unusedVariables false
set_option linter.unusedSimpArgs false
theorem mayT_of {x : Tb} {b : Bool} (h : b = true ↔ (0 ≤ x.a ∧ x.a ≤ 255 ∧ 0 ≤ x.f ∧ x.f < 64 ∧ x.p < 34359738368)) : b = mayT x := by
  rw [Bool.eq_iff_iff, mayT, decide_eq_true_iff]; exact h
set_option maxHeartbeats 1000000 in
theorem rmayT_any (x : Tb) (w : World) : Calls Try.prog 49 #[.agg #[.int .i64 x.a, .int .u64 x.p, .int .i64 x.f, .bool x.ro]] w fun e w' => e = .returned (.bool (mayT x)) ∧ Below w.heap.size w w' := by
  obtain ⟨xa, xp, xf, xr⟩ := x
  simp only
  go_enter Try.func49, Try.ntmps49
  go_wp2
  all_goals
    go_ret
    refine ⟨ret_bool (mayT_of ?_), ba (Below.refl _ _) _⟩
    simp at *
    omega
set_option maxRecDepth 100000 in
set_option maxHeartbeats 4000000 in
theorem rcheckT_short (O : Option Addr) (cap : Nat) (xs : List Tb) (w : World) (hI : RK encT 4 w O xs) (hcap : xs.length ≤ cap) (h8 : xs.length ≤ 8) :
    Calls Try.prog 22 #[.slice O xs.length cap] w fun e w' => e = .returned (.int .i64 (ckE mayT plT 8 xs)) ∧ Below w.heap.size w w' := by
  have HI := Lib.hid hI
  clear hI
  have H8 := Lib.hid h8
  obtain ⟨len, hlen⟩ : ∃ len, len = xs.length := ⟨_, rfl⟩
  rw [← hlen] at hcap h8 ⊢
  have HL := Lib.hid hlen
  clear hlen
  go_enter Try.func22, Try.ntmps22
  go_wp2_with fail
  go_loopw [3] (fun i wr => ∃ j : Nat, i = .int .i64 j ∧ j ≤ len ∧ OkB mayT plT xs j ∧ Below w.heap.size w wr) (fun i _ => len - (intOf i).toNat)
  case atStart => exact ⟨0, rfl, by omega, OkB.zero _, Below.refl _ _⟩
  case round =>
    obtain ⟨j, rfl, hj, hN, hB⟩ := hrel
    have HN := Lib.hid hN
    clear hN
    by_cases hlt : j < len
    · obtain ⟨b, off, hO2, hcell⟩ := (HI.out.call hB) (by have := HL.out; omega)
      subst hO2
      obtain ⟨x, hx⟩ : ∃ x, xs[j]? = some x := ⟨xs[j]'(by have := HL.out; omega), List.getElem?_eq_getElem _⟩
      obtain ⟨c0, c1, c2, c3⟩ := tb_cells hx hcell
      have HX := Lib.hid hx
      have HB := Lib.hid hB
      clear hcell hB hx
      go_wp2_with fail
      refine (rmayT_any x _).mono ?_
      rintro e w1 ⟨rfl, hb⟩
      have HB1 := Lib.hid (bthen HB.out hb)
      clear hb HB c0 c1 c2 c3
      rcases hm : mayT x with _ | _
      · have HE := Lib.hid (ck_may (pl := plT) (mx := 8) HX.out hm)
        clear hm HX HN
        go_wp2_with fail
        go_ret
        exact ⟨by rw [HE.out]; rfl, HB1.out⟩
      · have HM := Lib.hid hm
        clear hm
        go_wp2_with fail
        obtain ⟨wo, hwo⟩ : ∃ wo : World, wo = w1 := ⟨_, rfl⟩
        clear hwo wo
        go_loopw [4] (fun i wr => ∃ k : Nat, i = .int .i64 k ∧ k ≤ j ∧ NoB plT xs (plT x) k ∧ Below w.heap.size w wr) (fun i _ => j - (intOf i).toNat)
        case atStart => exact ⟨0, rfl, by omega, NoB.zero _ _, HB1.out⟩
        case round =>
          obtain ⟨k, rfl, hk, hN2, hB2⟩ := hrel
          by_cases hlt2 : k < j
          · obtain ⟨b', off', hO2, hcell⟩ := (HI.out.call hB2) (by have := HL.out; omega)
            simp only [Option.some.injEq, Addr.mk.injEq, and_true] at hO2
            obtain ⟨rfl, rfl⟩ := hO2
            obtain ⟨y, hy⟩ : ∃ y, xs[k]? = some y := ⟨xs[k]'(by have := HL.out; omega), List.getElem?_eq_getElem _⟩
            obtain ⟨c0, c1, c2, c3⟩ := tb_cells HX.out hcell
            obtain ⟨d0, d1, d2, d3⟩ := tb_cells hy hcell
            have lb : b < wr.heap.size := World.block_lt_of_cell? wr ⟨b, off + j * 4, none⟩ c0
            have HY := Lib.hid hy
            have HN2 := Lib.hid hN2
            have HB2 := Lib.hid hB2
            have i1 : (0 : Int) ≤ (k : Int) := by omega
            have i2 : (k : Int) < (len : Int) := by omega
            have i3 : (0 : Int) ≤ (j : Int) := by omega
            have i4 : (j : Int) < (len : Int) := by omega
            clear hcell hy hN2 hB2 HB1
            by_cases hq : plT y = plT x
            · have HE := Lib.hid (ck_twice (may := mayT) (mx := 8) HX.out (fun hn => hn k y hlt2 HY.out hq))
              simp only [plT, Prod.mk.injEq] at hq
              obtain ⟨q1, -, q3⟩ := hq
              have p1 : (y.a == x.a) = true := by simpa using q1
              have p3 : (y.p == x.p) = true := by simpa using q3
              clear q1 q3 HX HY HN2
              go_wp2_with fail
              go_quiet (fail)
              go_wp2_with fail
              go_ret
              exact ⟨by rw [HE.out]; rfl, bdn HB2.out _⟩
            · have HS := Lib.hid (NoB.succ HN2.out HY.out hq)
              have hc : (y.a == x.a) = false ∨ ((y.a == x.a) = true ∧ (y.p == x.p) = false) := by
                by_cases q1 : y.a = x.a
                · refine Or.inr ⟨by simpa using q1, ?_⟩
                  simp only [beq_eq_false_iff_ne, ne_eq]
                  exact fun q3 => hq (by simp [plT, q1, q3])
                · exact Or.inl (by simpa using q1)
              clear hq HX HY HN2
              rcases hc with p1 | ⟨p1, p3⟩
              · go_wp2_with fail
                go_quiet (fail)
                go_wp2_with fail
                go_roundw
                case rel => exact ⟨k + 1, by go_num, by omega, HS.out, bdn HB2.out _⟩
                case measure => simp [intOf]; omega
              · go_wp2_with fail
                go_quiet (fail)
                go_wp2_with fail
                go_roundw
                case rel => exact ⟨k + 1, by go_num, by omega, HS.out, bdn HB2.out _⟩
                case measure => simp [intOf]; omega
          · have HS := Lib.hid (OkB.succ HN.out HX.out HM.out (fun i y hi hy => hN2 i y (by omega) hy))
            have HB2 := Lib.hid hB2
            clear hN2 hB2 HN HX
            go_wp2_with fail
            go_roundw
            case rel => exact ⟨j + 1, by go_num, by omega, HS.out, HB2.out⟩
            case measure => simp [intOf]; omega
    · have HE := Lib.hid (ck_done (mx := 8) HN.out (by have := HL.out; omega) H8.out)
      have HB := Lib.hid hB
      clear hB
      go_wp2_with fail
      go_ret
      exact ⟨by rw [HE.out]; rfl, HB.out⟩
theorem rcheckT_any (O : Option Addr) (cap : Nat) (xs : List Tb) (w : World) (hI : RK encT 4 w O xs) (hcap : xs.length ≤ cap) :
    Calls Try.prog 22 #[.slice O xs.length cap] w fun e w' => e = .returned (.int .i64 (ckE mayT plT 8 xs)) ∧ Below w.heap.size w w' := by
  by_cases h : xs.length ≤ 8
  · exact rcheckT_short O cap xs w hI hcap h
  · have HE := Lib.hid (ck_long (may := mayT) (pl := plT) (show 8 < xs.length by omega))
    have h' : 8 < xs.length := by omega
    obtain ⟨len, hlen⟩ : ∃ len, len = xs.length := ⟨_, rfl⟩
    rw [← hlen] at h' ⊢
    clear h hcap hI hlen
    go_enter Try.func22, Try.ntmps22
    go_wp2_with fail
    go_ret
    exact ⟨by rw [HE.out]; rfl, Below.refl _ _⟩
end Go.Proofs.Ytencifnopfianaa
