/-
  The law FramesLeast of layer 15: the walk.
-/
import Derived.Test.YtokmcelmodoeoaaDoorFrAll
import Derived.Test.YtokmcelmodoeoaaDoorFrNil
import Derived.Test.YtokmcelmodoeoaaDoorOpenPairs
namespace Go.Proofs.YtokmcelmodoeoaaDoor
open Go.RowKit
set_option linter.unusedVariables false
set_option linter.unusedSimpArgs false
theorem PairsK.call {k0 k1 : IntKind} {w w' : World} {O : Option Addr} {len : Nat} {xs ys : Nat → Int} (h : PairsK k0 k1 w O len xs ys) (hb : Below w.heap.size w w') : PairsK k0 k1 w' O len xs ys := fun h0 => by
  obtain ⟨b, off, e, hc⟩ := h h0
  refine ⟨b, off, e, fun i hi => ?_⟩
  have h1 := hc i hi
  exact ⟨(hb.cell (p := ⟨b, off + i * 2, none⟩) (World.block_lt_of_cell? w ⟨b, off + i * 2, none⟩ h1.1)).trans h1.1, (hb.cell (p := ⟨b, off + (i * 2 + 1), none⟩) (World.block_lt_of_cell? w ⟨b, off + (i * 2 + 1), none⟩ h1.2)).trans h1.2⟩
theorem cnt_less (p : Nat → Bool) {k : Nat} (hp : p k = true) : ∀ m : Nat, cnt p m = cnt (fun i => p i && !decide (i = k)) m + (if k < m then 1 else 0)
  | 0 => rfl
  | m + 1 => by
    have ih := cnt_less p hp m
    unfold cnt
    rw [ih]
    by_cases e : m = k
    · subst e
      simp [hp]
    · by_cases h : k < m
      · have h' : k < m + 1 := by omega
        simp [e, h, h']; omega
      · have h' : ¬ k < m + 1 := by omega
        simp [e, h, h']
theorem least_or (ct : Nat → Int) : ∀ n : Nat, (∃ k, k < n ∧ ct k = 0 ∧ ∀ i, i < k → ct i ≠ 0) ∨ (∀ i, i < n → ct i ≠ 0)
  | 0 => .inr (fun i hi => by omega)
  | n + 1 => by
    rcases least_or ct n with ⟨k, h1, h2, h3⟩ | h
    · exact .inl ⟨k, by omega, h2, h3⟩
    · by_cases e : ct n = 0
      · exact .inl ⟨n, by omega, e, h⟩
      · refine .inr (fun i hi => ?_)
        by_cases ei : i = n
        · subst ei; exact e
        · exact h i (by omega)
theorem least_short (n : Int) (O : Option Addr) (len cap : Nat) (w : World) (hG : G w) (h : n < 1 ∨ 64 < n) : Calls Tryd.prog 6 #[.int .i64 n, .slice O len cap] w fun e w' => e = .returned (.bool true) ∧ Below w.heap.size w w' := by
  have HG := Lib.hid hG
  have HH := Lib.hid h
  clear hG h
  go_enter Tryd.func6, Tryd.ntmps6
  go_wp2_with fail
  refine (gnew_no n _ HH.out).mono ?_
  rintro e w1 ⟨rfl, rfl⟩
  go_wp2_with fail
  refine (wakes15_any _ HG.out).mono ?_
  rintro e w1 ⟨rfl, hb⟩
  go_wp2_with fail
  go_ret
  exact ⟨rfl, hb⟩
theorem least_long (n : Nat) (O : Option Addr) (len cap : Nat) (w : World) (hG : G w) (h1 : 1 ≤ n) (h2 : n ≤ 64) (hl : 100 < len) : Calls Tryd.prog 6 #[.int .i64 n, .slice O len cap] w fun e w' => e = .returned (.bool true) ∧ Below w.heap.size w w' := by
  have HG := Lib.hid hG
  clear hG
  go_enter Tryd.func6, Tryd.ntmps6
  go_wp2_with fail
  refine (gnew n _ h1 h2).mono ?_
  rintro e w1 ⟨rfl, -, hb⟩
  have HB := Lib.hid hb
  clear hb
  go_wp2_with fail
  refine (wakes15_any _ (HG.out.call HB.out)).mono ?_
  rintro e w2 ⟨rfl, hb⟩
  go_wp2_with fail
  go_ret
  exact ⟨rfl, bthen HB.out hb⟩
/-- What holds at the loop's head. -/
def LsRel (w0 : World) (p n len : Nat) (i : Value) (w : World) : Prop :=
  ∃ (k : Nat) (ct : Nat → Int), i = .int .i64 k ∧ k ≤ len ∧ Good w p n ct ∧ Below w0.heap.size w0 w
set_option maxRecDepth 100000 in
set_option maxHeartbeats 1000000 in
theorem least_few (n : Nat) (O : Option Addr) (len cap : Nat) (xs ys : Nat → Int) (w : World) (hG : G w) (h1 : 1 ≤ n) (h2 : n ≤ 64) (hl : len ≤ 100) (hc : len ≤ cap) (hI : PairsK .i64 .i64 w O len xs ys) : Calls Tryd.prog 6 #[.int .i64 n, .slice O len cap] w fun e w' => e = .returned (.bool true) ∧ Below w.heap.size w w' := by
  have HG := Lib.hid hG
  have HI := Lib.hid hI
  clear hG hI
  go_enter Tryd.func6, Tryd.ntmps6
  go_wp2_with fail
  refine (gnew n _ h1 h2).mono ?_
  rintro e w1 ⟨rfl, hg, hb⟩
  have HB := Lib.hid hb
  have HP := Lib.hid hg
  clear hb hg
  go_wp2_with fail
  go_loopw [28] (fun i wr => LsRel w w.heap.size n len i wr) (fun i _ => len - (intOf i).toNat)
  case atStart => exact ⟨0, _, rfl, by omega, HP.out, HB.out⟩
  case round =>
    clear HP HB
    obtain ⟨k, ct, rfl, hk, hP, hB⟩ := hrel
    by_cases hlt : k < len
    · obtain ⟨b, off, rfl, hcell⟩ := (HI.out.call hB) (by omega)
      obtain ⟨cx, cy⟩ := hcell k hlt
      rw [← Nat.add_assoc] at cy
      have HP := Lib.hid hP
      have HB := Lib.hid hB
      have lb : b < wr.heap.size := World.block_lt_of_cell? wr ⟨b, off + k * 2, none⟩ cx
      clear hcell hP hB
      generalize ey : ys k = f at *
      clear ey
      rcases h0 : (xs k == 0) with _ | _
      · go_wp2_with fail
        have hP := HP.out.call (ba (Below.refl wr.heap.size wr) (.cells #[.int .i64 (xs k), .int .i64 f] 30))
        have hB := ba HB.out (.cells #[.int .i64 (xs k), .int .i64 f] 30)
        have hp := Nat.le_refl w.heap.size
        clear HP HB
        refine (gdrop_any w.heap.size n f ct _ hP).mono ?_
        rintro e w2 ⟨rfl, hP2, hK⟩
        replace hB := hK.below hB (fun x hx => by omega)
        clear hP hK
        generalize drF n ct f = d0
        generalize tkC n ct f 1 = d1
        go_wp2_with fail
        go_roundw
        case rel => exact ⟨k + 1, _, by go_num, by omega, hP2, hB⟩
        case measure => simp [intOf]; omega
      · have hx : xs k = 0 := by simpa using h0
        rw [hx] at cx
        clear h0 hx
        go_wp2_with fail
        have hP := HP.out.call (ba (Below.refl wr.heap.size wr) (.cells #[.int .i64 0, .int .i64 f] 30))
        have hB := ba HB.out (.cells #[.int .i64 0, .int .i64 f] 30)
        clear HP HB
        generalize wr.alloc (.cells #[.int .i64 0, .int .i64 f] 30) = wa at *
        clear cx cy lb
        have hp : w.heap.size < wa.heap.size := hP.pool.lt
        refine (gcopy w.heap.size n ct _ hP).mono ?_
        rintro e wb ⟨rfl, hQ, hb⟩
        replace hP := hP.call hb
        replace hB := bthen hB hb
        clear hb
        generalize wa.heap.size = q at *
        have HG2 := Lib.hid (HG.out.call hB)
        rcases least_or ct n with ⟨m, m1, m2, m3⟩ | hf
        · have M3 := Lib.hid m3
          clear m3
          go_wp2_with fail
          refine (gtake w.heap.size n m ct _ HG2.out hP m1 m2 M3.out).mono ?_
          rintro e wc ⟨rfl, hP2, hK⟩
          replace hQ := hQ.keep hK (by omega)
          replace hB := hK.below hB (fun x hx => by omega)
          clear hP hK HG2
          have HQ := Lib.hid hQ
          have HP := Lib.hid hP2
          have HB := Lib.hid hB
          clear hQ hP2 hB
          go_wp2_with fail
          go_loop [52] (fun j => ∃ t : Nat, t ≤ n ∧ j = .int .i64 t) (fun j => (n - intOf j).toNat)
          case atStart => exact ⟨0, by omega, rfl⟩
          case round =>
            obtain ⟨t, ht, rfl⟩ := hrel
            by_cases htn : t < n
            · by_cases htm : t < m
              · have hne : ct t ≠ 0 := M3.out t htm
                have hnb : (ct t == 0) = false := by simpa using hne
                clear hne
                go_wp2_with fail
                refine (gcount q n t ct _ HQ.out htn).mono ?_
                rintro e wd ⟨rfl, rfl⟩
                go_wp2_with fail
                go_round
                case rel => exact ⟨t + 1, by omega, by go_num⟩
                case measure => simp [intOf]; omega
              · go_wp2_with fail
                go_round
                case rel => exact ⟨t + 1, by omega, by go_num⟩
                case measure => simp [intOf]; omega
            · have et : t = n := by omega
              subst et
              have hm64 : m < 64 := by omega
              have hcn : cnt (frP t ct) 64 = cnt (frP t (upd ct m 1)) 64 + 1 := by
                have h := cnt_less (frP t ct) (k := m) (by simp [frP, m1, m2]) 64
                rw [frP_take, if_pos hm64] at h
                exact h
              have hcl := cnt_le (frP t (upd ct m 1)) 64
              have HQ2 := Lib.hid (gfree q t ct _ HQ.out)
              have HP2 := Lib.hid (gfree w.heap.size t (upd ct m 1) _ HP.out)
              have HC2 := Lib.hid (gcount q t m ct _ HQ.out m1)
              rw [m2] at HC2
              rw [hcn] at HQ2
              clear hcn
              generalize hcv : cnt (frP t (upd ct m 1)) 64 = v at *
              have HV := Lib.hid hcv
              clear hcv
              go_wp2_with fail
              refine HC2.out.mono ?_
              rintro e wd ⟨rfl, rfl⟩
              go_wp2_with fail
              refine HQ2.out.mono ?_
              rintro e wd ⟨rfl, rfl⟩
              go_wp2_with fail
              refine HP2.out.mono ?_
              rintro e wd ⟨rfl, rfl⟩
              go_wp2_with fail
              go_roundw
              case rel => exact ⟨k + 1, _, by go_num, by omega, HP.out, HB.out⟩
              case measure => simp [intOf]; omega
        · have HF := Lib.hid hf
          clear hf
          go_wp2_with fail
          refine (gtake_full w.heap.size n ct _ hP HF.out).mono ?_
          rintro e wc ⟨rfl, rfl⟩
          clear HG2
          have HQ := Lib.hid hQ
          have HP := Lib.hid hP
          have HB := Lib.hid hB
          clear hQ hP hB
          go_wp2_with fail
          go_loop [52] (fun j => ∃ t : Nat, t ≤ n ∧ j = .int .i64 t) (fun j => (n - intOf j).toNat)
          case atStart => exact ⟨0, by omega, rfl⟩
          case round =>
            obtain ⟨t, ht, rfl⟩ := hrel
            by_cases htn : t < n
            · have hne : ct t ≠ 0 := HF.out t htn
              have hnb : (ct t == 0) = false := by simpa using hne
              clear hne
              go_wp2_with fail
              refine (gcount q n t ct _ HQ.out htn).mono ?_
              rintro e wd ⟨rfl, rfl⟩
              go_wp2_with fail
              go_round
              case rel => exact ⟨t + 1, by omega, by go_num⟩
              case measure => simp [intOf]; omega
            · have et : t = n := by omega
              subst et
              go_wp2_with fail
              go_roundw
              case rel => exact ⟨k + 1, _, by go_num, by omega, HP.out, HB.out⟩
              case measure => simp [intOf]; omega
    · have ek : k = len := by omega
      subst ek
      have HP := Lib.hid hP
      have HB := Lib.hid hB
      clear hP hB
      go_wp2_with fail
      refine (wakes15_any _ (HG.out.call HB.out)).mono ?_
      rintro e w2 ⟨rfl, hb⟩
      go_wp2_with fail
      go_ret
      exact ⟨rfl, bthen HB.out hb⟩
theorem least_any (n : Int) (O : Option Addr) (len cap : Nat) (xs ys : Nat → Int) (w : World) (hG : G w) (hc : len ≤ cap) (hI : PairsK .i64 .i64 w O len xs ys) : Calls Tryd.prog 6 #[.int .i64 n, .slice O len cap] w fun e w' => e = .returned (.bool true) ∧ Below w.heap.size w w' := by
  by_cases h : n < 1 ∨ 64 < n
  · exact least_short n O len cap w hG h
  · obtain ⟨m, rfl⟩ := Int.eq_ofNat_of_zero_le (show 0 ≤ n by omega)
    by_cases hl : 100 < len
    · exact least_long m O len cap w hG (by omega) (by omega) hl
    · exact least_few m O len cap xs ys w hG (by omega) (by omega) (by omega) hc hI
end Go.Proofs.YtokmcelmodoeoaaDoor
