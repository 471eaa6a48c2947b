/-
  Words of both memories, for every frame.
-/
import Derived.Test.YtlhbofgcgfbchaaMemRefR
namespace Go.Proofs.Ytlhbofgcgfbchaa
open Go.RowKit Go.Maps
set_option linter.unusedVariables false
set_option linter.unusedSimpArgs false
theorem words_out (p n k : Nat) (f : Int) (c : Nat → Nat → Int) (F : Nat → Prop) (w : World) (hM : MemS w p n c F k) (h0 : -9223372036854775808 ≤ f) (h1 : f < 9223372036854775808) (h : f < 0 ∨ 64 ≤ f) :
    Calls Try.prog 15 #[.pointer (some ⟨p, 0, none⟩), .int .i64 f] w fun e w' => e = .returned (.slice none 0 0) ∧ w = w' := by
  obtain ⟨m, D, hM⟩ := hM
  have hno : Maps.has D (.int .i64 f) = false := by
    cases hh : Maps.has D (.int .i64 f) with
    | false => rfl
    | true =>
      obtain ⟨g, hg, e⟩ := hM.keys _ hh
      unfold fk at e
      injection e with _ e
      omega
  obtain ⟨v, ps, hrun, hv⟩ := hM.map.look_ok (t := 68) (e := 74) keyed Try.underlying68 (z := .pointer none) (by kernel_rfl) (zd := .lit (.int .i64 (-1))) (zp := []) rfl (keyOf_int_mk Try.underlying3 (show (Lit.int .i64 f).wf = true from WalkArith.wf_i64 ⟨h0, by omega⟩))
  have c1 : w.cell? ⟨p, 1, none⟩ = some (.map (some m)) := hM.str.cell 1
  rw [hno] at hrun
  clear hv hM hno h h0 h1
  go_enter Try.func15, Try.ntmps15
  go_wp2_with fail
  go_ret
  exact ⟨rfl, rfl⟩
theorem rwords_out (p n : Nat) (f : Int) (c : Nat → Nat → Int) (F : Nat → Prop) (w : World) (hM : RefS w p n c F) (hn : n ≤ 64) (h : f < 0 ∨ (n : Int) ≤ f) :
    Calls Try.prog 20 #[.pointer (some ⟨p, 0, none⟩), .int .i64 f] w fun e w' => e = .returned (.slice none 0 0) ∧ w = w' := by
  obtain ⟨bl, s, hM⟩ := hM
  have HC := Lib.hid (hM.str.cell 0)
  have HH := Lib.hid h
  clear hM h
  go_enter Try.func20, Try.ntmps20
  go_wp2_with fail
  refine (rframe_no p n bl f _ HC.out hn HH.out).mono ?_
  rintro e w1 ⟨rfl, rfl⟩
  go_wp2_with fail
  go_ret
  exact ⟨rfl, rfl⟩
set_option maxRecDepth 100000 in
set_option maxHeartbeats 2000000 in
theorem rwords_yes (p n f : Nat) (c : Nat → Nat → Int) (F : Nat → Prop) (w : World) (hM : RefS w p n c F) (hn : n ≤ 64) (hf : f < n) :
    Calls Try.prog 20 #[.pointer (some ⟨p, 0, none⟩), .int .i64 f] w fun e w' => ∃ v, e = .returned v ∧ Cw w' w.heap.size v (nzTo (c f) 512) ∧ Below w.heap.size w w' := by
  obtain ⟨bl, s, hM⟩ := hM
  have HC := Lib.hid (hM.str.cell 0)
  have c0 := HC.out
  have c1 := (hM.tab.cell f).trans (tabOf_at _ _ _ hf)
  rcases hM.row f hf with ⟨a1, a2⟩ | ⟨b, cap, a1, a2, a3, a4⟩
  · rw [a1] at c1
    have HZ := Lib.hid (nzTo_zero 512 a2)
    clear a1 a2 hM
    go_enter Try.func20, Try.ntmps20
    go_wp2_with fail
    refine (rframe_yes p n bl f _ HC.out hn (by omega) (by omega)).mono ?_
    rintro e w1 ⟨rfl, rfl⟩
    go_wp2_with fail
    refine wp_loop_rounds 1 ?_
    rw [rounds_succ]
    go_wp2_with fail
    go_ret
    exact ⟨_, rfl, by rw [HZ.out]; exact World.ownsRow_nil _ _ _ _, Below.refl _ _⟩
  · rw [a1] at c1
    obtain ⟨i0, hi, hz0, hz1, hz2⟩ := cwInfo
    have HA := Lib.hid a3
    have hlt := a3.lt
    clear a1 a3 hM
    go_enter Try.func20, Try.ntmps20
    go_wp2_with fail
    refine (rframe_yes p n bl f _ HC.out hn (by omega) (by omega)).mono ?_
    rintro e w1 ⟨rfl, rfl⟩
    go_wp2_with fail
    go_loopw [5, 7] (fun v i wr => WdRel w (c f) v i wr) (fun _ i _ => 512 - (intOf i).toNat)
    case atStart => exact ⟨0, rfl, by omega, World.ownsRow_nil _ _ _ _, Below.refl _ _⟩
    case round =>
      clear c0 c1
      obtain ⟨j, rfl, hj, hO, hB⟩ := hrel
      by_cases hlt2 : j < 512
      · have hc : wr.cell? ⟨b, j, none⟩ = some (.int .u64 (c f j)) := ((World.cell?_of_block (a := ⟨b, j, none⟩) (hB.block b hlt))).trans (HA.out.cell hlt2)
        have hnl := nzTo_len (c f) j
        have HN := Lib.hid (show nzTo (c f) (j + 1) = if c f j = 0 then nzTo (c f) j else nzTo (c f) j ++ [((j : Int), c f j)] from rfl)
        have HO := Lib.hid hO
        have HB := Lib.hid hB
        clear hO hB
        rcases h0 : (c f j != 0) with _ | _
        · have HE := Lib.hid (show c f j = 0 by simpa using h0)
          go_wp2_with fail
          go_roundw
          case rel => exact ⟨j + 1, by go_num, by omega, by rw [HN.out, if_pos HE.out]; exact HO.out, HB.out⟩
          case measure => simp [intOf]; omega
        · have HE := Lib.hid (show ¬ c f j = 0 by simpa using h0)
          have HO2 := Lib.hid (show Cw (wr.alloc (.cells #[.int .i64 j, .int .u64 (c f j)] 78)) w.heap.size u5 (nzTo (c f) j) from HO.out.call (ba (Below.refl _ _) _))
          have HB2 := Lib.hid (show Below w.heap.size w (wr.alloc (.cells #[.int .i64 j, .int .u64 (c f j)] 78)) from ba HB.out _)
          have HNW := Lib.hid (Bk.new wr 78 #[.int .i64 j, .int .u64 (c f j)])
          go_wp2_with (at_builtin; refine wpList_append_own _ rfl _ _ 37 rfl w.heap.size 78 i0 (.agg #[.int .i64 0, .int .u64 0]) 2 16 Try.underlying37 hi hz0 hz1 hz2 rfl (by decide) _ _ _ rfl HO2.out ⟨wr.heap.size, 0, none⟩ 1 1 [.int .i64 j, .int .u64 (c f j)] rfl rfl ?c1 ?c2 ?c3 ?c4 ?c5 ?_)
          case c1 =>
            intro x u hx
            have e : (⟨wr.heap.size, 0, none⟩ : Addr).add x = ⟨wr.heap.size, x, none⟩ := by unfold Addr.add; split <;> simp_all
            rw [e, HNW.out.cell x]
            simpa using hx
          case c2 => intro u hu; simp at hu; rcases hu with rfl | rfl <;> rfl
          case c3 => unfold maxLen; omega
          case c4 => omega
          case c5 => exact HB2.out.size
          intro v' w1 hown hgrow _
          have HO3 := Lib.hid (show Cw w1 w.heap.size v' (nzTo (c f) j ++ [((j : Int), c f j)]) from by unfold Cw; rw [cwCells_snoc]; simpa using hown)
          have HB3 := Lib.hid (show Below w.heap.size w w1 from HB2.out.grown hgrow HB2.out.size (fun g hg => (HO2.out.lt g hg).1))
          clear hown hgrow
          go_wp2_with fail
          go_roundw
          case rel => exact ⟨j + 1, by go_num, by omega, by rw [HN.out, if_neg HE.out]; exact HO3.out, HB3.out⟩
          case measure => simp [intOf]; omega
      · have e : j = 512 := by omega
        have HO := Lib.hid hO
        have HB := Lib.hid hB
        have HE := Lib.hid e
        clear hO hB e
        go_wp2_with fail
        go_ret
        exact ⟨_, rfl, by rw [← HE.out]; exact HO.out, HB.out⟩
/-- What Words answers, of any frame: the same on both sides. -/
theorem mWords_any (p n k : Nat) (f : Int) (c : Nat → Nat → Int) (F : Nat → Prop) (w : World) (hM : MemS w p n c F k) (hz : ∀ g, n ≤ g → ∀ i, i < 512 → c g i = 0) (hn : n ≤ 64) (h0 : -9223372036854775808 ≤ f) (h1 : f < 9223372036854775808) :
    Calls Try.prog 15 #[.pointer (some ⟨p, 0, none⟩), .int .i64 f] w fun e w' => ∃ v, e = .returned v ∧ Cw w' w.heap.size v (if 0 ≤ f ∧ f < n then nzTo (c f.toNat) 512 else []) ∧ Below w.heap.size w w' := by
  by_cases h : 0 ≤ f ∧ f < 64
  · obtain ⟨g, rfl⟩ := Int.eq_ofNat_of_zero_le h.1
    refine (words_yes p n k g c F w hM (by omega)).mono ?_
    rintro e w' ⟨v, rfl, hc, hb⟩
    refine ⟨v, rfl, ?_, hb⟩
    by_cases hg : g < n
    · rw [if_pos ⟨by omega, by omega⟩]; exact hc
    · rw [if_neg (by omega)]
      rw [nzTo_zero 512 (hz g (by omega))] at hc
      exact hc
  · refine (words_out p n k f c F w hM h0 h1 (by omega)).mono ?_
    rintro e w' ⟨rfl, rfl⟩
    exact ⟨_, rfl, by rw [if_neg (by omega)]; exact World.ownsRow_nil _ _ _ _, Below.refl _ _⟩
theorem rWords_any (p n : Nat) (f : Int) (c : Nat → Nat → Int) (F : Nat → Prop) (w : World) (hM : RefS w p n c F) (hn : n ≤ 64) :
    Calls Try.prog 20 #[.pointer (some ⟨p, 0, none⟩), .int .i64 f] w fun e w' => ∃ v, e = .returned v ∧ Cw w' w.heap.size v (if 0 ≤ f ∧ f < n then nzTo (c f.toNat) 512 else []) ∧ Below w.heap.size w w' := by
  by_cases h : 0 ≤ f ∧ f < n
  · obtain ⟨g, rfl⟩ := Int.eq_ofNat_of_zero_le h.1
    refine (rwords_yes p n g c F w hM hn (by omega)).mono ?_
    rintro e w' ⟨v, rfl, hc, hb⟩
    exact ⟨v, rfl, by rw [if_pos h]; exact hc, hb⟩
  · refine (rwords_out p n f c F w hM hn (by omega)).mono ?_
    rintro e w' ⟨rfl, rfl⟩
    exact ⟨_, rfl, by rw [if_neg h]; exact World.ownsRow_nil _ _ _ _, Below.refl _ _⟩
end Go.Proofs.Ytlhbofgcgfbchaa
