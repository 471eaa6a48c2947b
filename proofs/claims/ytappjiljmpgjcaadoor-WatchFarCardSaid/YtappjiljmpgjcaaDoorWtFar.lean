/-
  Layer 29: the law WatchFar.
-/
import Derived.Test.YtappjiljmpgjcaaDoorWtFarL
namespace Go.Proofs.YtappjiljmpgjcaaDoor
open Go.RowKit Go.Maps
set_option linter.unusedVariables false
set_option linter.unusedSimpArgs false
theorem Ow.far {α : Type} {enc : α → List Value} {k : Nat} {t : TypeId} {w : World} {B : Nat} {v : Value} {xs : List α} (h : Ow enc k t w B v xs) {p : Addr} (hp : ∀ g, v.ownBlock = some g → g ≠ p.block) (u : Value) : Ow enc k t (w.setCell p u) B v xs := by
  refine ⟨h.1, h.2.imp id ?_⟩
  rintro ⟨g, cap, cur, rfl, h1, h2, h3⟩
  exact ⟨g, cap, cur, rfl, h1, (RowKit.Below.heap_setCell _ _ _ _ (hp g rfl)).trans h2, h3⟩
theorem Ow.cells2 {α : Type} {enc : α → List Value} {t : TypeId} {w : World} {B g n m cap : Nat} {xs : List α} {x : α} {u0 u1 : Value} (hk : ∀ x, (enc x).length = 2) (h : Ow enc 2 t w B (.slice (some ⟨g, 0, none⟩) m cap) xs) (hx : xs[n]? = some x) (he : enc x = [u0, u1]) :
    w.cell? ⟨g, n * 2, none⟩ = some u0 ∧ w.cell? ⟨g, n * 2 + 1, none⟩ = some u1 := by
  have hc := fun j u hu => World.ownsRow.cells h (g := g) rfl _ _ (flat_at hk xs n x hx j u hu)
  have e : ∀ j, (⟨g, 0, none⟩ : Addr).add j = ⟨g, j, none⟩ := fun j => by unfold Addr.add; split <;> simp_all
  simp only [e] at hc
  exact ⟨hc 0 _ (by rw [he]; rfl), hc 1 _ (by rw [he]; rfl)⟩
theorem infoFrS : (Tryd.prog.info? 51).map (fun i => (i.zero, i.size, i.bytes)) = some (some (.agg #[.int .i64 0, .slice none 0 0]), 2, 32) := by kernel_rfl
theorem infoCW : (Tryd.prog.info? 53).map (fun i => (i.zero, i.size, i.bytes)) = some (some (.agg #[.int .i64 0, .int .u64 0]), 2, 16) := by kernel_rfl
theorem and511 (x : Int) (hx : U64 x) : bits .and .u64 x 511 = x % 512 := by
  obtain ⟨x, rfl, hx'⟩ := u64_nat hx
  rw [show (511 : Int) = ((511 : Nat) : Int) from rfl, u64_and_nat _ _ hx' (by decide), show (511 : Nat) = 2 ^ 9 - 1 from rfl, Nat.and_two_pow_sub_one_eq_mod]
  omega
theorem idx_and (page : Int) (hp : U64 page) (c : Int) (l : Int) (h : (l = 0 ∧ c = 134217728) ∨ (l = 1 ∧ c = 262144) ∨ (l = 2 ∧ c = 512) ∨ (l = 3 ∧ c = 1)) : wrap64 (bits .and .u64 (page / c) 511) = aIdx page l := by
  have hq : U64 (page / c) := by
    obtain ⟨h0, h1⟩ := hp
    rcases h with ⟨_, rfl⟩ | ⟨_, rfl⟩ | ⟨_, rfl⟩ | ⟨_, rfl⟩ <;> exact ⟨by omega, by omega⟩
  rw [and511 _ hq]
  have hw : ∀ x : Int, 0 ≤ x → x < 512 → wrap64 x = x := fun x h0 h1 => by unfold wrap64; omega
  rw [hw _ (by omega) (by omega)]
  obtain ⟨n, rfl, hn⟩ := u64_nat hp
  rcases h with ⟨rfl, rfl⟩ | ⟨rfl, rfl⟩ | ⟨rfl, rfl⟩ | ⟨rfl, rfl⟩
  · have h1 : aIdx n 0 = fGet n (35 : Nat) (27 : Nat) := rfl
    rw [h1, fGet_nat n 35 27 (by omega) (by omega)]; simp only [nGet]; omega
  · have h1 : aIdx n 1 = fGet n (26 : Nat) (18 : Nat) := rfl
    rw [h1, fGet_nat n 26 18 (by omega) (by omega)]; simp only [nGet]; omega
  · have h1 : aIdx n 2 = fGet n (17 : Nat) (9 : Nat) := rfl
    rw [h1, fGet_nat n 17 9 (by omega) (by omega)]; simp only [nGet]; omega
  · have h1 : aIdx n 3 = fGet n (8 : Nat) (0 : Nat) := rfl
    rw [h1, fGet_nat n 8 0 (by omega) (by omega)]; simp only [nGet]; omega
set_option maxRecDepth 100000 in
set_option maxHeartbeats 8000000 in
theorem watchFar_any (s : Sn) (sp page frame place value : Int) (w : World) (hs : s.Given w) (hG : G w) (hp : U64 page) (hv : U64 value) (hpl : I64 place) :
    Calls Tryd.prog 4 #[snA s, .int .i64 sp, .int .u64 page, .int .i64 frame, .int .i64 place, .int .u64 value] w fun e w' => e = .returned (.bool true) ∧ Below w.heap.size w w' := by
  have HS := Lib.hid hs
  have HG := Lib.hid hG
  have HP := Lib.hid hp
  have HV := Lib.hid hv
  have HPl := Lib.hid hpl
  have hfl : s.fl.length ≤ 9223372036854775807 := Nat.le_trans hs.gfle hs.gfle2
  have hbk := Bk.new w 26 (snR s)
  obtain ⟨p0, p1⟩ := hp
  clear hs hG hv hpl
  go_enter Tryd.func4, Tryd.ntmps4
  go_upto_region 1 with fail
  refine (show ∀ W1 : World, Below w.heap.size w W1 → Bk W1 w.heap.size 26 (snR s) → Code.wp _ _ _ _ W1 from fun W1 hb1 h1 => ?_) _ (ba (Below.refl _ _) _) hbk
  have x0 : W1.cell? ⟨w.heap.size, 0, none⟩ = some (.slice s.cO s.cl.length s.cc) := h1.cell 0
  have x1 : W1.cell? ⟨w.heap.size, 1, none⟩ = some (.slice s.sO s.sl.length s.sc) := h1.cell 1
  have x2 : W1.cell? ⟨w.heap.size, 2, none⟩ = some (.slice s.fO s.fl.length s.fc) := h1.cell 2
  have HB1 := Lib.hid hb1
  have H1 := Lib.hid h1
  clear hbk hb1 h1
  go_wp2_with fail
  refine (great_any s W1 (HS.out.call HB1.out)).mono ?_
  rintro e w2 ⟨⟨gb, rfl, hsm⟩, hb2⟩
  have HB2 := Lib.hid (bthen HB1.out hb2)
  have H2 := Lib.hid (H1.out.call hb2)
  clear hb2 H1 HB1 x0 x1 x2
  cases gb with
  | true =>
    clear hsm
    go_wp2_with fail
    refine (wakes29_any w2 (HG.out.call HB2.out)).mono ?_
    rintro e w3 ⟨rfl, hb3⟩
    have HB3 := Lib.hid (bthen HB2.out hb3)
    clear hb3
    go_wp2_with fail
    go_ret
    exact ⟨rfl, HB3.out⟩
  | false =>
    have HSM := Lib.hid (hsm rfl)
    clear hsm
    have x0 : w2.cell? ⟨w.heap.size, 0, none⟩ = some (.slice s.cO s.cl.length s.cc) := H2.out.cell 0
    have x1 : w2.cell? ⟨w.heap.size, 1, none⟩ = some (.slice s.sO s.sl.length s.sc) := H2.out.cell 1
    have x2 : w2.cell? ⟨w.heap.size, 2, none⟩ = some (.slice s.fO s.fl.length s.fc) := H2.out.cell 2
    by_cases c1 : 0 ≤ frame ∧ frame < s.fl.length ∧ page < 34359738368
    · obtain ⟨a1, a2, a3⟩ := c1
      obtain ⟨k, rfl⟩ := Int.eq_ofNat_of_zero_le a1
      go_wp2_with fail
      refine wp_loop_rounds 5 ?_
      rw [rounds_succ]
      by_cases q0 : place = aIdx page 0
      · have hb : (place == wrap64 (bits .and .u64 (page / 134217728) 511)) = true := by rw [idx_and page HP.out 134217728 0 (by omega)]; simp [q0]
        go_wp2_with fail
        refine (wakes29_any w2 (HG.out.call HB2.out)).mono ?_
        rintro e w3 ⟨rfl, hb3⟩
        have HB3 := Lib.hid (bthen HB2.out hb3)
        clear hb3
        go_wp2_with fail
        go_ret
        exact ⟨rfl, HB3.out⟩
      · have hb0 : (place == wrap64 (bits .and .u64 (page / 134217728) 511)) = false := by rw [idx_and page HP.out 134217728 0 (by omega)]; simp [q0]
        go_wp2_with fail
        rw [rounds_succ]
        by_cases q1 : place = aIdx page 1
        · have hb : (place == wrap64 (bits .and .u64 (page / 262144) 511)) = true := by rw [idx_and page HP.out 262144 1 (by omega)]; simp [q1]
          go_wp2_with fail
          refine (wakes29_any w2 (HG.out.call HB2.out)).mono ?_
          rintro e w3 ⟨rfl, hb3⟩
          have HB3 := Lib.hid (bthen HB2.out hb3)
          clear hb3
          go_wp2_with fail
          go_ret
          exact ⟨rfl, HB3.out⟩
        · have hb1 : (place == wrap64 (bits .and .u64 (page / 262144) 511)) = false := by rw [idx_and page HP.out 262144 1 (by omega)]; simp [q1]
          go_wp2_with fail
          rw [rounds_succ]
          by_cases q2 : place = aIdx page 2
          · have hb : (place == wrap64 (bits .and .u64 (page / 512) 511)) = true := by rw [idx_and page HP.out 512 2 (by omega)]; simp [q2]
            go_wp2_with fail
            refine (wakes29_any w2 (HG.out.call HB2.out)).mono ?_
            rintro e w3 ⟨rfl, hb3⟩
            have HB3 := Lib.hid (bthen HB2.out hb3)
            clear hb3
            go_wp2_with fail
            go_ret
            exact ⟨rfl, HB3.out⟩
          · have hb2 : (place == wrap64 (bits .and .u64 (page / 512) 511)) = false := by rw [idx_and page HP.out 512 2 (by omega)]; simp [q2]
            go_wp2_with fail
            rw [rounds_succ]
            by_cases q3 : place = aIdx page 3
            · have hb : (place == wrap64 (bits .and .u64 page 511)) = true := by rw [show bits .and .u64 page 511 = bits .and .u64 (page / 1) 511 by rw [Int.ediv_one], idx_and page HP.out 1 3 (by omega)]; simp [q3]
              go_wp2_with fail
              refine (wakes29_any w2 (HG.out.call HB2.out)).mono ?_
              rintro e w3 ⟨rfl, hb3⟩
              have HB3 := Lib.hid (bthen HB2.out hb3)
              clear hb3
              go_wp2_with fail
              go_ret
              exact ⟨rfl, HB3.out⟩
            · have hb3 : (place == wrap64 (bits .and .u64 page 511)) = false := by rw [show bits .and .u64 page 511 = bits .and .u64 (page / 1) 511 by rw [Int.ediv_one], idx_and page HP.out 1 3 (by omega)]; simp [q3]
              go_wp2_with fail
              rw [rounds_succ]
              go_wp2_with fail
              have HQ := Lib.hid (show ∀ l : Int, 0 ≤ l → l ≤ 3 → aIdx page l ≠ place from fun l h0 h3 => by
                have hl : l = 0 ∨ l = 1 ∨ l = 2 ∨ l = 3 := by omega
                rcases hl with rfl | rfl | rfl | rfl
                · exact fun e => q0 e.symm
                · exact fun e => q1 e.symm
                · exact fun e => q2 e.symm
                · exact fun e => q3 e.symm)
              clear hb0 hb1 hb2 hb3
              refine (maps_any s sp page w2 (HS.out.call HB2.out) (by have := HSM.out.nfl; omega) (HG.out.call HB2.out) HP.out).mono ?_
              rintro e w3 ⟨rfl, hb3⟩
              simp only [wayV]
              have HB3 := Lib.hid (bthen HB2.out hb3)
              have H3 := Lib.hid (H2.out.call hb3)
              clear hb3 x0 x1 x2 H2 HB2
              obtain ⟨m1, hm1⟩ : ∃ m1, m1 = (mapsP s sp page).1 := ⟨_, rfl⟩
              obtain ⟨m2, hm2⟩ : ∃ m2, m2 = (mapsP s sp page).2.1 := ⟨_, rfl⟩
              obtain ⟨m3, hm3⟩ : ∃ m3, m3 = (mapsP s sp page).2.2 := ⟨_, rfl⟩
              rw [← hm1, ← hm2, ← hm3]
              have HM1 := Lib.hid hm1
              have HM2 := Lib.hid hm2
              have HM3 := Lib.hid hm3
              clear hm1 hm2 hm3
              have x0 : w3.cell? ⟨w.heap.size, 0, none⟩ = some (.slice s.cO s.cl.length s.cc) := H3.out.cell 0
              have x1 : w3.cell? ⟨w.heap.size, 1, none⟩ = some (.slice s.sO s.sl.length s.sc) := H3.out.cell 1
              have x2 : w3.cell? ⟨w.heap.size, 2, none⟩ = some (.slice s.fO s.fl.length s.fc) := H3.out.cell 2
              go_upto_region 11 with fail
              have hk := Bk.new w3 26 (snR s)
              refine (show ∀ W4 : World, Below w3.heap.size w3 W4 → Bk W4 w3.heap.size 26 (snR s) → Code.wp _ _ _ _ W4 from fun W4 hb4 h4 => ?_) _ (ba (Below.refl _ _) _) hk
              have HB4 := Lib.hid (bthen HB3.out hb4)
              have HT4 := Lib.hid h4
              have hS4 := H3.out.call hb4
              have hTs : w.heap.size < w3.heap.size := H3.out.lt
              clear hk hb4 h4 x0 x1 x2 H3 HB3
              obtain ⟨T, hT⟩ : ∃ T, T = w3.heap.size := ⟨_, rfl⟩
              rw [← hT] at HT4 hTs ⊢
              clear hT
              have HTs := Lib.hid hTs
              have x2 : W4.cell? ⟨w.heap.size, 2, none⟩ = some (.slice s.fO s.fl.length s.fc) := hS4.cell 2
              have hwlt : w.heap.size < W4.heap.size := hS4.lt
              have HTlt := Lib.hid HT4.out.lt
              clear hS4
              obtain ⟨x, hx⟩ : ∃ x, s.fl[k]? = some x := ⟨_, List.getElem?_eq_getElem (by omega)⟩
              have HX := Lib.hid hx
              have HXG := Lib.hid (HS.out.gfall x (List.mem_of_getElem? hx))
              have HX20 := Lib.hid (HSM.out.nw x (List.mem_of_getElem? hx))
              clear hx
              have HR0 := Lib.hid (HS.out.gf.call (ba HB4.out (.cells #[] 51)))
              have HL0 := Lib.hid (show s.fl.length ≤ 70 from HSM.out.nfl)
              have HE0 := Lib.hid (show Ow frC 2 51 (W4.alloc (.cells #[] 51)) W4.heap.size (.slice (some ⟨W4.heap.size, 0, none⟩) 0 0) [] from ⟨rfl, .inr ⟨W4.heap.size, 0, #[], rfl, Nat.le_refl _, heap_alloc_new W4 _, Nat.le_refl _, Nat.zero_le _, rfl, rfl⟩⟩)
              have HBe := Lib.hid (ba (Below.refl W4.heap.size W4) (.cells #[] 51))
              obtain ⟨i0, hi, hz0, hz1, hz2⟩ := info_parts infoFrS
              go_upto_region 12 with (at_builtin; refine wp_app (enc := frC) rfl _ _ 24 rfl W4.heap.size 51 i0 _ 32 Tryd.underlying24 hi hz0 hz1 hz2 rfl (by decide) frC_len frC_one _ [] rfl HE0.out s.fl s.fO s.fl.length s.fc rfl rfl HR0.out (by have := HL0.out; simp; omega) (by decide) W4 HBe.out (Nat.le_refl _) ?_; intro v5 w5 o1 o2; have HO5 := Lib.hid o1; have HB5 := Lib.hid o2; clear o1 o2; obtain ⟨g5, c5, e5, b5, l5, n5⟩ := HO5.out.head (by simp; omega); simp only [List.nil_append] at e5; subst e5; have ct2 : w5.cell? ⟨T, 2, none⟩ = some (.slice s.fO s.fl.length s.fc) := (HT4.out.call HB5.out).cell 2; have ft2 : w5.frozen? ⟨T, 2, none⟩ = false := (HT4.out.call HB5.out).frozen 2)
              have HTW4 : T < W4.heap.size := HTlt.out
              refine (show ∀ W6 : World, Below w.heap.size w W6 → Bk W6 T 26 #[.slice s.cO s.cl.length s.cc, .slice s.sO s.sl.length s.sc, .slice (some ⟨g5, 0, none⟩) s.fl.length c5] → Ow frC 2 51 W6 W4.heap.size (.slice (some ⟨g5, 0, none⟩) s.fl.length c5) s.fl → W4.heap.size ≤ W6.heap.size → Code.wp _ _ _ _ W6 from fun W6 hb6 h6 ho6 hz6 => ?_) _ ?w1 ?w2 ?w3 ?w4
              case w1 => exact bs (bthen HB4.out HB5.out) (by show w.heap.size ≤ T; exact Nat.le_of_lt HTs.out) _
              case w2 => exact (HT4.out.call HB5.out).set 2 _
              case w3 =>
                have h1 := HO5.out
                rw [List.nil_append] at h1
                exact h1.far (fun g hg => by simp only [Value.ownBlock, Option.some.injEq] at hg; show g ≠ T; omega) _
              case w4 => rw [World.size_setCell]; exact HB5.out.size
              clear HO5 ct2 ft2 HE0 HBe HR0 x2 HB5 HT4
              generalize W4.heap.size = B4 at *
              have HB6 := Lib.hid hb6
              have HT6 := Lib.hid h6
              have HO6 := Lib.hid ho6
              obtain ⟨q0', q1'⟩ := ho6.cells2 frC_len HX.out (show frC x = [.int .i64 x.n, .slice x.wO x.wl.length x.wc] from rfl)
              have hz6' : T < W6.heap.size := h6.lt
              have y2 : W6.cell? ⟨T, 2, none⟩ = some (.slice (some ⟨g5, 0, none⟩) s.fl.length c5) := h6.cell 2
              have HZ6 := Lib.hid hz6
              have hXnew := Lib.hid (Bk.new W6 51 #[.int .i64 x.n, .slice x.wO x.wl.length x.wc])
              clear hb6 h6 ho6 hz6
              go_upto_region 13 with fail
              refine (show ∀ W7 : World, Below W6.heap.size W6 W7 → Bk W7 W6.heap.size 51 #[.int .i64 x.n, .slice x.wO x.wl.length x.wc] → Code.wp _ _ _ _ W7 from fun W7 hb7 h7 => ?_) _ (ba (Below.refl _ _) _) hXnew.out
              have HB67 := Lib.hid hb7
              have HX7 := Lib.hid h7
              have HB7 := Lib.hid (bthen HB6.out hb7)
              have HT7 := Lib.hid (HT6.out.call hb7)
              have hX7l : W6.heap.size < W7.heap.size := h7.lt
              clear hXnew hb7 h7 y2 q0' q1'
              obtain ⟨X, hXe⟩ : ∃ X, X = W6.heap.size := ⟨_, rfl⟩
              rw [← hXe] at HX7 hX7l ⊢
              have HXe := Lib.hid hXe
              have HX7l := Lib.hid hX7l
              have z1 : W7.cell? ⟨X, 1, none⟩ = some (.slice x.wO x.wl.length x.wc) := HX7.out.cell 1
              clear hXe
              have HR7 := Lib.hid (HXG.out.gw.call (ba HB7.out (.cells #[.int .i64 place, .int .u64 value] 53)))
              have HE7 := Lib.hid (show Ow cwC 2 53 (W7.alloc (.cells #[.int .i64 place, .int .u64 value] 53)) W7.heap.size (.slice (some ⟨W7.heap.size, 0, none⟩) 1 1) [⟨place, value⟩] from ⟨rfl, .inr ⟨W7.heap.size, 1, #[.int .i64 place, .int .u64 value], rfl, Nat.le_refl _, heap_alloc_new W7 _, Nat.le_refl _, Nat.le_of_ble_eq_true rfl, rfl, rfl⟩⟩)
              have HBe7 := Lib.hid (ba (Below.refl W7.heap.size W7) (.cells #[.int .i64 place, .int .u64 value] 53))
              obtain ⟨j0, hj, hj0, hj1, hj2⟩ := info_parts infoCW
              go_upto_region 14 with (at_builtin; refine wp_app (enc := cwC) rfl _ _ 49 rfl W7.heap.size 53 j0 _ 16 Tryd.underlying49 hj hj0 hj1 hj2 rfl (by decide) cwC_len cwC_one _ [⟨place, value⟩] rfl HE7.out x.wl x.wO x.wl.length x.wc rfl rfl HR7.out (by have := HX20.out; simp; omega) (by decide) W7 HBe7.out (Nat.le_refl _) ?_; intro v8 w8 o1 o2; have HO8 := Lib.hid o1; have HB8 := Lib.hid o2; clear o1 o2; obtain ⟨g8, c8, e8, b8, l8, n8⟩ := HO8.out.head (by simp); simp only [List.cons_append, List.nil_append] at e8; subst e8; have cx1 : w8.cell? ⟨X, 1, none⟩ = some (.slice x.wO x.wl.length x.wc) := (HX7.out.call HB8.out).cell 1; have fx1 : w8.frozen? ⟨X, 1, none⟩ = false := (HX7.out.call HB8.out).frozen 1)
              have hz8 := HB8.out.size
              have hb5X : g5 < X := by have := HXe.out; have h1 := HO6.out.lt g5 rfl; omega
              refine (show ∀ W9 : World, Below w.heap.size w W9 → Bk W9 T 26 #[.slice s.cO s.cl.length s.cc, .slice s.sO s.sl.length s.sc, .slice (some ⟨g5, 0, none⟩) s.fl.length c5] → Bk W9 X 51 #[.int .i64 x.n, .slice (some ⟨g8, 0, none⟩) (x.wl.length + 1) c8] →
                Ow frC 2 51 W9 B4 (.slice (some ⟨g5, 0, none⟩) s.fl.length c5) s.fl → Ow cwC 2 53 W9 W7.heap.size (.slice (some ⟨g8, 0, none⟩) (x.wl.length + 1) c8) (⟨place, value⟩ :: x.wl) → Code.wp _ _ _ _ W9 from fun W9 hb9 h9 hx9 ho9 hw9 => ?_) _ ?v1 ?v2 ?v3 ?v4 ?v5
              case v1 => exact bs (bthen HB7.out HB8.out) (by show w.heap.size ≤ X; have := HXe.out; have := HB6.out.size; omega) _
              case v2 => exact (HT7.out.call HB8.out).far (by show T ≠ X; have := HXe.out; omega) _
              case v3 => exact (HX7.out.call HB8.out).set 1 _
              case v4 => exact ((HO6.out.call HB67.out).call HB8.out).far (fun g hg => by simp only [Value.ownBlock, Option.some.injEq] at hg; show g ≠ X; omega) _
              case v5 => exact (show Ow cwC 2 53 w8 W7.heap.size (.slice (some ⟨g8, 0, none⟩) (x.wl.length + 1) c8) (⟨place, value⟩ :: x.wl) from HO8.out).far (fun g hg => by simp only [Value.ownBlock, Option.some.injEq] at hg; have := HX7l.out; show g ≠ X; omega) _
              have HB9 := Lib.hid hb9
              have HT9 := Lib.hid h9
              have HO9 := Lib.hid ho9
              have HW9 := Lib.hid hw9
              obtain ⟨q0', q1'⟩ := ho9.cells2 frC_len HX.out (show frC x = [.int .i64 x.n, .slice x.wO x.wl.length x.wc] from rfl)
              have f0' := ho9.frozen4 (k * 2)
              have f1' := ho9.frozen4 (k * 2 + 1)
              have y2 : W9.cell? ⟨T, 2, none⟩ = some (.slice (some ⟨g5, 0, none⟩) s.fl.length c5) := h9.cell 2
              have r0 : W9.cell? ⟨X, 0, none⟩ = some (.int .i64 x.n) := hx9.cell 0
              have r1 : W9.cell? ⟨X, 1, none⟩ = some (.slice (some ⟨g8, 0, none⟩) (x.wl.length + 1) c8) := hx9.cell 1
              have HG85 := Lib.hid (show g5 < W7.heap.size ∧ W7.heap.size ≤ g8 from ⟨by have := HX7l.out; omega, b8⟩)
              have HTg := Lib.hid (show T < g5 from by omega)
              have HGw := Lib.hid (show w.heap.size ≤ g5 from by have := HTs.out; omega)
              clear HO8 HE7 HBe7 HR7 z1 cx1 fx1 HX7 HT7 HT6 HO6 hb9 h9 hx9 ho9 hw9 hz8 hb5X
              go_upto_region 15 with fail
              obtain ⟨t, ht⟩ : ∃ t : Sn, t = { s with fO := some ⟨g5, 0, none⟩, fl := s.fl.set k ⟨x.n, some ⟨g8, 0, none⟩, ⟨place, value⟩ :: x.wl, c8⟩, fc := c5 } := ⟨_, rfl⟩
              refine (show ∀ W10 : World, Below w.heap.size w W10 → Bk W10 T 26 #[.slice s.cO s.cl.length s.cc, .slice s.sO s.sl.length s.sc, .slice (some ⟨g5, 0, none⟩) s.fl.length c5] → t.Given W10 → Code.wp _ _ _ _ W10 from fun W10 hb10 h10 ht10 => ?_) _ ?u1 ?u2 ?u3
              case u1 => exact bs (bs HB9.out (by show w.heap.size ≤ g5; exact HGw.out) _) (by show w.heap.size ≤ g5; exact HGw.out) _
              case u2 => exact (HT9.out.far (by show T ≠ g5; have := HTg.out; omega) _).far (by show T ≠ g5; have := HTg.out; omega) _
              case u3 =>
                have hB10 : Below w.heap.size w ((W9.setCell ⟨g5, k * 2, none⟩ (.int .i64 x.n)).setCell ⟨g5, k * 2 + 1, none⟩ (.slice (some ⟨g8, 0, none⟩) (x.wl.length + 1) c8)) := bs (bs HB9.out (by show w.heap.size ≤ g5; exact HGw.out) _) (by show w.heap.size ≤ g5; exact HGw.out) _
                have hS10 := HS.out.call hB10
                obtain ⟨O9, cp9, e9, l9, l9', rk9⟩ := HO9.out.form frC_len
                cases e9
                have hR10 := rk9.put2 (k := k) (x' := ⟨x.n, some ⟨g8, 0, none⟩, ⟨place, value⟩ :: x.wl, c8⟩) (u0 := .int .i64 x.n) (u1 := .slice (some ⟨g8, 0, none⟩) (x.wl.length + 1) c8) frC_len HX.out rfl
                have hW10 : Ow cwC 2 53 ((W9.setCell ⟨g5, k * 2, none⟩ (.int .i64 x.n)).setCell ⟨g5, k * 2 + 1, none⟩ (.slice (some ⟨g8, 0, none⟩) (x.wl.length + 1) c8)) W7.heap.size (.slice (some ⟨g8, 0, none⟩) (x.wl.length + 1) c8) (⟨place, value⟩ :: x.wl) :=
                  (HW9.out.far (fun g hg => by simp only [Value.ownBlock, Option.some.injEq] at hg; have := HG85.out; show g ≠ g5; omega) _).far (fun g hg => by simp only [Value.ownBlock, Option.some.injEq] at hg; have := HG85.out; show g ≠ g5; omega) _
                obtain ⟨O10, cp10, e10, m10, m10', rk10⟩ := hW10.form cwC_len
                cases e10
                rw [ht]
                refine ⟨hS10.gc, hS10.gcle, hS10.gcle2, hS10.gcall, hS10.gs, hS10.gsle, hS10.gsle2, hS10.gsall, hR10, by rw [List.length_set]; exact l9, l9', fun y hy => ?_⟩
                rcases List.mem_or_eq_of_mem_set hy with hy | rfl
                · exact hS10.gfall y hy
                · refine ⟨HXG.out.gn, rk10, m10, m10', fun z hz => ?_⟩
                  rcases List.mem_cons.1 hz with rfl | hz
                  · exact ⟨HPl.out, HV.out⟩
                  · exact (HXG.out.call hB10).gwall z hz
              have HMT := Lib.hid (show mapsP t sp page = mapsP s sp page by rw [ht]; exact maps_far rfl (by simp) (tb_set HX.out rfl _ _) HQ.out)
              have HTL := Lib.hid (show t.fl.length = s.fl.length by rw [ht]; simp)
              have HTe := Lib.hid (show t.cO = s.cO ∧ t.cl = s.cl ∧ t.cc = s.cc ∧ t.sO = s.sO ∧ t.sl = s.sl ∧ t.sc = s.sc ∧ t.fO = some ⟨g5, 0, none⟩ ∧ t.fc = c5 by rw [ht]; exact ⟨rfl, rfl, rfl, rfl, rfl, rfl, rfl, rfl⟩)
              have HB10 := Lib.hid hb10
              have HT10 := Lib.hid ht10
              have y0 : W10.cell? ⟨T, 0, none⟩ = some (.slice s.cO s.cl.length s.cc) := h10.cell 0
              have y1 : W10.cell? ⟨T, 1, none⟩ = some (.slice s.sO s.sl.length s.sc) := h10.cell 1
              have y2 : W10.cell? ⟨T, 2, none⟩ = some (.slice (some ⟨g5, 0, none⟩) s.fl.length c5) := h10.cell 2
              clear ht hb10 h10 ht10 q0' q1' f0' f1' r0 r1 HO9 HW9 HT9 HB9
              go_wp2_with fail
              have HC := Lib.hid (maps_len t s.fl.length HTL.out sp page W10 HT10.out (by rw [HTL.out]; have := HSM.out.nfl; omega) (HG.out.call HB10.out) HP.out)
              rw [HTe.out.1, HTe.out.2.1, HTe.out.2.2.1, HTe.out.2.2.2.1, HTe.out.2.2.2.2.1, HTe.out.2.2.2.2.2.1, HTe.out.2.2.2.2.2.2.1, HTe.out.2.2.2.2.2.2.2, HMT.out] at HC
              refine HC.out.mono ?_
              rintro e W11 ⟨rfl, hb11⟩
              simp only [wayV]
              rw [← HM1.out, ← HM2.out, ← HM3.out]
              have HB11 := Lib.hid (bthen HB10.out hb11)
              clear hb11 y0 y1 y2 HC
              have s1 : (m1 == m1) = true := by simp
              have s2 : (m2 == m2) = true := by simp
              have s3 : (m3 == m3) = true := by simp
              go_wp2_with fail
              refine (wakes29_any W11 (HG.out.call HB11.out)).mono ?_
              rintro e W12 ⟨rfl, hb12⟩
              have HB12 := Lib.hid (bthen HB11.out hb12)
              clear hb12
              go_wp2_with fail
              go_ret
              exact ⟨rfl, HB12.out⟩
    · have HW := Lib.hid (wakes29_any w2 (HG.out.call HB2.out))
      by_cases a1 : 0 ≤ frame
      · by_cases a2 : frame < s.fl.length
        · have a3 : 34359738368 ≤ page := by omega
          go_wp2_with fail
          refine (wakes29_any w2 (HG.out.call HB2.out)).mono ?_
          rintro e w3 ⟨rfl, hb3⟩
          have HB3 := Lib.hid (bthen HB2.out hb3)
          clear hb3
          go_wp2_with fail
          go_ret
          exact ⟨rfl, HB3.out⟩
        · go_wp2_with fail
          refine (wakes29_any w2 (HG.out.call HB2.out)).mono ?_
          rintro e w3 ⟨rfl, hb3⟩
          have HB3 := Lib.hid (bthen HB2.out hb3)
          clear hb3
          go_wp2_with fail
          go_ret
          exact ⟨rfl, HB3.out⟩
      · go_wp2_with fail
        refine (wakes29_any w2 (HG.out.call HB2.out)).mono ?_
        rintro e w3 ⟨rfl, hb3⟩
        have HB3 := Lib.hid (bthen HB2.out hb3)
        clear hb3
        go_wp2_with fail
        go_ret
        exact ⟨rfl, HB3.out⟩
end Go.Proofs.YtappjiljmpgjcaaDoor
