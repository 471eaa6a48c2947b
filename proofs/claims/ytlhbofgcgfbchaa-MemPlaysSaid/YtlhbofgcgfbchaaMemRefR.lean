/-
  The document's memory (tenementref08): frame, Reach, Words.
-/
import Derived.Test.YtlhbofgcgfbchaaLockRef
import Derived.Test.YtlhbofgcgfbchaaMemWords
import Derived.Test.YtlhbofgcgfbchaaMemCopy
namespace Go.Proofs.Ytlhbofgcgfbchaa
open Go.RowKit Go.Maps
set_option linter.unusedVariables false
set_option linter.unusedSimpArgs false
theorem rframe_yes (p n bl : Nat) (f : Int) (w : World) (hc : w.cell? ⟨p, 0, none⟩ = some (.slice (some ⟨bl, 0, none⟩) n n)) (hn : n ≤ 64) (h0 : 0 ≤ f) (h : f < n) :
    Calls Try.prog 42 #[.pointer (some ⟨p, 0, none⟩), .int .i64 f] w fun e w' => e = .returned (.bool true) ∧ w = w' := by
  go_enter Try.func42, Try.ntmps42
  go_wp2_with fail
  go_ret
  exact ⟨rfl, rfl⟩
theorem rframe_no (p n bl : Nat) (f : Int) (w : World) (hc : w.cell? ⟨p, 0, none⟩ = some (.slice (some ⟨bl, 0, none⟩) n n)) (hn : n ≤ 64) (h : f < 0 ∨ (n : Int) ≤ f) :
    Calls Try.prog 42 #[.pointer (some ⟨p, 0, none⟩), .int .i64 f] w fun e w' => e = .returned (.bool false) ∧ w = w' := by
  by_cases h0 : f < 0
  · clear h
    go_enter Try.func42, Try.ntmps42
    go_wp2_with fail
    go_ret
    exact ⟨rfl, rfl⟩
  · have h1 : (n : Int) ≤ f := by omega
    have h2 : 0 ≤ f := by omega
    have h3 : decide (f < (n : Int)) = false := by simpa using h1
    clear h h0
    go_enter Try.func42, Try.ntmps42
    go_wp2_with fail
    go_ret
    exact ⟨rfl, rfl⟩
theorem rreach_kind (p : Nat) (kd x v fr t : Int) (w : World) (h : kd < 0 ∨ 3 < kd) :
    Calls Try.prog 29 #[.pointer (some ⟨p, 0, none⟩), .agg #[.int .i8 kd, .int .u64 x, .int .u64 v, .int .i64 fr, .int .i64 t]] w fun e w' => e = .returned (.int .i64 2) ∧ Below w.heap.size w w' := by
  have h0 : (kd == 0) = false := beq_eq_false_iff_ne.2 (by omega)
  have h1 : (kd == 1) = false := beq_eq_false_iff_ne.2 (by omega)
  have h2 : (kd == 2) = false := beq_eq_false_iff_ne.2 (by omega)
  have h3 : (kd == 3) = false := beq_eq_false_iff_ne.2 (by omega)
  clear h
  go_enter Try.func29, Try.ntmps29
  go_wp2_with fail
  go_ret
  exact ⟨rfl, ba (Below.refl _ _) _⟩
theorem rreach_bar (p : Nat) (x v fr t : Int) (w : World) :
    Calls Try.prog 29 #[.pointer (some ⟨p, 0, none⟩), .agg #[.int .i8 1, .int .u64 x, .int .u64 v, .int .i64 fr, .int .i64 t]] w fun e w' => e = .returned (.int .i64 0) ∧ Below w.heap.size w w' := by
  go_enter Try.func29, Try.ntmps29
  go_wp2_with fail
  go_ret
  exact ⟨rfl, ba (Below.refl _ _) _⟩
theorem rreach_word_no (p n : Nat) (x v fr t : Int) (c : Nat → Nat → Int) (F : Nat → Prop) (w : World) (hM : RefS w p n c F) (hn : n ≤ 64) (hx : U64 x) (h : (n : Int) ≤ x / 512) :
    Calls Try.prog 29 #[.pointer (some ⟨p, 0, none⟩), .agg #[.int .i8 0, .int .u64 x, .int .u64 v, .int .i64 fr, .int .i64 t]] w fun e w' => e = .returned (.int .i64 80) ∧ Below w.heap.size w w' := by
  have HB := Lib.hid (ba (Below.refl w.heap.size w) (.cells #[.int .i8 0, .int .u64 x, .int .u64 v, .int .i64 fr, .int .i64 t] 29))
  have HM := Lib.hid (hM.call HB.out)
  clear hM
  go_enter Try.func29, Try.ntmps29
  go_wp2_with fail
  refine (rwrite_no p n x v c F _ HM.out hn hx h).mono ?_
  rintro e w1 ⟨rfl, rfl⟩
  go_wp2_with fail
  go_ret
  exact ⟨rfl, HB.out⟩
theorem rreach_zero_no (p n : Nat) (x v fr t : Int) (c : Nat → Nat → Int) (F : Nat → Prop) (w : World) (hM : RefS w p n c F) (hn : n ≤ 64) (h : t < 0 ∨ (n : Int) ≤ t) :
    Calls Try.prog 29 #[.pointer (some ⟨p, 0, none⟩), .agg #[.int .i8 2, .int .u64 x, .int .u64 v, .int .i64 fr, .int .i64 t]] w fun e w' => e = .returned (.int .i64 80) ∧ Below w.heap.size w w' := by
  obtain ⟨bl, s, hM⟩ := hM
  have HB := Lib.hid (ba (Below.refl w.heap.size w) (.cells #[.int .i8 2, .int .u64 x, .int .u64 v, .int .i64 fr, .int .i64 t] 29))
  have HC := Lib.hid ((hM.call HB.out).str.cell 0)
  have HT := Lib.hid h
  clear hM h
  go_enter Try.func29, Try.ntmps29
  go_wp2_with fail
  refine (rframe_no p n bl t _ HC.out hn HT.out).mono ?_
  rintro e w1 ⟨rfl, rfl⟩
  go_wp2_with fail
  go_ret
  exact ⟨rfl, HB.out⟩
theorem rreach_copy_no (p n : Nat) (x v g t : Int) (c : Nat → Nat → Int) (F : Nat → Prop) (w : World) (hM : RefS w p n c F) (hn : n ≤ 64) (h : (t < 0 ∨ (n : Int) ≤ t) ∨ (0 ≤ t ∧ t < n) ∧ (g < 0 ∨ (n : Int) ≤ g)) :
    Calls Try.prog 29 #[.pointer (some ⟨p, 0, none⟩), .agg #[.int .i8 3, .int .u64 x, .int .u64 v, .int .i64 g, .int .i64 t]] w fun e w' => e = .returned (.int .i64 80) ∧ Below w.heap.size w w' := by
  obtain ⟨bl, s, hM⟩ := hM
  have HB := Lib.hid (ba (Below.refl w.heap.size w) (.cells #[.int .i8 3, .int .u64 x, .int .u64 v, .int .i64 g, .int .i64 t] 29))
  have HC := Lib.hid ((hM.call HB.out).str.cell 0)
  rcases h with h | ⟨⟨t0, t1⟩, h⟩
  · have HT := Lib.hid h
    clear hM h
    go_enter Try.func29, Try.ntmps29
    go_wp2_with fail
    refine (rframe_no p n bl t _ HC.out hn HT.out).mono ?_
    rintro e w1 ⟨rfl, rfl⟩
    go_wp2_with fail
    go_ret
    exact ⟨rfl, HB.out⟩
  · have HT := Lib.hid h
    clear hM h
    go_enter Try.func29, Try.ntmps29
    go_wp2_with fail
    refine (rframe_yes p n bl t _ HC.out hn t0 t1).mono ?_
    rintro e w1 ⟨rfl, rfl⟩
    go_wp2_with fail
    refine (rframe_no p n bl g _ HC.out hn HT.out).mono ?_
    rintro e w1 ⟨rfl, rfl⟩
    go_wp2_with fail
    go_ret
    exact ⟨rfl, HB.out⟩
set_option maxHeartbeats 1000000 in
theorem rreach_zero (p n t : Nat) (x v fr : Int) (c : Nat → Nat → Int) (F : Nat → Prop) (w : World) (hM : RefS w p n c F) (hn : n ≤ 64) (ht : t < n) :
    Calls Try.prog 29 #[.pointer (some ⟨p, 0, none⟩), .agg #[.int .i8 2, .int .u64 x, .int .u64 v, .int .i64 fr, .int .i64 t]] w (RWent w p n (clr c t) F (.int .i64 0)) := by
  obtain ⟨bl, s, hM⟩ := hM
  have HB := Lib.hid (ba (Below.refl w.heap.size w) (.cells #[.int .i8 2, .int .u64 x, .int .u64 v, .int .i64 fr, .int .i64 t] 29))
  have hM1 := hM.call HB.out
  have HM := Lib.hid hM1
  have HC := Lib.hid (hM1.str.cell 0)
  have hE := Bk.new w 29 #[.int .i8 2, .int .u64 x, .int .u64 v, .int .i64 fr, .int .i64 t]
  have HE := Lib.hid hE
  have HF := Lib.hid hM.lt
  clear hM hM1 hE
  go_enter Try.func29, Try.ntmps29
  go_wp2_with fail
  refine (rframe_yes p n bl t _ HC.out hn (by omega) (by omega)).mono ?_
  rintro e w1 ⟨rfl, rfl⟩
  go_upto_region 9 with fail
  generalize w.alloc (.cells #[.int .i8 2, .int .u64 x, .int .u64 v, .int .i64 fr, .int .i64 t] 29) = W at *
  have c0 := HC.out
  have c4 := HE.out.cell 4
  have cs := (HM.out.tab.cell t).trans (tabOf_at _ _ _ ht)
  have cf := HM.out.tab.frozen t
  go_region
  go_wp2_with fail
  go_ret
  exact ⟨rfl, F, ⟨bl, _, HM.out.turn (g := fun _ => 0) ht ((Keeps.refl _ W).drew) (fun _ h => h) (fun x hx => HM.out.lt x hx) (.inl ⟨rfl, fun _ _ => rfl⟩)⟩, (Keeps.of_below HB.out).trans ((Keeps.refl F W).drew.trans (Keeps.setCell (F := F) HM.out.bF _) (fun x hx => .inl hx)) (fun x hx => .inl hx), fun x hx => .inl hx, fun x hx => hx⟩
set_option maxHeartbeats 1000000 in
theorem rreach_copy_nil (p n bl t g : Nat) (x v : Int) (c : Nat → Nat → Int) (F : Nat → Prop) (s : Nat → Value) (w : World) (hM : Rm w p n c F bl s) (hn : n ≤ 64) (ht : t < n) (hg : g < n) (a1 : s g = .slice none 0 0) (a2 : ∀ i, i < 512 → c g i = 0) :
    Calls Try.prog 29 #[.pointer (some ⟨p, 0, none⟩), .agg #[.int .i8 3, .int .u64 x, .int .u64 v, .int .i64 g, .int .i64 t]] w (RWent w p n (cpy c g t) F (.int .i64 0)) := by
  have HB := Lib.hid (ba (Below.refl w.heap.size w) (.cells #[.int .i8 3, .int .u64 x, .int .u64 v, .int .i64 g, .int .i64 t] 29))
  have hM1 := hM.call HB.out
  have HM := Lib.hid hM1
  have HC := Lib.hid (hM1.str.cell 0)
  have hE := Bk.new w 29 #[.int .i8 3, .int .u64 x, .int .u64 v, .int .i64 g, .int .i64 t]
  have HE := Lib.hid hE
  have HF := Lib.hid hM.lt
  have HA := Lib.hid a2
  clear hM hM1 hE a2
  go_enter Try.func29, Try.ntmps29
  go_wp2_with fail
  refine (rframe_yes p n bl t _ HC.out hn (by omega) (by omega)).mono ?_
  rintro e w1 ⟨rfl, rfl⟩
  go_wp2_with fail
  refine (rframe_yes p n bl g _ HC.out hn (by omega) (by omega)).mono ?_
  rintro e w1 ⟨rfl, rfl⟩
  go_upto_region 15 with fail
  generalize w.alloc (.cells #[.int .i8 3, .int .u64 x, .int .u64 v, .int .i64 g, .int .i64 t] 29) = W at *
  have c0 := HC.out
  have c3 := HE.out.cell 3
  have c4 := HE.out.cell 4
  have cs := (HM.out.tab.cell g).trans (tabOf_at _ _ _ hg)
  rw [a1] at cs
  have ct := (HM.out.tab.cell t).trans (tabOf_at _ _ _ ht)
  have cf := HM.out.tab.frozen t
  go_region
  go_wp2_with fail
  go_region
  go_wp2_with fail
  go_ret
  exact ⟨rfl, F, ⟨bl, _, HM.out.turn (g := c g) ht ((Keeps.refl _ W).drew.drew) (fun _ h => h) (fun x hx => HM.out.lt x hx) (.inl ⟨rfl, HA.out⟩)⟩, (Keeps.of_below HB.out).trans ((Keeps.refl F W).drew.drew.trans (Keeps.setCell (F := F) HM.out.bF _) (fun x hx => .inl hx)) (fun x hx => .inl hx), fun x hx => .inl hx, fun x hx => hx⟩
def rowL (g : Nat → Int) : List Value := (List.range 512).map fun i => .int .u64 (g i)
theorem rowL_len (g : Nat → Int) : (rowL g).length = 512 := by simp [rowL]
theorem rowL_at (g : Nat → Int) (i : Nat) (hi : i < 512) : (rowL g)[i]? = some (.int .u64 (g i)) := by simp [rowL, hi]
theorem rowL_one (g : Nat → Int) : ∀ u ∈ rowL g, u.oneCell' = true := by
  intro u hu
  obtain ⟨i, _, rfl⟩ := List.mem_map.1 hu
  rfl
theorem rowL_news {w : World} {b : Nat} {g : Nat → Int} (h : RW w b g) : ∀ j u, (rowL g)[j]? = some u → w.cell? ((⟨b, 0, none⟩ : Addr).add j) = some u := fun j u hu => by
  have hadd : (⟨b, 0, none⟩ : Addr).add j = ⟨b, j, none⟩ := by unfold Addr.add; split <;> simp_all
  rw [hadd]
  have hj : j < 512 := by have := (List.getElem?_eq_some_iff.1 hu).1; rwa [rowL_len] at this
  rw [rowL_at _ _ hj] at hu
  cases hu
  exact h.cell hj
theorem rw_of_own {w : World} {b cap base : Nat} {g : Nat → Int} (h : w.ownsRow base 22 1 (.slice (some ⟨b, 0, none⟩) 512 cap) 512 (rowL g)) : RW w b g ∧ base ≤ b ∧ 512 ≤ cap := by
  obtain ⟨_, ⟨h1, _⟩ | ⟨g', cap', cur, h1, h2, h3, h4, h5, h6, h7⟩⟩ := h
  · cases h1
  · cases h1
    refine ⟨⟨cur, h3, fun i hi => ?_⟩, h2, h4⟩
    have := rowL_at g i hi
    rw [← h7, List.getElem?_take_of_lt (by omega)] at this
    simpa using this
theorem u64Info : ∃ i, Try.prog.info? 22 = some i ∧ i.zero = some (.int .u64 0) ∧ i.size = 1 ∧ i.bytes = 8 := by
  have h : (Try.prog.info? 22).map (fun i => (i.zero, i.size, i.bytes)) = some (some (.int .u64 0), 1, 8) := by kernel_rfl
  cases hq : Try.prog.info? 22 with
  | none => simp [hq] at h
  | some i => simp [hq] at h; exact ⟨i, rfl, h.1, h.2.1, h.2.2⟩
set_option maxRecDepth 100000 in
set_option maxHeartbeats 1000000 in
theorem rreach_copy_row (p n bl t g b cap : Nat) (x v : Int) (c : Nat → Nat → Int) (F : Nat → Prop) (s : Nat → Value) (w : World) (hM : Rm w p n c F bl s) (hn : n ≤ 64) (ht : t < n) (hg : g < n) (a1 : s g = .slice (some ⟨b, 0, none⟩) 512 cap) (a2 : RW w b (c g)) :
    Calls Try.prog 29 #[.pointer (some ⟨p, 0, none⟩), .agg #[.int .i8 3, .int .u64 x, .int .u64 v, .int .i64 g, .int .i64 t]] w (RWent w p n (cpy c g t) F (.int .i64 0)) := by
  obtain ⟨i0, hi, hz0, hz1, hz2⟩ := u64Info
  have HB := Lib.hid (ba (Below.refl w.heap.size w) (.cells #[.int .i8 3, .int .u64 x, .int .u64 v, .int .i64 g, .int .i64 t] 29))
  have hM1 := hM.call HB.out
  have HM := Lib.hid hM1
  have HC := Lib.hid (hM1.str.cell 0)
  have hE := Bk.new w 29 #[.int .i8 3, .int .u64 x, .int .u64 v, .int .i64 g, .int .i64 t]
  have HE := Lib.hid hE
  have HF := Lib.hid hM.lt
  have HN := Lib.hid (rowL_news (a2.keep (Keeps.of_below (F := fun _ => False) HB.out) (fun h => h)))
  clear hM hM1 hE a2
  go_enter Try.func29, Try.ntmps29
  go_wp2_with fail
  refine (rframe_yes p n bl t _ HC.out hn (by omega) (by omega)).mono ?_
  rintro e w1 ⟨rfl, rfl⟩
  go_wp2_with fail
  refine (rframe_yes p n bl g _ HC.out hn (by omega) (by omega)).mono ?_
  rintro e w1 ⟨rfl, rfl⟩
  go_upto_region 15 with fail
  generalize w.alloc (.cells #[.int .i8 3, .int .u64 x, .int .u64 v, .int .i64 g, .int .i64 t] 29) = W at *
  have c0 := HC.out
  have c3 := HE.out.cell 3
  have cs := (HM.out.tab.cell g).trans (tabOf_at _ _ _ hg)
  rw [a1] at cs
  go_region_law ((refine step_append_lies _ (by rfl) _ _ _ (by rfl) W.heap.size 22 i0 _ 1 8 Try.underlying35 hi hz0 hz1 hz2 rfl (by omega) (.slice none 0 0) 0 [] (by rfl) (by exact ⟨rfl, .inl ⟨rfl, rfl⟩⟩) ⟨b, 0, none⟩ 512 cap (rowL (c g)) (by rfl) (by rw [rowL_len]) (by exact HN.out) (rowL_one (c g)) (by omega) (by unfold maxLen; omega) (by omega) (by simp) W.heap.size (by simp) ?_; intro g2 cap2 w2 hown hgrow hat hlt2; have HO := Lib.hid hown; have HW := Lib.hid hgrow; clear hown hgrow hat hlt2))
  all_goals
    have ho := HO.out
    simp only [Nat.zero_add, List.nil_append] at ho
    obtain ⟨r1, r2, r3⟩ := rw_of_own ho
    have hb2 : Below W.heap.size W w2 := (Below.refl W.heap.size W).drew.grown HW.out (Nat.le_refl _) (fun k hk => by cases hk)
    have HM2 := Lib.hid (HM.out.call hb2)
    have HE2 := Lib.hid (HE.out.call hb2)
    have HB2 := Lib.hid hb2
    have R1 := Lib.hid r1
    clear ho HO HW hb2 c0 c3 cs r1 HN
    have c0 := HM2.out.str.cell 0
    have c4 := HE2.out.cell 4
    have ct := (HM2.out.tab.cell t).trans (tabOf_at _ _ _ ht)
    have cf := HM2.out.tab.frozen t
    go_wp2_with fail
    go_region
    all_goals
      go_wp2_with fail
      go_ret
      have hlt2 := R1.out.lt
      have hs2 := HB2.out.size
      have hsw := HB.out.size
      refine ⟨rfl, fun y => F y ∨ y = g2, ⟨bl, _, HM.out.turn (g := c g) (w' := w2.drew) ht ((Keeps.of_below HB2.out).drew) (fun _ h => .inl h) (fun x hx => by rcases hx with hx | rfl; exact HM2.out.lt x hx; exact hlt2) (.inr ⟨g2, cap2, rfl, r3, R1.out, .inr rfl, r2⟩)⟩, ?_, ?_, fun x hx => .inl hx⟩
      · exact ((Keeps.of_below HB.out).trans (Keeps.of_below HB2.out) (fun _ h => .inl h)).trans ((Keeps.refl F w2).drew.trans (Keeps.setCell (F := F) HM2.out.bF _) (fun x hx => .inl hx)) (fun x hx => .inl hx)
      · rintro x (hx | rfl)
        · exact .inl hx
        · exact .inr (by omega)
end Go.Proofs.Ytlhbofgcgfbchaa
