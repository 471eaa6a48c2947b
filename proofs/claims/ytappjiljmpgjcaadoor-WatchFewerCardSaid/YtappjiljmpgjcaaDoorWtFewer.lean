/-
  Layer 29: the law WatchFewer.
-/
import Derived.Test.YtappjiljmpgjcaaDoorWtCut
import Derived.Test.YtappjiljmpgjcaaDoorWtWakes
namespace Go.Proofs.YtappjiljmpgjcaaDoor
open Go.RowKit Go.Maps
set_option linter.unusedVariables false
set_option linter.unusedSimpArgs false
section
variable {α : Type} {enc : α → List Value} {k : Nat}
theorem run_appB {P : Program} {w : World} (t ty e : TypeId) (i : TypeInfo) (z : Value) (bytes : Nat) (ht : P.underlying t = some (.slice e)) (hi : P.info? e = some i) (hz : i.zero = some z)
    (hsize : i.size = k) (hby : i.bytes = bytes) (hzs : z.cells.size = k) (hsz : 0 < k) (hk : ∀ x, (enc x).length = k) (h1 : ∀ x, ∀ u ∈ enc x, u.oneCell' = true)
    {B : Nat} {v : Value} {xs ys : List α} (hO : Ow enc k e w B v xs) {O : Option Addr} {m c : Nat} (hm : ys.length = m) (hR : RK enc k w O ys) (hlen : xs.length + m ≤ 1000) (hb8 : bytes ≤ 1000) (hb : B ≤ w.heap.size) :
    ∃ v' w', (Builtin.append_ #[t, t] ty #[v, .slice O m c]).run P w = .ok v' w' ∧ Ow enc k e w' B v' (xs ++ ys) ∧ w.grownBy w' v.ownBlock := by
  have hbt : (xs.length + m) * bytes ≤ 140737488355328 := by
    have : (xs.length + m) * bytes ≤ 1000 * 1000 := Nat.mul_le_mul hlen hb8
    omega
  by_cases h0 : 0 < ys.length
  · obtain ⟨b, off, rfl, hc⟩ := hR.flat hk hsz h0
    obtain ⟨v', w', hr, ho, hg, -⟩ := run_append_own (P := P) w B t ty e i z k bytes ht hi hz hsize hby hzs hsz v xs.length (flat enc xs) hO ⟨b, off, none⟩ m c (flat enc ys) (by rw [flat_len hk, hm]) (fun j u hu => by
      have e : (⟨b, off, none⟩ : Addr).add j = ⟨b, off + j, none⟩ := by unfold Addr.add; split <;> simp_all
      rw [e]; exact hc j u hu) (flat_one h1 ys) (by unfold maxLen; omega) hbt hb
    exact ⟨v', w', hr, by unfold Ow; rw [flat_app, List.length_append, hm]; exact ho, hg⟩
  · have hy : ys = [] := List.eq_nil_of_length_eq_zero (by omega)
    subst hy
    simp at hm
    subst hm
    rcases O with _ | ad
    · exact ⟨v, w, run_app_none t ty e i c ht hi hO, by simpa using hO, ⟨rfl, rfl, rfl, Nat.le_refl _, fun _ _ _ => rfl⟩⟩
    · obtain ⟨v', w', hr, ho, hg, -⟩ := run_append_own (P := P) w B t ty e i z k bytes ht hi hz hsize hby hzs hsz v xs.length (flat enc xs) hO ad 0 c [] (by simp) (fun j u hu => by simp at hu) (fun u hu => by simp at hu) (by unfold maxLen; omega) hbt hb
      exact ⟨v', w', hr, by unfold Ow; simpa using ho, hg⟩
theorem wpo_appB {P : Program} {w : World} {o : Oper} {a : Go.Act} {K : Go.Act → World → Prop} {Q : Exit → Go.Act → World → Prop} (s x : Operand) (t : TypeId)
    (ho : o.op = .call { callee := .builtin .append, args := #[s, x], argTypes := #[t, t] })
    (B : Nat) (e : TypeId) (i : TypeInfo) (z : Value) (bytes : Nat) (ht : P.underlying t = some (.slice e)) (hi : P.info? e = some i) (hz : i.zero = some z)
    (hsize : i.size = k) (hby : i.bytes = bytes) (hzs : z.cells.size = k) (hsz : 0 < k) (hk : ∀ x, (enc x).length = k) (h1 : ∀ x, ∀ u ∈ enc x, u.oneCell' = true)
    (v : Value) (xs : List α) (hs : a.eval s = v) (hO : Ow enc k e w B v xs) (ys : List α) (O : Option Addr) (m c : Nat) (hx : a.eval x = .slice O m c)
    (hm : ys.length = m) (hR : RK enc k w O ys) (hlen : xs.length + m ≤ 1000) (hb8 : bytes ≤ 1000) (w0 : World) (hB : Below B w0 w) (hb : B ≤ w0.heap.size)
    (h : ∀ v' w', Ow enc k e w' B v' (xs ++ ys) → Below B w0 w' → K (a.put o.dst v') w') : Oper.wp P o a w K Q := by
  obtain ⟨v', w', hr, h2, h3⟩ := run_appB (P := P) (w := w) t o.type e i z bytes ht hi hz hsize hby hzs hsz hk h1 hO (O := O) (c := c) hm hR hlen hb8 (Nat.le_trans hb hB.size)
  unfold Oper.wp execOp
  simp only [ho, resolve, invoke, builtin, Sem.run_bind, Sem.run_pure, Result.andThen_ok, List.map_toArray, List.map_cons, List.map_nil, hs, hx, hr]
  exact h v' w' h2 (hB.grown h3 (Nat.le_trans hb hB.size) (fun g hg => (hO.lt g hg).1))
/-- A row more. -/
theorem wp_appB {P : Program} {w : World} {ops : Array Oper} {rest : List Oper} {o : Oper} {a : Go.Act} {Q : Exit → Go.Act → World → Prop} (hgd : o.guard = none) (s x : Operand) (t : TypeId)
    (ho : o.op = .call { callee := .builtin .append, args := #[s, x], argTypes := #[t, t] })
    (B : Nat) (e : TypeId) (i : TypeInfo) (z : Value) (bytes : Nat) (ht : P.underlying t = some (.slice e)) (hi : P.info? e = some i) (hz : i.zero = some z)
    (hsize : i.size = k) (hby : i.bytes = bytes) (hzs : z.cells.size = k) (hsz : 0 < k) (hk : ∀ x, (enc x).length = k) (h1 : ∀ x, ∀ u ∈ enc x, u.oneCell' = true)
    (v : Value) (xs : List α) (hs : a.eval s = v) (hO : Ow enc k e w B v xs) (ys : List α) (O : Option Addr) (m c : Nat) (hx : a.eval x = .slice O m c)
    (hm : ys.length = m) (hR : RK enc k w O ys) (hlen : xs.length + m ≤ 1000) (hb8 : bytes ≤ 1000) (w0 : World) (hB : Below B w0 w) (hb : B ≤ w0.heap.size)
    (h : ∀ v' w', Ow enc k e w' B v' (xs ++ ys) → Below B w0 w' → wpList P ops Q rest (a.put o.dst v') w') : wpList P ops Q (o :: rest) a w :=
  wpList_plain hgd fun _ hK => wpo_appB s x t ho B e i z bytes ht hi hz hsize hby hzs hsz hk h1 v xs hs hO ys O m c hx hm hR hlen hb8 w0 hB hb fun v' w' h2 h3 => hK _ _ (h v' w' h2 h3)
end
theorem Ow.farB {α : Type} {enc : α → List Value} {k : Nat} {t : TypeId} {w : World} {B : Nat} {v : Value} {xs : List α} (h : Ow enc k t w B v xs) {p : Addr} (hp : ∀ g, v.ownBlock = some g → g ≠ p.block) (u : Value) : Ow enc k t (w.setCell p u) B v xs := by
  refine ⟨h.1, h.2.imp id ?_⟩
  rintro ⟨g, cap, cur, rfl, h1, h2, h3⟩
  exact ⟨g, cap, cur, rfl, h1, (RowKit.Below.heap_setCell _ _ _ _ (hp g rfl)).trans h2, h3⟩
theorem sound_len (t : Sn) (n : Nat) (hn : t.cl.length = n) (w : World) (hs : t.Given w) (hm : Sml t) (hG : G w) :
    Calls Tryd.prog 7 #[.agg #[.slice t.cO n t.cc, .slice t.sO t.sl.length t.sc, .slice t.fO t.fl.length t.fc]] w fun e w' => e = .returned (.bool (soundP t (byS t))) ∧ Below w.heap.size w w' := by
  subst hn
  exact sound_gen t w hs hm hG
theorem infoCo : (Tryd.prog.info? 44).map (fun i => (i.zero, i.size, i.bytes)) = some (some (.agg zCo), 28, 264) := by kernel_rfl
theorem RK.setRow {α : Type} {enc : α → List Value} {wd : Nat} {w : World} {g n : Nat} {xs : List α} {x x' : α} (hk : ∀ x, (enc x).length = wd) (h : RK enc wd w (some ⟨g, 0, none⟩) xs) (hx : xs[n]? = some x) (hfz : ∀ j, w.frozen? ⟨g, j, none⟩ = false) :
    w.there g (n * wd) (enc x').length ∧ RK enc wd (w.setCells g (n * wd) (enc x')) (some ⟨g, 0, none⟩) (xs.set n x') := by
  have hn := (List.getElem?_eq_some_iff.1 hx).1
  obtain ⟨b, off, e, hc⟩ := h (by omega)
  cases e
  have hth : w.there g (n * wd) (enc x').length := fun j hj => by
    refine ⟨?_, hfz _⟩
    have hj' : j < (enc x).length := by rw [hk] at hj ⊢; exact hj
    have := hc n x hx j _ (List.getElem?_eq_getElem hj')
    rw [Nat.zero_add] at this
    rw [this]; rfl
  refine ⟨hth, fun _ => ⟨g, 0, rfl, fun i y hy j u hu => ?_⟩⟩
  by_cases e : i = n
  · subst e
    rw [List.getElem?_set_self hn] at hy
    cases hy
    have := World.rangeAt_setCells_same w g (i * wd) (enc x') hth j u hu
    rw [Nat.zero_add]; exact this
  · rw [List.getElem?_set_ne (fun h => e h.symm)] at hy
    have hr : w.rangeAt g (i * wd) (enc y) := fun j u hu => by
      have := hc i y hy j u hu
      rw [Nat.zero_add] at this; exact this
    have := World.rangeAt_setCells_apart hr g (n * wd) (enc x') (.inr (by
      rw [hk, hk]
      rcases Nat.lt_or_gt_of_ne e with h | h
      · left; have := Nat.mul_le_mul_right wd (show i + 1 ≤ n by omega); rw [Nat.add_mul] at this; omega
      · right; have := Nat.mul_le_mul_right wd (show n + 1 ≤ i by omega); rw [Nat.add_mul] at this; omega)) j u hu
    rw [Nat.zero_add]; exact this
set_option maxRecDepth 100000 in
set_option maxHeartbeats 8000000 in
theorem watchFewer_any (s : Sn) (core which kk : Int) (w : World) (hs : s.Given w) (hG : G w) :
    Calls Tryd.prog 3 #[snA s, .int .i64 core, .int .i64 which, .int .i64 kk] w fun e w' => e = .returned (.bool true) ∧ Below w.heap.size w w' := by
  have HS := Lib.hid hs
  have HG := Lib.hid hG
  have hcl : s.cl.length ≤ 9223372036854775807 := Nat.le_trans hs.gcle hs.gcle2
  have hbk := Bk.new w 26 (snR s)
  clear hs hG
  go_enter Tryd.func3, Tryd.ntmps3
  go_upto_region 1 with fail
  refine (show ∀ W1 : World, Below w.heap.size w W1 → Bk W1 w.heap.size 26 (snR s) → Code.wp _ _ _ _ W1 from fun W1 hb1 h1 => ?_) _ (ba (Below.refl _ _) _) hbk
  have x0 : W1.cell? ⟨w.heap.size, 0, none⟩ = some (.slice s.cO s.cl.length s.cc) := h1.cell 0
  have x1 : W1.cell? ⟨w.heap.size, 1, none⟩ = some (.slice s.sO s.sl.length s.sc) := h1.cell 1
  have x2 : W1.cell? ⟨w.heap.size, 2, none⟩ = some (.slice s.fO s.fl.length s.fc) := h1.cell 2
  have HB1 := Lib.hid hb1
  have H1 := Lib.hid h1
  clear hbk hb1 h1
  go_wp2_with fail
  refine (great_any s W1 (HS.out.call HB1.out)).mono ?_
  rintro e w2 ⟨⟨gb, rfl, hsm⟩, hb2⟩
  have HB2 := Lib.hid (bthen HB1.out hb2)
  have H2 := Lib.hid (H1.out.call hb2)
  clear hb2 H1 HB1 x0 x1 x2
  cases gb with
  | true =>
    clear hsm
    go_wp2_with fail
    refine (wakes29_any w2 (HG.out.call HB2.out)).mono ?_
    rintro e w3 ⟨rfl, hb3⟩
    have HB3 := Lib.hid (bthen HB2.out hb3)
    clear hb3
    go_wp2_with fail
    go_ret
    exact ⟨rfl, HB3.out⟩
  | false =>
    have HSM := Lib.hid (hsm rfl)
    clear hsm
    have x0 : w2.cell? ⟨w.heap.size, 0, none⟩ = some (.slice s.cO s.cl.length s.cc) := H2.out.cell 0
    have x1 : w2.cell? ⟨w.heap.size, 1, none⟩ = some (.slice s.sO s.sl.length s.sc) := H2.out.cell 1
    have x2 : w2.cell? ⟨w.heap.size, 2, none⟩ = some (.slice s.fO s.fl.length s.fc) := H2.out.cell 2
    go_wp2_with fail
    refine (deep_any s w2 (HS.out.call HB2.out)).mono ?_
    rintro e w3 ⟨⟨db, rfl⟩, hb3⟩
    have HB3 := Lib.hid (bthen HB2.out hb3)
    have H3 := Lib.hid (H2.out.call hb3)
    clear hb3 H2 HB2 x0 x1 x2
    cases db with
    | true =>
      go_wp2_with fail
      refine (wakes29_any w3 (HG.out.call HB3.out)).mono ?_
      rintro e w4 ⟨rfl, hb4⟩
      have HB4 := Lib.hid (bthen HB3.out hb4)
      clear hb4
      go_wp2_with fail
      go_ret
      exact ⟨rfl, HB4.out⟩
    | false =>
      have x0 : w3.cell? ⟨w.heap.size, 0, none⟩ = some (.slice s.cO s.cl.length s.cc) := H3.out.cell 0
      have x1 : w3.cell? ⟨w.heap.size, 1, none⟩ = some (.slice s.sO s.sl.length s.sc) := H3.out.cell 1
      have x2 : w3.cell? ⟨w.heap.size, 2, none⟩ = some (.slice s.fO s.fl.length s.fc) := H3.out.cell 2
      go_wp2_with fail
      refine (sound_gen s w3 (HS.out.call HB3.out) HSM.out (HG.out.call HB3.out)).mono ?_
      rintro e w4 ⟨rfl, hb4⟩
      have HB4 := Lib.hid (bthen HB3.out hb4)
      have H4 := Lib.hid (H3.out.call hb4)
      clear hb4 H3 HB3 x0 x1 x2
      cases hsd : soundP s (byS s) with
      | false =>
        clear hsd
        go_wp2_with fail
        refine (wakes29_any w4 (HG.out.call HB4.out)).mono ?_
        rintro e w5 ⟨rfl, hb5⟩
        have HB5 := Lib.hid (bthen HB4.out hb5)
        clear hb5
        go_wp2_with fail
        go_ret
        exact ⟨rfl, HB5.out⟩
      | true =>
        have HSD := Lib.hid hsd
        clear hsd
        have x0 : w4.cell? ⟨w.heap.size, 0, none⟩ = some (.slice s.cO s.cl.length s.cc) := H4.out.cell 0
        have x1 : w4.cell? ⟨w.heap.size, 1, none⟩ = some (.slice s.sO s.sl.length s.sc) := H4.out.cell 1
        have x2 : w4.cell? ⟨w.heap.size, 2, none⟩ = some (.slice s.fO s.fl.length s.fc) := H4.out.cell 2
        by_cases c1 : 0 ≤ core ∧ core < s.cl.length ∧ 0 ≤ kk
        · obtain ⟨a1, a2, a3⟩ := c1
          obtain ⟨n, rfl⟩ := Int.eq_ofNat_of_zero_le a1
          obtain ⟨k, rfl⟩ := Int.eq_ofNat_of_zero_le a3
          go_upto_region 4 with fail
          have hk := Bk.new w4 26 (snR s)
          refine (show ∀ W4 : World, Below w4.heap.size w4 W4 → Bk W4 w4.heap.size 26 (snR s) → Code.wp _ _ _ _ W4 from fun W4 hb4 h4 => ?_) _ (ba (Below.refl _ _) _) hk
          have HB5 := Lib.hid (bthen HB4.out hb4)
          have HT4 := Lib.hid h4
          have hS4 := H4.out.call hb4
          have hTs : w.heap.size < w4.heap.size := H4.out.lt
          clear hk hb4 h4 x0 x1 x2 H4 HB4
          obtain ⟨T, hT⟩ : ∃ T, T = w4.heap.size := ⟨_, rfl⟩
          rw [← hT] at HT4 hTs ⊢
          clear hT
          have HTs := Lib.hid hTs
          have x0 : W4.cell? ⟨w.heap.size, 0, none⟩ = some (.slice s.cO s.cl.length s.cc) := hS4.cell 0
          have hwlt : w.heap.size < W4.heap.size := hS4.lt
          have HTlt := Lib.hid HT4.out.lt
          clear hS4
          obtain ⟨c, hx⟩ : ∃ c, s.cl[n]? = some c := ⟨_, List.getElem?_eq_getElem (by omega)⟩
          have HX := Lib.hid hx
          have HCG := Lib.hid (HS.out.gcall c (List.mem_of_getElem? hx))
          have HCN := Lib.hid (HSM.out.nt c (List.mem_of_getElem? hx))
          clear hx
          have HR0 := Lib.hid (HS.out.gc.call (ba HB5.out (.cells #[] 44)))
          have HL0 := Lib.hid (show s.cl.length ≤ 6 from HSM.out.ncl)
          have HE0 := Lib.hid (show Ow coC 28 44 (W4.alloc (.cells #[] 44)) W4.heap.size (.slice (some ⟨W4.heap.size, 0, none⟩) 0 0) [] from ⟨rfl, .inr ⟨W4.heap.size, 0, #[], rfl, Nat.le_refl _, heap_alloc_new W4 _, Nat.le_refl _, Nat.zero_le _, rfl, rfl⟩⟩)
          have HBe := Lib.hid (ba (Below.refl W4.heap.size W4) (.cells #[] 44))
          obtain ⟨i0, hi, hz0, hz1, hz2⟩ := info_parts infoCo
          go_upto_region 5 with (at_builtin; refine wp_appB (enc := coC) rfl _ _ 22 rfl W4.heap.size 44 i0 _ 264 Tryd.underlying22 hi hz0 hz1 hz2 rfl (by decide) coC_len coC_one _ [] rfl HE0.out s.cl s.cO s.cl.length s.cc rfl rfl HR0.out (by have := HL0.out; simp; omega) (by decide) W4 HBe.out (Nat.le_refl _) ?_; intro v5 w5 o1 o2; have HO5 := Lib.hid o1; have HB6 := Lib.hid o2; clear o1 o2; obtain ⟨g5, c5, e5, b5, l5, n5⟩ := HO5.out.head (by simp; omega); simp only [List.nil_append] at e5; subst e5; have ct0 : w5.cell? ⟨T, 0, none⟩ = some (.slice s.cO s.cl.length s.cc) := (HT4.out.call HB6.out).cell 0; have ft0 : w5.frozen? ⟨T, 0, none⟩ = false := (HT4.out.call HB6.out).frozen 0)
          have HTW4 : T < W4.heap.size := HTlt.out
          refine (show ∀ W6 : World, Below w.heap.size w W6 → Bk W6 T 26 #[.slice (some ⟨g5, 0, none⟩) s.cl.length c5, .slice s.sO s.sl.length s.sc, .slice s.fO s.fl.length s.fc] → Ow coC 28 44 W6 W4.heap.size (.slice (some ⟨g5, 0, none⟩) s.cl.length c5) s.cl → W4.heap.size ≤ W6.heap.size → Code.wp _ _ _ _ W6 from fun W6 hb6 h6 ho6 hz6 => ?_) _ ?w1 ?w2 ?w3 ?w4
          case w1 => exact bs (bthen HB5.out HB6.out) (by show w.heap.size ≤ T; exact Nat.le_of_lt HTs.out) _
          case w2 => exact (HT4.out.call HB6.out).set 0 _
          case w3 =>
            have h1 := HO5.out
            rw [List.nil_append] at h1
            exact h1.farB (fun g hg => by simp only [Value.ownBlock, Option.some.injEq] at hg; show g ≠ T; omega) _
          case w4 => rw [World.size_setCell]; exact HB6.out.size
          clear HO5 ct0 ft0 HE0 HBe HR0 x0 HB6 HT4
--ARMS
          generalize W4.heap.size = B4 at *
          have HTB := Lib.hid HTW4
          have HB6 := Lib.hid hb6
          have HT6 := Lib.hid h6
          have HO6 := Lib.hid ho6
          have HZ6 := Lib.hid hz6
          have hrg : W6.rangeAt g5 (n * 28) (coC c) := by
            obtain ⟨O9, cp9, e9, l9, l9', rk9⟩ := ho6.form coC_len
            cases e9
            obtain ⟨b, off, e, hc⟩ := rk9 (by omega)
            cases e
            exact fun j u hu => by have := hc n c HX.out j u hu; rw [Nat.zero_add] at this; exact this
          have HRg := Lib.hid hrg
          have HTl6 := Lib.hid h6.lt
          have HGl6 := Lib.hid (ho6.lt g5 rfl)
          have y0 : W6.cell? ⟨T, 0, none⟩ = some (.slice (some ⟨g5, 0, none⟩) s.cl.length c5) := h6.cell 0
          have HKz := Lib.hid (Bk.new W6 44 zCo)
          clear hb6 h6 ho6 hz6 hrg
          go_upto_region 6 with (first | refine get_Co rfl _ rfl g5 (n * 28) c rfl HRg.out ?_ | refine box_Co rfl _ _ rfl W6.heap.size c _ rfl rfl HKz.out rfl ?_)
          refine (show ∀ W7 : World, Below W6.heap.size W6 W7 → Bk W7 W6.heap.size 44 (coC c).toArray → Code.wp _ _ _ _ W7 from fun W7 hb7 h7 => ?_) _ (brow (ba (Below.refl _ _) _) (Nat.le_refl _) _) (HKz.out.row _)
          have HB7 := Lib.hid (bthen HB6.out hb7)
          have HX7 := Lib.hid h7
          have HT7 := Lib.hid (HT6.out.call hb7)
          have HO7 := Lib.hid (HO6.out.call hb7)
          clear hb7 y0 HKz HRg HT6 HO6
          obtain ⟨X, hXe⟩ : ∃ X, X = W6.heap.size := ⟨_, rfl⟩
          rw [← hXe] at HX7 h7 ⊢
          have HXT := Lib.hid (show T < X ∧ g5 < X ∧ w.heap.size ≤ X by have := HTl6.out; have := HGl6.out; have := HB6.out.size; omega)
          have z15 : W7.cell? ⟨X, 15, none⟩ = some (.slice c.tO c.tl.length c.tc) := h7.cell 15
          have z16 : W7.cell? ⟨X, 16, none⟩ = some (.slice c.kO c.kl.length c.kc) := h7.cell 16
          have z25 : W7.cell? ⟨X, 25, none⟩ = some (.slice c.bO c.bl.length c.bc) := h7.cell 25
          clear hXe h7 HB6 HTl6 HGl6
          by_cases e0 : which = 0
          · subst e0
            by_cases hlt : k < c.tl.length
            ·
              go_upto_region 7 with fail
              refine (wpIn_wide (n := 20)).1 ?_
              refine ct_region (w := W7) (X := X) (k := k) (c := c) ⟨rfl, rfl, rfl, HX7.out, HCG.out.gt.call HB7.out, HCG.out.gtle, hlt, by have := HCN.out; omega⟩ (fun j hj => by
                rcases (show j = 0 ∨ j = 1 ∨ j = 2 ∨ j = 3 ∨ j = 4 ∨ j = 5 ∨ j = 6 ∨ j = 7 ∨ j = 8 ∨ j = 9 ∨ j = 10 ∨ j = 11 ∨ j = 12 by omega) with rfl | rfl | rfl | rfl | rfl | rfl | rfl | rfl | rfl | rfl | rfl | rfl | rfl <;> rfl) 20 _ ?_
              intro f W8 O cap hk8 hX8 rk8 l8 l8' hO8
              clear z15 z16 z25
              have HB8 := Lib.hid (hk8.below HB7.out (fun y e => by have := HXT.out; omega))
              obtain ⟨c', hc'⟩ : ∃ c' : Co, c' = { c with tO := O, tl := cut c.tl k, tc := cap } := ⟨_, rfl⟩
              rw [← hc'] at hX8
              have HLs := Lib.hid (show Less c c' by rw [hc']; exact less_t c O cap k)
              have HG8 := Lib.hid (show ∀ W, Below w.heap.size w W → Keeps (fun y => y = g5) W8 W → c'.Given W from fun W hb hk => by
                have hg := HCG.out.call hb
                rw [hc']
                exact { hg with gt := rk8.keeps hk (fun g o e e' => by have := hO8 g o e; have := HXT.out; have := HX7.out.lt; omega), gtle := l8, gtle2 := l8', gtall := fun y hy => hg.gtall y (cut_mem hy) })
              have HN8 := Lib.hid (show c'.tl.length ≤ 10 ∧ c'.kl.length ≤ 10 ∧ c'.bl.length ≤ 10 ∧ c'.wk.dl.length ≤ 200 by
                have := HCN.out
                have := cut_len hlt
                rw [hc']
                simp only
                omega)
              have HX8 := Lib.hid hX8
              have HT8 := Lib.hid (HT7.out.keep hk8 (fun e => by have := HXT.out; omega))
              have HO8 := Lib.hid (HO7.out.kept (keeps_grown hk8) (.inr (fun e => by have := HXT.out; simp only [Value.ownBlock, Option.some.injEq] at e; omega)))
              have HTX := Lib.hid (show T < W8.heap.size from HT8.out.lt)
              clear hk8 hX8 rk8 l8 l8' hO8 hc' HX7 HT7 HO7 HB7 hlt
              simp only [setN_succ, setN_zero, List.setIfInBounds_toArray, List.set_cons_zero, List.set_cons_succ, Nat.reduceAdd]

              have x0 : W8.cell? ⟨T, 0, none⟩ = some (.slice (some ⟨g5, 0, none⟩) s.cl.length c5) := HT8.out.cell 0
              obtain ⟨rk8, l9, l9'⟩ : RK coC 28 W8 (some ⟨g5, 0, none⟩) s.cl ∧ s.cl.length ≤ c5 ∧ c5 ≤ maxLen := by
                obtain ⟨O9, cp9, e9, l9, l9', rk9⟩ := HO8.out.form coC_len
                cases e9
                exact ⟨rk9, l9, l9'⟩
              have HL9 := Lib.hid (And.intro l9 l9')
              obtain ⟨hth, hrk9⟩ := rk8.setRow (x' := c') coC_len HX.out (fun j => HO8.out.frozen4 j)
              have HTh := Lib.hid (show W8.there g5 (n * 28) (coC c').toArray.size from hth)
              have HRk9 := Lib.hid hrk9
              clear l9 l9' hth hrk9 rk8
              go_upto_region 13 with (first | refine unbox_Co rfl _ rfl X c' rfl HX8.out ?_ | refine wpList_store_mid rfl 44 _ _ rfl g5 (n * 28) (coC c').toArray rfl rfl HTh.out info_Co (all_oneCell_toArray (coC_one c')) ?_)
              obtain ⟨t, ht⟩ : ∃ t : Sn, t = { s with cO := some ⟨g5, 0, none⟩, cl := s.cl.set n c', cc := c5 } := ⟨_, rfl⟩
              refine (show ∀ W9 : World, Below w.heap.size w W9 → Bk W9 T 26 #[.slice (some ⟨g5, 0, none⟩) s.cl.length c5, .slice s.sO s.sl.length s.sc, .slice s.fO s.fl.length s.fc] → t.Given W9 → Code.wp _ _ _ _ W9 from fun W9 hb9 h9 ht9 => ?_) _ ?u1 ?u2 ?u3
              case u1 => exact (Keeps.setAll (F := fun y => y = g5) rfl _ _ _).below HB8.out (fun y e => by have := HO8.out.lt g5 rfl; have := HTs.out; have := HTB.out; omega)
              case u2 => exact HT8.out.farAll (by have := HO8.out.lt g5 rfl; have := HTB.out; omega) _ _ _
              case u3 =>
                have hB9 : Below w.heap.size w (W8.setCells g5 (n * 28) (coC c').toArray.toList) := (Keeps.setAll (F := fun y => y = g5) rfl _ _ _).below HB8.out (fun y e => by have := HO8.out.lt g5 rfl; have := HTs.out; have := HTB.out; omega)
                have hS9 := HS.out.call hB9
                have hG9 : c'.Given (W8.setCells g5 (n * 28) (coC c').toArray.toList) := HG8.out _ hB9 (Keeps.setAll (F := fun y => y = g5) rfl _ _ _)
                rw [ht]
                refine ⟨HRk9.out, by rw [List.length_set]; exact HL9.out.1, HL9.out.2, fun y hy => ?_, hS9.gs, hS9.gsle, hS9.gsle2, hS9.gsall, hS9.gf, hS9.gfle, hS9.gfle2, hS9.gfall⟩
                rcases List.mem_or_eq_of_mem_set hy with hy | rfl
                · exact hS9.gcall y hy
                · exact hG9
              have HTS := Lib.hid (show soundP t (byS t) = true from sound_less HX.out HLs.out (by rw [ht]) (by rw [ht]) (by rw [ht]) HSD.out)
              have HTSm := Lib.hid (show Sml t by
                have hm := HSM.out
                rw [ht]
                refine ⟨by simp only [List.length_set]; exact hm.ncl, hm.nsl, hm.nfl, hm.nw, fun y hy => ?_⟩
                rcases List.mem_or_eq_of_mem_set hy with hy | rfl
                · exact hm.nt y hy
                · exact HN8.out)
              have HTL := Lib.hid (show t.cl.length = s.cl.length by rw [ht]; simp)
              have HTe := Lib.hid (show t.cO = some ⟨g5, 0, none⟩ ∧ t.cc = c5 ∧ t.sO = s.sO ∧ t.sl = s.sl ∧ t.sc = s.sc ∧ t.fO = s.fO ∧ t.fl = s.fl ∧ t.fc = s.fc by rw [ht]; exact ⟨rfl, rfl, rfl, rfl, rfl, rfl, rfl, rfl⟩)
              have HB9 := Lib.hid hb9
              have HT9 := Lib.hid ht9
              have y0 : W9.cell? ⟨T, 0, none⟩ = some (.slice (some ⟨g5, 0, none⟩) s.cl.length c5) := h9.cell 0
              have y1 : W9.cell? ⟨T, 1, none⟩ = some (.slice s.sO s.sl.length s.sc) := h9.cell 1
              have y2 : W9.cell? ⟨T, 2, none⟩ = some (.slice s.fO s.fl.length s.fc) := h9.cell 2
              clear ht hb9 h9 ht9 x0
              go_wp2_with fail
              have HC := Lib.hid (sound_len t s.cl.length HTL.out W9 HT9.out HTSm.out (HG.out.call HB9.out))
              rw [HTe.out.1, HTe.out.2.1, HTe.out.2.2.1, HTe.out.2.2.2.1, HTe.out.2.2.2.2.1, HTe.out.2.2.2.2.2.1, HTe.out.2.2.2.2.2.2.1, HTe.out.2.2.2.2.2.2.2, HTS.out] at HC
              refine HC.out.mono ?_
              rintro e W10 ⟨rfl, hb10⟩
              have HB10 := Lib.hid (bthen HB9.out hb10)
              clear hb10 y0 y1 y2 HC
              go_wp2_with fail
              refine (wakes29_any W10 (HG.out.call HB10.out)).mono ?_
              rintro e W11 ⟨rfl, hb11⟩
              have HB11 := Lib.hid (bthen HB10.out hb11)
              clear hb11
              go_wp2_with fail
              go_ret
              exact ⟨rfl, HB11.out⟩
            ·
              have HLs := Lib.hid (Less.refl c)
              obtain ⟨c', hc'⟩ : ∃ c' : Co, c' = c := ⟨_, rfl⟩
              obtain ⟨W8, hW8⟩ : ∃ W8 : World, W8 = W7 := ⟨_, rfl⟩
              have HB8 := Lib.hid HB7.out
              have HN8 := Lib.hid HCN.out
              have HX8 := Lib.hid HX7.out
              have HT8 := Lib.hid HT7.out
              have HO8 := Lib.hid HO7.out
              rw [← hW8] at HB8 HX8 HT8 HO8
              rw [← hc'] at HN8 HX8
              have HG8 := Lib.hid (show ∀ W, Below w.heap.size w W → Keeps (fun y => y = g5) W8 W → c'.Given W from fun W hb hk => by rw [hc']; exact HCG.out.call hb)
              have HLs := Lib.hid (show Less c c' by rw [hc']; exact Less.refl c)
              have HTX := Lib.hid (show T < W8.heap.size from HT8.out.lt)
              go_upto_region 12 with fail
              rw [← hW8]
              clear hW8 hc' z15 z16 z25 HX7 HT7 HO7 HB7

              have x0 : W8.cell? ⟨T, 0, none⟩ = some (.slice (some ⟨g5, 0, none⟩) s.cl.length c5) := HT8.out.cell 0
              obtain ⟨rk8, l9, l9'⟩ : RK coC 28 W8 (some ⟨g5, 0, none⟩) s.cl ∧ s.cl.length ≤ c5 ∧ c5 ≤ maxLen := by
                obtain ⟨O9, cp9, e9, l9, l9', rk9⟩ := HO8.out.form coC_len
                cases e9
                exact ⟨rk9, l9, l9'⟩
              have HL9 := Lib.hid (And.intro l9 l9')
              obtain ⟨hth, hrk9⟩ := rk8.setRow (x' := c') coC_len HX.out (fun j => HO8.out.frozen4 j)
              have HTh := Lib.hid (show W8.there g5 (n * 28) (coC c').toArray.size from hth)
              have HRk9 := Lib.hid hrk9
              clear l9 l9' hth hrk9 rk8
              go_upto_region 13 with (first | refine unbox_Co rfl _ rfl X c' rfl HX8.out ?_ | refine wpList_store_mid rfl 44 _ _ rfl g5 (n * 28) (coC c').toArray rfl rfl HTh.out info_Co (all_oneCell_toArray (coC_one c')) ?_)
              obtain ⟨t, ht⟩ : ∃ t : Sn, t = { s with cO := some ⟨g5, 0, none⟩, cl := s.cl.set n c', cc := c5 } := ⟨_, rfl⟩
              refine (show ∀ W9 : World, Below w.heap.size w W9 → Bk W9 T 26 #[.slice (some ⟨g5, 0, none⟩) s.cl.length c5, .slice s.sO s.sl.length s.sc, .slice s.fO s.fl.length s.fc] → t.Given W9 → Code.wp _ _ _ _ W9 from fun W9 hb9 h9 ht9 => ?_) _ ?u1 ?u2 ?u3
              case u1 => exact (Keeps.setAll (F := fun y => y = g5) rfl _ _ _).below HB8.out (fun y e => by have := HO8.out.lt g5 rfl; have := HTs.out; have := HTB.out; omega)
              case u2 => exact HT8.out.farAll (by have := HO8.out.lt g5 rfl; have := HTB.out; omega) _ _ _
              case u3 =>
                have hB9 : Below w.heap.size w (W8.setCells g5 (n * 28) (coC c').toArray.toList) := (Keeps.setAll (F := fun y => y = g5) rfl _ _ _).below HB8.out (fun y e => by have := HO8.out.lt g5 rfl; have := HTs.out; have := HTB.out; omega)
                have hS9 := HS.out.call hB9
                have hG9 : c'.Given (W8.setCells g5 (n * 28) (coC c').toArray.toList) := HG8.out _ hB9 (Keeps.setAll (F := fun y => y = g5) rfl _ _ _)
                rw [ht]
                refine ⟨HRk9.out, by rw [List.length_set]; exact HL9.out.1, HL9.out.2, fun y hy => ?_, hS9.gs, hS9.gsle, hS9.gsle2, hS9.gsall, hS9.gf, hS9.gfle, hS9.gfle2, hS9.gfall⟩
                rcases List.mem_or_eq_of_mem_set hy with hy | rfl
                · exact hS9.gcall y hy
                · exact hG9
              have HTS := Lib.hid (show soundP t (byS t) = true from sound_less HX.out HLs.out (by rw [ht]) (by rw [ht]) (by rw [ht]) HSD.out)
              have HTSm := Lib.hid (show Sml t by
                have hm := HSM.out
                rw [ht]
                refine ⟨by simp only [List.length_set]; exact hm.ncl, hm.nsl, hm.nfl, hm.nw, fun y hy => ?_⟩
                rcases List.mem_or_eq_of_mem_set hy with hy | rfl
                · exact hm.nt y hy
                · exact HN8.out)
              have HTL := Lib.hid (show t.cl.length = s.cl.length by rw [ht]; simp)
              have HTe := Lib.hid (show t.cO = some ⟨g5, 0, none⟩ ∧ t.cc = c5 ∧ t.sO = s.sO ∧ t.sl = s.sl ∧ t.sc = s.sc ∧ t.fO = s.fO ∧ t.fl = s.fl ∧ t.fc = s.fc by rw [ht]; exact ⟨rfl, rfl, rfl, rfl, rfl, rfl, rfl, rfl⟩)
              have HB9 := Lib.hid hb9
              have HT9 := Lib.hid ht9
              have y0 : W9.cell? ⟨T, 0, none⟩ = some (.slice (some ⟨g5, 0, none⟩) s.cl.length c5) := h9.cell 0
              have y1 : W9.cell? ⟨T, 1, none⟩ = some (.slice s.sO s.sl.length s.sc) := h9.cell 1
              have y2 : W9.cell? ⟨T, 2, none⟩ = some (.slice s.fO s.fl.length s.fc) := h9.cell 2
              clear ht hb9 h9 ht9 x0
              go_wp2_with fail
              have HC := Lib.hid (sound_len t s.cl.length HTL.out W9 HT9.out HTSm.out (HG.out.call HB9.out))
              rw [HTe.out.1, HTe.out.2.1, HTe.out.2.2.1, HTe.out.2.2.2.1, HTe.out.2.2.2.2.1, HTe.out.2.2.2.2.2.1, HTe.out.2.2.2.2.2.2.1, HTe.out.2.2.2.2.2.2.2, HTS.out] at HC
              refine HC.out.mono ?_
              rintro e W10 ⟨rfl, hb10⟩
              have HB10 := Lib.hid (bthen HB9.out hb10)
              clear hb10 y0 y1 y2 HC
              go_wp2_with fail
              refine (wakes29_any W10 (HG.out.call HB10.out)).mono ?_
              rintro e W11 ⟨rfl, hb11⟩
              have HB11 := Lib.hid (bthen HB10.out hb11)
              clear hb11
              go_wp2_with fail
              go_ret
              exact ⟨rfl, HB11.out⟩
          ·
            by_cases e1 : which = 1
            · subst e1
              by_cases hlt : k < c.kl.length
              ·
                go_upto_region 9 with fail
                refine (wpIn_wide (n := 20)).1 ?_
                refine ck_region (w := W7) (X := X) (k := k) (c := c) ⟨rfl, rfl, rfl, HX7.out, HCG.out.gk.call HB7.out, HCG.out.gkle, hlt, by have := HCN.out; omega⟩ (fun j hj => by
                  rcases (show j = 0 ∨ j = 1 ∨ j = 2 ∨ j = 3 ∨ j = 4 ∨ j = 5 ∨ j = 6 ∨ j = 7 ∨ j = 8 ∨ j = 9 ∨ j = 10 ∨ j = 11 ∨ j = 12 by omega) with rfl | rfl | rfl | rfl | rfl | rfl | rfl | rfl | rfl | rfl | rfl | rfl | rfl <;> rfl) 20 _ ?_
                intro f W8 O cap hk8 hX8 rk8 l8 l8' hO8
                clear z15 z16 z25
                have HB8 := Lib.hid (hk8.below HB7.out (fun y e => by have := HXT.out; omega))
                obtain ⟨c', hc'⟩ : ∃ c' : Co, c' = { c with kO := O, kl := cut c.kl k, kc := cap } := ⟨_, rfl⟩
                rw [← hc'] at hX8
                have HLs := Lib.hid (show Less c c' by rw [hc']; exact less_k c O cap k)
                have HG8 := Lib.hid (show ∀ W, Below w.heap.size w W → Keeps (fun y => y = g5) W8 W → c'.Given W from fun W hb hk => by
                  have hg := HCG.out.call hb
                  rw [hc']
                  exact { hg with gk := rk8.keeps hk (fun g o e e' => by have := hO8 g o e; have := HXT.out; have := HX7.out.lt; omega), gkle := l8, gkle2 := l8', gkall := fun y hy => hg.gkall y (cut_mem hy) })
                have HN8 := Lib.hid (show c'.tl.length ≤ 10 ∧ c'.kl.length ≤ 10 ∧ c'.bl.length ≤ 10 ∧ c'.wk.dl.length ≤ 200 by
                  have := HCN.out
                  have := cut_len hlt
                  rw [hc']
                  simp only
                  omega)
                have HX8 := Lib.hid hX8
                have HT8 := Lib.hid (HT7.out.keep hk8 (fun e => by have := HXT.out; omega))
                have HO8 := Lib.hid (HO7.out.kept (keeps_grown hk8) (.inr (fun e => by have := HXT.out; simp only [Value.ownBlock, Option.some.injEq] at e; omega)))
                have HTX := Lib.hid (show T < W8.heap.size from HT8.out.lt)
                clear hk8 hX8 rk8 l8 l8' hO8 hc' HX7 HT7 HO7 HB7 hlt
                simp only [setN_succ, setN_zero, List.setIfInBounds_toArray, List.set_cons_zero, List.set_cons_succ, Nat.reduceAdd]

                have x0 : W8.cell? ⟨T, 0, none⟩ = some (.slice (some ⟨g5, 0, none⟩) s.cl.length c5) := HT8.out.cell 0
                obtain ⟨rk8, l9, l9'⟩ : RK coC 28 W8 (some ⟨g5, 0, none⟩) s.cl ∧ s.cl.length ≤ c5 ∧ c5 ≤ maxLen := by
                  obtain ⟨O9, cp9, e9, l9, l9', rk9⟩ := HO8.out.form coC_len
                  cases e9
                  exact ⟨rk9, l9, l9'⟩
                have HL9 := Lib.hid (And.intro l9 l9')
                obtain ⟨hth, hrk9⟩ := rk8.setRow (x' := c') coC_len HX.out (fun j => HO8.out.frozen4 j)
                have HTh := Lib.hid (show W8.there g5 (n * 28) (coC c').toArray.size from hth)
                have HRk9 := Lib.hid hrk9
                clear l9 l9' hth hrk9 rk8
                go_upto_region 13 with (first | refine unbox_Co rfl _ rfl X c' rfl HX8.out ?_ | refine wpList_store_mid rfl 44 _ _ rfl g5 (n * 28) (coC c').toArray rfl rfl HTh.out info_Co (all_oneCell_toArray (coC_one c')) ?_)
                obtain ⟨t, ht⟩ : ∃ t : Sn, t = { s with cO := some ⟨g5, 0, none⟩, cl := s.cl.set n c', cc := c5 } := ⟨_, rfl⟩
                refine (show ∀ W9 : World, Below w.heap.size w W9 → Bk W9 T 26 #[.slice (some ⟨g5, 0, none⟩) s.cl.length c5, .slice s.sO s.sl.length s.sc, .slice s.fO s.fl.length s.fc] → t.Given W9 → Code.wp _ _ _ _ W9 from fun W9 hb9 h9 ht9 => ?_) _ ?u1 ?u2 ?u3
                case u1 => exact (Keeps.setAll (F := fun y => y = g5) rfl _ _ _).below HB8.out (fun y e => by have := HO8.out.lt g5 rfl; have := HTs.out; have := HTB.out; omega)
                case u2 => exact HT8.out.farAll (by have := HO8.out.lt g5 rfl; have := HTB.out; omega) _ _ _
                case u3 =>
                  have hB9 : Below w.heap.size w (W8.setCells g5 (n * 28) (coC c').toArray.toList) := (Keeps.setAll (F := fun y => y = g5) rfl _ _ _).below HB8.out (fun y e => by have := HO8.out.lt g5 rfl; have := HTs.out; have := HTB.out; omega)
                  have hS9 := HS.out.call hB9
                  have hG9 : c'.Given (W8.setCells g5 (n * 28) (coC c').toArray.toList) := HG8.out _ hB9 (Keeps.setAll (F := fun y => y = g5) rfl _ _ _)
                  rw [ht]
                  refine ⟨HRk9.out, by rw [List.length_set]; exact HL9.out.1, HL9.out.2, fun y hy => ?_, hS9.gs, hS9.gsle, hS9.gsle2, hS9.gsall, hS9.gf, hS9.gfle, hS9.gfle2, hS9.gfall⟩
                  rcases List.mem_or_eq_of_mem_set hy with hy | rfl
                  · exact hS9.gcall y hy
                  · exact hG9
                have HTS := Lib.hid (show soundP t (byS t) = true from sound_less HX.out HLs.out (by rw [ht]) (by rw [ht]) (by rw [ht]) HSD.out)
                have HTSm := Lib.hid (show Sml t by
                  have hm := HSM.out
                  rw [ht]
                  refine ⟨by simp only [List.length_set]; exact hm.ncl, hm.nsl, hm.nfl, hm.nw, fun y hy => ?_⟩
                  rcases List.mem_or_eq_of_mem_set hy with hy | rfl
                  · exact hm.nt y hy
                  · exact HN8.out)
                have HTL := Lib.hid (show t.cl.length = s.cl.length by rw [ht]; simp)
                have HTe := Lib.hid (show t.cO = some ⟨g5, 0, none⟩ ∧ t.cc = c5 ∧ t.sO = s.sO ∧ t.sl = s.sl ∧ t.sc = s.sc ∧ t.fO = s.fO ∧ t.fl = s.fl ∧ t.fc = s.fc by rw [ht]; exact ⟨rfl, rfl, rfl, rfl, rfl, rfl, rfl, rfl⟩)
                have HB9 := Lib.hid hb9
                have HT9 := Lib.hid ht9
                have y0 : W9.cell? ⟨T, 0, none⟩ = some (.slice (some ⟨g5, 0, none⟩) s.cl.length c5) := h9.cell 0
                have y1 : W9.cell? ⟨T, 1, none⟩ = some (.slice s.sO s.sl.length s.sc) := h9.cell 1
                have y2 : W9.cell? ⟨T, 2, none⟩ = some (.slice s.fO s.fl.length s.fc) := h9.cell 2
                clear ht hb9 h9 ht9 x0
                go_wp2_with fail
                have HC := Lib.hid (sound_len t s.cl.length HTL.out W9 HT9.out HTSm.out (HG.out.call HB9.out))
                rw [HTe.out.1, HTe.out.2.1, HTe.out.2.2.1, HTe.out.2.2.2.1, HTe.out.2.2.2.2.1, HTe.out.2.2.2.2.2.1, HTe.out.2.2.2.2.2.2.1, HTe.out.2.2.2.2.2.2.2, HTS.out] at HC
                refine HC.out.mono ?_
                rintro e W10 ⟨rfl, hb10⟩
                have HB10 := Lib.hid (bthen HB9.out hb10)
                clear hb10 y0 y1 y2 HC
                go_wp2_with fail
                refine (wakes29_any W10 (HG.out.call HB10.out)).mono ?_
                rintro e W11 ⟨rfl, hb11⟩
                have HB11 := Lib.hid (bthen HB10.out hb11)
                clear hb11
                go_wp2_with fail
                go_ret
                exact ⟨rfl, HB11.out⟩
              ·
                have HLs := Lib.hid (Less.refl c)
                obtain ⟨c', hc'⟩ : ∃ c' : Co, c' = c := ⟨_, rfl⟩
                obtain ⟨W8, hW8⟩ : ∃ W8 : World, W8 = W7 := ⟨_, rfl⟩
                have HB8 := Lib.hid HB7.out
                have HN8 := Lib.hid HCN.out
                have HX8 := Lib.hid HX7.out
                have HT8 := Lib.hid HT7.out
                have HO8 := Lib.hid HO7.out
                rw [← hW8] at HB8 HX8 HT8 HO8
                rw [← hc'] at HN8 HX8
                have HG8 := Lib.hid (show ∀ W, Below w.heap.size w W → Keeps (fun y => y = g5) W8 W → c'.Given W from fun W hb hk => by rw [hc']; exact HCG.out.call hb)
                have HLs := Lib.hid (show Less c c' by rw [hc']; exact Less.refl c)
                have HTX := Lib.hid (show T < W8.heap.size from HT8.out.lt)
                go_upto_region 12 with fail
                rw [← hW8]
                clear hW8 hc' z15 z16 z25 HX7 HT7 HO7 HB7

                have x0 : W8.cell? ⟨T, 0, none⟩ = some (.slice (some ⟨g5, 0, none⟩) s.cl.length c5) := HT8.out.cell 0
                obtain ⟨rk8, l9, l9'⟩ : RK coC 28 W8 (some ⟨g5, 0, none⟩) s.cl ∧ s.cl.length ≤ c5 ∧ c5 ≤ maxLen := by
                  obtain ⟨O9, cp9, e9, l9, l9', rk9⟩ := HO8.out.form coC_len
                  cases e9
                  exact ⟨rk9, l9, l9'⟩
                have HL9 := Lib.hid (And.intro l9 l9')
                obtain ⟨hth, hrk9⟩ := rk8.setRow (x' := c') coC_len HX.out (fun j => HO8.out.frozen4 j)
                have HTh := Lib.hid (show W8.there g5 (n * 28) (coC c').toArray.size from hth)
                have HRk9 := Lib.hid hrk9
                clear l9 l9' hth hrk9 rk8
                go_upto_region 13 with (first | refine unbox_Co rfl _ rfl X c' rfl HX8.out ?_ | refine wpList_store_mid rfl 44 _ _ rfl g5 (n * 28) (coC c').toArray rfl rfl HTh.out info_Co (all_oneCell_toArray (coC_one c')) ?_)
                obtain ⟨t, ht⟩ : ∃ t : Sn, t = { s with cO := some ⟨g5, 0, none⟩, cl := s.cl.set n c', cc := c5 } := ⟨_, rfl⟩
                refine (show ∀ W9 : World, Below w.heap.size w W9 → Bk W9 T 26 #[.slice (some ⟨g5, 0, none⟩) s.cl.length c5, .slice s.sO s.sl.length s.sc, .slice s.fO s.fl.length s.fc] → t.Given W9 → Code.wp _ _ _ _ W9 from fun W9 hb9 h9 ht9 => ?_) _ ?u1 ?u2 ?u3
                case u1 => exact (Keeps.setAll (F := fun y => y = g5) rfl _ _ _).below HB8.out (fun y e => by have := HO8.out.lt g5 rfl; have := HTs.out; have := HTB.out; omega)
                case u2 => exact HT8.out.farAll (by have := HO8.out.lt g5 rfl; have := HTB.out; omega) _ _ _
                case u3 =>
                  have hB9 : Below w.heap.size w (W8.setCells g5 (n * 28) (coC c').toArray.toList) := (Keeps.setAll (F := fun y => y = g5) rfl _ _ _).below HB8.out (fun y e => by have := HO8.out.lt g5 rfl; have := HTs.out; have := HTB.out; omega)
                  have hS9 := HS.out.call hB9
                  have hG9 : c'.Given (W8.setCells g5 (n * 28) (coC c').toArray.toList) := HG8.out _ hB9 (Keeps.setAll (F := fun y => y = g5) rfl _ _ _)
                  rw [ht]
                  refine ⟨HRk9.out, by rw [List.length_set]; exact HL9.out.1, HL9.out.2, fun y hy => ?_, hS9.gs, hS9.gsle, hS9.gsle2, hS9.gsall, hS9.gf, hS9.gfle, hS9.gfle2, hS9.gfall⟩
                  rcases List.mem_or_eq_of_mem_set hy with hy | rfl
                  · exact hS9.gcall y hy
                  · exact hG9
                have HTS := Lib.hid (show soundP t (byS t) = true from sound_less HX.out HLs.out (by rw [ht]) (by rw [ht]) (by rw [ht]) HSD.out)
                have HTSm := Lib.hid (show Sml t by
                  have hm := HSM.out
                  rw [ht]
                  refine ⟨by simp only [List.length_set]; exact hm.ncl, hm.nsl, hm.nfl, hm.nw, fun y hy => ?_⟩
                  rcases List.mem_or_eq_of_mem_set hy with hy | rfl
                  · exact hm.nt y hy
                  · exact HN8.out)
                have HTL := Lib.hid (show t.cl.length = s.cl.length by rw [ht]; simp)
                have HTe := Lib.hid (show t.cO = some ⟨g5, 0, none⟩ ∧ t.cc = c5 ∧ t.sO = s.sO ∧ t.sl = s.sl ∧ t.sc = s.sc ∧ t.fO = s.fO ∧ t.fl = s.fl ∧ t.fc = s.fc by rw [ht]; exact ⟨rfl, rfl, rfl, rfl, rfl, rfl, rfl, rfl⟩)
                have HB9 := Lib.hid hb9
                have HT9 := Lib.hid ht9
                have y0 : W9.cell? ⟨T, 0, none⟩ = some (.slice (some ⟨g5, 0, none⟩) s.cl.length c5) := h9.cell 0
                have y1 : W9.cell? ⟨T, 1, none⟩ = some (.slice s.sO s.sl.length s.sc) := h9.cell 1
                have y2 : W9.cell? ⟨T, 2, none⟩ = some (.slice s.fO s.fl.length s.fc) := h9.cell 2
                clear ht hb9 h9 ht9 x0
                go_wp2_with fail
                have HC := Lib.hid (sound_len t s.cl.length HTL.out W9 HT9.out HTSm.out (HG.out.call HB9.out))
                rw [HTe.out.1, HTe.out.2.1, HTe.out.2.2.1, HTe.out.2.2.2.1, HTe.out.2.2.2.2.1, HTe.out.2.2.2.2.2.1, HTe.out.2.2.2.2.2.2.1, HTe.out.2.2.2.2.2.2.2, HTS.out] at HC
                refine HC.out.mono ?_
                rintro e W10 ⟨rfl, hb10⟩
                have HB10 := Lib.hid (bthen HB9.out hb10)
                clear hb10 y0 y1 y2 HC
                go_wp2_with fail
                refine (wakes29_any W10 (HG.out.call HB10.out)).mono ?_
                rintro e W11 ⟨rfl, hb11⟩
                have HB11 := Lib.hid (bthen HB10.out hb11)
                clear hb11
                go_wp2_with fail
                go_ret
                exact ⟨rfl, HB11.out⟩
            ·
              by_cases e2 : which = 2
              · subst e2
                by_cases hlt : k < c.bl.length
                ·
                  go_upto_region 11 with fail
                  refine (wpIn_wide (n := 20)).1 ?_
                  refine cb_region (w := W7) (X := X) (k := k) (c := c) ⟨rfl, rfl, rfl, HX7.out, HCG.out.gb.call HB7.out, HCG.out.gble, hlt, by have := HCN.out; omega⟩ (fun j hj => by
                    rcases (show j = 0 ∨ j = 1 ∨ j = 2 ∨ j = 3 ∨ j = 4 ∨ j = 5 ∨ j = 6 ∨ j = 7 ∨ j = 8 ∨ j = 9 ∨ j = 10 ∨ j = 11 ∨ j = 12 by omega) with rfl | rfl | rfl | rfl | rfl | rfl | rfl | rfl | rfl | rfl | rfl | rfl | rfl <;> rfl) 20 _ ?_
                  intro f W8 O cap hk8 hX8 rk8 l8 l8' hO8
                  clear z15 z16 z25
                  have HB8 := Lib.hid (hk8.below HB7.out (fun y e => by have := HXT.out; omega))
                  obtain ⟨c', hc'⟩ : ∃ c' : Co, c' = { c with bO := O, bl := cut c.bl k, bc := cap } := ⟨_, rfl⟩
                  rw [← hc'] at hX8
                  have HLs := Lib.hid (show Less c c' by rw [hc']; exact less_b c O cap k)
                  have HG8 := Lib.hid (show ∀ W, Below w.heap.size w W → Keeps (fun y => y = g5) W8 W → c'.Given W from fun W hb hk => by
                    have hg := HCG.out.call hb
                    rw [hc']
                    exact { hg with gb := rk8.keeps hk (fun g o e e' => by have := hO8 g o e; have := HXT.out; have := HX7.out.lt; omega), gble := l8, gble2 := l8', gball := fun y hy => hg.gball y (cut_mem hy) })
                  have HN8 := Lib.hid (show c'.tl.length ≤ 10 ∧ c'.kl.length ≤ 10 ∧ c'.bl.length ≤ 10 ∧ c'.wk.dl.length ≤ 200 by
                    have := HCN.out
                    have := cut_len hlt
                    rw [hc']
                    simp only
                    omega)
                  have HX8 := Lib.hid hX8
                  have HT8 := Lib.hid (HT7.out.keep hk8 (fun e => by have := HXT.out; omega))
                  have HO8 := Lib.hid (HO7.out.kept (keeps_grown hk8) (.inr (fun e => by have := HXT.out; simp only [Value.ownBlock, Option.some.injEq] at e; omega)))
                  have HTX := Lib.hid (show T < W8.heap.size from HT8.out.lt)
                  clear hk8 hX8 rk8 l8 l8' hO8 hc' HX7 HT7 HO7 HB7 hlt
                  simp only [setN_succ, setN_zero, List.setIfInBounds_toArray, List.set_cons_zero, List.set_cons_succ, Nat.reduceAdd]

                  have x0 : W8.cell? ⟨T, 0, none⟩ = some (.slice (some ⟨g5, 0, none⟩) s.cl.length c5) := HT8.out.cell 0
                  obtain ⟨rk8, l9, l9'⟩ : RK coC 28 W8 (some ⟨g5, 0, none⟩) s.cl ∧ s.cl.length ≤ c5 ∧ c5 ≤ maxLen := by
                    obtain ⟨O9, cp9, e9, l9, l9', rk9⟩ := HO8.out.form coC_len
                    cases e9
                    exact ⟨rk9, l9, l9'⟩
                  have HL9 := Lib.hid (And.intro l9 l9')
                  obtain ⟨hth, hrk9⟩ := rk8.setRow (x' := c') coC_len HX.out (fun j => HO8.out.frozen4 j)
                  have HTh := Lib.hid (show W8.there g5 (n * 28) (coC c').toArray.size from hth)
                  have HRk9 := Lib.hid hrk9
                  clear l9 l9' hth hrk9 rk8
                  go_upto_region 13 with (first | refine unbox_Co rfl _ rfl X c' rfl HX8.out ?_ | refine wpList_store_mid rfl 44 _ _ rfl g5 (n * 28) (coC c').toArray rfl rfl HTh.out info_Co (all_oneCell_toArray (coC_one c')) ?_)
                  obtain ⟨t, ht⟩ : ∃ t : Sn, t = { s with cO := some ⟨g5, 0, none⟩, cl := s.cl.set n c', cc := c5 } := ⟨_, rfl⟩
                  refine (show ∀ W9 : World, Below w.heap.size w W9 → Bk W9 T 26 #[.slice (some ⟨g5, 0, none⟩) s.cl.length c5, .slice s.sO s.sl.length s.sc, .slice s.fO s.fl.length s.fc] → t.Given W9 → Code.wp _ _ _ _ W9 from fun W9 hb9 h9 ht9 => ?_) _ ?u1 ?u2 ?u3
                  case u1 => exact (Keeps.setAll (F := fun y => y = g5) rfl _ _ _).below HB8.out (fun y e => by have := HO8.out.lt g5 rfl; have := HTs.out; have := HTB.out; omega)
                  case u2 => exact HT8.out.farAll (by have := HO8.out.lt g5 rfl; have := HTB.out; omega) _ _ _
                  case u3 =>
                    have hB9 : Below w.heap.size w (W8.setCells g5 (n * 28) (coC c').toArray.toList) := (Keeps.setAll (F := fun y => y = g5) rfl _ _ _).below HB8.out (fun y e => by have := HO8.out.lt g5 rfl; have := HTs.out; have := HTB.out; omega)
                    have hS9 := HS.out.call hB9
                    have hG9 : c'.Given (W8.setCells g5 (n * 28) (coC c').toArray.toList) := HG8.out _ hB9 (Keeps.setAll (F := fun y => y = g5) rfl _ _ _)
                    rw [ht]
                    refine ⟨HRk9.out, by rw [List.length_set]; exact HL9.out.1, HL9.out.2, fun y hy => ?_, hS9.gs, hS9.gsle, hS9.gsle2, hS9.gsall, hS9.gf, hS9.gfle, hS9.gfle2, hS9.gfall⟩
                    rcases List.mem_or_eq_of_mem_set hy with hy | rfl
                    · exact hS9.gcall y hy
                    · exact hG9
                  have HTS := Lib.hid (show soundP t (byS t) = true from sound_less HX.out HLs.out (by rw [ht]) (by rw [ht]) (by rw [ht]) HSD.out)
                  have HTSm := Lib.hid (show Sml t by
                    have hm := HSM.out
                    rw [ht]
                    refine ⟨by simp only [List.length_set]; exact hm.ncl, hm.nsl, hm.nfl, hm.nw, fun y hy => ?_⟩
                    rcases List.mem_or_eq_of_mem_set hy with hy | rfl
                    · exact hm.nt y hy
                    · exact HN8.out)
                  have HTL := Lib.hid (show t.cl.length = s.cl.length by rw [ht]; simp)
                  have HTe := Lib.hid (show t.cO = some ⟨g5, 0, none⟩ ∧ t.cc = c5 ∧ t.sO = s.sO ∧ t.sl = s.sl ∧ t.sc = s.sc ∧ t.fO = s.fO ∧ t.fl = s.fl ∧ t.fc = s.fc by rw [ht]; exact ⟨rfl, rfl, rfl, rfl, rfl, rfl, rfl, rfl⟩)
                  have HB9 := Lib.hid hb9
                  have HT9 := Lib.hid ht9
                  have y0 : W9.cell? ⟨T, 0, none⟩ = some (.slice (some ⟨g5, 0, none⟩) s.cl.length c5) := h9.cell 0
                  have y1 : W9.cell? ⟨T, 1, none⟩ = some (.slice s.sO s.sl.length s.sc) := h9.cell 1
                  have y2 : W9.cell? ⟨T, 2, none⟩ = some (.slice s.fO s.fl.length s.fc) := h9.cell 2
                  clear ht hb9 h9 ht9 x0
                  go_wp2_with fail
                  have HC := Lib.hid (sound_len t s.cl.length HTL.out W9 HT9.out HTSm.out (HG.out.call HB9.out))
                  rw [HTe.out.1, HTe.out.2.1, HTe.out.2.2.1, HTe.out.2.2.2.1, HTe.out.2.2.2.2.1, HTe.out.2.2.2.2.2.1, HTe.out.2.2.2.2.2.2.1, HTe.out.2.2.2.2.2.2.2, HTS.out] at HC
                  refine HC.out.mono ?_
                  rintro e W10 ⟨rfl, hb10⟩
                  have HB10 := Lib.hid (bthen HB9.out hb10)
                  clear hb10 y0 y1 y2 HC
                  go_wp2_with fail
                  refine (wakes29_any W10 (HG.out.call HB10.out)).mono ?_
                  rintro e W11 ⟨rfl, hb11⟩
                  have HB11 := Lib.hid (bthen HB10.out hb11)
                  clear hb11
                  go_wp2_with fail
                  go_ret
                  exact ⟨rfl, HB11.out⟩
                ·
                  have HLs := Lib.hid (Less.refl c)
                  obtain ⟨c', hc'⟩ : ∃ c' : Co, c' = c := ⟨_, rfl⟩
                  obtain ⟨W8, hW8⟩ : ∃ W8 : World, W8 = W7 := ⟨_, rfl⟩
                  have HB8 := Lib.hid HB7.out
                  have HN8 := Lib.hid HCN.out
                  have HX8 := Lib.hid HX7.out
                  have HT8 := Lib.hid HT7.out
                  have HO8 := Lib.hid HO7.out
                  rw [← hW8] at HB8 HX8 HT8 HO8
                  rw [← hc'] at HN8 HX8
                  have HG8 := Lib.hid (show ∀ W, Below w.heap.size w W → Keeps (fun y => y = g5) W8 W → c'.Given W from fun W hb hk => by rw [hc']; exact HCG.out.call hb)
                  have HLs := Lib.hid (show Less c c' by rw [hc']; exact Less.refl c)
                  have HTX := Lib.hid (show T < W8.heap.size from HT8.out.lt)
                  go_upto_region 12 with fail
                  rw [← hW8]
                  clear hW8 hc' z15 z16 z25 HX7 HT7 HO7 HB7

                  have x0 : W8.cell? ⟨T, 0, none⟩ = some (.slice (some ⟨g5, 0, none⟩) s.cl.length c5) := HT8.out.cell 0
                  obtain ⟨rk8, l9, l9'⟩ : RK coC 28 W8 (some ⟨g5, 0, none⟩) s.cl ∧ s.cl.length ≤ c5 ∧ c5 ≤ maxLen := by
                    obtain ⟨O9, cp9, e9, l9, l9', rk9⟩ := HO8.out.form coC_len
                    cases e9
                    exact ⟨rk9, l9, l9'⟩
                  have HL9 := Lib.hid (And.intro l9 l9')
                  obtain ⟨hth, hrk9⟩ := rk8.setRow (x' := c') coC_len HX.out (fun j => HO8.out.frozen4 j)
                  have HTh := Lib.hid (show W8.there g5 (n * 28) (coC c').toArray.size from hth)
                  have HRk9 := Lib.hid hrk9
                  clear l9 l9' hth hrk9 rk8
                  go_upto_region 13 with (first | refine unbox_Co rfl _ rfl X c' rfl HX8.out ?_ | refine wpList_store_mid rfl 44 _ _ rfl g5 (n * 28) (coC c').toArray rfl rfl HTh.out info_Co (all_oneCell_toArray (coC_one c')) ?_)
                  obtain ⟨t, ht⟩ : ∃ t : Sn, t = { s with cO := some ⟨g5, 0, none⟩, cl := s.cl.set n c', cc := c5 } := ⟨_, rfl⟩
                  refine (show ∀ W9 : World, Below w.heap.size w W9 → Bk W9 T 26 #[.slice (some ⟨g5, 0, none⟩) s.cl.length c5, .slice s.sO s.sl.length s.sc, .slice s.fO s.fl.length s.fc] → t.Given W9 → Code.wp _ _ _ _ W9 from fun W9 hb9 h9 ht9 => ?_) _ ?u1 ?u2 ?u3
                  case u1 => exact (Keeps.setAll (F := fun y => y = g5) rfl _ _ _).below HB8.out (fun y e => by have := HO8.out.lt g5 rfl; have := HTs.out; have := HTB.out; omega)
                  case u2 => exact HT8.out.farAll (by have := HO8.out.lt g5 rfl; have := HTB.out; omega) _ _ _
                  case u3 =>
                    have hB9 : Below w.heap.size w (W8.setCells g5 (n * 28) (coC c').toArray.toList) := (Keeps.setAll (F := fun y => y = g5) rfl _ _ _).below HB8.out (fun y e => by have := HO8.out.lt g5 rfl; have := HTs.out; have := HTB.out; omega)
                    have hS9 := HS.out.call hB9
                    have hG9 : c'.Given (W8.setCells g5 (n * 28) (coC c').toArray.toList) := HG8.out _ hB9 (Keeps.setAll (F := fun y => y = g5) rfl _ _ _)
                    rw [ht]
                    refine ⟨HRk9.out, by rw [List.length_set]; exact HL9.out.1, HL9.out.2, fun y hy => ?_, hS9.gs, hS9.gsle, hS9.gsle2, hS9.gsall, hS9.gf, hS9.gfle, hS9.gfle2, hS9.gfall⟩
                    rcases List.mem_or_eq_of_mem_set hy with hy | rfl
                    · exact hS9.gcall y hy
                    · exact hG9
                  have HTS := Lib.hid (show soundP t (byS t) = true from sound_less HX.out HLs.out (by rw [ht]) (by rw [ht]) (by rw [ht]) HSD.out)
                  have HTSm := Lib.hid (show Sml t by
                    have hm := HSM.out
                    rw [ht]
                    refine ⟨by simp only [List.length_set]; exact hm.ncl, hm.nsl, hm.nfl, hm.nw, fun y hy => ?_⟩
                    rcases List.mem_or_eq_of_mem_set hy with hy | rfl
                    · exact hm.nt y hy
                    · exact HN8.out)
                  have HTL := Lib.hid (show t.cl.length = s.cl.length by rw [ht]; simp)
                  have HTe := Lib.hid (show t.cO = some ⟨g5, 0, none⟩ ∧ t.cc = c5 ∧ t.sO = s.sO ∧ t.sl = s.sl ∧ t.sc = s.sc ∧ t.fO = s.fO ∧ t.fl = s.fl ∧ t.fc = s.fc by rw [ht]; exact ⟨rfl, rfl, rfl, rfl, rfl, rfl, rfl, rfl⟩)
                  have HB9 := Lib.hid hb9
                  have HT9 := Lib.hid ht9
                  have y0 : W9.cell? ⟨T, 0, none⟩ = some (.slice (some ⟨g5, 0, none⟩) s.cl.length c5) := h9.cell 0
                  have y1 : W9.cell? ⟨T, 1, none⟩ = some (.slice s.sO s.sl.length s.sc) := h9.cell 1
                  have y2 : W9.cell? ⟨T, 2, none⟩ = some (.slice s.fO s.fl.length s.fc) := h9.cell 2
                  clear ht hb9 h9 ht9 x0
                  go_wp2_with fail
                  have HC := Lib.hid (sound_len t s.cl.length HTL.out W9 HT9.out HTSm.out (HG.out.call HB9.out))
                  rw [HTe.out.1, HTe.out.2.1, HTe.out.2.2.1, HTe.out.2.2.2.1, HTe.out.2.2.2.2.1, HTe.out.2.2.2.2.2.1, HTe.out.2.2.2.2.2.2.1, HTe.out.2.2.2.2.2.2.2, HTS.out] at HC
                  refine HC.out.mono ?_
                  rintro e W10 ⟨rfl, hb10⟩
                  have HB10 := Lib.hid (bthen HB9.out hb10)
                  clear hb10 y0 y1 y2 HC
                  go_wp2_with fail
                  refine (wakes29_any W10 (HG.out.call HB10.out)).mono ?_
                  rintro e W11 ⟨rfl, hb11⟩
                  have HB11 := Lib.hid (bthen HB10.out hb11)
                  clear hb11
                  go_wp2_with fail
                  go_ret
                  exact ⟨rfl, HB11.out⟩
              ·
                have d0 : which ≠ 0 ∧ which ≠ 1 ∧ which ≠ 2 := ⟨e0, e1, e2⟩
                have b0 : (which == 0) = false := by simp [e0]
                have b1 : (which == 1) = false := by simp [e1]
                have b2 : (which == 2) = false := by simp [e2]
                clear d0 e0 e1 e2

                have HLs := Lib.hid (Less.refl c)
                obtain ⟨c', hc'⟩ : ∃ c' : Co, c' = c := ⟨_, rfl⟩
                obtain ⟨W8, hW8⟩ : ∃ W8 : World, W8 = W7 := ⟨_, rfl⟩
                have HB8 := Lib.hid HB7.out
                have HN8 := Lib.hid HCN.out
                have HX8 := Lib.hid HX7.out
                have HT8 := Lib.hid HT7.out
                have HO8 := Lib.hid HO7.out
                rw [← hW8] at HB8 HX8 HT8 HO8
                rw [← hc'] at HN8 HX8
                have HG8 := Lib.hid (show ∀ W, Below w.heap.size w W → Keeps (fun y => y = g5) W8 W → c'.Given W from fun W hb hk => by rw [hc']; exact HCG.out.call hb)
                have HLs := Lib.hid (show Less c c' by rw [hc']; exact Less.refl c)
                have HTX := Lib.hid (show T < W8.heap.size from HT8.out.lt)
                go_upto_region 12 with fail
                rw [← hW8]
                clear hW8 hc' z15 z16 z25 HX7 HT7 HO7 HB7

                have x0 : W8.cell? ⟨T, 0, none⟩ = some (.slice (some ⟨g5, 0, none⟩) s.cl.length c5) := HT8.out.cell 0
                obtain ⟨rk8, l9, l9'⟩ : RK coC 28 W8 (some ⟨g5, 0, none⟩) s.cl ∧ s.cl.length ≤ c5 ∧ c5 ≤ maxLen := by
                  obtain ⟨O9, cp9, e9, l9, l9', rk9⟩ := HO8.out.form coC_len
                  cases e9
                  exact ⟨rk9, l9, l9'⟩
                have HL9 := Lib.hid (And.intro l9 l9')
                obtain ⟨hth, hrk9⟩ := rk8.setRow (x' := c') coC_len HX.out (fun j => HO8.out.frozen4 j)
                have HTh := Lib.hid (show W8.there g5 (n * 28) (coC c').toArray.size from hth)
                have HRk9 := Lib.hid hrk9
                clear l9 l9' hth hrk9 rk8
                go_upto_region 13 with (first | refine unbox_Co rfl _ rfl X c' rfl HX8.out ?_ | refine wpList_store_mid rfl 44 _ _ rfl g5 (n * 28) (coC c').toArray rfl rfl HTh.out info_Co (all_oneCell_toArray (coC_one c')) ?_)
                obtain ⟨t, ht⟩ : ∃ t : Sn, t = { s with cO := some ⟨g5, 0, none⟩, cl := s.cl.set n c', cc := c5 } := ⟨_, rfl⟩
                refine (show ∀ W9 : World, Below w.heap.size w W9 → Bk W9 T 26 #[.slice (some ⟨g5, 0, none⟩) s.cl.length c5, .slice s.sO s.sl.length s.sc, .slice s.fO s.fl.length s.fc] → t.Given W9 → Code.wp _ _ _ _ W9 from fun W9 hb9 h9 ht9 => ?_) _ ?u1 ?u2 ?u3
                case u1 => exact (Keeps.setAll (F := fun y => y = g5) rfl _ _ _).below HB8.out (fun y e => by have := HO8.out.lt g5 rfl; have := HTs.out; have := HTB.out; omega)
                case u2 => exact HT8.out.farAll (by have := HO8.out.lt g5 rfl; have := HTB.out; omega) _ _ _
                case u3 =>
                  have hB9 : Below w.heap.size w (W8.setCells g5 (n * 28) (coC c').toArray.toList) := (Keeps.setAll (F := fun y => y = g5) rfl _ _ _).below HB8.out (fun y e => by have := HO8.out.lt g5 rfl; have := HTs.out; have := HTB.out; omega)
                  have hS9 := HS.out.call hB9
                  have hG9 : c'.Given (W8.setCells g5 (n * 28) (coC c').toArray.toList) := HG8.out _ hB9 (Keeps.setAll (F := fun y => y = g5) rfl _ _ _)
                  rw [ht]
                  refine ⟨HRk9.out, by rw [List.length_set]; exact HL9.out.1, HL9.out.2, fun y hy => ?_, hS9.gs, hS9.gsle, hS9.gsle2, hS9.gsall, hS9.gf, hS9.gfle, hS9.gfle2, hS9.gfall⟩
                  rcases List.mem_or_eq_of_mem_set hy with hy | rfl
                  · exact hS9.gcall y hy
                  · exact hG9
                have HTS := Lib.hid (show soundP t (byS t) = true from sound_less HX.out HLs.out (by rw [ht]) (by rw [ht]) (by rw [ht]) HSD.out)
                have HTSm := Lib.hid (show Sml t by
                  have hm := HSM.out
                  rw [ht]
                  refine ⟨by simp only [List.length_set]; exact hm.ncl, hm.nsl, hm.nfl, hm.nw, fun y hy => ?_⟩
                  rcases List.mem_or_eq_of_mem_set hy with hy | rfl
                  · exact hm.nt y hy
                  · exact HN8.out)
                have HTL := Lib.hid (show t.cl.length = s.cl.length by rw [ht]; simp)
                have HTe := Lib.hid (show t.cO = some ⟨g5, 0, none⟩ ∧ t.cc = c5 ∧ t.sO = s.sO ∧ t.sl = s.sl ∧ t.sc = s.sc ∧ t.fO = s.fO ∧ t.fl = s.fl ∧ t.fc = s.fc by rw [ht]; exact ⟨rfl, rfl, rfl, rfl, rfl, rfl, rfl, rfl⟩)
                have HB9 := Lib.hid hb9
                have HT9 := Lib.hid ht9
                have y0 : W9.cell? ⟨T, 0, none⟩ = some (.slice (some ⟨g5, 0, none⟩) s.cl.length c5) := h9.cell 0
                have y1 : W9.cell? ⟨T, 1, none⟩ = some (.slice s.sO s.sl.length s.sc) := h9.cell 1
                have y2 : W9.cell? ⟨T, 2, none⟩ = some (.slice s.fO s.fl.length s.fc) := h9.cell 2
                clear ht hb9 h9 ht9 x0
                go_wp2_with fail
                have HC := Lib.hid (sound_len t s.cl.length HTL.out W9 HT9.out HTSm.out (HG.out.call HB9.out))
                rw [HTe.out.1, HTe.out.2.1, HTe.out.2.2.1, HTe.out.2.2.2.1, HTe.out.2.2.2.2.1, HTe.out.2.2.2.2.2.1, HTe.out.2.2.2.2.2.2.1, HTe.out.2.2.2.2.2.2.2, HTS.out] at HC
                refine HC.out.mono ?_
                rintro e W10 ⟨rfl, hb10⟩
                have HB10 := Lib.hid (bthen HB9.out hb10)
                clear hb10 y0 y1 y2 HC
                go_wp2_with fail
                refine (wakes29_any W10 (HG.out.call HB10.out)).mono ?_
                rintro e W11 ⟨rfl, hb11⟩
                have HB11 := Lib.hid (bthen HB10.out hb11)
                clear hb11
                go_wp2_with fail
                go_ret
                exact ⟨rfl, HB11.out⟩
--MRAS
        · by_cases a1 : 0 ≤ core
          · by_cases a2 : core < s.cl.length
            · have a3 : kk < 0 := by omega
              go_wp2_with fail
              refine (wakes29_any w4 (HG.out.call HB4.out)).mono ?_
              rintro e w5 ⟨rfl, hb5⟩
              have HB5 := Lib.hid (bthen HB4.out hb5)
              clear hb5
              go_wp2_with fail
              go_ret
              exact ⟨rfl, HB5.out⟩
            · go_wp2_with fail
              refine (wakes29_any w4 (HG.out.call HB4.out)).mono ?_
              rintro e w5 ⟨rfl, hb5⟩
              have HB5 := Lib.hid (bthen HB4.out hb5)
              clear hb5
              go_wp2_with fail
              go_ret
              exact ⟨rfl, HB5.out⟩
          · go_wp2_with fail
            refine (wakes29_any w4 (HG.out.call HB4.out)).mono ?_
            rintro e w5 ⟨rfl, hb5⟩
            have HB5 := Lib.hid (bthen HB4.out hb5)
            clear hb5
            go_wp2_with fail
            go_ret
            exact ⟨rfl, HB5.out⟩
end Go.Proofs.YtappjiljmpgjcaaDoor
