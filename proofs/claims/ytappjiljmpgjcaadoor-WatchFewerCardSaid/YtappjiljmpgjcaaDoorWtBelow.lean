/-
  Layer 29: below: a table and all tables below it.
-/
import Derived.Test.YtappjiljmpgjcaaDoorWtForeign
import Derived.Test.YtappjiljmpgjcaaDoorWtRange
import Derived.Shelf.Abstract
import Derived.Shelf.RegionOpen
import Derived.OwnWalkIn
import Derived.TacticsInMore
import Derived.Deep.DeepCutAuto
namespace Go.Proofs.YtappjiljmpgjcaaDoor
open Go.RowKit Go.Maps Go.Shelf
set_option linter.unusedVariables false
set_option linter.unusedSimpArgs false
attribute [local go_sem] Oper.semAt_some
/-- The map of what was seen. -/
def SnM (w : World) (S : Nat) (sn : Int → Int → Bool) : Prop := ∃ K on, Mp 128 w S K on ∧ (∀ l g, I64 l → I64 g → (on (.agg #[.int .i64 l, .int .i64 g])).isSome = sn l g) ∧ K ≤ cntN (fun i => sn ((i / 1000 : Nat) : Int) ((i % 1000 : Nat) : Int)) 4000
theorem SnM.keep {w w' : World} {S : Nat} {sn : Int → Int → Bool} {F : Nat → Prop} (h : SnM w S sn) (hk : Keeps F w w') (hS : ¬ F S) : SnM w' S sn := let ⟨K, on, h1, h2, h3⟩ := h; ⟨K, on, h1.keep hk hS, h2, h3⟩
theorem SnM.call {w w' : World} {S : Nat} {sn : Int → Int → Bool} (h : SnM w S sn) (hb : Below w.heap.size w w') : SnM w' S sn := let ⟨K, on, h1, h2, h3⟩ := h; ⟨K, on, h1.call hb, h2, h3⟩
theorem SnM.lt {w : World} {S : Nat} {sn : Int → Int → Bool} (h : SnM w S sn) : S < w.heap.size := let ⟨K, on, h1, h2, h3⟩ := h; h1.lt
theorem SnM.ne_bk {w : World} {S g : Nat} {sn : Int → Int → Bool} {t : TypeId} {cs : Array Value} (h : SnM w S sn) (hb : Bk w g t cs) : g ≠ S := let ⟨K, on, h1, h2, h3⟩ := h; h1.ne_bk hb
theorem SnM.look {w : World} {S : Nat} {sn : Int → Int → Bool} (h : SnM w S sn) {l g : Int} (hl : I64 l) (hg : I64 g) :
    ∃ u : Value, (Instr.lookup 125 (.map (some S)) (.agg #[.int .i64 l, .int .i64 g]) true).run Tryd.prog w = .ok (.tuple #[u, .bool (sn l g)]) w := by
  obtain ⟨K, on, h1, h2, h3⟩ := h
  obtain ⟨k, hk⟩ := key_spot hl hg
  have := h1.look_ok kSpot Tryd.underlying125 (z := .int .i64 0) (by kernel_rfl) hk
  rw [h2 l g hl hg] at this
  exact ⟨_, this⟩
theorem insS_same (sn : Int → Int → Bool) (l g : Int) : insS sn l g l g = true := by simp [insS]
theorem insS_other (sn : Int → Int → Bool) {l g l' g' : Int} (h : ¬ (l' = l ∧ g' = g)) : insS sn l g l' g' = sn l' g' := by simp [insS, h]
theorem SnM.put {w : World} {S : Nat} {sn : Int → Int → Bool} (h : SnM w S sn) {l g : Int} (hl : 0 ≤ l ∧ l ≤ 3) (hg : 0 ≤ g ∧ g < 1000) (hno : sn l g = false) (v : Value) :
    ∃ w', (Instr.mapUpdate 125 (.map (some S)) (.agg #[.int .i64 l, .int .i64 g]) v).run Tryd.prog w = .ok () w' ∧ SnM w' S (insS sn l g) ∧ Keeps (fun y => y = S) w w' := by
  obtain ⟨K, on, h1, h2, h3⟩ := h
  have il : I64 l := ⟨by omega, by omega⟩
  have ig : I64 g := ⟨by omega, by omega⟩
  obtain ⟨k, hk⟩ := key_spot il ig
  have h4 := cntN_le (fun i => sn ((i / 1000 : Nat) : Int) ((i % 1000 : Nat) : Int)) 4000
  obtain ⟨w', hst, hm, hkk⟩ := h1.put kSpot Tryd.underlying125 hk v (by omega)
  refine ⟨w', hst, ⟨_, _, hm, fun l' g' hl' hg' => ?_, ?_⟩, hkk⟩
  · by_cases e : l' = l ∧ g' = g
    · obtain ⟨rfl, rfl⟩ := e
      rw [updV_same, insS_same]; rfl
    · rw [updV_other _ _ (fun e' => e (by injection e' with e'; simp at e'; exact e')), insS_other _ e, h2 l' g' hl' hg']
  · obtain ⟨ln, rfl⟩ := Int.eq_ofNat_of_zero_le hl.1
    obtain ⟨gn, rfl⟩ := Int.eq_ofNat_of_zero_le hg.1
    have ha := cntN_add (g := fun i => sn ((i / 1000 : Nat) : Int) ((i % 1000 : Nat) : Int)) (g' := fun i => insS sn ln gn ((i / 1000 : Nat) : Int) ((i % 1000 : Nat) : Int)) (f := ln * 1000 + gn)
      (by simp only [show (ln * 1000 + gn) / 1000 = ln by omega, show (ln * 1000 + gn) % 1000 = gn by omega]; exact hno)
      (by simp only [show (ln * 1000 + gn) / 1000 = ln by omega, show (ln * 1000 + gn) % 1000 = gn by omega]; exact insS_same _ _ _)
      (fun i hi => insS_other _ (fun ⟨e1, e2⟩ => hi (by omega))) 4000 (by omega)
    omega
/-- What below keeps: the caller's blocks but for S, R and l; the rows of words. -/
def KpX (E : Nat → Prop) (S R l : Nat) (w w' : World) : Prop := Keeps (fun x => ¬ E x ∨ x = S ∨ x = R ∨ x = l) w w' ∧ ∀ b cs, Bk w b 110 cs → Bk w' b 110 cs
theorem KpX.refl (E : Nat → Prop) (S R l : Nat) (w : World) : KpX E S R l w w := ⟨Keeps.refl _ _, fun _ _ h => h⟩
theorem KpX.trans {E : Nat → Prop} {S R l : Nat} {a b c : World} (h : KpX E S R l a b) (k : KpX E S R l b c) : KpX E S R l a c := ⟨h.1.after k.1, fun x cs hx => k.2 x cs (h.2 x cs hx)⟩
theorem KpX.of_kp {E : Nat → Prop} {S R l : Nat} {a b : World} (h : Kp E a b) : KpX E S R l a b := ⟨h.1.mono (fun x hx => .inl hx), h.2⟩
theorem KpX.mono {E E' : Nat → Prop} {S R l : Nat} {a b : World} (h : KpX E S R l a b) (hE : ∀ x, E' x → E x) : KpX E' S R l a b := ⟨h.1.mono (fun x hx => hx.imp (fun h hE' => h (hE x hE')) id), h.2⟩
theorem KpX.bk {E : Nat → Prop} {S R l : Nat} {w w' : World} {g : Nat} {t : TypeId} {cs : Array Value} (hk : KpX E S R l w w') (h : Bk w g t cs) (hE : E g) (hS : g ≠ S) (hR : g ≠ R) (hl : g ≠ l) : Bk w' g t cs :=
  h.keep hk.1 (fun hn => hn.elim (fun h => h hE) (fun h => h.elim hS (fun h => h.elim hR hl)))
/-- What the caller's invariant must bear. -/
structure BelowJ (w0 : World) (s : Sn) (P S R l : Nat) (E0 : Nat → Prop) (J : (Int → Int → Bool) → World → Prop) : Prop where
  keep : ∀ sn W W', J sn W → Keeps (fun x => ¬ E0 x ∨ x = S) W W' → J sn W'
  bks : ∀ sn W b t cs, J sn W → Bk W b t cs → b ≠ R ∧ b ≠ l
  es : E0 S
  er : E0 R
  el : E0 l
  ws : w0.heap.size ≤ S
  wr : w0.heap.size ≤ R
  wl : w0.heap.size ≤ l
  sr : S ≠ R
  sl : S ≠ l
  yld : ∀ m sn lv f W, sn lv f = false → 0 ≤ lv → lv ≤ 3 → thr s f = true → J sn W → Vx w0 E0 W P s (.out R) → YieldAt Fence.wide m Tryd.prog l #[.int .i64 lv, .int .i64 f] W fun e W' => e = .returned (.bool true) ∧ J (insS sn lv f) W' ∧ Keeps (fun y => y = R ∨ y = l) W W'
def BelowDo (w0 : World) (s : Sn) (P S R l : Nat) (E0 : Nat → Prop) (J : (Int → Int → Bool) → World → Prop) (n : Nat) : Prop := ∀ (lv f : Int) (sn : Int → Int → Bool) (E : Nat → Prop) (W : World),
    lv = 3 - n → n ≤ 3 → I64 f → (∀ y, E0 y → E y) → (∀ y, E y → y < W.heap.size) → Vx w0 E W P s (.out R) → SnM W S sn → J sn W →
    Calls Tryd.prog 41 #[.pointer (some ⟨P, 0, none⟩), .agg #[.int .i64 lv, .int .i64 f], .map (some S), .func (.yield l) #[] #[]] W fun e W' => e = .returned (.bool true) ∧ Vx w0 E W' P s (.out R) ∧ SnM W' S (belowP s n lv f sn) ∧ J (belowP s n lv f sn) W' ∧ KpX E S R l W W'
theorem belowP_stop {s : Sn} {n : Nat} {lv f : Int} {sn : Int → Int → Bool} (h : sn lv f = true ∨ thr s f = false) : belowP s n lv f sn = sn := by
  cases n <;> simp only [belowP] <;> rw [if_pos h]
theorem belowP_zero {s : Sn} {lv f : Int} {sn : Int → Int → Bool} (h : ¬ (sn lv f = true ∨ thr s f = false)) : belowP s 0 lv f sn = insS sn lv f := by
  simp only [belowP]; rw [if_neg h]
def bStep (s : Sn) (n : Nat) (lv f : Int) (ix : Nat) (acc : Int → Int → Bool) : Int → Int → Bool := match decT s lv f ix with | some g => belowP s n (lv + 1) g acc | none => acc
theorem belowP_succ {s : Sn} {n : Nat} {lv f : Int} {sn : Int → Int → Bool} (h : ¬ (sn lv f = true ∨ thr s f = false)) : belowP s (n + 1) lv f sn = foldN (bStep s n lv f) (if lv = 0 then 256 else 512) (insS sn lv f) := by
  simp only [belowP]; rw [if_neg h]; rfl
set_option maxRecDepth 100000 in
set_option maxHeartbeats 8000000 in
theorem below_step {w0 : World} {s : Sn} {P S R l : Nat} {E0 : Nat → Prop} {J : (Int → Int → Bool) → World → Prop} (hs : s.Given w0) (hG : G w0) (hn : s.fl.length ≤ 1000) (hJ : BelowJ w0 s P S R l E0 J) (n : Nat)
    (hrec : ∀ k, n = k + 1 → BelowDo w0 s P S R l E0 J k) : BelowDo w0 s P S R l E0 J n := by
  intro lv f sn E W hlv hn3 hf hE0 hE hV hS hJ0
  have HS := Lib.hid hs
  have HG := Lib.hid hG
  have HN := Lib.hid hn
  have HJ := Lib.hid hJ
  have HRec := Lib.hid hrec
  have HE0 := Lib.hid hE0
  have HE := Lib.hid hE
  have HF := Lib.hid hf
  have hlv0 : 0 ≤ lv := by omega
  have hlv3 : lv ≤ 3 := by omega
  have HLV := Lib.hid hlv
  have hbk := Bk.new W 128 #[.int .i64 lv, .int .i64 f]
  have HV0 := Lib.hid (hV.add (.cells #[.int .i64 lv, .int .i64 f] 128))
  have HS0 := Lib.hid (hS.call (ba (Below.refl _ _) (.cells #[.int .i64 lv, .int .i64 f] 128)))
  have HJ0 := Lib.hid (hJ.keep _ _ _ hJ0 ((Keeps.of_below (F := fun _ => False) (ba (Below.refl _ _) (.cells #[.int .i64 lv, .int .i64 f] 128))).mono (fun _ h => h.elim)))
  clear hs hG hn hJ hrec hE0 hE hf hV hS hJ0 hlv
  go_enter Tryd.func41, Tryd.ntmps41
  go_upto_region 1 with fail
  refine (show ∀ W1 : World, Below W.heap.size W W1 → Bk W1 W.heap.size 128 #[.int .i64 lv, .int .i64 f] → Vx w0 (fun y => E y ∨ y = W.heap.size) W1 P s (.out R) → SnM W1 S sn → J sn W1 → Code.wp _ _ _ _ W1 from fun W1 hb1 h1 hv1 hs1 hj1 => ?_) _ (ba (Below.refl _ _) _) hbk HV0.out HS0.out HJ0.out
  clear hbk HV0 HS0 HJ0
  obtain ⟨X, hX⟩ : ∃ X, X = W.heap.size := ⟨_, rfl⟩
  rw [← hX] at h1 hv1 ⊢
  obtain ⟨E1, hE1d⟩ : ∃ E1 : Nat → Prop, E1 = fun y => E y ∨ y = X := ⟨_, rfl⟩
  rw [← hE1d] at hv1
  have hE1 : ∀ y, E1 y → y < W1.heap.size := fun y hy => by
    rw [hE1d] at hy
    rcases hy with hy | rfl
    · have := HE.out y hy; have := hb1.size; omega
    · exact h1.lt
  have hEE : ∀ y, E y → E1 y := fun y hy => by rw [hE1d]; exact .inl hy
  have hEX : E1 X := by rw [hE1d]; exact .inr rfl
  clear hE1d
  have HE1 := Lib.hid hE1
  have HEE := Lib.hid hEE
  have HEX := Lib.hid hEX
  have HB1 := Lib.hid hb1
  have H1 := Lib.hid h1
  have HS1 := Lib.hid hs1
  have HJ1 := Lib.hid hj1
  have HV1 := Lib.hid hv1
  have c0 : W1.cell? ⟨X, 0, none⟩ = some (.int .i64 lv) := h1.cell 0
  have c1 : W1.cell? ⟨X, 1, none⟩ = some (.int .i64 f) := h1.cell 1
  clear hE1 hEE hEX hb1 h1 hs1 hj1 hv1 hX
  go_wp2_with fail
  refine (wtTable_any f HF.out HV1.out (HS.out.call HV1.out.below) HN.out HE1.out).mono ?_
  rintro e W2 ⟨v, rfl, htr, hv2, hk2⟩
  have HS2 := Lib.hid (HS1.out.keep hk2.1 (fun h => h (HEE.out _ (HE0.out _ HJ.out.es))))
  have HJ2 := Lib.hid (HJ.out.keep _ _ _ HJ1.out (hk2.1.mono (fun x hx => .inl (fun h => hx (HEE.out _ (HE0.out _ h))))))
  have H2 := Lib.hid (hk2.bk H1.out HEX.out)
  have HV2 := Lib.hid hv2
  have HK2 := Lib.hid hk2
  have HTR := Lib.hid htr
  have c0 : W2.cell? ⟨X, 0, none⟩ = some (.int .i64 lv) := H2.out.cell 0
  have c1 : W2.cell? ⟨X, 1, none⟩ = some (.int .i64 f) := H2.out.cell 1
  obtain ⟨u, hlk⟩ := HS2.out.look (show I64 lv from ⟨by omega, by omega⟩) HF.out
  clear hv2 hk2 htr HS1 HJ1 H1 HV1
  have HKX := Lib.hid (show KpX E S R l W W2 from (KpX.of_kp (Kp.of_below HB1.out)).trans ((KpX.of_kp HK2.out).mono HEE.out))
  by_cases hstop : sn lv f = true ∨ thr s f = false
  · have HST := Lib.hid (belowP_stop (n := n) hstop)
    cases hsn : sn lv f with
    | true =>
      rw [hsn] at hlk
      clear hsn hstop
      go_wp2_with fail
      go_ret
      exact ⟨rfl, HV2.out.mono HEE.out, by rw [HST.out]; exact HS2.out, by rw [HST.out]; exact HJ2.out, HKX.out⟩
    | false =>
      have ht : thr s f = false := hstop.resolve_left (by rw [hsn]; simp)
      rw [hsn] at hlk
      rcases HTR.out with ⟨-, rfl⟩ | ⟨ht', _⟩
      · clear hsn hstop ht
        go_wp2_with fail
        go_ret
        exact ⟨rfl, HV2.out.mono HEE.out, by rw [HST.out]; exact HS2.out, by rw [HST.out]; exact HJ2.out, HKX.out⟩
      · rw [ht] at ht'; cases ht'
  · have hsn : sn lv f = false := by cases h : sn lv f with | false => rfl | true => exact absurd (.inl h) hstop
    have ht : thr s f = true := by cases h : thr s f with | true => rfl | false => exact absurd (.inr h) hstop
    rcases HTR.out with ⟨ht', _⟩ | ⟨_, b, rfl, hBb⟩
    · rw [ht] at ht'; cases ht'
    · rw [hsn] at hlk
      have HBb := Lib.hid hBb
      have hft := (thr_iff s f).1 ht
      obtain ⟨W3, hst, hs3, hk3⟩ := HS2.out.put (l := lv) (g := f) ⟨hlv0, hlv3⟩ ⟨hft.1, by have := HN.out; omega⟩ hsn (.int .i64 lv)
      have hnb : ∀ (g : Nat) (t : TypeId) (cs : Array Value), Bk W2 g t cs → g ≠ S := fun g t cs hg => HS2.out.ne_bk hg
      have HSN := Lib.hid hsn
      have HT := Lib.hid ht
      have HNS := Lib.hid hstop
      have HS3 := Lib.hid hs3
      have HV3 := Lib.hid (HV2.out.keep hk3 (fun x e => by subst e; exact ⟨HEE.out _ (HE0.out _ HJ.out.es), HJ.out.ws⟩))
      have HJ3 := Lib.hid (HJ.out.keep _ _ _ HJ2.out (hk3.mono (fun x hx => .inr hx)))
      have H3 := Lib.hid (H2.out.keep hk3 (hnb _ _ _ H2.out))
      have HBb3 := Lib.hid (HBb.out.keep hk3 (hnb _ _ _ HBb.out))
      have HKX3 := Lib.hid (HKX.out.trans (show KpX E S R l W2 W3 from ⟨hk3.mono (fun x hx => .inr (.inl hx)), fun g cs hg => hg.keep hk3 (hnb _ _ _ hg)⟩))
      have HE3 := Lib.hid (show ∀ y, E1 y → y < W3.heap.size from fun y hy => by have := HE1.out y hy; have := HK2.out.1.size; have := hk3.size; omega)
      clear hsn ht hstop hft hBb hs3 hk3 hnb HS2 HV2 HJ2 HBb HKX HTR HK2
      have d0 : W3.cell? ⟨X, 0, none⟩ = some (.int .i64 lv) := H3.out.cell 0
      have d1 : W3.cell? ⟨X, 1, none⟩ = some (.int .i64 f) := H3.out.cell 1
      go_upto_region 6 with fail
      obtain ⟨fn, tmps, assign, body, hy, hRd⟩ := HJ.out.yld (20 - 1) sn lv f W3 HSN.out hlv0 hlv3 HT.out HJ3.out (HV3.out.mono (fun y hy => HEE.out _ (HE0.out _ hy)))
      refine (wpIn_wide (n := 20)).1 ?_
      gi_wp2
      refine hRd.mono ?_
      clear hRd hy
      rintro e W4 ⟨rfl, hj4, hk4⟩
      have nRl : ∀ (g : Nat) (t : TypeId) (cs : Array Value), Bk W3 g t cs → ¬ (g = R ∨ g = l) := fun g t cs hg h => by
        have := HJ.out.bks _ _ _ _ _ HJ3.out hg
        rcases h with h | h
        · exact this.1 h
        · exact this.2 h
      have HJ4 := Lib.hid hj4
      have HV4 := Lib.hid (HV3.out.keep hk4 (fun x e => by
        rcases e with rfl | rfl
        · exact ⟨HEE.out _ (HE0.out _ HJ.out.er), HJ.out.wr⟩
        · exact ⟨HEE.out _ (HE0.out _ HJ.out.el), HJ.out.wl⟩))
      have HS4 := Lib.hid (HS3.out.keep hk4 (fun h => h.elim HJ.out.sr HJ.out.sl))
      have H4 := Lib.hid (H3.out.keep hk4 (nRl _ _ _ H3.out))
      have HBb4 := Lib.hid (HBb3.out.keep hk4 (nRl _ _ _ HBb3.out))
      have HKX4 := Lib.hid (HKX3.out.trans (show KpX E S R l W3 W4 from ⟨hk4.mono (fun x hx => .inr (.inr hx)), fun g cs hg => hg.keep hk4 (nRl _ _ _ hg)⟩))
      have HE4 := Lib.hid (show ∀ y, E1 y → y < W4.heap.size from fun y hy => Nat.lt_of_lt_of_le (HE3.out y hy) hk4.size)
      clear hj4 hk4 nRl HJ3 HV3 HS3 H3 HBb3 HKX3 HE3 d0 d1
      have d0 : W4.cell? ⟨X, 0, none⟩ = some (.int .i64 lv) := H4.out.cell 0
      have d1 : W4.cell? ⟨X, 1, none⟩ = some (.int .i64 f) := H4.out.cell 1
      gi_wp2
      cases n with
      | zero =>
        have hl3 : lv = 3 := by have := HLV.out; omega
        have HB := Lib.hid (belowP_zero (s := s) HNS.out)
        subst hl3
        go_wp2_with fail
        go_ret
        exact ⟨rfl, HV4.out.mono HEE.out, by rw [HB.out]; exact HS4.out, by rw [HB.out]; exact HJ4.out, HKX4.out⟩
      | succ n =>
        have hl3 : ¬ lv = 3 := by have := HLV.out; omega
        have hlb : (lv == 3) = false := by simp [hl3]
        have HB := Lib.hid (belowP_succ (s := s) (n := n) HNS.out)
        have HRn := Lib.hid (HRec.out n rfl)
        clear HRec
        go_wp2_with fail
        have HX := Lib.hid (show ∀ i, U64 (tb s f i) from fun i => tb_u64 HS.out f i)
        have hg0 : ∀ acc ix, decT s lv f ix = none → bStep s n lv f ix acc = acc := fun acc ix h => by unfold bStep; rw [h]
        have hg1 : ∀ acc ix g, decT s lv f ix = some g → bStep s n lv f ix acc = belowP s n (lv + 1) g acc := fun acc ix g h => by unfold bStep; rw [h]
        have HG0 := Lib.hid hg0
        have HG1 := Lib.hid hg1
        have HDT := Lib.hid (show ∀ ix, decT s lv f ix = if de (tb s f ix) lv = 0 ∧ dk (tb s f ix) lv = 1 then some (df (tb s f ix) lv) else none from fun ix => rfl)
        clear hg0 hg1
        obtain ⟨N, hN⟩ : ∃ N : Nat, N = if lv = 0 then 256 else 512 := ⟨_, rfl⟩
        have HNN := Lib.hid hN
        have hN512 : N ≤ 512 := by rw [hN]; split <;> omega
        have hNlv : (lv = 0 ∧ N = 256) ∨ (lv ≠ 0 ∧ N = 512) := by rw [hN]; split <;> omega
        rw [← hN] at HB
        clear hN
        have hz4 : W.heap.size ≤ W4.heap.size := HKX4.out.1.size
        go_loopw [46] (fun i wr => ∃ k : Nat, k ≤ N ∧ i = .int .i64 k ∧ Vx w0 E1 wr P s (.out R) ∧ SnM wr S (foldN (bStep s n lv f) k (insS sn lv f)) ∧ J (foldN (bStep s n lv f) k (insS sn lv f)) wr ∧ Bk wr X 128 #[.int .i64 lv, .int .i64 f] ∧ Bk wr b 110 (rowOf (tb s f)) ∧ KpX E S R l W wr ∧ W4.heap.size ≤ wr.heap.size) (fun i _ => 512 - (intOf i).toNat)
        case atStart => exact ⟨0, by omega, rfl, HV4.out, HS4.out, HJ4.out, H4.out, HBb4.out, HKX4.out, Nat.le_refl _⟩
        case round =>
          clear HV4 HS4 HJ4 H4 HBb4 HKX4 d0 d1
          obtain ⟨k, hk, rfl, hv, hs, hj, hx, hb, hkx, hz⟩ := hrel
          have HV := Lib.hid hv
          have HSn := Lib.hid hs
          have HJJ := Lib.hid hj
          have HXx := Lib.hid hx
          have HBb := Lib.hid hb
          have HKX := Lib.hid hkx
          have HZ := Lib.hid hz
          have e0 : wr.cell? ⟨X, 0, none⟩ = some (.int .i64 lv) := hx.cell 0
          have e1 : wr.cell? ⟨X, 1, none⟩ = some (.int .i64 f) := hx.cell 1
          clear hv hs hj hx hb hkx hz
          by_cases hlt : k < N
          · have hk5 : k < 512 := by omega
            have r0 : wr.cell? ⟨b, k, none⟩ = some (.int .u64 (tb s f k)) := (HBb.out.cell k).trans (rowOf_at _ _ hk5)
            have HDk := Lib.hid (HDT.out k)
            have HXk := Lib.hid (HX.out k)
            have hbr : (lv == 0) = false ∨ ¬ (255 : Int) < k := by
              rcases hNlv with ⟨h1, h2⟩ | ⟨h1, h2⟩
              · right; omega
              · left; simp [h1]
            obtain ⟨x, hxe⟩ : ∃ x, x = tb s f k := ⟨_, rfl⟩
            rw [← hxe] at HDk HXk r0
            clear hxe
            go_upto_region 12 with fail
            rename_i hKJ
            have hKJ := Lib.hid hKJ
            go_region
            refine hKJ.out _ _ ?_
            clear hKJ
            rcases hNlv with ⟨h1, h2⟩ | ⟨h1, h2⟩
            · refine (show ∀ W5 : World, Below wr.heap.size wr W5 → Code.wp _ _ _ _ W5 from fun W5 hb5 => ?_) _ (bd (Below.refl _ _))
              have HB5 := Lib.hid hb5
              have e0 : W5.cell? ⟨X, 0, none⟩ = some (.int .i64 lv) := (HXx.out.call hb5).cell 0
              have HGw := Lib.hid (HG.out.call (HV.out.call hb5).below)
              clear hb5 r0
              have kb : (lv == 0) = true := by simp [h1]
              have kb2 : decide ((255 : Int) < k) = false := by simp; omega
              clear h1 h2
              go_wp2_with fail
              refine (dDecode_any x lv W5 HGw.out HXk.out).mono ?_
              rintro e W6 ⟨rfl, hb6⟩
              have HB6 := Lib.hid (bthen HB5.out hb6)
              have HDF := Lib.hid (df_i64 x lv)
              clear hb6 HB5 HGw e0
              obtain ⟨ac, hac⟩ : ∃ ac, ac = foldN (bStep s n lv f) k (insS sn lv f) := ⟨_, rfl⟩
              have HFS := Lib.hid (show foldN (bStep s n lv f) (k + 1) (insS sn lv f) = bStep s n lv f k ac by rw [hac]; rfl)
              rw [← hac] at HSn HJJ
              clear hac
              generalize dk x lv = kd' at *
              generalize df x lv = fr at *
              generalize de x lv = er at *
              generalize dfl x lv 10 = f10 at *
              generalize dfl x lv 7 = f7 at *
              generalize dfl x lv 6 = f6 at *
              generalize dfl x lv 11 = f11 at *
              by_cases hd : er = 0 ∧ kd' = 1
              · have HDk2 := Lib.hid (HDk.out.trans (if_pos hd))
                have HFS2 := Lib.hid (HFS.out.trans (HG1.out _ _ _ HDk2.out))
                obtain ⟨rfl, rfl⟩ := hd
                have hkd := Bk.new W6 96 #[.int .i8 1, .int .i64 fr, .bool f10, .bool f7, .bool f6, .bool f11]
                go_upto_region 16 with fail
                refine (show ∀ W7 : World, Below W6.heap.size W6 W7 → Bk W7 W6.heap.size 96 #[.int .i8 1, .int .i64 fr, .bool f10, .bool f7, .bool f6, .bool f11] → Code.wp _ _ _ _ W7 from fun W7 hb7 h7 => ?_) _ (ba (Below.refl _ _) _) hkd
                have HB7 := Lib.hid (bthen HB6.out hb7)
                have e0 : W7.cell? ⟨X, 0, none⟩ = some (.int .i64 lv) := (HXx.out.call HB7.out).cell 0
                have t1 : W7.cell? ⟨W6.heap.size, 1, none⟩ = some (.int .i64 fr) := h7.cell 1
                clear hkd hb7 h7 HB6
                go_wp2_with fail
                refine (HRn.out (lv + 1) fr ac E1 W7 (by have := HLV.out; omega) (by omega) HDF.out (fun y hy => HEE.out _ (HE0.out _ hy)) (fun y hy => by have := HE4.out y hy; have := HZ.out; have := HB7.out.size; omega) (HV.out.call HB7.out) (HSn.out.call HB7.out) (HJ.out.keep _ _ _ HJJ.out ((Keeps.of_below (F := fun _ => False) HB7.out).mono (fun _ h => h.elim)))).mono ?_
                rintro e W8 ⟨rfl, hv8, hs8, hj8, hk8⟩
                have HK8 := Lib.hid (HKX.out.trans ((KpX.of_kp (Kp.of_below HB7.out)).trans (hk8.mono HEE.out)))
                have HV8 := Lib.hid hv8
                have HS8 := Lib.hid hs8
                have HJ8 := Lib.hid hj8
                have HX8 := Lib.hid (hk8.bk (HXx.out.call HB7.out) HEX.out ((HSn.out.call HB7.out).ne_bk (HXx.out.call HB7.out)) (HJ.out.bks _ _ _ _ _ HJJ.out HXx.out).1 (HJ.out.bks _ _ _ _ _ HJJ.out HXx.out).2)
                have HBb8 := Lib.hid (hk8.2 _ _ (HBb.out.call HB7.out))
                have HZ8 := Lib.hid (Nat.le_trans (Nat.le_trans HZ.out HB7.out.size) hk8.1.size)
                clear hv8 hs8 hj8 hk8 e0 t1
                go_wp2_with fail
                go_roundw
                case rel => exact ⟨k + 1, by omega, by go_num, HV8.out, by rw [HFS2.out]; exact HS8.out, by rw [HFS2.out]; exact HJ8.out, HX8.out, HBb8.out, HK8.out, HZ8.out⟩
                case measure => simp [intOf]; omega
              · have HDk2 := Lib.hid (HDk.out.trans (if_neg hd))
                have HFS2 := Lib.hid (HFS.out.trans (HG0.out _ _ HDk2.out))
                have HBd := Lib.hid (ba HB6.out (.cells #[.int .i8 kd', .int .i64 fr, .bool f10, .bool f7, .bool f6, .bool f11] 96))
                by_cases he : er = 0
                · have hk1 : (kd' != 1) = true := by simp; exact fun h => hd ⟨he, h⟩
                  subst he
                  go_wp2_with fail
                  go_roundw
                  case rel => exact ⟨k + 1, by omega, by go_num, HV.out.call HBd.out, by rw [HFS2.out]; exact HSn.out.call HBd.out, by rw [HFS2.out]; exact HJ.out.keep _ _ _ HJJ.out ((Keeps.of_below (F := fun _ => False) HBd.out).mono (fun _ h => h.elim)), HXx.out.call HBd.out, HBb.out.call HBd.out, HKX.out.trans (KpX.of_kp (Kp.of_below HBd.out)), Nat.le_trans HZ.out HBd.out.size⟩
                  case measure => simp [intOf]; omega
                · have hk1 : (er != 0) = true := by simp [he]
                  go_wp2_with fail
                  go_roundw
                  case rel => exact ⟨k + 1, by omega, by go_num, HV.out.call HBd.out, by rw [HFS2.out]; exact HSn.out.call HBd.out, by rw [HFS2.out]; exact HJ.out.keep _ _ _ HJJ.out ((Keeps.of_below (F := fun _ => False) HBd.out).mono (fun _ h => h.elim)), HXx.out.call HBd.out, HBb.out.call HBd.out, HKX.out.trans (KpX.of_kp (Kp.of_below HBd.out)), Nat.le_trans HZ.out HBd.out.size⟩
                  case measure => simp [intOf]; omega
            · refine (show ∀ W5 : World, Below wr.heap.size wr W5 → Code.wp _ _ _ _ W5 from fun W5 hb5 => ?_) _ (bd (Below.refl _ _))
              have HB5 := Lib.hid hb5
              have e0 : W5.cell? ⟨X, 0, none⟩ = some (.int .i64 lv) := (HXx.out.call hb5).cell 0
              have HGw := Lib.hid (HG.out.call (HV.out.call hb5).below)
              clear hb5 r0
              have kb : (lv == 0) = false := by simp [h1]
              clear h1 h2
              go_wp2_with fail
              refine (dDecode_any x lv W5 HGw.out HXk.out).mono ?_
              rintro e W6 ⟨rfl, hb6⟩
              have HB6 := Lib.hid (bthen HB5.out hb6)
              have HDF := Lib.hid (df_i64 x lv)
              clear hb6 HB5 HGw e0
              obtain ⟨ac, hac⟩ : ∃ ac, ac = foldN (bStep s n lv f) k (insS sn lv f) := ⟨_, rfl⟩
              have HFS := Lib.hid (show foldN (bStep s n lv f) (k + 1) (insS sn lv f) = bStep s n lv f k ac by rw [hac]; rfl)
              rw [← hac] at HSn HJJ
              clear hac
              generalize dk x lv = kd' at *
              generalize df x lv = fr at *
              generalize de x lv = er at *
              generalize dfl x lv 10 = f10 at *
              generalize dfl x lv 7 = f7 at *
              generalize dfl x lv 6 = f6 at *
              generalize dfl x lv 11 = f11 at *
              by_cases hd : er = 0 ∧ kd' = 1
              · have HDk2 := Lib.hid (HDk.out.trans (if_pos hd))
                have HFS2 := Lib.hid (HFS.out.trans (HG1.out _ _ _ HDk2.out))
                obtain ⟨rfl, rfl⟩ := hd
                have hkd := Bk.new W6 96 #[.int .i8 1, .int .i64 fr, .bool f10, .bool f7, .bool f6, .bool f11]
                go_upto_region 16 with fail
                refine (show ∀ W7 : World, Below W6.heap.size W6 W7 → Bk W7 W6.heap.size 96 #[.int .i8 1, .int .i64 fr, .bool f10, .bool f7, .bool f6, .bool f11] → Code.wp _ _ _ _ W7 from fun W7 hb7 h7 => ?_) _ (ba (Below.refl _ _) _) hkd
                have HB7 := Lib.hid (bthen HB6.out hb7)
                have e0 : W7.cell? ⟨X, 0, none⟩ = some (.int .i64 lv) := (HXx.out.call HB7.out).cell 0
                have t1 : W7.cell? ⟨W6.heap.size, 1, none⟩ = some (.int .i64 fr) := h7.cell 1
                clear hkd hb7 h7 HB6
                go_wp2_with fail
                refine (HRn.out (lv + 1) fr ac E1 W7 (by have := HLV.out; omega) (by omega) HDF.out (fun y hy => HEE.out _ (HE0.out _ hy)) (fun y hy => by have := HE4.out y hy; have := HZ.out; have := HB7.out.size; omega) (HV.out.call HB7.out) (HSn.out.call HB7.out) (HJ.out.keep _ _ _ HJJ.out ((Keeps.of_below (F := fun _ => False) HB7.out).mono (fun _ h => h.elim)))).mono ?_
                rintro e W8 ⟨rfl, hv8, hs8, hj8, hk8⟩
                have HK8 := Lib.hid (HKX.out.trans ((KpX.of_kp (Kp.of_below HB7.out)).trans (hk8.mono HEE.out)))
                have HV8 := Lib.hid hv8
                have HS8 := Lib.hid hs8
                have HJ8 := Lib.hid hj8
                have HX8 := Lib.hid (hk8.bk (HXx.out.call HB7.out) HEX.out ((HSn.out.call HB7.out).ne_bk (HXx.out.call HB7.out)) (HJ.out.bks _ _ _ _ _ HJJ.out HXx.out).1 (HJ.out.bks _ _ _ _ _ HJJ.out HXx.out).2)
                have HBb8 := Lib.hid (hk8.2 _ _ (HBb.out.call HB7.out))
                have HZ8 := Lib.hid (Nat.le_trans (Nat.le_trans HZ.out HB7.out.size) hk8.1.size)
                clear hv8 hs8 hj8 hk8 e0 t1
                go_wp2_with fail
                go_roundw
                case rel => exact ⟨k + 1, by omega, by go_num, HV8.out, by rw [HFS2.out]; exact HS8.out, by rw [HFS2.out]; exact HJ8.out, HX8.out, HBb8.out, HK8.out, HZ8.out⟩
                case measure => simp [intOf]; omega
              · have HDk2 := Lib.hid (HDk.out.trans (if_neg hd))
                have HFS2 := Lib.hid (HFS.out.trans (HG0.out _ _ HDk2.out))
                have HBd := Lib.hid (ba HB6.out (.cells #[.int .i8 kd', .int .i64 fr, .bool f10, .bool f7, .bool f6, .bool f11] 96))
                by_cases he : er = 0
                · have hk1 : (kd' != 1) = true := by simp; exact fun h => hd ⟨he, h⟩
                  subst he
                  go_wp2_with fail
                  go_roundw
                  case rel => exact ⟨k + 1, by omega, by go_num, HV.out.call HBd.out, by rw [HFS2.out]; exact HSn.out.call HBd.out, by rw [HFS2.out]; exact HJ.out.keep _ _ _ HJJ.out ((Keeps.of_below (F := fun _ => False) HBd.out).mono (fun _ h => h.elim)), HXx.out.call HBd.out, HBb.out.call HBd.out, HKX.out.trans (KpX.of_kp (Kp.of_below HBd.out)), Nat.le_trans HZ.out HBd.out.size⟩
                  case measure => simp [intOf]; omega
                · have hk1 : (er != 0) = true := by simp [he]
                  go_wp2_with fail
                  go_roundw
                  case rel => exact ⟨k + 1, by omega, by go_num, HV.out.call HBd.out, by rw [HFS2.out]; exact HSn.out.call HBd.out, by rw [HFS2.out]; exact HJ.out.keep _ _ _ HJJ.out ((Keeps.of_below (F := fun _ => False) HBd.out).mono (fun _ h => h.elim)), HXx.out.call HBd.out, HBb.out.call HBd.out, HKX.out.trans (KpX.of_kp (Kp.of_below HBd.out)), Nat.le_trans HZ.out HBd.out.size⟩
                  case measure => simp [intOf]; omega
          · obtain rfl : k = N := by omega
            rcases hNlv with ⟨h1, h2⟩ | ⟨h1, h2⟩
            · subst h1
              have HN2 := Lib.hid h2
              have hk5 : k < 512 := by omega
              have r0 : wr.cell? ⟨b, k, none⟩ = some (.int .u64 (tb s f k)) := (HBb.out.cell k).trans (rowOf_at _ _ hk5)
              have hgt : decide ((255 : Int) < k) = true := by simp; omega
              clear h2
              go_upto_region 12 with fail
              rename_i hKJ
              have hKJ := Lib.hid hKJ
              go_region
              refine hKJ.out _ _ ?_
              clear hKJ
              refine (show ∀ W5 : World, Below wr.heap.size wr W5 → Code.wp _ _ _ _ W5 from fun W5 hb5 => ?_) _ (bd (Below.refl _ _))
              have HB5 := Lib.hid hb5
              have e0 : W5.cell? ⟨X, 0, none⟩ = some (.int .i64 0) := (HXx.out.call hb5).cell 0
              clear hb5 r0
              go_wp2_with fail
              go_ret
              exact ⟨rfl, (HV.out.call HB5.out).mono HEE.out, by rw [HB.out]; exact HSn.out.call HB5.out, by rw [HB.out]; exact HJ.out.keep _ _ _ HJJ.out ((Keeps.of_below (F := fun _ => False) HB5.out).mono (fun _ h => h.elim)), HKX.out.trans (KpX.of_kp (Kp.of_below HB5.out))⟩
            · obtain rfl : k = 512 := h2
              go_wp2_with fail
              go_ret
              exact ⟨rfl, HV.out.mono HEE.out, by rw [HB.out]; exact HSn.out, by rw [HB.out]; exact HJJ.out, HKX.out⟩
theorem below_any {w0 : World} {s : Sn} {P S R l : Nat} {E0 : Nat → Prop} {J : (Int → Int → Bool) → World → Prop} (hs : s.Given w0) (hG : G w0) (hn : s.fl.length ≤ 1000) (hJ : BelowJ w0 s P S R l E0 J) : ∀ n : Nat, BelowDo w0 s P S R l E0 J n
  | 0 => below_step hs hG hn hJ 0 (fun k h => by omega)
  | n + 1 => below_step hs hG hn hJ (n + 1) (fun k h => by
    obtain rfl : k = n := by omega
    exact below_any hs hG hn hJ k)
end Go.Proofs.YtappjiljmpgjcaaDoor
