/-
  A cast of the call's own: every call by one contract; wakes.
-/
import Derived.Test.YtokmcelmodoeoaaCsSend
import Derived.Test.YtokmcelmodoeoaaCsDone
namespace Go.Proofs.Ytokmcelmodoeoaa
open Go.RowKit
set_option linter.unusedVariables false
set_option linter.unusedSimpArgs false
/-- What Ack leaves. -/
def ackR (n : Nat) (rows : Nat → List Pr) (c : Int) : Nat → List Pr := if firE n rows c = 0 then upR rows (c - 1).toNat (rows (c - 1).toNat).tail else rows
theorem cack_any (b n : Nat) (rows : Nat → List Pr) (vs : Nat → Value) (F : Nat → Prop) (c : Int) (w : World) (h : Cs w b n rows vs F) : Calls Try.prog 11 #[.pointer (some ⟨b, 0, none⟩), .int .i64 c] w fun e w' => ∃ vs' F', e = .returned (.tuple #[.agg #[.int .i8 (firP n rows c).k, .int .i64 (firP n rows c).a, .int .u64 (firP n rows c).p], .int .i64 (firE n rows c)]) ∧ Cs w' b n (ackR n rows c) vs' F' ∧ Keeps F w w' ∧ ∀ g, F' g → F g ∨ w.heap.size ≤ g := by
  by_cases hf : firE n rows c = 0
  · obtain ⟨k, rfl, hk⟩ : ∃ k : Nat, c = (k : Int) + 1 ∧ k < n := by
      refine hasB_core ?_
      rcases hh : hasB n c with _ | _
      · simp [firE, hh] at hf
      · rfl
    have hh : hasB n ((k : Int) + 1) = true := by rw [hasB_iff]; omega
    rcases hr : rows k with _ | ⟨x, xs⟩
    · simp [firE, hh, hr] at hf
    · refine (cack_yes b n k rows vs F w h hk x xs hr).mono ?_
      rintro e w' ⟨rfl, vs', F', h1, h2, h3⟩
      refine ⟨vs', F', by simp [firP, firE, hh, hr], ?_, h2, h3⟩
      unfold ackR
      rw [if_pos hf]
      simpa [hr] using h1
  · refine (cack_no b n rows vs F c w h hf).mono ?_
    rintro e w' ⟨rfl, hb⟩
    have hp : firP n rows c = zP := by
      unfold firE at hf
      unfold firP
      by_cases hh : hasB n c = true
      · rw [if_pos hh] at hf ⊢
        rcases hr : rows (c - 1).toNat with _ | ⟨x, xs⟩
        · rfl
        · exfalso
          apply hf
          rw [hr]
          simp
      · rw [if_neg hh]
    refine ⟨vs, F, by rw [hp]; rfl, ?_, Keeps.of_below hb, fun g hg => Or.inl hg⟩
    unfold ackR
    rw [if_neg hf]
    exact h.call hb
theorem ackR_short {n : Nat} {rows : Nat → List Pr} {c : Int} (h : ∀ k, k < 8 → (rows k).length ≤ 16) : ∀ k, k < 8 → (ackR n rows c k).length ≤ 16 := by
  intro k hk
  unfold ackR
  by_cases e : firE n rows c = 0
  · rw [if_pos e]
    unfold upR
    by_cases e2 : k = (c - 1).toNat
    · rw [if_pos e2, List.length_tail, ← e2]
      have := h k hk; omega
    · rw [if_neg e2]; exact h k hk
  · rw [if_neg e]; exact h k hk
/-- A cast of the call's own; X: blocks of the caller's that it leaves alone. -/
def Ct (w0 : World) (X : Nat → Prop) (w : World) (b n : Nat) (rows : Nat → List Pr) : Prop :=
  ∃ vs F, Cs w b n rows vs F ∧ (∀ g, F g → w0.heap.size ≤ g ∧ ¬ X g) ∧ Below w0.heap.size w0 w ∧ (∀ g, X g → g < w.heap.size) ∧ ∀ k, k < 8 → (rows k).length ≤ 16
section
variable {w0 w w' : World} {X : Nat → Prop} {b n : Nat} {rows : Nat → List Pr}
theorem Ct.call (h : Ct w0 X w b n rows) (hb : Below w.heap.size w w') : Ct w0 X w' b n rows := by
  obtain ⟨vs, F, h1, h2, h3, h4, h5⟩ := h
  exact ⟨vs, F, h1.call hb, h2, bthen h3 hb, fun g hg => Nat.lt_of_lt_of_le (h4 g hg) hb.size, h5⟩
theorem Ct.below (h : Ct w0 X w b n rows) : Below w0.heap.size w0 w := by
  obtain ⟨vs, F, h1, h2, h3, h4, h5⟩ := h
  exact h3
theorem Ct.drew (h : Ct w0 X w b n rows) : Ct w0 X w.drew b n rows := h.call (bd (Below.refl _ _))
theorem Ct.alloc (h : Ct w0 X w b n rows) (o : Obj) : Ct w0 X (w.alloc o) b n rows := h.call (ba (Below.refl _ _) o)
theorem Ct.cell0 (h : Ct w0 X w b n rows) : w.cell? ⟨b, 0, none⟩ = some (.int .i64 n) := by
  obtain ⟨vs, F, h1, h2, h3, h4, h5⟩ := h
  exact h1.cell0
theorem Ct.short (h : Ct w0 X w b n rows) : ∀ k, k < 8 → (rows k).length ≤ 16 := by
  obtain ⟨vs, F, h1, h2, h3, h4, h5⟩ := h
  exact h5
theorem Ct.n8 (h : Ct w0 X w b n rows) : n ≤ 8 := by
  obtain ⟨vs, F, h1, h2, h3, h4, h5⟩ := h
  exact h1.n8
theorem Ct.size (h : Ct w0 X w b n rows) : w0.heap.size ≤ w.heap.size := h.below.size
/-- A block of the caller's is left alone. -/
theorem Ct.lay (h : Ct w0 X w b n rows) (o : Obj) : Ct w0 (fun g => X g ∨ g = w.heap.size) (w.alloc o) b n rows := by
  obtain ⟨vs, F, h1, h2, h3, h4, h5⟩ := h
  refine ⟨vs, F, h1.alloc o, fun g hg => ⟨(h2 g hg).1, fun hx => ?_⟩, ba h3 o, fun g hg => ?_, h5⟩
  · rcases hx with hx | hx
    · exact (h2 g hg).2 hx
    · have := h1.lt g hg; omega
  · rw [World.size_alloc]
    rcases hg with hg | hg
    · have := h4 g hg; omega
    · omega
/-- Something of the caller's own turns. -/
theorem Ct.put {G : Nat → Prop} (h : Ct w0 X w b n rows) (hk : Keeps G w w') (hG : ∀ g, G g → X g ∧ w0.heap.size ≤ g) : Ct w0 X w' b n rows := by
  obtain ⟨vs, F, h1, h2, h3, h4, h5⟩ := h
  exact ⟨vs, F, h1.keep hk (fun g hg hg2 => (h2 g hg).2 (hG g hg2).1), h2, hk.below h3 (fun g hg => (hG g hg).2), fun g hg => Nat.lt_of_lt_of_le (h4 g hg) hk.size, h5⟩
theorem Ct.after {n : Nat} {rows rows' : Nat → List Pr} {vs vs' : Nat → Value} {F F' : Nat → Prop} (h1 : Cs w b n rows vs F) (h2 : ∀ g, F g → w0.heap.size ≤ g ∧ ¬ X g) (h3 : Below w0.heap.size w0 w) (h4 : ∀ g, X g → g < w.heap.size) (c1 : Cs w' b n rows' vs' F') (c2 : Keeps F w w') (c3 : ∀ g, F' g → F g ∨ w.heap.size ≤ g) (c4 : ∀ k, k < 8 → (rows' k).length ≤ 16) : Ct w0 X w' b n rows' ∧ Keeps (fun g => ¬ X g) w w' :=
  ⟨⟨vs', F', c1, fun g hg => (c3 g hg).elim (h2 g) (fun hs => ⟨Nat.le_trans h3.size hs, fun hx => by have := h4 g hx; omega⟩), c2.below h3 (fun g hg => (h2 g hg).1), fun g hg => Nat.lt_of_lt_of_le (h4 g hg) c2.size, c4⟩, c2.mono fun g hg => (h2 g hg).2⟩
end
theorem ct_new (n : Nat) (w0 w : World) (hB : Below w0.heap.size w0 w) (h1 : 1 ≤ n) (h8 : n ≤ 8) : Calls Try.prog 6 #[.int .i64 n] w fun e w' => e = .returned (.tuple #[.pointer (some ⟨w.heap.size, 0, none⟩), .int .i64 0]) ∧ Ct w0 (fun _ => False) w' w.heap.size n noRows ∧ Below w.heap.size w w' := by
  refine (cnew_yes n w h1 h8).mono ?_
  rintro e w' ⟨rfl, hc, hb⟩
  exact ⟨rfl, ⟨_, _, hc, fun g hg => ⟨by rw [hg]; exact hB.size, fun h => h⟩, bthen hB hb, fun g hg => hg.elim, fun k _ => by simp [noRows]⟩, hb⟩
theorem ct_send {w0 w : World} {X : Nat → Prop} {b n : Nat} {rows : Nat → List Pr} (h : Ct w0 X w b n rows) (x : Pr) (hp : 0 ≤ x.p) :
    Calls Try.prog 8 #[.pointer (some ⟨b, 0, none⟩), .int .i64 x.s, .agg #[.int .i8 x.k, .int .i64 x.a, .int .u64 x.p]] w fun e w' => e = .returned (.int .i64 (sndE n rows x)) ∧ Ct w0 X w' b n (sndR n rows x) ∧ Keeps (fun g => ¬ X g) w w' := by
  obtain ⟨vs, F, h1, h2, h3, h4, h5⟩ := h
  refine (csend_any b n rows vs F x w h1 hp (fun k hk => by have := h5 k hk; omega)).mono ?_
  rintro e w' ⟨vs', F', rfl, c1, c2, c3⟩
  obtain ⟨d1, d2⟩ := Ct.after h1 h2 h3 h4 c1 c2 c3 (sndR_short h5)
  exact ⟨rfl, d1, d2⟩
theorem ct_ack {w0 w : World} {X : Nat → Prop} {b n : Nat} {rows : Nat → List Pr} (h : Ct w0 X w b n rows) (c : Int) :
    Calls Try.prog 11 #[.pointer (some ⟨b, 0, none⟩), .int .i64 c] w fun e w' => e = .returned (.tuple #[.agg #[.int .i8 (firP n rows c).k, .int .i64 (firP n rows c).a, .int .u64 (firP n rows c).p], .int .i64 (firE n rows c)]) ∧ Ct w0 X w' b n (ackR n rows c) ∧ Keeps (fun g => ¬ X g) w w' := by
  obtain ⟨vs, F, h1, h2, h3, h4, h5⟩ := h
  refine (cack_any b n rows vs F c w h1).mono ?_
  rintro e w' ⟨vs', F', rfl, c1, c2, c3⟩
  obtain ⟨d1, d2⟩ := Ct.after h1 h2 h3 h4 c1 c2 c3 (ackR_short h5)
  exact ⟨rfl, d1, d2⟩
theorem ct_first {w0 w : World} {X : Nat → Prop} {b n : Nat} {rows : Nat → List Pr} (h : Ct w0 X w b n rows) (c : Int) :
    Calls Try.prog 10 #[.pointer (some ⟨b, 0, none⟩), .int .i64 c] w fun e w' => e = .returned (.tuple #[.int .i64 (firP n rows c).s, .agg #[.int .i8 (firP n rows c).k, .int .i64 (firP n rows c).a, .int .u64 (firP n rows c).p], .int .i64 (firE n rows c)]) ∧ Below w.heap.size w w' := by
  obtain ⟨vs, F, h1, h2, h3, h4, h5⟩ := h
  exact cfirst_any b n rows vs F c w h1
theorem ct_waits {w0 w : World} {X : Nat → Prop} {b n : Nat} {rows : Nat → List Pr} (h : Ct w0 X w b n rows) (c : Int) :
    Calls Try.prog 9 #[.pointer (some ⟨b, 0, none⟩), .int .i64 c] w fun e w' => e = .returned (.int .i64 (waitsN n rows c : Nat)) ∧ w = w' := by
  obtain ⟨vs, F, h1, h2, h3, h4, h5⟩ := h
  exact cwaits_any b n rows vs F c w h1
theorem ct_done {w0 w : World} {X : Nat → Prop} {b n : Nat} {rows : Nat → List Pr} (h : Ct w0 X w b n rows) (c : Int) :
    Calls Try.prog 12 #[.pointer (some ⟨b, 0, none⟩), .int .i64 c] w fun e w' => e = .returned (.bool (dnB n rows c)) ∧ Below w.heap.size w w' := by
  obtain ⟨vs, F, h1, h2, h3, h4, h5⟩ := h
  exact cdone_any b n rows vs F c w h1 (fun k hk => by have := h5 k hk; omega)
theorem Keeps.below0 {w0 w w' : World} {X : Nat → Prop} {b n : Nat} {rows : Nat → List Pr} (h : Ct w0 X w' b n rows) : Below w0.heap.size w0 w' := h.below
def wk1 : Nat → List Pr := sndR 3 noRows ⟨1, 0, 0, 0⟩
def wk2 : Nat → List Pr := ackR 3 wk1 2
def wk3 : Nat → List Pr := ackR 3 wk2 3
def wk4 : Nat → List Pr := ackR 3 wk3 1
set_option maxHeartbeats 1000000 in
theorem wakes13_any (w : World) : Calls Try.prog 7 #[] w fun e w' => e = .returned (.bool true) ∧ Below w.heap.size w w' := by
  have e1 : sndE 3 noRows ⟨1, 0, 0, 0⟩ = 0 := by decide
  have e2 : firE 3 wk1 2 = 0 := by decide
  have e3 : dnB 3 wk2 1 = false := by decide
  have e4 : firE 3 wk2 3 = 0 := by decide
  have e5 : firE 3 wk3 1 = 4 := by decide
  have e6 : dnB 3 wk4 1 = true := by decide
  have E1 := Lib.hid e1
  have E2 := Lib.hid e2
  have E3 := Lib.hid e3
  have E4 := Lib.hid e4
  have E5 := Lib.hid e5
  have E6 := Lib.hid e6
  clear e1 e2 e3 e4 e5 e6
  go_enter Try.func7, Try.ntmps7
  go_wp2_with fail
  refine (ct_new 3 w w (Below.refl _ _) (by omega) (by omega)).mono ?_
  rintro e w1 ⟨rfl, h1, -⟩
  go_wp2_with fail
  refine (ct_send h1 ⟨1, 0, 0, 0⟩ (by decide)).mono ?_
  rintro e w2 ⟨rfl, h2, -⟩
  rw [E1.out]
  go_wp2_with fail
  refine (ct_ack (show Ct w _ _ _ 3 wk1 from h2) 2).mono ?_
  rintro e w3 ⟨rfl, h3, -⟩
  rw [E2.out]
  go_wp2_with fail
  refine (ct_done (show Ct w _ _ _ 3 wk2 from h3.alloc _) 1).mono ?_
  rintro e w4 ⟨rfl, hb⟩
  rw [E3.out]
  have h4 : Ct w _ w4 _ 3 wk2 := (h3.alloc _).call hb
  clear hb h3 h2 h1
  go_wp2_with fail
  refine (ct_ack h4 3).mono ?_
  rintro e w5 ⟨rfl, h5, -⟩
  rw [E4.out]
  clear h4
  go_wp2_with fail
  refine (ct_ack (show Ct w _ _ _ 3 wk3 from h5.alloc _) 1).mono ?_
  rintro e w6 ⟨rfl, h6, -⟩
  rw [E5.out]
  clear h5
  go_wp2_with fail
  refine (ct_done (show Ct w _ _ _ 3 wk4 from h6.alloc _) 1).mono ?_
  rintro e w7 ⟨rfl, hb⟩
  rw [E6.out]
  have h7 : Ct w _ w7 _ 3 wk4 := (h6.alloc _).call hb
  clear hb h6
  go_wp2_with fail
  go_ret
  exact ⟨rfl, h7.below⟩
end Go.Proofs.Ytokmcelmodoeoaa
