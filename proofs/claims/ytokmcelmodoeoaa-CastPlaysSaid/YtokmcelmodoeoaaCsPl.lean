/-
  A cast and the document's one in one world.
-/
import Derived.Test.YtokmcelmodoeoaaCsIter
namespace Go.Proofs.Ytokmcelmodoeoaa
open Go.RowKit
set_option linter.unusedVariables false
set_option linter.unusedSimpArgs false
theorem rsend_any (q n : Nat) (L : List Rp) (v : Value) (F : Nat → Prop) (x : Pr) (w : World) (h : Rc w q n L v F) (hlen : L.length ≤ 900) :
    Calls Try.prog 14 #[.pointer (some ⟨q, 0, none⟩), .int .i64 x.s, .agg #[.int .i8 x.k, .int .i64 x.a, .int .u64 x.p]] w fun e w' => ∃ v' F', e = .returned (.int .i64 (rsE n L x)) ∧ Rc w' q n (rsL n L x) v' F' ∧ Keeps F w w' ∧ ∀ g, F' g → F g ∨ w.heap.size ≤ g := by
  rcases hx : (hasB n x.s && mayB x.k x.a x.p) with _ | _
  · refine (rsend_bad q n L v F x w h hx).mono ?_
    rintro e w' ⟨rfl, hb⟩
    have e1 : rsE n L x = 2 := by simp [rsE, hx]
    have e2 : rsL n L x = L := by simp [rsL, hx]
    rw [e1, e2]
    exact ⟨v, F, rfl, h.call hb, Keeps.of_below hb, fun g hg => Or.inl hg⟩
  · have hx' := hx
    rw [Bool.and_eq_true] at hx'
    have e1 : rsE n L x = rlE n L x.s := by simp [rsE, hx]
    have e2 : rsL n L x = rlL n L x := by simp [rsL, hx]
    rw [e1, e2]
    exact rsend_good q n L v F x w h hx'.1 hx'.2 hlen
theorem rack_any (q n : Nat) (L : List Rp) (v : Value) (F : Nat → Prop) (c : Int) (w : World) (h : Rc w q n L v F) :
    Calls Try.prog 15 #[.pointer (some ⟨q, 0, none⟩), .int .i64 c] w fun e w' => ∃ v' F', e = .returned (.tuple #[.agg #[.int .i8 (rfP n L c).k, .int .i64 (rfP n L c).a, .int .u64 (rfP n L c).p], .int .i64 (rfE n L c)]) ∧ Rc w' q n (raL n L c) v' F' ∧ Keeps F w w' ∧ ∀ g, F' g → F g ∨ w.heap.size ≤ g := by
  by_cases hf : rfE n L c = 0
  · have hh : hasB n c = true := by
      rcases hh : hasB n c with _ | _
      · simp [rfE, hh] at hf
      · rfl
    have h1 : atL L c < L.length := by
      unfold rfE at hf
      rw [if_pos hh] at hf
      by_cases h1 : atL L c < L.length
      · exact h1
      · rw [if_neg h1] at hf; omega
    have hx : L[atL L c]? = some (L.getD (atL L c) zR) := by
      rw [List.getD_eq_getElem?_getD, List.getElem?_eq_getElem h1]; rfl
    have e1 : rfP n L c = L.getD (atL L c) zR := by simp only [rfP, hh, if_true, if_pos h1]
    have e2 : raL n L c = L.eraseIdx (atL L c) := by unfold raL; rw [if_pos hf]
    refine (rack_yes q n L v F c w h hh _ h1 hx).mono ?_
    rintro e w' ⟨rfl, v', F', c1, c2, c3⟩
    rw [e1, e2, hf]
    exact ⟨v', F', rfl, c1, c2, c3⟩
  · refine (rack_no q n L v F c w h hf).mono ?_
    rintro e w' ⟨rfl, hb⟩
    have e1 : rfP n L c = zR := by
      unfold rfE at hf
      unfold rfP
      by_cases hh : hasB n c = true
      · rw [if_pos hh] at hf ⊢
        by_cases h1 : atL L c < L.length
        · rw [if_pos h1] at hf; exact absurd rfl hf
        · rw [if_neg h1]
      · rw [if_neg hh]
    have e2 : raL n L c = L := by unfold raL; rw [if_neg hf]
    rw [e1, e2]
    exact ⟨v, F, rfl, h.call hb, Keeps.of_below hb, fun g hg => Or.inl hg⟩
/-- Both; E: other blocks of the caller's that are left alone. -/
def Pl (w0 : World) (E : Nat → Prop) (w : World) (b n : Nat) (rows : Nat → List Pr) (q : Nat) (L : List Rp) : Prop :=
  ∃ (v : Value) (F : Nat → Prop), Rc w q n L v F ∧ Ct w0 (fun g => F g ∨ E g) w b n rows ∧ ∀ g, F g → w0.heap.size ≤ g ∧ ¬ E g
section
variable {w0 w w' : World} {E E' : Nat → Prop} {b n q : Nat} {rows rows' : Nat → List Pr} {L L' : List Rp}
theorem Pl.call (h : Pl w0 E w b n rows q L) (hb : Below w.heap.size w w') : Pl w0 E w' b n rows q L := by
  obtain ⟨v, F, h1, h2, h3⟩ := h
  exact ⟨v, F, h1.call hb, h2.call hb, h3⟩
theorem Pl.below (h : Pl w0 E w b n rows q L) : Below w0.heap.size w0 w := by
  obtain ⟨v, F, h1, h2, h3⟩ := h
  exact h2.below
theorem Pl.drew (h : Pl w0 E w b n rows q L) : Pl w0 E w.drew b n rows q L := h.call (bd (Below.refl _ _))
theorem Pl.short (h : Pl w0 E w b n rows q L) : ∀ k, k < 8 → (rows k).length ≤ 16 := by
  obtain ⟨v, F, h1, h2, h3⟩ := h
  exact h2.short
theorem Pl.sub (h : Pl w0 E w b n rows q L) (hs : ∀ g, E' g → E g) : Pl w0 E' w b n rows q L := by
  obtain ⟨v, F, h1, h2, h3⟩ := h
  exact ⟨v, F, h1, h2.sub (fun g hg => hg.imp id (hs g)), fun g hg => ⟨(h3 g hg).1, fun he => (h3 g hg).2 (hs g he)⟩⟩
theorem Pl.lay (h : Pl w0 E w b n rows q L) (o : Obj) : Pl w0 (fun g => E g ∨ g = w.heap.size) (w.alloc o) b n rows q L := by
  obtain ⟨v, F, h1, h2, h3⟩ := h
  refine ⟨v, F, h1.alloc o, (h2.lay o).sub (fun g hg => ?_), fun g hg => ⟨(h3 g hg).1, fun he => ?_⟩⟩
  · rcases hg with hg | hg | hg
    · exact Or.inl (Or.inl hg)
    · exact Or.inl (Or.inr hg)
    · exact Or.inr hg
  · rcases he with he | he
    · exact (h3 g hg).2 he
    · have := h1.lt g hg; omega
theorem pl_send_c (h : Pl w0 E w b n rows q L) (x : Pr) (hp : 0 ≤ x.p) :
    Calls Try.prog 8 #[.pointer (some ⟨b, 0, none⟩), .int .i64 x.s, .agg #[.int .i8 x.k, .int .i64 x.a, .int .u64 x.p]] w fun e w' => e = .returned (.int .i64 (sndE n rows x)) ∧ Pl w0 E w' b n (sndR n rows x) q L ∧ Keeps (fun g => ¬ E g) w w' := by
  obtain ⟨v, F, h1, h2, h3⟩ := h
  refine (ct_send h2 x hp).mono ?_
  rintro e w' ⟨rfl, c1, c2⟩
  exact ⟨rfl, ⟨v, F, h1.keep c2 (fun g hg hn => hn (Or.inl hg)), c1, h3⟩, c2.mono fun g hg he => hg (Or.inr he)⟩
theorem pl_ack_c (h : Pl w0 E w b n rows q L) (c : Int) :
    Calls Try.prog 11 #[.pointer (some ⟨b, 0, none⟩), .int .i64 c] w fun e w' => e = .returned (.tuple #[.agg #[.int .i8 (firP n rows c).k, .int .i64 (firP n rows c).a, .int .u64 (firP n rows c).p], .int .i64 (firE n rows c)]) ∧ Pl w0 E w' b n (ackR n rows c) q L ∧ Keeps (fun g => ¬ E g) w w' := by
  obtain ⟨v, F, h1, h2, h3⟩ := h
  refine (ct_ack h2 c).mono ?_
  rintro e w' ⟨rfl, c1, c2⟩
  exact ⟨rfl, ⟨v, F, h1.keep c2 (fun g hg hn => hn (Or.inl hg)), c1, h3⟩, c2.mono fun g hg he => hg (Or.inr he)⟩
theorem pl_first_c (h : Pl w0 E w b n rows q L) (c : Int) : Calls Try.prog 10 #[.pointer (some ⟨b, 0, none⟩), .int .i64 c] w fun e w' => e = .returned (.tuple #[.int .i64 (firP n rows c).s, .agg #[.int .i8 (firP n rows c).k, .int .i64 (firP n rows c).a, .int .u64 (firP n rows c).p], .int .i64 (firE n rows c)]) ∧ Below w.heap.size w w' := by
  obtain ⟨v, F, h1, h2, h3⟩ := h
  exact ct_first h2 c
theorem pl_waits_c (h : Pl w0 E w b n rows q L) (c : Int) : Calls Try.prog 9 #[.pointer (some ⟨b, 0, none⟩), .int .i64 c] w fun e w' => e = .returned (.int .i64 (waitsN n rows c : Nat)) ∧ w = w' := by
  obtain ⟨v, F, h1, h2, h3⟩ := h
  exact ct_waits h2 c
theorem pl_done_c (h : Pl w0 E w b n rows q L) (c : Int) : Calls Try.prog 12 #[.pointer (some ⟨b, 0, none⟩), .int .i64 c] w fun e w' => e = .returned (.bool (dnB n rows c)) ∧ Below w.heap.size w w' := by
  obtain ⟨v, F, h1, h2, h3⟩ := h
  exact ct_done h2 c
theorem pl_all_c (h : Pl w0 E w b n rows q L) : Calls Try.prog 20 #[.pointer (some ⟨b, 0, none⟩)] w fun e w' => ∃ R, e = .returned (.func (.func 28) #[] #[.pointer (some ⟨R, 0, none⟩)]) ∧ Rd w' R rows 8 ∧ w.heap.size ≤ R ∧ Below w.heap.size w w' := by
  obtain ⟨v, F, h1, h2, h3⟩ := h
  obtain ⟨vs, F2, c1, c2, c3, c4, c5⟩ := h2
  exact call_any b n rows vs F2 w c1 (fun k hk => by have := c5 k hk; omega)
theorem Pl.ref {v' : Value} {F F' : Nat → Prop} (h2 : Ct w0 (fun g => F g ∨ E g) w b n rows) (h3 : ∀ g, F g → w0.heap.size ≤ g ∧ ¬ E g) (c1 : Rc w' q n L' v' F') (c2 : Keeps F w w') (c3 : ∀ g, F' g → F g ∨ w.heap.size ≤ g) : Pl w0 E w' b n rows q L' ∧ Keeps (fun g => ¬ E g) w w' := by
  refine ⟨⟨v', F', c1, (h2.grow c2 (fun g hg => ⟨Or.inl hg, (h3 g hg).1⟩)).sub (fun g hg => ?_), fun g hg => ?_⟩, c2.mono fun g hg he => (h3 g hg).2 he⟩
  · rcases hg with hg | hg
    · rcases c3 g hg with h | h
      · exact Or.inl (Or.inl h)
      · exact Or.inr ⟨h, c1.lt g hg⟩
    · exact Or.inl (Or.inr hg)
  · rcases c3 g hg with h | h
    · exact h3 g h
    · exact ⟨Nat.le_trans h2.size h, fun he => by have := h2.lt g (Or.inr he); omega⟩
theorem pl_send_r (h : Pl w0 E w b n rows q L) (hlen : L.length ≤ 900) (x : Pr) :
    Calls Try.prog 14 #[.pointer (some ⟨q, 0, none⟩), .int .i64 x.s, .agg #[.int .i8 x.k, .int .i64 x.a, .int .u64 x.p]] w fun e w' => e = .returned (.int .i64 (rsE n L x)) ∧ Pl w0 E w' b n rows q (rsL n L x) ∧ Keeps (fun g => ¬ E g) w w' := by
  obtain ⟨v, F, h1, h2, h3⟩ := h
  refine (rsend_any q n L v F x w h1 hlen).mono ?_
  rintro e w' ⟨v', F', rfl, c1, c2, c3⟩
  exact ⟨rfl, Pl.ref h2 h3 c1 c2 c3⟩
theorem pl_ack_r (h : Pl w0 E w b n rows q L) (c : Int) :
    Calls Try.prog 15 #[.pointer (some ⟨q, 0, none⟩), .int .i64 c] w fun e w' => e = .returned (.tuple #[.agg #[.int .i8 (rfP n L c).k, .int .i64 (rfP n L c).a, .int .u64 (rfP n L c).p], .int .i64 (rfE n L c)]) ∧ Pl w0 E w' b n rows q (raL n L c) ∧ Keeps (fun g => ¬ E g) w w' := by
  obtain ⟨v, F, h1, h2, h3⟩ := h
  refine (rack_any q n L v F c w h1).mono ?_
  rintro e w' ⟨v', F', rfl, c1, c2, c3⟩
  exact ⟨rfl, Pl.ref h2 h3 c1 c2 c3⟩
theorem pl_first_r (h : Pl w0 E w b n rows q L) (c : Int) : Calls Try.prog 16 #[.pointer (some ⟨q, 0, none⟩), .int .i64 c] w fun e w' => e = .returned (.tuple #[.int .i64 (rfP n L c).s, .agg #[.int .i8 (rfP n L c).k, .int .i64 (rfP n L c).a, .int .u64 (rfP n L c).p], .int .i64 (rfE n L c)]) ∧ Below w.heap.size w w' := by
  obtain ⟨v, F, h1, h2, h3⟩ := h
  exact rfirst_any q n L v F c w h1
theorem pl_waits_r (h : Pl w0 E w b n rows q L) (c : Int) : Calls Try.prog 18 #[.pointer (some ⟨q, 0, none⟩), .int .i64 c] w fun e w' => e = .returned (.int .i64 (cntL L c : Nat)) ∧ w = w' := by
  obtain ⟨v, F, h1, h2, h3⟩ := h
  exact rwaits_any q n L v F c w h1
theorem pl_done_r (h : Pl w0 E w b n rows q L) (c : Int) : Calls Try.prog 17 #[.pointer (some ⟨q, 0, none⟩), .int .i64 c] w fun e w' => e = .returned (.bool (doneL L c)) ∧ w = w' := by
  obtain ⟨v, F, h1, h2, h3⟩ := h
  exact rdone_any q n L v F c w h1
theorem pl_all_r (h : Pl w0 E w b n rows q L) : Calls Try.prog 19 #[.pointer (some ⟨q, 0, none⟩)] w fun e w' => ∃ v', e = .returned v' ∧ Ow encR 5 57 w' w.heap.size v' (allL L n) ∧ Below w.heap.size w w' := by
  obtain ⟨v, F, h1, h2, h3⟩ := h
  exact rall_any q n L v F w h1
end
theorem pl_new {w0 W w1 w2 : World} {n : Nat} {E : Nat → Prop} (hB : Below w0.heap.size w0 W) (hc : Cs w1 W.heap.size n noRows nilVs (fun g => g = W.heap.size)) (hb1 : Below W.heap.size W w1) (hr : Rc w2 w1.heap.size n [] (.slice none 0 0) (fun g => g = w1.heap.size)) (hb : Below w1.heap.size w1 w2) (hE : ∀ g, E g → g < W.heap.size) : Pl w0 E w2 W.heap.size n noRows w1.heap.size [] := by
  have hlt := hc.blt
  have hlt2 := hr.blt
  refine ⟨_, _, hr, ⟨_, _, hc.call hb, fun g hg => ⟨by rw [hg]; exact hB.size, fun h => ?_⟩, bthen (bthen hB hb1) hb, fun g hg => ?_, fun k _ => by simp [noRows]⟩, fun g hg => ⟨?_, fun h => ?_⟩⟩
  · rcases h with h | h
    · omega
    · have := hE g h; omega
  · rcases hg with hg | hg
    · omega
    · have := hE g hg; omega
  · rw [hg]; have := hB.size; omega
  · have := hE g h; omega
end Go.Proofs.Ytokmcelmodoeoaa
