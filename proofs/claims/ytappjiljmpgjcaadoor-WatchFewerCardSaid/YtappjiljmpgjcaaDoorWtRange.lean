/-
  A range over a function whose rounds always go on, where the iterator itself may turn blocks: a state s goes from s0 to s1.
-/
import Derived.Test.YtappjiljmpgjcaaDoorCommon
import Derived.Test.YtappjiljmpgjcaaDoorKeep
import Derived.RangeFuncNested
import Derived.RangeFuncLeaves
namespace Go.Proofs.YtappjiljmpgjcaaDoor
open Go.RowKit
set_option linter.unusedVariables false
theorem range_all {σ α : Type} {g : Operand} {ps : Array Tmp} {assign body : Code} {Q : Exit → Go.Act → World → Prop} {a : Go.Act} {w : World} {gf : Nat} {lb : Array Value}
    (hg : a.eval g = .func (.func gf) #[] lb) (eg : ∀ args w, (callFunc gf args).run Tryd.prog w = .ok (.enter gf args) w) (encs : α → Array Value) (hps : ∀ x, (encs x).size = ps.size)
    (J : σ → World → Prop) (C : Nat → Prop) (hC : ∀ x, C x → x < w.heap.size ∨ w.heap.size + 2 ≤ x) (ok : σ → α → Prop) (nx : σ → α → σ) (s0 : σ) (J1 : World → Prop)
    (hJ1put : ∀ W k o, J1 W → w.heap.size ≤ k → k < w.heap.size + 2 → J1 (W.putObj k o))
    (hJput : ∀ s W k o, J s W → w.heap.size ≤ k → k < w.heap.size + 2 → J s (W.putObj k o))
    (hJ0 : ∀ o, J s0 ((w.alloc (.deferred (some []))).alloc o))
    (hround : ∀ (m l : Nat) s x W, l = w.heap.size + 1 → ok s x → J s W → w.heap.size + 2 ≤ W.heap.size →
      assign.wpIn (Fence.wide.inRound l) m Tryd.prog (Exit.then (fun a₁ w₁ => J s w₁ ∧ Keeps C W w₁ ∧ ∀ w₂, J s w₂ → Keeps (fun x => x = l) w₁ w₂ → body.wpIn (Fence.wide.inRound l) m Tryd.prog (fun e _ w₃ => e = .normal ∧ J (nx s x) w₃ ∧ Keeps C w₂ w₃) a₁ w₂) (fun _ _ _ => False))
        { tmps := (ps.zip (encs x)).foldl (fun t (p, v) => t.setIfInBounds p v) a.tmps, defers := [] } W)
    (hit : ∀ (l : Nat) (Rec : World → Prop) (W1 : World), l = w.heap.size + 1 → Below w.heap.size w W1 → W1.heap.size = w.heap.size + 2 → J s0 W1 → Rec W1 → (∀ (D : Nat → Prop) W W', Rec W → Keeps D W W' → ¬ D w.heap.size → ¬ D (w.heap.size + 1) → Rec W') → (∀ W, Rec W → ∃ lp, W.heap[w.heap.size + 1]? = some (.loop lp)) →
      (∀ m s x W, ok s x → J s W → Rec W → w.heap.size + 2 ≤ W.heap.size → YieldAt Fence.wide m Tryd.prog l (encs x) W fun e W' => e = .returned (.bool true) ∧ J (nx s x) W' ∧ Rec W' ∧ Keeps (fun y => C y ∨ y = w.heap.size + 1) W W') →
      CallsIn Fence.wide 19 Tryd.prog gf (#[.func (.yield l) #[] #[]] ++ lb) W1 fun e W' => (∃ v, e = .returned v) ∧ J1 W' ∧ Rec W')
    (hdone : ∀ W, J1 W → W.heap[w.heap.size]? = some (.deferred (some [])) → Q .normal { a with defers := { target := .collected w.heap.size, args := #[] } :: a.defers } W) :
    (Code.rangeFunc g ps assign body).wpIn Fence.wide 20 Tryd.prog Q a w := by
  refine wpIn_rangeFunc ?_
  intro fn hfn
  obtain ⟨rec, hrec⟩ : ∃ rec : LoopState → Option Code → Loop, rec = fun st pe => { state := st, pending := pe, fn, tmps := a.tmps, params := ps, assign, body, defers := w.heap.size } := ⟨_, rfl⟩
  obtain ⟨W1, hW1⟩ : ∃ W1, (w.alloc (.deferred (some []))).alloc (.loop (rec .ready none)) = W1 := ⟨_, rfl⟩
  have hz1 : W1.heap.size = w.heap.size + 2 := by rw [← hW1]; simp
  have hL1 : W1.heap[w.heap.size + 1]? = some (.loop (rec .ready none)) := by
    rw [← hW1]; have := World.alloc_heap_new (w.alloc (.deferred (some []))) (.loop (rec .ready none)); rwa [World.size_alloc] at this
  have hD1 : W1.heap[w.heap.size]? = some (.deferred (some [])) := by
    rw [← hW1]; exact (Below.heap_alloc _ _ _ (by simp)).trans (World.alloc_heap_new w _)
  have hb1 : Below w.heap.size w W1 := by rw [← hW1]; exact ba (ba (Below.refl _ _) _) _
  have hJ1 : J s0 W1 := by rw [← hW1]; exact hJ0 _
  refine ⟨w.heap.size + 1, [{ target := .collected w.heap.size, args := #[] }], W1, { target := .fn (.func gf) lb, args := #[.func (.yield (w.heap.size + 1)) #[] #[]] }, W1, gf,
    #[.func (.yield (w.heap.size + 1)) #[] #[]] ++ lb, W1, ?_, ?_, fun _ _ => trivial, ?_, fun _ => by omega, ?_⟩
  · rw [← hW1, hrec]; exact run_enterLoop_outer _ _ _ _ _
  · simp only [resolve, hg]
    simp [go_sem]
  · simp [invoke, go_sem, eg]
  · refine (hit (w.heap.size + 1) (fun W => W.heap[w.heap.size + 1]? = some (.loop (rec .ready none)) ∧ W.heap[w.heap.size]? = some (.deferred (some []))) W1 rfl hb1 hz1 hJ1 ⟨hL1, hD1⟩ ?_ (fun W h => ⟨_, h.1⟩) ?_).mono ?_
    · rintro D W W' ⟨h1, h2⟩ hk n0 n1
      exact ⟨(hk.block _ (Array.getElem?_eq_some_iff.1 h1).1 n1).trans h1, (hk.block _ (Array.getElem?_eq_some_iff.1 h2).1 n0).trans h2⟩
    · rintro m s x W hok hJ ⟨hl, hd⟩ hz
      have hlt : w.heap.size + 1 < W.heap.size := (Array.getElem?_eq_some_iff.1 hl).1
      have hy := run_yield (P := Tryd.prog) (args := encs x) hl (by rw [hrec]; exact hps x)
      rw [hrec] at hy
      refine ⟨fn, _, assign, body, hy, roundIn_of_wpIn hfn (wpIn_mono (hround m (w.heap.size + 1) s x W rfl hok hJ hz) ?_)⟩
      clear hy
      intro e a₁ w₁ hp
      cases e <;> first | exact hp.elim | skip
      obtain ⟨hJ1', hk1, hbd⟩ := hp
      have nC0 : ¬ C w.heap.size := fun h => by have := hC _ h; omega
      have nC1 : ¬ C (w.heap.size + 1) := fun h => by have := hC _ h; omega
      have hs1 := hk1.size
      have hl' : w₁.heap[w.heap.size + 1]? = some (.loop (rec .ready none)) := (hk1.block (w.heap.size + 1) hlt nC1).trans hl
      have hd' : w₁.heap[w.heap.size]? = some (.deferred (some [])) := (hk1.block w.heap.size (by omega) nC0).trans hd
      have hlt' : w.heap.size + 1 < w₁.heap.size := by omega
      refine ⟨_, run_beginRound hl' (by rw [hrec]), ?_⟩
      have hl2 : (w₁.putObj (w.heap.size + 1) (.loop { rec .ready none with state := .busy })).heap[w.heap.size + 1]? = some (.loop { rec .ready none with state := .busy }) := World.putObj_heap_same hlt'
      have hd2 : (w₁.putObj (w.heap.size + 1) (.loop { rec .ready none with state := .busy })).heap[w.heap.size]? = some (.deferred (some [])) := (World.putObj_heap_other (by omega)).trans hd'
      have hk2 : ∀ (W : World) (o : Obj), Keeps (fun x => x = w.heap.size + 1) W (W.putObj (w.heap.size + 1) o) := fun W o => ⟨rfl, rfl, rfl, by simp [World.putObj], fun k _ hn => World.putObj_heap_other hn⟩
      have hz2 : (w₁.putObj (w.heap.size + 1) (.loop { rec .ready none with state := .busy })).heap.size = w₁.heap.size := by simp [World.putObj]
      refine wpIn_mono (hbd _ (hJput _ _ _ _ hJ1' (by omega) (by omega)) (hk2 _ _)) ?_
      rintro e a₃ W3 ⟨rfl, hJ3, hk3⟩
      have hs3 := hk3.size
      rw [hz2] at hs3
      have hl3 : W3.heap[w.heap.size + 1]? = some (.loop { rec .ready none with state := .busy }) := (hk3.block (w.heap.size + 1) (by rw [hz2]; omega) nC1).trans hl2
      have hd3 : W3.heap[w.heap.size]? = some (.deferred (some [])) := (hk3.block w.heap.size (by rw [hz2]; omega) nC0).trans hd2
      have hend := run_endRound (P := Tryd.prog) none hl3
      rw [hrec] at hend
      have hall : Keeps (fun y => C y ∨ y = w.heap.size + 1) W W3 := ((hk1.mono (fun x hx => .inl hx)).trans ((hk2 _ _).mono (fun x hx => .inr hx)) (fun x hx => .inl hx)).trans (hk3.mono (fun x hx => .inl hx)) (fun x hx => .inl hx)
      refine ⟨_, _, hend, rfl, hJput _ _ _ _ hJ3 (by omega) (by omega), ⟨?_, ?_⟩, hall.trans ((hk2 _ _).mono (fun x hx => .inr hx)) (fun x hx => .inl hx)⟩
      · rw [hrec]; exact World.putObj_heap_same (Array.getElem?_eq_some_iff.1 hl3).1
      · exact (World.putObj_heap_other (by omega)).trans hd3
    · rintro e W2 ⟨⟨v, rfl⟩, hJ2, hl, hd⟩
      have he := run_endLoop (P := Tryd.prog) hl (by rw [hrec]; simp)
      rw [hrec] at he
      exact ⟨none, _, he, hdone _ (hJ1put W2 (w.heap.size + 1) _ hJ2 (by omega) (by omega)) ((World.putObj_heap_other (by omega)).trans hd)⟩
end Go.Proofs.YtappjiljmpgjcaaDoor
