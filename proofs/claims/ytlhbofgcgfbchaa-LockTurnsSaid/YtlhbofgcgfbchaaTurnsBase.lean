/-
  A row of ints of the call's own that is cut at its head and grows at its end; arrays of nine; what LockTurns carries.
-/
import Derived.Test.YtlhbofgcgfbchaaTurnsPlain
import Derived.ArgAppend
import Derived.Laws.OwnMore
namespace Go.Proofs.Ytlhbofgcgfbchaa
open Go.RowKit Go.Maps
set_option linter.unusedVariables false
set_option linter.unusedSimpArgs false

/-- The slice v holds the ints q, in a block of H. -/
def Ord (w : World) (v : Value) (q : List Int) (H : Nat → Prop) : Prop :=
  (∃ O, v = .slice O 0 0 ∧ q = []) ∨
  ∃ b off cap : Nat, ∃ cs : Array Value, v = .slice (some ⟨b, off, none⟩) q.length cap ∧ q.length ≤ cap ∧ cap ≤ maxLen ∧ Bk w b 3 cs ∧ off + cap ≤ cs.size ∧ (∀ j x, q[j]? = some x → cs[off + j]? = some (.int .i64 x)) ∧ H b
theorem Ord.keep {w w' : World} {v : Value} {q : List Int} {H F : Nat → Prop} (h : Ord w v q H) (hk : Keeps F w w') (hd : ∀ y, H y → ¬ F y) : Ord w' v q H :=
  h.imp id fun ⟨b, off, cap, cs, a1, a2, a3, a4, a5, a6, a7⟩ => ⟨b, off, cap, cs, a1, a2, a3, a4.keep hk (hd b a7), a5, a6, a7⟩
theorem Ord.far {w : World} {v : Value} {q : List Int} {H : Nat → Prop} (h : Ord w v q H) {p : Addr} (hd : ∀ y, H y → y ≠ p.block) (u : Value) : Ord (w.setCell p u) v q H :=
  h.imp id fun ⟨b, off, cap, cs, a1, a2, a3, a4, a5, a6, a7⟩ => ⟨b, off, cap, cs, a1, a2, a3, a4.far (hd b a7) u, a5, a6, a7⟩
theorem Ord.len {w : World} {v : Value} {q : List Int} {H : Nat → Prop} (h : Ord w v q H) : ∃ O cap, v = .slice O q.length cap := by
  rcases h with ⟨O, rfl, rfl⟩ | ⟨b, off, cap, cs, rfl, _⟩
  · exact ⟨O, 0, rfl⟩
  · exact ⟨_, cap, rfl⟩
theorem Ord.of_own {w : World} {base : Nat} {v : Value} {q : List Int} (h : w.ownsRow base 3 1 v q.length (q.map (Value.int .i64))) (H : Nat → Prop) : ∃ g, (base ≤ g ∧ g < w.heap.size ∧ Ord w v q (fun y => H y ∨ y = g)) ∨ (q = [] ∧ v = .slice none 0 0) := by
  obtain ⟨hl, h⟩ := h
  rcases h with ⟨rfl, hq⟩ | ⟨g, cap, cur, rfl, hb, hh, hc1, hc2, hc3, hc4⟩
  · exact ⟨0, .inr ⟨by simpa using hq, rfl⟩⟩
  · refine ⟨g, .inl ⟨hb, (Array.getElem?_eq_some_iff.1 hh).1, .inr ⟨g, 0, cap, cur, rfl, hc1, hc2, hh, by omega, fun j x hx => ?_, .inr rfl⟩⟩⟩
    have hj : j < q.length := (List.getElem?_eq_some_iff.1 hx).1
    have e : (q.map (Value.int .i64))[j]? = some (.int .i64 x) := by rw [List.getElem?_map, hx]; rfl
    rw [← hc4, List.getElem?_take] at e
    rw [Nat.zero_add]
    rw [if_pos (by simpa using hj)] at e
    simpa using e
theorem intInfo : ∃ i, Try.prog.info? 3 = some i ∧ i.zero = some (.int .i64 0) ∧ i.size = 1 ∧ i.bytes = 8 := by
  have h : (Try.prog.info? 3).map (fun i => (i.zero, i.size, i.bytes)) = some (some (.int .i64 0), 1, 8) := by kernel_rfl
  cases hq : Try.prog.info? 3 with
  | none => simp [hq] at h
  | some i => simp [hq] at h; exact ⟨i, rfl, h.1, h.2.1, h.2.2⟩
/-- One more at the end. -/
theorem Ord.app {w : World} {v : Value} {q : List Int} {H : Nat → Prop} (h : Ord w v q H) (ty : TypeId) (g : Nat) (x : Int) (hx : w.cell? ⟨g, 0, none⟩ = some (.int .i64 x)) (hq : q.length ≤ 1000000) (lH : ∀ y, H y → y < w.heap.size) :
    ∃ v' w' H', (Builtin.append_ #[53, 53] ty #[v, .slice (some ⟨g, 0, none⟩) 1 1]).run Try.prog w = .ok v' w' ∧ Ord w' v' (q ++ [x]) H' ∧ Keeps H w w' ∧ (∀ y, H' y → H y ∨ w.heap.size ≤ y) ∧ ∀ y, H' y → y < w'.heap.size := by
  obtain ⟨i, hi, h1, h2, h3⟩ := intInfo
  have hn : ∀ j u, [Value.int .i64 x][j]? = some u → w.cell? ((⟨g, 0, none⟩ : Addr).add j) = some u := fun j u hj => by
    have : j = 0 := by have := (List.getElem?_eq_some_iff.1 hj).1; simp at this; omega
    subst this
    simp at hj
    subst hj
    exact hx
  have fin : ∀ v' w', w'.ownsRow w.heap.size 3 1 v' (q.length + 1) (q.map (Value.int .i64) ++ [Value.int .i64 x]) → w.grownBy w' none → ∃ H', Ord w' v' (q ++ [x]) H' ∧ Keeps H w w' ∧ (∀ y, H' y → H y ∨ w.heap.size ≤ y) ∧ ∀ y, H' y → y < w'.heap.size := by
    intro v' w' ho hg
    have ho' : w'.ownsRow w.heap.size 3 1 v' (q ++ [x]).length ((q ++ [x]).map (Value.int .i64)) := by simpa using ho
    obtain ⟨g', ⟨hb, hlt, hO⟩ | ⟨he, _⟩⟩ := Ord.of_own ho' H
    · exact ⟨_, hO, ⟨hg.os, hg.tape, hg.output, hg.size, fun k hk _ => hg.block k hk (by simp)⟩, fun y hy => hy.imp id (fun e => by omega), fun y hy => hy.elim (fun h => Nat.lt_of_lt_of_le (lH y h) hg.size) (fun e => by omega)⟩
    · simp at he
  rcases h with ⟨O, rfl, rfl⟩ | ⟨b, off, cap, cs, rfl, a2, a3, a4, a5, a6, a7⟩
  · cases O with
    | none =>
      obtain ⟨v', w', hrun, r1, r2, _⟩ := run_append_own (P := Try.prog) w w.heap.size 53 ty 3 i (.int .i64 0) 1 8 Try.underlying53 hi h1 h2 h3 rfl (by decide) (.slice none 0 0) 0 [] (World.ownsRow_nil w _ 3 1) ⟨g, 0, none⟩ 1 1 [.int .i64 x] rfl hn (by simp [Value.oneCell']) (by unfold maxLen; omega) (by omega) (Nat.le_refl _)
      obtain ⟨H', f1, f2, f3, f4⟩ := fin v' w' r1 r2
      exact ⟨v', w', H', hrun, f1, f2, f3, f4⟩
    | some a =>
      obtain ⟨v', w', hrun, r1, r2⟩ := run_append_arg_grows (P := Try.prog) w 53 ty 3 i (.int .i64 0) 1 8 Try.underlying53 hi h1 h2 h3 rfl (by decide) a 0 0 [] rfl (by simp) ⟨g, 0, none⟩ 1 1 [.int .i64 x] rfl hn (by omega) (by unfold maxLen; omega) (by omega)
      obtain ⟨H', f1, f2, f3, f4⟩ := fin v' w' r1 r2
      exact ⟨v', w', H', hrun, f1, f2, f3, f4⟩
  · by_cases hr : q.length + 1 ≤ cap
    · have hrun := run_append_room_cells (P := Try.prog) w 53 ty 3 i Try.underlying53 hi b off q.length cap ⟨g, 0, none⟩ 1 1 [.int .i64 x] (by rw [h2]; rfl) hn (by simp [Value.oneCell']) hr
        (fun j hj => by
          have : j = 0 := by simp at hj; omega
          subst this
          rw [h2, a4.cell, Array.getElem?_eq_getElem (by omega)]
          rfl)
        (fun j hj => a4.frozen _)
      rw [h2, Nat.mul_one] at hrun
      refine ⟨_, _, H, hrun, .inr ⟨b, off, cap, cs.setIfInBounds (off + q.length) (.int .i64 x), by simp, by simpa using hr, a3, a4.set _ _, by simpa using a5, fun j y hj => ?_, a7⟩, Keeps.setCell (p := ⟨b, off + q.length, none⟩) a7 _, fun y hy => .inl hy, fun y hy => by have := lH y hy; simpa [World.setCells] using this⟩
      rcases Nat.lt_or_ge j q.length with hl | hl
      · rw [List.getElem?_append_left hl] at hj
        rw [Array.getElem?_setIfInBounds_ne (by omega)]
        exact a6 j y hj
      · rw [List.getElem?_append_right hl] at hj
        have hj0 : j - q.length = 0 := by have := (List.getElem?_eq_some_iff.1 hj).1; simp at this; omega
        rw [hj0] at hj
        simp at hj
        subst hj
        have : j = q.length := by omega
        subst this
        rw [Array.getElem?_setIfInBounds_self_of_lt (by omega)]
    · obtain ⟨v', w', hrun, r1, r2⟩ := run_append_arg_grows (P := Try.prog) w 53 ty 3 i (.int .i64 0) 1 8 Try.underlying53 hi h1 h2 h3 rfl (by decide) ⟨b, off, none⟩ q.length cap (q.map (Value.int .i64)) (by simp)
        (fun j u hj => by
          rw [List.getElem?_map] at hj
          rcases hq' : q[j]? with _ | y
          · rw [hq'] at hj; cases hj
          · rw [hq'] at hj
            simp at hj
            subst hj
            rw [show (⟨b, off, none⟩ : Addr).add j = ⟨b, off + j, none⟩ by unfold Addr.add; split <;> simp_all, a4.cell]
            exact a6 j y hq')
        ⟨g, 0, none⟩ 1 1 [.int .i64 x] rfl hn (by omega) (by unfold maxLen; omega) (by omega)
      obtain ⟨H', f1, f2, f3, f4⟩ := fin v' w' r1 r2
      exact ⟨v', w', H', hrun, f1, f2, f3, f4⟩
/-- .. at the operation, for the walk. -/
theorem wpList_ord_app (w : World) {ops : Array Oper} {rest : List Oper} {o : Oper} {a : Act} {Q : Exit → Act → World → Prop} (hg : o.guard = none) (s x : Operand)
    (hop : o.op = Op.call { callee := Callee.builtin Builtin.append, args := #[s, x], argTypes := #[53, 53] }) {v : Value} {q : List Int} {H : Nat → Prop} {g : Nat} {y : Int} (hs : a.eval s = v) (hx : a.eval x = .slice (some ⟨g, 0, none⟩) 1 1)
    (h : Ord w v q H) (hc : w.cell? ⟨g, 0, none⟩ = some (.int .i64 y)) (hq : q.length ≤ 1000000) (lH : ∀ z, H z → z < w.heap.size)
    (hK : ∀ v' w' H', Ord w' v' (q ++ [y]) H' → Keeps H w w' → (∀ z, H' z → H z ∨ w.heap.size ≤ z) → (∀ z, H' z → z < w'.heap.size) → wpList Try.prog ops Q rest (a.put o.dst v') w') : wpList Try.prog ops Q (o :: rest) a w := by
  refine wpList_plain hg fun K hK' => ?_
  obtain ⟨v', w', H', hrun, o1, o2, o3, o4⟩ := h.app o.type g y hc hq lH
  unfold Oper.wp
  simp [execOp, hop, resolve, invoke, builtin, hs, hx, hrun, Result.andThen]
  exact hK' _ _ (hK v' w' H' o1 o2 o3 o4)
/-- Nine ints, nine words. -/
def nineI (f : Nat → Int) : Array Value := #[.int .i64 (f 0), .int .i64 (f 1), .int .i64 (f 2), .int .i64 (f 3), .int .i64 (f 4), .int .i64 (f 5), .int .i64 (f 6), .int .i64 (f 7), .int .i64 (f 8)]
def nineU (f : Nat → Int) : Array Value := #[.int .u64 (f 0), .int .u64 (f 1), .int .u64 (f 2), .int .u64 (f 3), .int .u64 (f 4), .int .u64 (f 5), .int .u64 (f 6), .int .u64 (f 7), .int .u64 (f 8)]
theorem nine_cases {i : Nat} (h : i ≤ 8) : i = 0 ∨ i = 1 ∨ i = 2 ∨ i = 3 ∨ i = 4 ∨ i = 5 ∨ i = 6 ∨ i = 7 ∨ i = 8 := by omega
theorem nineI_at (f : Nat → Int) {i : Nat} (h : i ≤ 8) : (nineI f)[i]? = some (.int .i64 (f i)) := by
  rcases nine_cases h with rfl | rfl | rfl | rfl | rfl | rfl | rfl | rfl | rfl <;> rfl
theorem nineU_at (f : Nat → Int) {i : Nat} (h : i ≤ 8) : (nineU f)[i]? = some (.int .u64 (f i)) := by
  rcases nine_cases h with rfl | rfl | rfl | rfl | rfl | rfl | rfl | rfl | rfl <;> rfl
theorem nineI_set (f : Nat → Int) {i : Nat} (h : i ≤ 8) (v : Int) : (nineI f).setIfInBounds i (.int .i64 v) = nineI (upd f i v) := by
  rcases nine_cases h with rfl | rfl | rfl | rfl | rfl | rfl | rfl | rfl | rfl <;> rfl
theorem nineU_set (f : Nat → Int) {i : Nat} (h : i ≤ 8) (v : Int) : (nineU f).setIfInBounds i (.int .u64 v) = nineU (upd f i v) := by
  rcases nine_cases h with rfl | rfl | rfl | rfl | rfl | rfl | rfl | rfl | rfl <;> rfl
/-- All that LockTurns has in memory. -/
structure Tn (w0 w : World) (p bp bt : Nat) (v : Value) (c : Nat → Nat → Int) (F H : Nat → Prop) (k : Nat) (q : List Int) (ph tk : Nat → Int) : Prop where
  mem : MemS w p 1 c F k
  php : Bk w bp 65 (nineI ph)
  tkt : Bk w bt 66 (nineU tk)
  ord : Ord w v q H
  sF : ∀ y, F y → ¬ H y ∧ y ≠ bp ∧ y ≠ bt
  sH : ∀ y, H y → y ≠ bp ∧ y ≠ bt
  hF : ∀ y, F y → w0.heap.size ≤ y
  hH : ∀ y, H y → w0.heap.size ≤ y
  lH : ∀ y, H y → y < w.heap.size
  hp : w0.heap.size ≤ bp
  ht : w0.heap.size ≤ bt
  below : Below w0.heap.size w0 w
section
variable {w0 w w' : World} {p bp bt k k' : Nat} {v : Value} {c c' : Nat → Nat → Int} {F F' H H' : Nat → Prop} {q : List Int} {ph tk : Nat → Int}
theorem Tn.ne (h : Tn w0 w p bp bt v c F H k q ph tk) : bp ≠ bt := bk_ne h.php h.tkt (by decide)
theorem Tn.call (h : Tn w0 w p bp bt v c F H k q ph tk) (hb : Below w.heap.size w w') : Tn w0 w' p bp bt v c F H k q ph tk :=
  ⟨h.mem.call hb, h.php.call hb, h.tkt.call hb, h.ord.keep (Keeps.of_below (F := fun _ => False) hb) (fun _ _ h => h), h.sF, h.sH, h.hF, h.hH, fun y hy => Nat.lt_of_lt_of_le (h.lH y hy) hb.size, h.hp, h.ht, bthen h.below hb⟩
theorem Tn.one (h : Tn w0 w p bp bt v c F H k q ph tk) (m1 : MemS w' p 1 c' F' k') (m3 : Keeps F w w') (m4 : ∀ x, F' x → F x ∨ w.heap.size ≤ x) : Tn w0 w' p bp bt v c' F' H k' q ph tk where
  mem := m1
  php := h.php.keep m3 (fun hf => (h.sF _ hf).2.1 rfl)
  tkt := h.tkt.keep m3 (fun hf => (h.sF _ hf).2.2 rfl)
  ord := h.ord.keep m3 (fun y hy hf => (h.sF y hf).1 hy)
  sF := fun y hy => (m4 y hy).elim (h.sF y) (fun hle => ⟨fun hh => by have := h.lH y hh; omega, by have := h.php.lt; omega, by have := h.tkt.lt; omega⟩)
  sH := h.sH
  hF := grow h.hF h.below m4
  hH := h.hH
  lH := fun y hy => Nat.lt_of_lt_of_le (h.lH y hy) m3.size
  hp := h.hp
  ht := h.ht
  below := m3.below h.below h.hF
theorem Tn.app (h : Tn w0 w p bp bt v c F H k q ph tk) {v' : Value} {x : Int} (m1 : Ord w' v' (q ++ [x]) H') (m3 : Keeps H w w') (m4 : ∀ y, H' y → H y ∨ w.heap.size ≤ y) (m5 : ∀ y, H' y → y < w'.heap.size) : Tn w0 w' p bp bt v' c F H' k (q ++ [x]) ph tk where
  mem := h.mem.keep m3 (fun y hf => (h.sF y hf).1)
  php := h.php.keep m3 (fun hf => (h.sH _ hf).1 rfl)
  tkt := h.tkt.keep m3 (fun hf => (h.sH _ hf).2 rfl)
  ord := m1
  sF := fun y hy => ⟨fun hh => (m4 y hh).elim (h.sF y hy).1 (fun hle => by have := h.mem.all y hy; omega), (h.sF y hy).2⟩
  sH := fun y hy => (m4 y hy).elim (h.sH y) (fun hle => ⟨by have := h.php.lt; omega, by have := h.tkt.lt; omega⟩)
  hF := h.hF
  hH := grow h.hH h.below m4
  lH := m5
  hp := h.hp
  ht := h.ht
  below := m3.below h.below h.hH
theorem Tn.setPh (h : Tn w0 w p bp bt v c F H k q ph tk) {i : Nat} (hi : i ≤ 8) (x : Int) : Tn w0 (w.setCell ⟨bp, i, none⟩ (.int .i64 x)) p bp bt v c F H k q (upd ph i x) tk where
  mem := h.mem.keep (Keeps.setCell (F := fun y => y = bp) (p := ⟨bp, i, none⟩) rfl _) (fun y hf e => (h.sF y hf).2.1 e)
  php := by have := h.php.set i (.int .i64 x); rwa [nineI_set _ hi] at this
  tkt := h.tkt.far (p := ⟨bp, i, none⟩) (fun e => h.ne e.symm) _
  ord := h.ord.far (p := ⟨bp, i, none⟩) (fun y hy => (h.sH y hy).1) _
  sF := h.sF
  sH := h.sH
  hF := h.hF
  hH := h.hH
  lH := fun y hy => by simpa using h.lH y hy
  hp := h.hp
  ht := h.ht
  below := bs h.below (p := ⟨bp, i, none⟩) h.hp _
theorem Tn.setTk (h : Tn w0 w p bp bt v c F H k q ph tk) {i : Nat} (hi : i ≤ 8) (x : Int) : Tn w0 (w.setCell ⟨bt, i, none⟩ (.int .u64 x)) p bp bt v c F H k q ph (upd tk i x) where
  mem := h.mem.keep (Keeps.setCell (F := fun y => y = bt) (p := ⟨bt, i, none⟩) rfl _) (fun y hf e => (h.sF y hf).2.2 e)
  php := h.php.far (p := ⟨bt, i, none⟩) h.ne _
  tkt := by have := h.tkt.set i (.int .u64 x); rwa [nineU_set _ hi] at this
  ord := h.ord.far (p := ⟨bt, i, none⟩) (fun y hy => (h.sH y hy).2) _
  sF := h.sF
  sH := h.sH
  hF := h.hF
  hH := h.hH
  lH := fun y hy => by simpa using h.lH y hy
  hp := h.hp
  ht := h.ht
  below := bs h.below (p := ⟨bt, i, none⟩) h.ht _
end
end Go.Proofs.Ytlhbofgcgfbchaa
