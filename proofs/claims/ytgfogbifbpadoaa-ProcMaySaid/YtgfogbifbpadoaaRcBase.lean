/-
  The document's house in the world.
-/
import Derived.Test.YtgfogbifbpadoaaPcSetS
namespace Go.Proofs.Ytgfogbifbpadoaa
open Go.RowKit Go.Maps
set_option linter.unusedVariables false
set_option linter.unusedSimpArgs false
/-- The document's house. -/
structure Rh where
  th : Nat → Th
  sp : Nat → Spc
def Rh.setTh (R : Rh) (n : Nat) (t : Th) : Rh := { R with th := fun j => if j = n then t else R.th j }
def Rh.setSp (R : Rh) (n : Nat) (s : Spc) : Rh := { R with sp := fun j => if j = n then s else R.sp j }
theorem rsetTh_same (R : Rh) (n : Nat) (t : Th) : (R.setTh n t).th n = t := by simp [Rh.setTh]
theorem rsetTh_other (R : Rh) {n j : Nat} (t : Th) (h : j ≠ n) : (R.setTh n t).th j = R.th j := by simp [Rh.setTh, h]
theorem rsetSp_same (R : Rh) (n : Nat) (s : Spc) : (R.setSp n s).sp n = s := by simp [Rh.setSp]
theorem rsetSp_other (R : Rh) {n j : Nat} (s : Spc) (h : j ≠ n) : (R.setSp n s).sp j = R.sp j := by simp [Rh.setSp, h]
/-- The document's house lies in w at block Q. -/
structure Rm (w : World) (W : Nat → Prop) (Q : Nat) (R : Rh) : Prop where
  room : w.there Q 0 151
  c0 : ∃ c, w.cell? ⟨Q, 0, none⟩ = some (.int .i64 c)
  th : ∀ n, n < 9 → w.rangeAt Q (1 + n * 12) (thC (R.th n))
  sp : ∀ n, n < 7 → w.rangeAt Q (109 + n * 5) (spC (R.sp n))
  hr : ∀ n, n < 7 → ∃ b, w.cell? ⟨Q, 144 + n, none⟩ = some (.bool b)
  rf : ∀ n, n < 7 → Rf W w (R.sp n).O (R.sp n).l ∧ (R.sp n).l.length ≤ (R.sp n).cap ∧ chk (R.sp n).l = true
  WQ : W Q
  lt : ∀ x, W x → x < w.heap.size
  ok : ∀ n, n < 9 → 0 ≤ (R.th n).sp ∧ (R.th n).sp ≤ 6
variable {w w' : World} {W G : Nat → Prop} {Q : Nat} {R : Rh}
theorem rthere_keep {o n : Nat} (h : w.there Q o n) (hk : w'.heap[Q]? = w.heap[Q]?) : w'.there Q o n := fun j hj =>
  ⟨by rw [World.cell?_of_block (a := ⟨Q, o + j, none⟩) hk]; exact (h j hj).1, by rw [World.frozen?_of_block (a := ⟨Q, o + j, none⟩) hk]; exact (h j hj).2⟩
theorem Rm.keep (h : Rm w W Q R) (hk : Keeps G w w') (hG : ∀ x, G x → W x ∧ x ≠ Q) : Rm w' W Q R := by
  have hP := hk.block Q (h.lt Q h.WQ) (fun hg => (hG Q hg).2 rfl)
  exact ⟨rthere_keep h.room hP, h.c0.imp fun c hc => (World.cell?_of_block (a := ⟨Q, 0, none⟩) hP).trans hc, fun n hn => range_keep (h.th n hn) hP, fun n hn => range_keep (h.sp n hn) hP, fun n hn => (h.hr n hn).imp fun b hb => (World.cell?_of_block (a := ⟨Q, 144 + n, none⟩) hP).trans hb,
    fun n hn => ⟨(h.rf n hn).1.keep hk (fun x hx => (hG x hx).1), (h.rf n hn).2⟩, h.WQ, fun x hx => Nat.lt_of_lt_of_le (h.lt x hx) hk.size, h.ok⟩
theorem Rm.call (h : Rm w W Q R) (hb : Below w.heap.size w w') : Rm w' W Q R := h.keep (Keeps.of_below (F := fun _ => False) hb) (fun _ hf => hf.elim)
theorem rthere_sub {o n : Nat} (h : w.there Q 0 151) (ho : o + n ≤ 151) : w.there Q o n := fun j hj => by
  have := h (o + j) (by omega)
  simpa using this
theorem Rm.cells (h : Rm w W Q R) (o : Nat) (vs : List Value) (R' : Rh) (ho : 1 ≤ o) (hle : o + vs.length ≤ 144)
    (hth : ∀ n, n < 9 → (w.setCells Q o vs).rangeAt Q (1 + n * 12) (thC (R'.th n))) (hsp : ∀ n, n < 7 → (w.setCells Q o vs).rangeAt Q (109 + n * 5) (spC (R'.sp n)))
    (hrf : ∀ n, n < 7 → Rf W w (R'.sp n).O (R'.sp n).l ∧ (R'.sp n).l.length ≤ (R'.sp n).cap ∧ chk (R'.sp n).l = true) (hok : ∀ n, n < 9 → 0 ≤ (R'.th n).sp ∧ (R'.th n).sp ≤ 6) : Rm (w.setCells Q o vs) W Q R' := by
  have hk := Keeps.setCells (F := fun x => x = Q) rfl vs o w
  refine ⟨World.there_setCells h.room Q o vs, ?_, hth, hsp, ?_, fun n hn => ⟨(hrf n hn).1.keep hk (fun x hx => by rw [hx]; exact h.WQ), (hrf n hn).2⟩, h.WQ, fun x hx => by rw [setCells_size]; exact h.lt x hx, hok⟩
  · rw [World.cell?_setCells_out Q vs o w ⟨Q, 0, none⟩ (fun _ _ => .inl (by show 0 < o; omega))]
    exact h.c0
  · intro n hn
    rw [World.cell?_setCells_out Q vs o w ⟨Q, 144 + n, none⟩ (fun _ _ => .inr (by show o + vs.length ≤ 144 + n; omega))]
    exact h.hr n hn
theorem Rm.putTh (h : Rm w W Q R) {n : Nat} (hn : n < 9) (t : Th) (ht : 0 ≤ t.sp ∧ t.sp ≤ 6) : Rm (w.setCells Q (1 + n * 12) (thC t)) W Q (R.setTh n t) := by
  refine h.cells _ _ _ (by omega) (by rw [thC_len]; omega) (fun j hj => ?_) (fun j hj => ?_) h.rf (fun j hj => ?_)
  · by_cases e : j = n
    · subst e
      rw [rsetTh_same]
      exact World.rangeAt_setCells_same _ _ _ _ (rthere_sub h.room (by rw [thC_len]; omega))
    · rw [rsetTh_other _ _ e]
      exact World.rangeAt_setCells_apart (h.th j hj) _ _ _ (by rw [thC_len, thC_len]; omega)
  · exact World.rangeAt_setCells_apart (h.sp j hj) _ _ _ (by rw [thC_len]; omega)
  · by_cases e : j = n
    · subst e; rw [rsetTh_same]; exact ht
    · rw [rsetTh_other _ _ e]; exact h.ok j hj
theorem Rm.putSp (h : Rm w W Q R) {n : Nat} (hn : n < 7) (s : Spc) (hs : Rf W w s.O s.l ∧ s.l.length ≤ s.cap ∧ chk s.l = true) : Rm (w.setCells Q (109 + n * 5) (spC s)) W Q (R.setSp n s) := by
  refine h.cells _ _ _ (by omega) (by rw [spC_len]; omega) (fun j hj => ?_) (fun j hj => ?_) (fun j hj => ?_) h.ok
  · exact World.rangeAt_setCells_apart (h.th j hj) _ _ _ (by rw [thC_len]; omega)
  · by_cases e : j = n
    · subst e
      rw [rsetSp_same]
      exact World.rangeAt_setCells_same _ _ _ _ (rthere_sub h.room (by rw [spC_len]; omega))
    · rw [rsetSp_other _ _ e]
      exact World.rangeAt_setCells_apart (h.sp j hj) _ _ _ (by rw [spC_len, spC_len]; omega)
  · by_cases e : j = n
    · subst e; rw [rsetSp_same]; exact hs
    · rw [rsetSp_other _ _ e]; exact h.rf j hj
/-- Some cells of a thread are written. -/
theorem Rm.setTh1 (h : Rm w W Q R) {n k : Nat} (hn : n < 9) (hk : k < 12) (v : Value) (t : Th) (ht : (thC (R.th n)).set k v = thC t) (hs : 0 ≤ t.sp ∧ t.sp ≤ 6) : Rm (w.setCell ⟨Q, 1 + n * 12 + k, none⟩ v) W Q (R.setTh n t) := by
  refine h.cells (1 + n * 12 + k) [v] _ (by omega) (by simp only [List.length_cons, List.length_nil]; omega) (fun j hj => ?_) (fun j hj => ?_) h.rf (fun j hj => ?_)
  · by_cases e : j = n
    · subst e
      rw [rsetTh_same, ← ht]
      exact range_set (h.th j hj) hk v
    · rw [rsetTh_other _ _ e]
      exact World.rangeAt_setCells_apart (h.th j hj) _ _ _ (by rw [thC_len]; simp only [List.length_cons, List.length_nil]; omega)
  · exact World.rangeAt_setCells_apart (h.sp j hj) _ _ _ (by simp only [List.length_cons, List.length_nil]; omega)
  · by_cases e : j = n
    · subst e; rw [rsetTh_same]; exact hs
    · rw [rsetTh_other _ _ e]; exact h.ok j hj
theorem Rm.setSp1 (h : Rm w W Q R) {n k : Nat} (hn : n < 7) (hk : k < 5) (v : Value) (s : Spc) (hs : (spC (R.sp n)).set k v = spC s) (hr : Rf W w s.O s.l ∧ s.l.length ≤ s.cap ∧ chk s.l = true) : Rm (w.setCell ⟨Q, 109 + n * 5 + k, none⟩ v) W Q (R.setSp n s) := by
  refine h.cells (109 + n * 5 + k) [v] _ (by omega) (by simp only [List.length_cons, List.length_nil]; omega) (fun j hj => ?_) (fun j hj => ?_) (fun j hj => ?_) h.ok
  · exact World.rangeAt_setCells_apart (h.th j hj) _ _ _ (by rw [thC_len]; omega)
  · by_cases e : j = n
    · subst e
      rw [rsetSp_same, ← hs]
      exact range_set (h.sp j hj) hk v
    · rw [rsetSp_other _ _ e]
      exact World.rangeAt_setCells_apart (h.sp j hj) _ _ _ (by rw [spC_len]; simp only [List.length_cons, List.length_nil]; omega)
  · by_cases e : j = n
    · subst e; rw [rsetSp_same]; exact hr
    · rw [rsetSp_other _ _ e]; exact h.rf j hj
/-- A There bit is written. -/
theorem Rm.setHr (h : Rm w W Q R) {n : Nat} (hn : n < 7) (b : Bool) : Rm (w.setCell ⟨Q, 144 + n, none⟩ (.bool b)) W Q R := by
  have hk := Keeps.setCell (F := fun x => x = Q) (w := w) (p := ⟨Q, 144 + n, none⟩) rfl (.bool b)
  have e : w.setCell ⟨Q, 144 + n, none⟩ (.bool b) = w.setCells Q (144 + n) [.bool b] := rfl
  refine ⟨by rw [e]; exact World.there_setCells h.room Q _ _, ?_, fun j hj => ?_, fun j hj => ?_, fun j hj => ?_, fun j hj => ⟨(h.rf j hj).1.keep hk (fun x hx => by rw [hx]; exact h.WQ), (h.rf j hj).2⟩, h.WQ, fun x hx => by have := h.lt x hx; simpa using this, h.ok⟩
  · rw [World.cell?_setCell_other _ _ _ _ (by intro e; injection e with _ e _; omega)]
    exact h.c0
  · rw [e]; exact World.rangeAt_setCells_apart (h.th j hj) _ _ _ (by rw [thC_len]; omega)
  · rw [e]; exact World.rangeAt_setCells_apart (h.sp j hj) _ _ _ (by rw [spC_len]; omega)
  · by_cases e : j = n
    · subst e
      obtain ⟨b0, hb0⟩ := h.hr j hj
      exact ⟨b, World.cell?_setCell_same _ _ _ hb0⟩
    · rw [World.cell?_setCell_other _ _ _ _ (by intro e'; injection e' with _ e' _; omega)]
      exact h.hr j hj
theorem Rm.thAt (h : Rm w W Q R) {n : Nat} (hn : n < 9) (j : Nat) (v : Value) (hj : (thC (R.th n))[j]? = some v) : w.cell? ⟨Q, 1 + n * 12 + j, none⟩ = some v := h.th n hn j v hj
theorem Rm.spAt (h : Rm w W Q R) {n : Nat} (hn : n < 7) (j : Nat) (v : Value) (hj : (spC (R.sp n))[j]? = some v) : w.cell? ⟨Q, 109 + n * 5 + j, none⟩ = some v := h.sp n hn j v hj
theorem Rm.cellFree (h : Rm w W Q R) {o : Nat} (ho : o < 151) : w.frozen? ⟨Q, o, none⟩ = false := by simpa using (h.room o ho).2
theorem Rm.num (h : Rm w W Q R) {n : Nat} (hn : n < 9) : w.cell? ⟨Q, 1 + n * 12, none⟩ = some (.int .i64 (R.th n).sp) := h.thAt hn 0 _ rfl
section
variable {ops : Array Oper} {rest : List Oper} {o : Oper} {a : Go.Act} {QQ : Exit → Go.Act → World → Prop}
theorem rget_th (hgd : o.guard = none) (x : Operand) (ho : o.op = .load 36 x) (hm : Rm w W Q R) {n : Nat} (hn : n < 9) (hx : a.eval x = .pointer (some ⟨Q, 1 + n * 12, none⟩))
    (h : wpList Try.prog ops QQ rest (a.put o.dst (.agg (thC (R.th n)).toArray)) w) : wpList Try.prog ops QQ (o :: rest) a w :=
  wpList_load_mid hgd 36 x ho Q _ hx _ _ (hm.th n hn) Try.underlying36 rfl thInfo h
theorem rget_sp (hgd : o.guard = none) (x : Operand) (ho : o.op = .load 38 x) (hm : Rm w W Q R) {n : Nat} (hn : n < 7) (hx : a.eval x = .pointer (some ⟨Q, 109 + n * 5, none⟩))
    (h : wpList Try.prog ops QQ rest (a.put o.dst (.agg (spC (R.sp n)).toArray)) w) : wpList Try.prog ops QQ (o :: rest) a w :=
  wpList_load_mid hgd 38 x ho Q _ hx _ _ (hm.sp n hn) Try.underlying38 rfl spInfo h
theorem rput_th (hgd : o.guard = none) (x y : Operand) (ho : o.op = .store 36 x y) (hm : Rm w W Q R) {n : Nat} (hn : n < 9) (t : Th) (hx : a.eval x = .pointer (some ⟨Q, 1 + n * 12, none⟩)) (hy : a.eval y = .agg (thC t).toArray)
    (h : wpList Try.prog ops QQ rest (a.put o.dst undef) (w.setCells Q (1 + n * 12) (thC t))) : wpList Try.prog ops QQ (o :: rest) a w :=
  wpList_store_mid hgd 36 x y ho Q _ _ hx hy (rthere_sub hm.room (by simp [thC_len]; omega)) thInfo (all_oneCell_toArray (thC_one t)) (by simpa using h)
theorem rput_sp (hgd : o.guard = none) (x y : Operand) (ho : o.op = .store 38 x y) (hm : Rm w W Q R) {n : Nat} (hn : n < 7) (s : Spc) (hx : a.eval x = .pointer (some ⟨Q, 109 + n * 5, none⟩)) (hy : a.eval y = .agg (spC s).toArray)
    (h : wpList Try.prog ops QQ rest (a.put o.dst undef) (w.setCells Q (109 + n * 5) (spC s))) : wpList Try.prog ops QQ (o :: rest) a w :=
  wpList_store_mid hgd 38 x y ho Q _ _ hx hy (rthere_sub hm.room (by simp [spC_len]; omega)) spInfo (all_oneCell_toArray (spC_one s)) (by simpa using h)
end
end Go.Proofs.Ytgfogbifbpadoaa
