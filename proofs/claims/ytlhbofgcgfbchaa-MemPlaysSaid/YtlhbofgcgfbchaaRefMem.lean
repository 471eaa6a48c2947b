/-
  The document's memory (tenementref08): its struct's block, its table's block, its frames' rows; New, there, Read, Write, Add.
-/
import Derived.Test.YtlhbofgcgfbchaaMemLaws
import Derived.Laws.MakeOwn
import Derived.RegionTactic
namespace Go.Proofs.Ytlhbofgcgfbchaa
open Go.RowKit Go.Maps
set_option linter.unusedVariables false
set_option linter.unusedSimpArgs false

/-- The table of n slices. -/
def tabOf (n : Nat) (s : Nat → Value) : Array Value := Array.ofFn (n := n) fun i => s i
theorem tabOf_size (n : Nat) (s : Nat → Value) : (tabOf n s).size = n := by simp [tabOf]
theorem tabOf_at (n : Nat) (s : Nat → Value) (i : Nat) (hi : i < n) : (tabOf n s)[i]? = some (s i) := by simp [tabOf, hi]
def updV (s : Nat → Value) (i : Nat) (v : Value) : Nat → Value := fun j => if j = i then v else s j
theorem updV_same (s : Nat → Value) (i : Nat) (v : Value) : updV s i v i = v := by simp [updV]
theorem updV_other (s : Nat → Value) {i j : Nat} (v : Value) (h : j ≠ i) : updV s i v j = s j := by simp [updV, h]
theorem tabOf_set (n : Nat) (s : Nat → Value) (i : Nat) (v : Value) : (tabOf n s).setIfInBounds i v = tabOf n (updV s i v) := by
  apply Array.ext_getElem?
  intro j
  rw [Array.getElem?_setIfInBounds]
  by_cases hj : j < n
  · rw [tabOf_at _ _ _ hj, tabOf_at _ _ _ hj, tabOf_size]
    by_cases e : i = j
    · subst e; simp [hj, updV]
    · rw [if_neg e, updV_other _ _ (fun h => e h.symm)]
  · have h1 : (tabOf n s)[j]? = none := Array.getElem?_eq_none (by rw [tabOf_size]; omega)
    have h2 : (tabOf n (updV s i v))[j]? = none := Array.getElem?_eq_none (by rw [tabOf_size]; omega)
    rw [h1, h2, tabOf_size]
    split
    · split
      · omega
      · rfl
    · rfl
/-- Block b holds a frame's words. -/
def RW (w : World) (b : Nat) (g : Nat → Int) : Prop := ∃ cs, Bk w b 22 cs ∧ ∀ i, i < 512 → cs[i]? = some (.int .u64 (g i))
theorem RW.lt {w : World} {b : Nat} {g : Nat → Int} (h : RW w b g) : b < w.heap.size := let ⟨_, h, _⟩ := h; h.lt
theorem RW.cell {w : World} {b : Nat} {g : Nat → Int} (h : RW w b g) {i : Nat} (hi : i < 512) : w.cell? ⟨b, i, none⟩ = some (.int .u64 (g i)) := let ⟨_, h, hc⟩ := h; (h.cell i).trans (hc i hi)
theorem RW.frozen {w : World} {b : Nat} {g : Nat → Int} (h : RW w b g) (i : Nat) : w.frozen? ⟨b, i, none⟩ = false := let ⟨_, h, hc⟩ := h; h.frozen i
theorem RW.keep {w w' : World} {b : Nat} {g : Nat → Int} {F : Nat → Prop} (h : RW w b g) (hk : Keeps F w w') (hF : ¬ F b) : RW w' b g := let ⟨cs, h, hc⟩ := h; ⟨cs, h.keep hk hF, hc⟩
theorem RW.far {w : World} {b : Nat} {g : Nat → Int} (h : RW w b g) {p : Addr} (hp : b ≠ p.block) (u : Value) : RW (w.setCell p u) b g := let ⟨cs, h, hc⟩ := h; ⟨cs, h.far hp u, hc⟩
theorem RW.congr {w : World} {b : Nat} {g g' : Nat → Int} (h : RW w b g) (e : ∀ i, i < 512 → g i = g' i) : RW w b g' := let ⟨cs, h, hc⟩ := h; ⟨cs, h, fun i hi => by rw [← e i hi]; exact hc i hi⟩
theorem RW.set {w : World} {b : Nat} {g : Nat → Int} (h : RW w b g) {i : Nat} (hi : i < 512) (v : Int) : RW (w.setCell ⟨b, i, none⟩ (.int .u64 v)) b (upd g i v) := by
  obtain ⟨cs, h, hc⟩ := h
  refine ⟨_, h.set i _, fun j hj => ?_⟩
  have hs : i < cs.size := (Array.getElem?_eq_some_iff.1 (hc i hi)).1
  by_cases e : j = i
  · subst e; simp [hs, upd]
  · rw [Array.getElem?_setIfInBounds_ne (fun h => e h.symm), hc j hj, upd_other _ _ e]
theorem RW.ne {w : World} {b q : Nat} {g : Nat → Int} {t : TypeId} {cs : Array Value} (h : RW w b g) (h' : Bk w q t cs) (hne : 22 ≠ t) : b ≠ q := let ⟨_, h, _⟩ := h; bk_ne h h' hne
/-- The document's memory lies in w. -/
structure Rm (w : World) (p n : Nat) (c : Nat → Nat → Int) (F : Nat → Prop) (bl : Nat) (s : Nat → Value) : Prop where
  str : Bk w p 81 #[.slice (some ⟨bl, 0, none⟩) n n]
  tab : Bk w bl 35 (tabOf n s)
  pF : F p
  bF : F bl
  lt : ∀ b, F b → b < w.heap.size
  row : ∀ f, f < n → (s f = .slice none 0 0 ∧ ∀ i, i < 512 → c f i = 0) ∨ ∃ b cap : Nat, s f = .slice (some ⟨b, 0, none⟩) 512 cap ∧ 512 ≤ cap ∧ RW w b (c f) ∧ F b
  inj : ∀ f g b cap cap', f < n → g < n → s f = .slice (some ⟨b, 0, none⟩) 512 cap → s g = .slice (some ⟨b, 0, none⟩) 512 cap' → f = g
def RefS (w : World) (p n : Nat) (c : Nat → Nat → Int) (F : Nat → Prop) : Prop := ∃ bl s, Rm w p n c F bl s
section
variable {w w' : World} {p n bl : Nat} {c c' : Nat → Nat → Int} {F G : Nat → Prop} {s : Nat → Value}
theorem Rm.keep (h : Rm w p n c F bl s) (hk : Keeps G w w') (hFG : ∀ b, F b → ¬ G b) : Rm w' p n c F bl s where
  str := h.str.keep hk (hFG _ h.pF)
  tab := h.tab.keep hk (hFG _ h.bF)
  pF := h.pF
  bF := h.bF
  lt := fun b hb => Nat.lt_of_lt_of_le (h.lt b hb) hk.size
  row := fun f hf => (h.row f hf).imp id fun ⟨b, cap, h1, h2, h3, h4⟩ => ⟨b, cap, h1, h2, h3.keep hk (hFG _ h4), h4⟩
  inj := h.inj
theorem Rm.call (h : Rm w p n c F bl s) (hb : Below w.heap.size w w') : Rm w' p n c F bl s := h.keep (Keeps.of_below (F := fun _ => False) hb) (fun _ _ hf => hf)
theorem Rm.congr (h : Rm w p n c F bl s) (e : ∀ f i, i < 512 → c f i = c' f i) : Rm w p n c' F bl s where
  str := h.str
  tab := h.tab
  pF := h.pF
  bF := h.bF
  lt := h.lt
  row := fun f hf => (h.row f hf).imp (fun ⟨a, b⟩ => ⟨a, fun i hi => (e f i hi).symm.trans (b i hi)⟩) fun ⟨b, cap, a1, a2, a3, a4⟩ => ⟨b, cap, a1, a2, a3.congr (e f), a4⟩
  inj := h.inj
theorem RefS.keep (h : RefS w p n c F) (hk : Keeps G w w') (hFG : ∀ b, F b → ¬ G b) : RefS w' p n c F := let ⟨bl, s, hM⟩ := h; ⟨bl, s, hM.keep hk hFG⟩
theorem RefS.call (h : RefS w p n c F) (hb : Below w.heap.size w w') : RefS w' p n c F := let ⟨bl, s, hM⟩ := h; ⟨bl, s, hM.call hb⟩
theorem RefS.congr (h : RefS w p n c F) (e : ∀ f i, i < 512 → c f i = c' f i) : RefS w p n c' F := let ⟨bl, s, hM⟩ := h; ⟨bl, s, hM.congr e⟩
theorem RefS.all (h : RefS w p n c F) : ∀ b, F b → b < w.heap.size := let ⟨bl, s, hM⟩ := h; hM.lt
/-- A word is written into a frame that is there. -/
theorem Rm.put (h : Rm w p n c F bl s) {f b cap : Nat} (hf : f < n) (hs : s f = .slice (some ⟨b, 0, none⟩) 512 cap) (hb : RW w b (c f)) {i : Nat} (hi : i < 512) (v : Int) : Rm (w.setCell ⟨b, i, none⟩ (.int .u64 v)) p n (upd2 c f i v) F bl s where
  str := h.str.far (fun e => hb.ne h.str (by decide) e.symm) _
  tab := h.tab.far (fun e => hb.ne h.tab (by decide) e.symm) _
  pF := h.pF
  bF := h.bF
  lt := fun x hx => by simpa using h.lt x hx
  row := fun g hg => by
    by_cases e : g = f
    · subst e
      rcases h.row g hg with ⟨h1, _⟩ | ⟨b', cap', h1, h2, h3, h4⟩
      · rw [hs] at h1; cases h1
      · rw [hs] at h1
        have eb : b' = b := by injection h1 with h1; injection h1 with h1; injection h1 with h1; exact h1.symm
        subst eb
        refine .inr ⟨b', cap, hs, by injection h1 with _ _ h1; omega, ?_, h4⟩
        have := hb.set hi v
        simpa [upd2] using this
    · have ec : upd2 c f i v g = c g := by simp [upd2, e]
      rw [ec]
      refine (h.row g hg).imp id fun ⟨b', cap', h1, h2, h3, h4⟩ => ⟨b', cap', h1, h2, h3.far (fun eb => e (h.inj g f b' cap' cap hg hf h1 ?_)) _, h4⟩
      have eb' : b' = b := eb
      rw [eb']
      exact hs
  inj := h.inj
/-- A frame comes to be another row. -/
theorem Rm.turn (h : Rm w p n c F bl s) {f : Nat} (hf : f < n) {v : Value} {g : Nat → Int} {F' : Nat → Prop} (hk : Keeps (fun _ => False) w w') (hF : ∀ x, F x → F' x) (hlt : ∀ x, F' x → x < w'.heap.size)
    (hrow : (v = .slice none 0 0 ∧ ∀ i, i < 512 → g i = 0) ∨ ∃ b cap : Nat, v = .slice (some ⟨b, 0, none⟩) 512 cap ∧ 512 ≤ cap ∧ RW w' b g ∧ F' b ∧ w.heap.size ≤ b) :
    Rm (w'.setCell ⟨bl, f, none⟩ v) p n (fun k => if k = f then g else c k) F' bl (updV s f v) := by
  have h1 := h.keep hk (fun _ _ hf => hf)
  have nb : ∀ b x, RW w' b x → b ≠ bl := fun b x hx => hx.ne h1.tab (by decide)
  refine ⟨h1.str.far (bk_ne h1.str h1.tab (by decide)) _, ?_, hF _ h.pF, hF _ h.bF, fun x hx => by simpa using hlt x hx, ?_, ?_⟩
  · have := h1.tab.set f v
    rwa [tabOf_set] at this
  · intro k hkn
    by_cases e : k = f
    · subst e
      rw [updV_same, if_pos rfl]
      exact hrow.imp id fun ⟨b, cap, a1, a2, a3, a4, a5⟩ => ⟨b, cap, a1, a2, a3.far (nb _ _ a3) _, a4⟩
    · rw [updV_other _ _ e, if_neg e]
      exact (h1.row k hkn).imp id fun ⟨b, cap, a1, a2, a3, a4⟩ => ⟨b, cap, a1, a2, a3.far (nb _ _ a3) _, hF _ a4⟩
  · intro k l b cap cap' hk1 hl1 e1 e2
    by_cases x1 : k = f <;> by_cases x2 : l = f
    · rw [x1, x2]
    · subst x1
      rw [updV_same] at e1
      rw [updV_other _ _ x2] at e2
      rcases hrow with ⟨a1, _⟩ | ⟨b', cap2, a1, a2, a3, a4, a5⟩
      · rw [a1] at e1; cases e1
      · rw [a1] at e1
        have eb : b' = b := by injection e1 with e1; injection e1 with e1; injection e1
        rcases h.row l hl1 with ⟨y, _⟩ | ⟨b2, cap3, y1, y2, y3, y4⟩
        · rw [y] at e2; cases e2
        · rw [y1] at e2
          have eb2 : b2 = b := by injection e2 with e2; injection e2 with e2; injection e2
          have := y3.lt
          omega
    · subst x2
      rw [updV_same] at e2
      rw [updV_other _ _ x1] at e1
      rcases hrow with ⟨a1, _⟩ | ⟨b', cap2, a1, a2, a3, a4, a5⟩
      · rw [a1] at e2; cases e2
      · rw [a1] at e2
        have eb : b' = b := by injection e2 with e2; injection e2 with e2; injection e2
        rcases h.row k hk1 with ⟨y, _⟩ | ⟨b2, cap3, y1, y2, y3, y4⟩
        · rw [y] at e1; cases e1
        · rw [y1] at e1
          have eb2 : b2 = b := by injection e1 with e1; injection e1 with e1; injection e1
          have := y3.lt
          omega
    · rw [updV_other _ _ x1] at e1
      rw [updV_other _ _ x2] at e2
      exact h.inj k l b cap cap' hk1 hl1 e1 e2
end
/-- The call has answered v, and the document's memory's words are c'. -/
def RWent (w : World) (p n : Nat) (c' : Nat → Nat → Int) (F : Nat → Prop) (v : Value) (e : Ending) (w' : World) : Prop :=
  e = .returned v ∧ ∃ F' : Nat → Prop, RefS w' p n c' F' ∧ Keeps F w w' ∧ (∀ x, F' x → F x ∨ w.heap.size ≤ x) ∧ ∀ x, F x → F' x
theorem madeRow : madeCells (Value.int .u64 0).cells (512 * 1) = rowOf fun _ => 0 := by kernel_rfl
theorem make_row (W : World) : (Instr.makeSlice 35 (.int .i64 512) (.int .i64 512)).run Try.prog W = .ok (.slice (some ⟨W.heap.size, 0, none⟩) 512 512) (W.alloc (.cells (rowOf fun _ => 0) 22)) := by
  obtain ⟨i, hi, h1, h2, h3⟩ : ∃ i, Try.prog.info? 22 = some i ∧ i.zero = some (.int .u64 0) ∧ i.size = 1 ∧ i.bytes = 8 := by
    have h : (Try.prog.info? 22).map (fun i => (i.zero, i.size, i.bytes)) = some (some (.int .u64 0), 1, 8) := by kernel_rfl
    cases hq : Try.prog.info? 22 with
    | none => simp [hq] at h
    | some i => simp [hq] at h; exact ⟨i, rfl, h.1, h.2.1, h.2.2⟩
  have := run_makeSlice (P := Try.prog) W 35 22 i (.int .u64 0) Try.underlying35 hi h1 .i64 .i64 512 512 (by omega) (by omega) (by rw [h2]; decide) (by rw [h3]; decide) (by omega)
  rw [h2] at this
  rw [this]
  have e : (512 : Int).toNat = 512 := rfl
  rw [e, madeRow]
theorem rthere_yes (p n bl : Nat) (x : Int) (w : World) (hx : U64 x) (hc : w.cell? ⟨p, 0, none⟩ = some (.slice (some ⟨bl, 0, none⟩) n n)) (hn : n ≤ 64) (h : x / 512 < n) :
    Calls Try.prog 43 #[.pointer (some ⟨p, 0, none⟩), .int .u64 x] w fun e w' => e = .returned (.bool true) ∧ w = w' := by
  have h0 := hx.1
  have h1 := hx.2
  clear hx
  go_enter Try.func43, Try.ntmps43
  go_wp2
  go_ret
  exact ⟨ret_bool (by first | (simp; done) | (simp; omega)), rfl⟩
theorem rthere_no (p n bl : Nat) (x : Int) (w : World) (hx : U64 x) (hc : w.cell? ⟨p, 0, none⟩ = some (.slice (some ⟨bl, 0, none⟩) n n)) (hn : n ≤ 64) (h : (n : Int) ≤ x / 512) :
    Calls Try.prog 43 #[.pointer (some ⟨p, 0, none⟩), .int .u64 x] w fun e w' => e = .returned (.bool false) ∧ w = w' := by
  have h0 := hx.1
  have h1 := hx.2
  clear hx
  go_enter Try.func43, Try.ntmps43
  go_wp2
  go_ret
  exact ⟨ret_bool (by first | (simp; done) | (simp; omega)), rfl⟩
set_option maxHeartbeats 1000000 in
theorem rread_yes (p n f i : Nat) (x : Int) (c : Nat → Nat → Int) (F : Nat → Prop) (w : World) (hM : RefS w p n c F) (hn : n ≤ 64) (hx : U64 x) (h1 : x / 512 = f) (h2 : x % 512 = i) (hf : f < n) :
    Calls Try.prog 41 #[.pointer (some ⟨p, 0, none⟩), .int .u64 x] w fun e w' => e = .returned (.tuple #[.int .u64 (c f i), .int .i64 0]) ∧ w = w' := by
  obtain ⟨bl, s, hM⟩ := hM
  have hi : i < 512 := by omega
  have hlt : x / 512 < (n : Int) := by omega
  have c0 : w.cell? ⟨p, 0, none⟩ = some (.slice (some ⟨bl, 0, none⟩) n n) := hM.str.cell 0
  have c1 : w.cell? ⟨bl, f, none⟩ = some (s f) := (hM.tab.cell f).trans (tabOf_at _ _ _ hf)
  have H1 := Lib.hid h1
  have H2 := Lib.hid h2
  have u0 := hx.1
  have u1 := hx.2
  have HX := Lib.hid hx
  have e1 : (x / 512).toNat = f := by omega
  have e2 : (x % 512).toNat = i := by omega
  clear h1 h2 hx
  rcases hM.row f hf with ⟨a1, a2⟩ | ⟨b, cap, a1, a2, a3, a4⟩
  · rw [a1] at c1
    have R := Lib.hid (a2 i hi)
    clear a1 a2 hM
    go_enter Try.func41, Try.ntmps41
    go_wp2_with fail
    refine (rthere_yes p n bl x _ HX.out c0 hn hlt).mono ?_
    rintro e w1 ⟨rfl, rfl⟩
    go_wp2_with fail
    go_ret2
    exact ⟨by rw [R.out]; rfl, rfl⟩
  · rw [a1] at c1
    have hc := a3.cell hi
    clear a1 a3 hM
    go_enter Try.func41, Try.ntmps41
    go_wp2_with fail
    refine (rthere_yes p n bl x _ HX.out c0 hn hlt).mono ?_
    rintro e w1 ⟨rfl, rfl⟩
    go_wp2_with fail
    go_ret2
    exact ⟨rfl, rfl⟩
set_option maxHeartbeats 1000000 in
theorem rwrite_there (p n bl f i b cap : Nat) (x v : Int) (c : Nat → Nat → Int) (F : Nat → Prop) (s : Nat → Value) (w : World) (hM : Rm w p n c F bl s) (hn : n ≤ 64) (hx : U64 x) (h1 : x / 512 = f) (h2 : x % 512 = i) (hf : f < n)
    (a1 : s f = .slice (some ⟨b, 0, none⟩) 512 cap) (a2 : 512 ≤ cap) (a3 : RW w b (c f)) (a4 : F b) :
    Calls Try.prog 24 #[.pointer (some ⟨p, 0, none⟩), .int .u64 x, .int .u64 v] w (RWent w p n (upd2 c f i v) F (.int .i64 0)) := by
  have hi : i < 512 := by omega
  have hlt : x / 512 < (n : Int) := by omega
  have c0 : w.cell? ⟨p, 0, none⟩ = some (.slice (some ⟨bl, 0, none⟩) n n) := hM.str.cell 0
  have c1 : w.cell? ⟨bl, f, none⟩ = some (s f) := (hM.tab.cell f).trans (tabOf_at _ _ _ hf)
  rw [a1] at c1
  have u0 := hx.1
  have u1 := hx.2
  have HX := Lib.hid hx
  have e1 : (x / 512).toNat = f := by omega
  have e2 : (x % 512).toNat = i := by omega
  have hc := a3.cell hi
  have hz := a3.frozen i
  have R := Lib.hid (hM.put hf a1 a3 hi v)
  clear h1 h2 hx a1 a3 hM
  go_enter Try.func24, Try.ntmps24
  go_wp2_with fail
  refine (rthere_yes p n bl x _ HX.out c0 hn hlt).mono ?_
  rintro e w1 ⟨rfl, rfl⟩
  go_wp2_with fail
  go_ret
  exact ⟨rfl, F, ⟨bl, s, R.out⟩, Keeps.setCell a4 _, fun x hx => .inl hx, fun x hx => hx⟩
set_option maxHeartbeats 1000000 in
theorem rwrite_new (p n bl f i : Nat) (x v : Int) (c : Nat → Nat → Int) (F : Nat → Prop) (s : Nat → Value) (w : World) (hM : Rm w p n c F bl s) (hn : n ≤ 64) (hx : U64 x) (h1 : x / 512 = f) (h2 : x % 512 = i) (hf : f < n)
    (a1 : s f = .slice none 0 0) (a2 : ∀ i, i < 512 → c f i = 0) :
    Calls Try.prog 24 #[.pointer (some ⟨p, 0, none⟩), .int .u64 x, .int .u64 v] w (RWent w p n (upd2 c f i v) F (.int .i64 0)) := by
  have hi : i < 512 := by omega
  have hlt : x / 512 < (n : Int) := by omega
  have c0 : w.cell? ⟨p, 0, none⟩ = some (.slice (some ⟨bl, 0, none⟩) n n) := hM.str.cell 0
  have c1 : w.cell? ⟨bl, f, none⟩ = some (s f) := (hM.tab.cell f).trans (tabOf_at _ _ _ hf)
  rw [a1] at c1
  have hz : w.frozen? ⟨bl, f, none⟩ = false := hM.tab.frozen f
  have l0 := hM.str.lt
  have l1 := hM.tab.lt
  have u0 := hx.1
  have u1 := hx.2
  have HX := Lib.hid hx
  have e1 : (x / 512).toNat = f := by omega
  have e2 : (x % 512).toNat = i := by omega
  have hmk := make_row
  have HM := Lib.hid hM
  have A2 := Lib.hid a2
  clear h1 h2 hx a1 a2 hM
  go_enter Try.func24, Try.ntmps24
  go_wp2_with fail
  refine (rthere_yes p n bl x _ HX.out c0 hn hlt).mono ?_
  rintro e w1 ⟨rfl, rfl⟩
  go_wp2_with fail
  go_region
  have HT := HM.out.turn hf (w' := w.alloc (.cells (rowOf fun _ => 0) 22)) (v := .slice (some ⟨w.heap.size, 0, none⟩) 512 512) (g := fun _ => 0) (F' := fun y => F y ∨ y = w.heap.size) (Keeps.of_below (ba (Below.refl _ _) _)) (fun y hy => .inl hy)
    (fun y hy => by rw [World.size_alloc]; exact hy.elim (fun h => by have := HM.out.lt y h; omega) (fun h => by omega)) (.inr ⟨w.heap.size, 512, rfl, Nat.le_refl _, ⟨_, Bk.new w 22 (rowOf fun _ => 0), fun j hj => rowOf_at _ _ hj⟩, .inr rfl, Nat.le_refl _⟩)
  rw [World.setCell_alloc_past _ _ _ _ l1] at HT
  have hkW : Keeps F w ((w.setCell ⟨bl, f, none⟩ (.slice (some ⟨w.heap.size, 0, none⟩) 512 512)).alloc (.cells (rowOf fun _ => 0) 22)).drew := ((Keeps.setCell (F := F) (p := ⟨bl, f, none⟩) HM.out.bF _).alloc _).drew
  have HT2 : Rm ((w.setCell ⟨bl, f, none⟩ (.slice (some ⟨w.heap.size, 0, none⟩) 512 512)).alloc (.cells (rowOf fun _ => 0) 22)).drew p n c (fun y => F y ∨ y = w.heap.size) bl (updV s f (.slice (some ⟨w.heap.size, 0, none⟩) 512 512)) :=
    (HT.call (bd (Below.refl _ _))).congr (fun g j hj => by
      by_cases e : g = f
      · subst e; rw [if_pos rfl]; exact (A2.out j hj).symm
      · rw [if_neg e])
  clear HT hmk
  generalize ((w.setCell ⟨bl, f, none⟩ (.slice (some ⟨w.heap.size, 0, none⟩) 512 512)).alloc (.cells (rowOf fun _ => 0) 22)).drew = W at *
  have b0 : W.cell? ⟨p, 0, none⟩ = some (.slice (some ⟨bl, 0, none⟩) n n) := HT2.str.cell 0
  have b1 : W.cell? ⟨bl, f, none⟩ = some (.slice (some ⟨w.heap.size, 0, none⟩) 512 512) := ((HT2.tab.cell f).trans (tabOf_at _ _ _ hf)).trans (by rw [updV_same])
  have hrw : RW W w.heap.size (c f) := by
    rcases HT2.row f hf with ⟨y, _⟩ | ⟨b, cap, y1, y2, y3, y4⟩
    · rw [updV_same] at y; cases y
    · rw [updV_same] at y1
      have eb : w.heap.size = b := by injection y1 with y1; injection y1 with y1; injection y1
      rw [eb]; exact y3
  have b2 := hrw.cell hi
  have b3 := hrw.frozen i
  have R := Lib.hid (HT2.put hf (updV_same _ _ _) hrw hi v)
  have HK := Lib.hid hkW
  clear HT2 hrw hkW c0 c1 hz l0 l1
  go_wp2_with fail
  go_ret
  exact ⟨rfl, _, ⟨bl, _, R.out⟩, HK.out.trans (Keeps.setCell (F := fun y => y = w.heap.size) rfl _) (fun y hy => .inr (by omega)), fun y hy => hy.imp id (fun e => by omega), fun y hy => .inl hy⟩
theorem rwrite_yes (p n f i : Nat) (x v : Int) (c : Nat → Nat → Int) (F : Nat → Prop) (w : World) (hM : RefS w p n c F) (hn : n ≤ 64) (hx : U64 x) (h1 : x / 512 = f) (h2 : x % 512 = i) (hf : f < n) :
    Calls Try.prog 24 #[.pointer (some ⟨p, 0, none⟩), .int .u64 x, .int .u64 v] w (RWent w p n (upd2 c f i v) F (.int .i64 0)) := by
  obtain ⟨bl, s, hM⟩ := hM
  rcases hM.row f hf with ⟨a1, a2⟩ | ⟨b, cap, a1, a2, a3, a4⟩
  · exact rwrite_new p n bl f i x v c F s w hM hn hx h1 h2 hf a1 a2
  · exact rwrite_there p n bl f i b cap x v c F s w hM hn hx h1 h2 hf a1 a2 a3 a4
theorem rwrite_no (p n : Nat) (x v : Int) (c : Nat → Nat → Int) (F : Nat → Prop) (w : World) (hM : RefS w p n c F) (hn : n ≤ 64) (hx : U64 x) (h : (n : Int) ≤ x / 512) :
    Calls Try.prog 24 #[.pointer (some ⟨p, 0, none⟩), .int .u64 x, .int .u64 v] w fun e w' => e = .returned (.int .i64 80) ∧ w = w' := by
  obtain ⟨bl, s, hM⟩ := hM
  have c0 : w.cell? ⟨p, 0, none⟩ = some (.slice (some ⟨bl, 0, none⟩) n n) := hM.str.cell 0
  clear hM
  go_enter Try.func24, Try.ntmps24
  go_wp2_with fail
  refine (rthere_no p n bl x _ hx c0 hn h).mono ?_
  rintro e w1 ⟨rfl, rfl⟩
  go_wp2_with fail
  go_ret
  exact ⟨rfl, rfl⟩
theorem rread_no (p n : Nat) (x : Int) (c : Nat → Nat → Int) (F : Nat → Prop) (w : World) (hM : RefS w p n c F) (hn : n ≤ 64) (hx : U64 x) (h : (n : Int) ≤ x / 512) :
    Calls Try.prog 41 #[.pointer (some ⟨p, 0, none⟩), .int .u64 x] w fun e w' => e = .returned (.tuple #[.int .u64 0, .int .i64 80]) ∧ w = w' := by
  obtain ⟨bl, s, hM⟩ := hM
  have c0 : w.cell? ⟨p, 0, none⟩ = some (.slice (some ⟨bl, 0, none⟩) n n) := hM.str.cell 0
  clear hM
  go_enter Try.func41, Try.ntmps41
  go_wp2_with fail
  refine (rthere_no p n bl x _ hx c0 hn h).mono ?_
  rintro e w1 ⟨rfl, rfl⟩
  go_wp2_with fail
  go_ret2
  exact ⟨rfl, rfl⟩
set_option maxHeartbeats 400000 in
theorem radd_yes (p n f i : Nat) (x v : Int) (c : Nat → Nat → Int) (F : Nat → Prop) (w : World) (hM : RefS w p n c F) (hn : n ≤ 64) (hx : U64 x) (h1 : x / 512 = f) (h2 : x % 512 = i) (hf : f < n) :
    Calls Try.prog 40 #[.pointer (some ⟨p, 0, none⟩), .int .u64 x, .int .u64 v] w (RWent w p n (upd2 c f i (IntKind.u64.wrap (c f i + v))) F (.tuple #[.int .u64 (c f i), .int .i64 0])) := by
  have H1 := Lib.hid h1
  have H2 := Lib.hid h2
  clear h1 h2
  go_enter Try.func40, Try.ntmps40
  go_wp2_with fail
  refine (rread_yes p n f i x c F _ hM hn hx H1.out H2.out hf).mono ?_
  rintro e w1 ⟨rfl, rfl⟩
  go_wp2_with fail
  refine (rwrite_yes p n f i x _ c F _ hM hn hx H1.out H2.out hf).mono ?_
  rintro e w1 ⟨rfl, F', m1, m3, m4, m5⟩
  have M3 := Lib.hid m3
  have M4 := Lib.hid m4
  have M5 := Lib.hid m5
  clear m3 m4 m5
  go_wp2_with fail
  go_ret2
  exact ⟨rfl, F', m1, M3.out, M4.out, M5.out⟩
theorem radd_no (p n : Nat) (x v : Int) (c : Nat → Nat → Int) (F : Nat → Prop) (w : World) (hM : RefS w p n c F) (hn : n ≤ 64) (hx : U64 x) (h : (n : Int) ≤ x / 512) :
    Calls Try.prog 40 #[.pointer (some ⟨p, 0, none⟩), .int .u64 x, .int .u64 v] w fun e w' => e = .returned (.tuple #[.int .u64 0, .int .i64 80]) ∧ w = w' := by
  go_enter Try.func40, Try.ntmps40
  go_wp2_with fail
  refine (rread_no p n x c F _ hM hn hx h).mono ?_
  rintro e w1 ⟨rfl, rfl⟩
  go_wp2_with fail
  go_ret2
  exact ⟨rfl, rfl⟩
/-- What the document's New leaves. -/
def RMade (w : World) (n : Nat) (e : Ending) (w' : World) : Prop :=
  ∃ p F, e = .returned (.tuple #[.pointer (some ⟨p, 0, none⟩), .int .i64 0]) ∧ RefS w' p n (fun _ _ => 0) F ∧ Below w.heap.size w w' ∧ ∀ x, F x → w.heap.size ≤ x
theorem madeTab (n : Nat) : madeCells (Value.slice none 0 0).cells (n * 1) = tabOf n fun _ => .slice none 0 0 := by
  rw [Nat.mul_one]
  apply Array.ext_getElem?
  intro j
  by_cases hj : j < n
  · rw [tabOf_at _ _ _ hj]
    simp [madeCells, Value.cells, hj, Nat.mod_one]
  · rw [Array.getElem?_eq_none (by rw [size_madeCells]; omega), Array.getElem?_eq_none (by rw [tabOf_size]; omega)]
theorem make_tab (n : Nat) (hn : n ≤ 64) (W : World) : (Instr.makeSlice 79 (.int .i64 n) (.int .i64 n)).run Try.prog W = .ok (.slice (some ⟨W.heap.size, 0, none⟩) n n) (W.alloc (.cells (tabOf n fun _ => .slice none 0 0) 35)) := by
  obtain ⟨i, hi, h1, h2, h3⟩ : ∃ i, Try.prog.info? 35 = some i ∧ i.zero = some (.slice none 0 0) ∧ i.size = 1 ∧ i.bytes = 24 := by
    have h : (Try.prog.info? 35).map (fun i => (i.zero, i.size, i.bytes)) = some (some (.slice none 0 0), 1, 24) := by kernel_rfl
    cases hq : Try.prog.info? 35 with
    | none => simp [hq] at h
    | some i => simp [hq] at h; exact ⟨i, rfl, h.1, h.2.1, h.2.2⟩
  have := run_makeSlice (P := Try.prog) W 79 35 i (.slice none 0 0) Try.underlying79 hi h1 .i64 .i64 n n (by omega) (by omega) (by rw [h2]; omega) (by rw [h3]; omega) (by omega)
  rw [h2] at this
  rw [this]
  have e : (n : Int).toNat = n := rfl
  rw [e, madeTab]
theorem Rm.made (w : World) (n : Nat) : Rm ((w.alloc (.cells (tabOf n fun _ => .slice none 0 0) 35)).alloc (.cells #[.slice (some ⟨w.heap.size, 0, none⟩) n n] 81)) (w.heap.size + 1) n (fun _ _ => 0) (fun b => b = w.heap.size ∨ b = w.heap.size + 1) w.heap.size (fun _ => .slice none 0 0) where
  str := by
    have := Bk.new (w.alloc (.cells (tabOf n fun _ => .slice none 0 0) 35)) 81 #[.slice (some ⟨w.heap.size, 0, none⟩) n n]
    rwa [World.size_alloc] at this
  tab := (Bk.new w 35 (tabOf n fun _ => .slice none 0 0)).call (ba (Below.refl _ _) _)
  pF := .inr rfl
  bF := .inl rfl
  lt := fun b hb => by simp only [World.size_alloc]; omega
  row := fun f hf => .inl ⟨rfl, fun _ _ => rfl⟩
  inj := fun f g b cap cap' _ _ h1 _ => by cases h1
set_option maxHeartbeats 400000 in
theorem rnew_yes (n : Nat) (w : World) (h1 : 1 ≤ n) (h2 : n ≤ 64) : Calls Try.prog 17 #[.int .i64 n] w (RMade w n) := by
  have hmk := make_tab n h2
  have R := Lib.hid (Rm.made w n)
  go_enter Try.func17, Try.ntmps17
  go_wp2_with fail
  go_ret2
  exact ⟨w.heap.size + 1, _, rfl, ⟨_, _, R.out⟩, ba (ba (Below.refl _ _) _) _, fun x hx => by omega⟩
theorem rnew_no (n : Int) (w : World) (h : n < 1 ∨ 64 < n) : Calls Try.prog 17 #[.int .i64 n] w fun e w' => e = .returned (.tuple #[.pointer none, .int .i64 2]) ∧ w = w' := by
  rcases h with h | h
  · go_enter Try.func17, Try.ntmps17
    go_wp2_with fail
    go_ret2
    exact ⟨rfl, rfl⟩
  · have h' : ¬ n < 1 := by omega
    go_enter Try.func17, Try.ntmps17
    go_wp2_with fail
    go_ret2
    exact ⟨rfl, rfl⟩
end Go.Proofs.Ytlhbofgcgfbchaa
