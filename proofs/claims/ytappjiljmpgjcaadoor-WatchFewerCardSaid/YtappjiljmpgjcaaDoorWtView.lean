/-
  Layer 29: a view of a snapshot; its frames' words as they were wanted.
-/
import Derived.Test.YtappjiljmpgjcaaDoorWtSn
import Derived.Test.YtappjiljmpgjcaaDoorDescPlain
import Derived.Test.YtappjiljmpgjcaaDoorAdIdx
import Derived.Carry
namespace Go.Proofs.YtappjiljmpgjcaaDoor
open Go.RowKit Go.Maps
set_option linter.unusedVariables false
set_option linter.unusedSimpArgs false
/-! ### The words of a frame -/
def upd (g : Nat → Int) (i : Nat) (v : Int) : Nat → Int := fun j => if j = i then v else g j
def rowOf (g : Nat → Int) : Array Value := Array.ofFn (n := 512) fun i => Value.int .u64 (g i)
theorem rowOf_size (g : Nat → Int) : (rowOf g).size = 512 := by simp [rowOf]
theorem rowOf_at (g : Nat → Int) (i : Nat) (hi : i < 512) : (rowOf g)[i]? = some (.int .u64 (g i)) := by simp [rowOf, hi]
theorem rowOf_set (g : Nat → Int) (i : Nat) (v : Int) : (rowOf g).setIfInBounds i (.int .u64 v) = rowOf (upd g i v) := by
  apply Array.ext_getElem?
  intro j
  rw [Array.getElem?_setIfInBounds]
  by_cases hj : j < 512
  · rw [rowOf_at _ _ hj, rowOf_at _ _ hj, rowOf_size]
    by_cases e : i = j
    · subst e; simp [hj, upd]
    · rw [if_neg e]; simp [upd, show ¬ j = i from fun h => e h.symm]
  · have h1 : (rowOf g)[j]? = none := Array.getElem?_eq_none (by rw [rowOf_size]; omega)
    have h2 : (rowOf (upd g i v))[j]? = none := Array.getElem?_eq_none (by rw [rowOf_size]; omega)
    rw [h1, h2, rowOf_size]
    split
    · split
      · omega
      · rfl
    · rfl
def tbl : List CW → Nat → Int
  | [], _ => 0
  | c :: l, i => if (i : Int) = c.p then c.v else tbl l i
theorem tbl_in (c : CW) (l : List CW) (h : 0 ≤ c.p) : tbl (c :: l) = upd (tbl l) c.p.toNat c.v := by
  funext i
  have hi : ((i : Int) = c.p) = (i = c.p.toNat) := propext ⟨fun h => by omega, fun h => by omega⟩
  simp only [tbl, upd, hi]
theorem tbl_out (c : CW) (l : List CW) (h : ¬ (0 ≤ c.p ∧ c.p < 512)) : rowOf (tbl (c :: l)) = rowOf (tbl l) := by
  apply Array.ext_getElem?
  intro j
  by_cases hj : j < 512
  · rw [rowOf_at _ _ hj, rowOf_at _ _ hj]
    have : ¬ (j : Int) = c.p := fun e => h ⟨by omega, by omega⟩
    simp [tbl, this]
  · rw [Array.getElem?_eq_none (by rw [rowOf_size]; omega), Array.getElem?_eq_none (by rw [rowOf_size]; omega)]
theorem tbl_u64 : ∀ (l : List CW), (∀ c ∈ l, U64 c.v) → ∀ i, U64 (tbl l i)
  | [], _, _ => ⟨by simp [tbl], by simp [tbl]⟩
  | c :: l, h, i => by
    unfold tbl
    split
    · exact h c (by simp)
    · exact tbl_u64 l (fun c hc => h c (by simp [hc])) i
def thr (s : Sn) (f : Int) : Bool := decide (0 ≤ f) && decide (f < s.fl.length)
def frm (s : Sn) (f : Int) : Fr := (s.fl[f.toNat]?).getD Fr.z
def fre (s : Sn) (f : Int) : Bool := decide ((frm s f).n = 0)
def tb (s : Sn) (f : Int) : Nat → Int := tbl (frm s f).wl
theorem thr_iff (s : Sn) (f : Int) : thr s f = true ↔ 0 ≤ f ∧ f < s.fl.length := by simp [thr]
theorem frm_at {s : Sn} {f : Int} (h : thr s f = true) : s.fl[f.toNat]? = some (frm s f) := by
  have := (thr_iff s f).1 h
  rw [frm, List.getElem?_eq_getElem (by omega), Option.getD_some]
theorem tb_u64 {w : World} {s : Sn} (h : s.Given w) (f : Int) (i : Nat) : U64 (tb s f i) := by
  refine tbl_u64 _ (fun c hc => ?_) i
  unfold frm at hc
  cases e : s.fl[f.toNat]? with
  | none => rw [e] at hc; simp [Fr.z] at hc
  | some x =>
    rw [e] at hc
    exact ((h.gfall x (List.mem_of_getElem? e)).gwall c hc).gv
/-- How many of the first n there are. -/
def cntN (g : Nat → Bool) : Nat → Nat
  | 0 => 0
  | n + 1 => cntN g n + if g n then 1 else 0
theorem cntN_le (g : Nat → Bool) : ∀ n, cntN g n ≤ n
  | 0 => Nat.le_refl _
  | n + 1 => by have := cntN_le g n; unfold cntN; split <;> omega
theorem cntN_same {g g' : Nat → Bool} : ∀ n, (∀ i, i < n → g i = g' i) → cntN g n = cntN g' n
  | 0, _ => rfl
  | n + 1, h => by unfold cntN; rw [cntN_same n (fun i hi => h i (by omega)), h n (by omega)]
theorem cntN_add {g g' : Nat → Bool} {f : Nat} (h0 : g f = false) (h1 : g' f = true) (h2 : ∀ i, i ≠ f → g' i = g i) : ∀ n, f < n → cntN g' n = cntN g n + 1
  | 0, h => by omega
  | n + 1, h => by
    unfold cntN
    by_cases e : f = n
    · subst e
      rw [h0, h1, cntN_same f (fun i hi => h2 i (by omega))]
      simp
    · rw [cntN_add h0 h1 h2 n (by omega), h2 n (fun e' => e e'.symm)]
      omega
/-! ### The view -/
/-- What is known of the view's roots: there are none yet; they count g; they lie in block R, which is the caller's. -/
inductive Rt where
  | no
  | cnt (g : Int → Nat)
  | out (R : Nat)
def rtOk (w : World) (F : Nat → Prop) (m : Nat) (r : Value) : Rt → Prop
  | .no => r = .map none
  | .out R => r = .map (some R)
  | .cnt g => ∃ (R K : Nat) (on : Value → Option Value), r = .map (some R) ∧ R ≠ m ∧ Mp 3 w R K on ∧ F R ∧ K ≤ 300 ∧ ∀ f : Int, I64 f → (on (.int .i64 f)).getD (.int .i64 0) = .int .i64 (g f)
structure Vw (w : World) (P m K : Nat) (s : Sn) (F : Nat → Prop) (on : Value → Option Value) (r : Value) (rt : Rt) : Prop where
  str : Bk w P 89 #[.slice s.cO s.cl.length s.cc, .slice s.sO s.sl.length s.sc, .slice s.fO s.fl.length s.fc, .map (some m), r]
  map : Mp 3 w m K on
  cnt : K ≤ cntN (fun f => (on (.int .i64 f)).isSome) s.fl.length
  pF : F P
  mF : F m
  lt : ∀ x, F x → x < w.heap.size
  row : ∀ f : Int, I64 f → on (.int .i64 f) = none ∨ ∃ b : Nat, on (.int .i64 f) = some (.pointer (some ⟨b, 0, none⟩)) ∧ Bk w b 110 (rowOf (tb s f)) ∧ F b
  rts : rtOk w F m r rt
theorem rtOk.keep {w w' : World} {F G : Nat → Prop} {m : Nat} {r : Value} : ∀ {rt : Rt}, rtOk w F m r rt → Keeps G w w' → (∀ b, F b → ¬ G b) → rtOk w' F m r rt
  | .no, h, _, _ => h
  | .out _, h, _, _ => h
  | .cnt g, ⟨R, K, on, e, hne, h1, h2, h3⟩, hk, hG => ⟨R, K, on, e, hne, h1.keep hk (hG R h2), h2, h3⟩
theorem Vw.keep {w w' : World} {P m K : Nat} {s : Sn} {F G : Nat → Prop} {on : Value → Option Value} {r : Value} {rt : Rt} (h : Vw w P m K s F on r rt) (hk : Keeps G w w') (hG : ∀ b, F b → ¬ G b) : Vw w' P m K s F on r rt where
  str := h.str.keep hk (hG _ h.pF)
  map := h.map.keep hk (hG _ h.mF)
  cnt := h.cnt
  pF := h.pF
  mF := h.mF
  lt := fun x hx => Nat.lt_of_lt_of_le (h.lt x hx) hk.size
  row := fun f hf => (h.row f hf).imp id fun ⟨b, h1, h2, h3⟩ => ⟨b, h1, h2.keep hk (hG _ h3), h3⟩
  rts := h.rts.keep hk hG
/-- A view at P, made since w0, that has none of the blocks E. -/
def Vx (w0 : World) (E : Nat → Prop) (w : World) (P : Nat) (s : Sn) (rt : Rt) : Prop :=
  ∃ (F : Nat → Prop) (m K : Nat) (on : Value → Option Value) (r : Value), Vw w P m K s F on r rt ∧ (∀ x, F x → w0.heap.size ≤ x ∧ ¬ E x) ∧ Below w0.heap.size w0 w
section
variable {w0 w w' : World} {E E' G : Nat → Prop} {P : Nat} {s : Sn} {rt : Rt}
theorem Vx.below (h : Vx w0 E w P s rt) : Below w0.heap.size w0 w := by obtain ⟨F, m, K, on, r, h1, h2, h3⟩ := h; exact h3
theorem Vx.mono (h : Vx w0 E w P s rt) (hE : ∀ x, E' x → E x) : Vx w0 E' w P s rt := by
  obtain ⟨F, m, K, on, r, h1, h2, h3⟩ := h
  exact ⟨F, m, K, on, r, h1, fun x hx => ⟨(h2 x hx).1, fun hE' => (h2 x hx).2 (hE x hE')⟩, h3⟩
theorem Vx.call (h : Vx w0 E w P s rt) (hb : Below w.heap.size w w') : Vx w0 E w' P s rt := by
  obtain ⟨F, m, K, on, r, h1, h2, h3⟩ := h
  exact ⟨F, m, K, on, r, h1.keep (Keeps.of_below (F := fun _ => False) hb) (fun _ _ hf => hf), h2, bthen h3 hb⟩
theorem Vx.keep (h : Vx w0 E w P s rt) (hk : Keeps G w w') (hG : ∀ x, G x → E x ∧ w0.heap.size ≤ x) : Vx w0 E w' P s rt := by
  obtain ⟨F, m, K, on, r, h1, h2, h3⟩ := h
  exact ⟨F, m, K, on, r, h1.keep hk (fun b hb hg => (h2 b hb).2 (hG b hg).1), h2, hk.below h3 (fun x hx => (hG x hx).2)⟩
/-- Blocks that have come since are the caller's own. -/
theorem Vx.grow (h : Vx w0 E w P s rt) (hb : Below w.heap.size w w') (hE : ∀ x, E' x → E x ∨ w.heap.size ≤ x) : Vx w0 E' w' P s rt := by
  obtain ⟨F, m, K, on, r, h1, h2, h3⟩ := h
  exact ⟨F, m, K, on, r, h1.keep (Keeps.of_below (F := fun _ => False) hb) (fun _ _ hf => hf), fun x hx => ⟨(h2 x hx).1, fun hE' => (hE x hE').elim (h2 x hx).2 (fun hle => by have := h1.lt x hx; omega)⟩, bthen h3 hb⟩
theorem Vx.add (h : Vx w0 E w P s rt) (o : Obj) : Vx w0 (fun x => E x ∨ x = w.heap.size) (w.alloc o) P s rt :=
  h.grow (ba (Below.refl _ _) o) (fun x hx => hx.imp id (fun e => by omega))
theorem Vx.str (h : Vx w0 E w P s rt) : ∃ (m : Nat) (r : Value), Bk w P 89 #[.slice s.cO s.cl.length s.cc, .slice s.sO s.sl.length s.sc, .slice s.fO s.fl.length s.fc, .map (some m), r] := by
  obtain ⟨F, m, K, on, r, h1, h2, h3⟩ := h
  exact ⟨m, r, h1.str⟩
theorem Vx.lt (h : Vx w0 E w P s rt) : P < w.heap.size := by obtain ⟨m, r, hB⟩ := h.str; exact hB.lt
theorem Bk.inE {g : Nat} {t : TypeId} {cs : Array Value} (h : Bk w g t cs) (hk : Keeps (fun x => ¬ E x) w w') (hE : E g) : Bk w' g t cs := h.keep hk (fun hn => hn hE)
end
/-- The blocks E lie as they lay, and so do all rows of words. -/
def Kp (E : Nat → Prop) (w w' : World) : Prop := Keeps (fun x => ¬ E x) w w' ∧ ∀ b cs, Bk w b 110 cs → Bk w' b 110 cs
theorem Kp.refl (E : Nat → Prop) (w : World) : Kp E w w := ⟨Keeps.refl _ _, fun _ _ h => h⟩
theorem Kp.of_below {E : Nat → Prop} {w w' : World} (h : Below w.heap.size w w') : Kp E w w' := ⟨(Keeps.of_below (F := fun _ => False) h).mono (fun _ hf => hf.elim), fun _ _ hb => hb.call h⟩
theorem Keeps.after {F : Nat → Prop} {a b c : World} (h : Keeps F a b) (k : Keeps F b c) : Keeps F a c := h.trans k (fun _ hx => .inl hx)
theorem Kp.trans {E : Nat → Prop} {a b c : World} (h : Kp E a b) (k : Kp E b c) : Kp E a c := ⟨h.1.after k.1, fun x cs hx => k.2 x cs (h.2 x cs hx)⟩
theorem Kp.mono {E E' : Nat → Prop} {a b : World} (h : Kp E a b) (hE : ∀ x, E' x → E x) : Kp E' a b := ⟨h.1.mono (fun x hx hE' => hx (hE x hE')), h.2⟩
theorem Kp.sub {E E' : Nat → Prop} {a b c : World} (h : Kp E a b) (k : Kp E' b c) (hE : ∀ x, E x → x < a.heap.size → E' x) : Kp E a c := by
  refine ⟨⟨k.1.os.trans h.1.os, k.1.tape.trans h.1.tape, k.1.output.trans h.1.output, Nat.le_trans h.1.size k.1.size, fun i hi hn => ?_⟩, fun x cs hx => k.2 x cs (h.2 x cs hx)⟩
  exact (k.1.block i (Nat.lt_of_lt_of_le hi h.1.size) (fun hE' => hn (fun hEi => hE' (hE i hEi hi)))).trans (h.1.block i hi hn)
theorem Kp.bk {E : Nat → Prop} {w w' : World} {g : Nat} {t : TypeId} {cs : Array Value} (hk : Kp E w w') (h : Bk w g t cs) (hE : E g) : Bk w' g t cs := h.keep hk.1 (fun hn => hn hE)
/-! ### Its readers -/
/-- A snapshot by value. -/
abbrev snA (s : Sn) : Value := .agg #[.slice s.cO s.cl.length s.cc, .slice s.sO s.sl.length s.sc, .slice s.fO s.fl.length s.fc]
abbrev snR (s : Sn) : Array Value := #[.slice s.cO s.cl.length s.cc, .slice s.sO s.sl.length s.sc, .slice s.fO s.fl.length s.fc]
theorem wtThere_any {w : World} {P : Nat} {s : Sn} {m : Nat} {r : Value} (f : Int) (h : Bk w P 89 #[.slice s.cO s.cl.length s.cc, .slice s.sO s.sl.length s.sc, .slice s.fO s.fl.length s.fc, .map (some m), r]) :
    Calls Tryd.prog 23 #[.pointer (some ⟨P, 0, none⟩), .int .i64 f] w fun e w' => e = .returned (.bool (thr s f)) ∧ w = w' := by
  have c2 : w.cell? ⟨P, 2, none⟩ = some (.slice s.fO s.fl.length s.fc) := h.cell 2
  have HT := Lib.hid (show thr s f = (decide (0 ≤ f) && decide (f < s.fl.length)) from rfl)
  generalize s.fl.length = n at *
  clear h
  by_cases a1 : 0 ≤ f
  · go_enter Tryd.func23, Tryd.ntmps23
    go_wp2_with fail
    go_ret
    exact ⟨ret_bool (by rw [HT.out]; simp [a1]), rfl⟩
  · go_enter Tryd.func23, Tryd.ntmps23
    go_wp2_with fail
    go_ret
    exact ⟨ret_bool (by rw [HT.out]; simp; intro; omega), rfl⟩
theorem wtFree_any {w : World} {P : Nat} {s : Sn} {m : Nat} {r : Value} (f : Int) (h : Bk w P 89 #[.slice s.cO s.cl.length s.cc, .slice s.sO s.sl.length s.sc, .slice s.fO s.fl.length s.fc, .map (some m), r]) (hs : s.Given w) (ht : thr s f = true) :
    Calls Tryd.prog 24 #[.pointer (some ⟨P, 0, none⟩), .int .i64 f] w fun e w' => e = .returned (.bool (fre s f)) ∧ w = w' := by
  have c2 : w.cell? ⟨P, 2, none⟩ = some (.slice s.fO s.fl.length s.fc) := h.cell 2
  obtain ⟨h0, h1⟩ := (thr_iff s f).1 ht
  obtain ⟨k, rfl⟩ := Int.eq_ofNat_of_zero_le h0
  have hx := frm_at ht
  have hlt : k < s.fl.length := by omega
  obtain ⟨b, off, e, hc⟩ := hs.gf (by omega)
  have q0 : w.cell? ⟨b, off + k * 2, none⟩ = some (.int .i64 (frm s k).n) := hc k _ (by simpa using hx) 0 _ rfl
  rw [e] at c2
  have HT := Lib.hid (show fre s k = decide ((frm s k).n = 0) from rfl)
  generalize (frm s k).n = c at *
  clear h hs hc hx ht h0 h1
  go_enter Tryd.func24, Tryd.ntmps24
  go_wp2_with fail
  go_ret
  exact ⟨ret_bool (by rw [HT.out]; rfl), rfl⟩
theorem wtLook_any (s : Sn) (w w0 : World) (E : Nat → Prop) (hb : Below w0.heap.size w0 w) (hE : ∀ x, E x → x < w.heap.size) :
    Calls Tryd.prog 14 #[snA s] w fun e w' => e = .returned (.pointer (some ⟨w.heap.size + 2, 0, none⟩)) ∧ Vx w0 E w' (w.heap.size + 2) s .no ∧ Below w.heap.size w w' := by
  have hv : Vx w0 E (((w.alloc (.cells (snR s) 26)).alloc (.map #[] 0)).alloc (.cells #[.slice s.cO s.cl.length s.cc, .slice s.sO s.sl.length s.sc, .slice s.fO s.fl.length s.fc, .map (some (w.heap.size + 1)), .map none] 89)) (w.heap.size + 2) s .no := by
    have hm := (Mp.made 3 (w.alloc (.cells (snR s) 26))).call (ba (Below.refl _ _) (.cells #[.slice s.cO s.cl.length s.cc, .slice s.sO s.sl.length s.sc, .slice s.fO s.fl.length s.fc, .map (some (w.heap.size + 1)), .map none] 89))
    have hk := Bk.new ((w.alloc (.cells (snR s) 26)).alloc (.map #[] 0)) 89 #[.slice s.cO s.cl.length s.cc, .slice s.sO s.sl.length s.sc, .slice s.fO s.fl.length s.fc, .map (some (w.heap.size + 1)), .map none]
    simp only [World.size_alloc] at hm hk
    exact ⟨fun x => x = w.heap.size + 1 ∨ x = w.heap.size + 2, w.heap.size + 1, 0, _, .map none, ⟨hk, hm, by simp, .inr rfl, .inl rfl, fun x hx => by simp; omega, fun f _ => .inl rfl, rfl⟩, fun x hx => ⟨by have := hb.size; omega, fun hEx => by have := hE x hEx; omega⟩, ba (ba (ba hb _) _) _⟩
  have HV := Lib.hid hv
  have hmm := @run_makeMap Tryd.prog
  clear hv
  go_enter Tryd.func14, Tryd.ntmps14
  go_wp2_with fail
  go_ret
  exact ⟨rfl, HV.out, ba (ba (ba (Below.refl _ _) _) _) _⟩
end Go.Proofs.YtappjiljmpgjcaaDoor
