/-
  A region that draws its order, by an invariant over what has been done.
-/
import Derived.OrdersIn
import Derived.Test.YtappjiljmpgjcaaDoorWtKind
import Derived.Maps.AppendAt
import Derived.Test.YtappjiljmpgjcaaDoorWtReaching
namespace Go.Anyo
/-- How many are open. -/
def opens (listed : Array Bool) : Nat := listed.toList.countP (fun b => !b)
theorem countP_set : ∀ (l : List Bool) (i : Nat), l[i]? = some false → (l.set i true).countP (fun b => !b) + 1 = l.countP (fun b => !b)
  | [], i, h => by cases h
  | b :: l, 0, h => by
    simp at h
    subst h
    simp
  | b :: l, i + 1, h => by
    have := countP_set l i (by simpa using h)
    simp only [List.set_cons_succ, List.countP_cons]
    omega
theorem getD_false {listed : Array Bool} {i : Nat} (h : listed.getD i true = false) : listed[i]? = some false := by
  rw [Array.getD_eq_getD_getElem?] at h
  cases e : listed[i]? with
  | none => rw [e] at h; cases h
  | some b => rw [e] at h; simp at h; subst h; rfl
theorem opens_set {listed : Array Bool} {i : Nat} (h : listed.getD i true = false) : opens (listed.setIfInBounds i true) + 1 = opens listed := by
  unfold opens
  rw [Array.toList_setIfInBounds]
  exact countP_set _ i (by rw [Array.getElem?_toList]; exact getD_false h)
section
variable {F : Fence} {n : Nat} {P : Program} {ops : Array Oper} {Q : Exit → Act → World → Prop} {md : Region.Mode}
/-- every operation binds to earlier ones alone -/
def backB (md : Region.Mode) (ops : Array Oper) : Bool := (List.range ops.size).all fun i => match ops[i]? with | some o => o.after.all (fun e => !Region.binds md e || decide (e.on < i)) | none => true
theorem all_listed (hb : backB md ops = true) {listed : Array Bool} (hs : listed.size = ops.size) (hr : Region.ready md ops listed = []) : ∀ i, i < ops.size → listed.getD i false = true := by
  intro i
  induction i using Nat.strongRecOn with
  | ind i ih =>
    intro hi
    cases h : listed[i]? with
    | none =>
      have := Array.getElem?_eq_none_iff.1 h
      omega
    | some b =>
      cases b with
      | true => rw [Array.getD_eq_getD_getElem?, h]; rfl
      | false =>
        exfalso
        have : i ∈ Region.ready md ops listed := by
          refine mem_ready.2 ⟨by rw [Array.getD_eq_getD_getElem?, h]; rfl, ops[i], Array.getElem?_eq_getElem hi, fun e he hbi => ?_⟩
          have h1 := List.all_eq_true.1 hb i (List.mem_range.2 hi)
          rw [Array.getElem?_eq_getElem hi] at h1
          have h2 := Array.all_eq_true_iff_forall_mem.1 h1 e he
          simp [hbi] at h2
          exact ih e.on h2 (by omega)
        rw [hr] at this
        cases this
theorem wpAnyIn_inv {Inv : Array Bool → Act → World → Prop} (hb : backB md ops = true)
    (step : ∀ (listed : Array Bool) (a : Act) (w : World) (i : Nat) (o : Oper), listed.size = ops.size → Inv listed a w → ops[i]? = some o → listed.getD i true = false → (∀ e ∈ o.after, Region.binds md e = true → listed.getD e.on false = true) → wpOpIn F n P ops Q i (Inv (listed.setIfInBounds i true)) a w)
    (fin : ∀ (listed : Array Bool) (a : Act) (w : World), (∀ i, i < ops.size → listed.getD i false = true) → Inv listed a w → Q .normal a w) :
    ∀ (fuel : Nat) (listed : Array Bool) (a : Act) (w : World), listed.size = ops.size → opens listed ≤ fuel → Inv listed a w → wpAnyIn F n P md ops Q fuel listed a w
  | 0, listed, a, w, hs, ho, hI => by
    have hr : Region.ready md ops listed = [] := by
      cases h : Region.ready md ops listed with
      | nil => rfl
      | cons i l =>
        have hi : i ∈ Region.ready md ops listed := by rw [h]; exact List.mem_cons_self
        have := opens_set (mem_ready.1 hi).1
        omega
    exact ⟨hr, fin listed a w (all_listed hb hs hr) hI⟩
  | fuel + 1, listed, a, w, hs, ho, hI => by
    refine ⟨fun hr => fin listed a w (all_listed hb hs hr) hI, fun i hi => ?_⟩
    obtain ⟨h0, o, h1, h2⟩ := mem_ready.1 hi
    have := opens_set h0
    exact wpOpIn_mono (fun a' w' h => wpAnyIn_inv hb step fin fuel _ a' w' (by rw [Array.size_setIfInBounds]; exact hs) (by omega) h) (step listed a w i o hs hI h1 h0 h2)
theorem wpIn_region_inv {id : Nat} {a : Act} {w : World} {Inv : Array Bool → Act → World → Prop} (hm : P.follows .mixedOrders = true) (hb : backB .any ops = true)
    (step : ∀ (listed : Array Bool) (a : Act) (w : World) (i : Nat) (o : Oper), listed.size = ops.size → Inv listed a w → ops[i]? = some o → listed.getD i true = false → (∀ e ∈ o.after, Region.binds .any e = true → listed.getD e.on false = true) → wpOpIn F n P ops Q i (Inv (listed.setIfInBounds i true)) a w)
    (fin : ∀ (listed : Array Bool) (a : Act) (w : World), (∀ i, i < ops.size → listed.getD i false = true) → Inv listed a w → Q .normal a w)
    (h0 : Inv (Array.replicate ops.size false) a { w with drawn := w.drawn + 1 }) : (Code.region id ops true).wpIn F n P Q a w := by
  refine wpIn_region_any hm (wpAnyIn_inv hb step fin _ _ _ _ (by simp) ?_ h0)
  unfold opens
  have := List.countP_le_length (p := fun b => !b) (l := (Array.replicate ops.size false).toList)
  simpa using this
end
end Go.Anyo
namespace Go.Proofs.YtappjiljmpgjcaaDoor
open Go.RowKit Go.Maps Go.Shelf Go.Anyo
set_option linter.unusedVariables false
set_option linter.unusedSimpArgs false
attribute [local go_sem] Oper.semAt_some
/-- What stands in the map at a. -/
def slOf (on : Value → Option Value) (a : Int) : Value := (on (.int .i64 a)).getD (.slice none 0 0)
/-- What slices the map holds: own rows, each of its own. -/
structure Gps (w : World) (B : Nat) (on : Value → Option Value) (g : Int → List Int) : Prop where
  own : ∀ a, I64 a → Ow encI 1 3 w B (slOf on a) (g a)
  apart : ∀ a a', I64 a → I64 a' → a ≠ a' → (slOf on a).ownBlock = none ∨ (slOf on a).ownBlock ≠ (slOf on a').ownBlock
def GpM (w : World) (M B : Nat) (g : Int → List Int) (n : Nat) : Prop := ∃ on, Mp 3 w M n on ∧ M < B ∧ Gps w B on g
section
variable {w w' : World} {M B n : Nat} {g : Int → List Int} {on : Value → Option Value} {F : Nat → Prop}
theorem Gps.call (h : Gps w B on g) (hb : Below w.heap.size w w') : Gps w' B on g := ⟨fun a ha => (h.own a ha).call hb, h.apart⟩
theorem GpM.call (h : GpM w M B g n) (hb : Below w.heap.size w w') : GpM w' M B g n := let ⟨on, h1, h2, h3⟩ := h; ⟨on, h1.call hb, h2, h3.call hb⟩
theorem Ow.kept {α : Type} {enc : α → List Value} {k : Nat} {t : TypeId} {v : Value} {xs : List α} {row : Option Nat} (h : Ow enc k t w B v xs) (hg : w.grownBy w' row) (hne : v.ownBlock = none ∨ v.ownBlock ≠ row) : Ow enc k t w' B v xs := World.ownsRow.kept h hg hne
theorem keeps_grown {b : Nat} (hk : Keeps (fun x => x = b) w w') : w.grownBy w' (some b) := ⟨hk.os, hk.tape, hk.output, hk.size, fun k hk' hn => hk.block k hk' (fun e => hn (by rw [e]))⟩
theorem GpM.keep {b : Nat} (h : GpM w M B g n) (hk : Keeps (fun x => x = b) w w') (hM : b ≠ M) (hb : b < B) : GpM w' M B g n := by
  obtain ⟨on, h1, h2, h3⟩ := h
  refine ⟨on, h1.keep hk (fun e => hM e.symm), h2, fun a ha => (h3.own a ha).kept (keeps_grown hk) ?_, h3.apart⟩
  cases e : (slOf on a).ownBlock with
  | none => exact .inl rfl
  | some x =>
    refine .inr (fun e' => ?_)
    cases e'
    have := (h3.own a ha).lt b e
    omega
theorem GpM.made (w : World) (B : Nat) (hB : w.heap.size < B) : GpM (w.alloc (.map #[] 0)) w.heap.size B (fun _ => []) 0 :=
  ⟨_, Mp.made _ w, hB, fun a ha => Ow.nil _ _ _, fun _ _ _ _ _ => .inl rfl⟩
/-- The map's element has grown. -/
theorem GpM.put {w1 : World} {a r : Int} {v' : Value} (h1 : Mp 3 w M n on) (hM : M < B) (hBw : B ≤ w.heap.size) (h3 : Gps w B on g) (ha : I64 a) (hn : n < 1000) (hg : w.grownBy w1 (slOf on a).ownBlock) (hv : Ow encI 1 3 w1 B v' (g a ++ [r])) (hat : v'.ownBlock = (slOf on a).ownBlock ∨ ∃ b, v'.ownBlock = some b ∧ w.heap.size ≤ b) :
    ∃ w2, (Instr.mapUpdate 71 (.map (some M)) (.int .i64 a) v').run Tryd.prog w1 = .ok () w2 ∧ GpM w2 M B (fun x => if x = a then g x ++ [r] else g x) (n + 1) ∧ Keeps (fun y => y = M) w1 w2 := by
  have hown := h3.own a ha
  have hne : (slOf on a).ownBlock ≠ some M := fun e => by have := hown.lt M e; omega
  have h1' : Mp 3 w1 M n on := h1.block (hg.block M h1.lt (fun e => hne e.symm))
  obtain ⟨w2, hst, hm, hk⟩ := h1'.put kInt Tryd.underlying71 (ik_key ha) v' (by omega)
  have hsl : ∀ x, slOf (updV on (.int .i64 a) v') x = if x = a then v' else slOf on x := fun x => by
    unfold slOf
    by_cases e : x = a
    · subst e; rw [updV_same, if_pos rfl]; rfl
    · rw [updV_other _ _ (fun e' => e (by injection e')), if_neg e]
  have hMo : ∀ {v : Value} {xs : List Int}, Ow encI 1 3 w1 B v xs → v.ownBlock = none ∨ v.ownBlock ≠ some M := fun {v xs} ho => by
    cases e : v.ownBlock with
    | none => exact .inl rfl
    | some x => exact .inr (fun e' => by cases e'; have := ho.lt M e; omega)
  have hold : ∀ x, I64 x → x ≠ a → Ow encI 1 3 w1 B (slOf on x) (g x) := fun x hx e => (h3.own x hx).kept hg (h3.apart x a hx ha e)
  have hnew : ∀ x, I64 x → x ≠ a → (slOf on x).ownBlock = none ∨ (slOf on x).ownBlock ≠ v'.ownBlock := fun x hx e => by
    rcases hat with h | ⟨b, h, hb⟩
    · rw [h]; exact h3.apart x a hx ha e
    · cases e' : (slOf on x).ownBlock with
      | none => exact .inl rfl
      | some y => exact .inr (fun e2 => by rw [h] at e2; cases e2; have := (h3.own x hx).lt b e'; omega)
  refine ⟨w2, hst, ⟨_, hm, hM, fun x hx => ?_, fun x x' hx hx' hxx => ?_⟩, hk⟩
  · rw [hsl]
    by_cases e : x = a
    · subst e
      rw [if_pos rfl]
      show Ow encI 1 3 w2 B v' (if x = x then g x ++ [r] else g x)
      rw [if_pos rfl]
      exact hv.kept (keeps_grown hk) (hMo hv)
    · rw [if_neg e]
      show Ow encI 1 3 w2 B _ (if x = a then g x ++ [r] else g x)
      rw [if_neg e]
      exact (hold x hx e).kept (keeps_grown hk) (hMo (hold x hx e))
  · rw [hsl, hsl]
    by_cases e : x = a
    · rw [if_pos e]
      have e' : x' ≠ a := fun h => hxx (e.trans h.symm)
      rw [if_neg e']
      cases hb : v'.ownBlock with
      | none => exact .inl rfl
      | some b =>
        refine .inr (fun h => ?_)
        rcases hnew x' hx' e' with h' | h'
        · rw [h'] at h; cases h
        · rw [hb] at h'; exact h' h.symm
    · rw [if_neg e]
      by_cases e' : x' = a
      · rw [if_pos e']; exact hnew x hx e
      · rw [if_neg e']; exact h3.apart x x' hx hx' hxx
end
abbrev rtOps : Array Oper := #[{ dst := some 32, op := Go.Op.load 71 (Go.Operand.tmp 3), type := 71, pos := "watch.go:92", after := #[], guard := none }, { dst := some 33, op := Go.Op.fieldAddr 44 (Go.Operand.tmp 6) 1, type := 0, pos := "watch.go:92", after := #[], guard := none }, { dst := some 34, op := Go.Op.load 3 (Go.Operand.tmp 33), type := 3, pos := "watch.go:92", after := #[{ on := 1, ground := Go.Ground.data }], guard := none }, { dst := some 35, op := Go.Op.load 71 (Go.Operand.tmp 3), type := 71, pos := "watch.go:92", after := #[], guard := none }, { dst := some 36, op := Go.Op.fieldAddr 44 (Go.Operand.tmp 6) 1, type := 0, pos := "watch.go:92", after := #[], guard := none }, { dst := some 37, op := Go.Op.load 3 (Go.Operand.tmp 36), type := 3, pos := "watch.go:92", after := #[{ on := 4, ground := Go.Ground.data }], guard := none }, { dst := some 38, op := Go.Op.lookup 71 (Go.Operand.tmp 35) (Go.Operand.tmp 37) false, type := 59, pos := "watch.go:92", after := #[{ on := 3, ground := Go.Ground.data }, { on := 5, ground := Go.Ground.data }], guard := none }, { dst := some 39, op := Go.Op.fieldAddr 44 (Go.Operand.tmp 6) 2, type := 0, pos := "watch.go:92", after := #[], guard := none }, { dst := some 40, op := Go.Op.load 3 (Go.Operand.tmp 39), type := 3, pos := "watch.go:92", after := #[{ on := 7, ground := Go.Ground.data }], guard := none }, { dst := some 41, op := Go.Op.buildSlice 59 1 #[(0, Go.Operand.tmp 40)], type := 59, pos := "watch.go:92", after := #[{ on := 8, ground := Go.Ground.data }], guard := none }, { dst := some 42, op := Go.Op.call { callee := Go.Callee.builtin Go.Builtin.append, args := #[Go.Operand.tmp 38, Go.Operand.tmp 41], argTypes := #[59, 59] }, type := 59, pos := "watch.go:92", after := #[{ on := 6, ground := Go.Ground.data }, { on := 9, ground := Go.Ground.data }], guard := none }, { dst := none, op := Go.Op.mapUpdate 71 (Go.Operand.tmp 32) (Go.Operand.tmp 34) (Go.Operand.tmp 42), type := 0, pos := "watch.go:92", after := #[{ on := 0, ground := Go.Ground.data }, { on := 2, ground := Go.Ground.data }, { on := 10, ground := Go.Ground.data }, { on := 10, ground := Go.Ground.chain }, { on := 0, ground := Go.Ground.phase }, { on := 1, ground := Go.Ground.phase }, { on := 2, ground := Go.Ground.phase }, { on := 3, ground := Go.Ground.phase }, { on := 4, ground := Go.Ground.phase }, { on := 5, ground := Go.Ground.phase }, { on := 6, ground := Go.Ground.phase }, { on := 7, ground := Go.Ground.phase }, { on := 8, ground := Go.Ground.phase }, { on := 9, ground := Go.Ground.phase }, { on := 10, ground := Go.Ground.phase }], guard := none }]
abbrev Ls (listed : Array Bool) (i : Nat) : Prop := listed.getD i false = true
theorem Ls_set {listed : Array Bool} {i j : Nat} (hi : i < listed.size) : Ls (listed.setIfInBounds i true) j ↔ j = i ∨ Ls listed j := by
  unfold Ls
  by_cases e : j = i
  · subst e; simp [hi]
  · rw [getD_set_ne false (fun h => e h.symm)]; simp [e]
theorem eval_put {a : Go.Act} {d k : Nat} {v : Value} (hd : d < a.tmps.size) : (a.put (some d) v).eval (.tmp k) = if k = d then v else a.eval (.tmp k) := by
  unfold Act.put Act.eval
  simp only
  by_cases e : k = d
  · subst e; simp [hd]
  · rw [if_neg e, Array.getD_eq_getD_getElem?, Array.getD_eq_getD_getElem?, Array.getElem?_setIfInBounds_ne (fun h => e h.symm)]
/-- What is known at the region's start. -/
structure RtS (w : World) (M B n T X : Nat) (c : Co) (on : Value → Option Value) (g : Int → List Int) : Prop where
  mp : Mp 3 w M n on
  mb : M < B
  gp : Gps w B on g
  bt : Bk w T 71 #[.map (some M)]
  tb : T < B
  bx : Bk w X 44 (coC c).toArray
  xr : ∀ a b, I64 a → (slOf on a).ownBlock = some b → b ≠ X
  bw : B ≤ w.heap.size
  ia : I64 c.asid
  ir : I64 c.rt
  n1 : n < 1000
  gl : (g c.asid).length ≤ 1000
def rtVal (M X : Nat) (c : Co) (on : Value → Option Value) : Nat → Value
  | 0 => .map (some M)
  | 1 => .pointer (some ⟨X, 1, none⟩)
  | 2 => .int .i64 c.asid
  | 3 => .map (some M)
  | 4 => .pointer (some ⟨X, 1, none⟩)
  | 5 => .int .i64 c.asid
  | 6 => slOf on c.asid
  | 7 => .pointer (some ⟨X, 2, none⟩)
  | _ => .int .i64 c.rt
inductive RtSt (w : World) (M B n : Nat) (c : Co) (on : Value → Option Value) (g : Int → List Int) (L : Nat → Prop) (a : Go.Act) (w' : World) : Prop
  | pre (h10 : ¬ L 10) (h11 : ¬ L 11) (hb : Below w.heap.size w w') (h9 : L 9 → ∃ b : Nat, a.eval (.tmp 41) = .slice (some ⟨b, 0, none⟩) 1 1 ∧ w'.cell? ⟨b, 0, none⟩ = some (.int .i64 c.rt))
  | app (w1 : World) (v' : Value) (h6 : L 6) (h9 : L 9) (h10 : L 10) (h11 : ¬ L 11) (hb : Below w.heap.size w w1) (hg : w1.grownBy w' (slOf on c.asid).ownBlock) (he : a.eval (.tmp 42) = v') (ho : Ow encI 1 3 w' B v' (g c.asid ++ [c.rt])) (hat : v'.ownBlock = (slOf on c.asid).ownBlock ∨ ∃ b, v'.ownBlock = some b ∧ w1.heap.size ≤ b)
  | fin (ha : ∀ i, i < 12 → L i) (hm : GpM w' M B (fun x => if x = c.asid then g x ++ [c.rt] else g x) (n + 1)) (hk : Keeps (fun y => y = M ∨ B ≤ y) w w')
structure RtI (w : World) (M B n T X : Nat) (c : Co) (on : Value → Option Value) (g : Int → List Int) (listed : Array Bool) (a : Go.Act) (w' : World) : Prop where
  sz : a.tmps.size = 44
  e3 : a.eval (.tmp 3) = .pointer (some ⟨T, 0, none⟩)
  e6 : a.eval (.tmp 6) = .pointer (some ⟨X, 0, none⟩)
  q : ∀ i, i < 9 → Ls listed i → a.eval (.tmp (32 + i)) = rtVal M X c on i
  st : RtSt w M B n c on g (Ls listed) a w'
section
variable {w w' : World} {M B n T X : Nat} {c : Co} {on : Value → Option Value} {g : Int → List Int} {listed : Array Bool} {a : Go.Act}
theorem RtI.quiet (h : RtI w M B n T X c on g listed a w') (hl : listed.size = 12) {i : Nat} (hi : i < 9) (hn : ¬ Ls listed i) : RtI w M B n T X c on g (listed.setIfInBounds i true) (a.put (some (32 + i)) (rtVal M X c on i)) w' := by
  have hsz := h.sz
  have hls : ∀ j, Ls (listed.setIfInBounds i true) j ↔ j = i ∨ Ls listed j := fun j => Ls_set (by omega)
  have hev : ∀ (k : Nat) v, (a.put (some (32 + i)) v).eval (.tmp k) = if k = 32 + i then v else a.eval (.tmp k) := fun k v => eval_put (by omega)
  refine ⟨by unfold Act.put; simp [hsz], by rw [hev, if_neg (by omega)]; exact h.e3, by rw [hev, if_neg (by omega)]; exact h.e6, fun j hj hL => ?_, ?_⟩
  · rw [hev]
    by_cases e : j = i
    · subst e; rw [if_pos rfl]
    · rw [if_neg (by omega)]
      exact h.q j hj (((hls j).1 hL).resolve_left e)
  · cases h.st with
    | pre h10 h11 hb h9 =>
      refine .pre (fun hL => ((hls _).1 hL).elim (fun e => by omega) h10) (fun hL => ((hls _).1 hL).elim (fun e => by omega) h11) hb (fun hL => ?_)
      rw [hev, if_neg (by omega)]
      exact h9 (((hls _).1 hL).resolve_left (fun e => by omega))
    | app w1 v' h6 h9 h10 h11 hb hg he ho hat =>
      exact .app w1 v' ((hls _).2 (.inr h6)) ((hls _).2 (.inr h9)) ((hls _).2 (.inr h10)) (fun hL => ((hls _).1 hL).elim (fun e => by omega) h11) hb hg (by rw [hev, if_neg (by omega)]; exact he) ho hat
    | fin ha hm hk => exact absurd (ha i (by omega)) hn
/-- The boxes, as long as the region lasts. -/
theorem RtI.cells (hS : RtS w M B n T X c on g) (h : RtI w M B n T X c on g listed a w') {i : Nat} (hi : i < 12) (hn : ¬ Ls listed i) : Bk w' T 71 #[.map (some M)] ∧ Bk w' X 44 (coC c).toArray := by
  cases h.st with
  | pre h10 h11 hb h9 => exact ⟨hS.bt.call hb, hS.bx.call hb⟩
  | app w1 v' h6 h9 h10 h11 hb hg he ho hat =>
    have h1 := hS.bt.call hb
    have h2 := hS.bx.call hb
    refine ⟨(hg.block T h1.lt (fun e => ?_)).trans h1, (hg.block X h2.lt (fun e => ?_)).trans h2⟩
    · have := (hS.gp.own c.asid hS.ia).lt T e.symm
      have := hS.tb
      omega
    · exact hS.xr c.asid X hS.ia e.symm rfl
  | fin ha hm hk => exact absurd (ha i hi) hn
end
section
variable {m l : Nat} {ops : Array Oper} {Q : Exit → Go.Act → World → Prop} {a : Go.Act} {w' : World} {i : Nat} {o : Oper} {K : Go.Act → World → Prop}
theorem opIn_of_run {v : Value} {w2 : World} (hi : ops[i]? = some o) (hg : o.guard = none) (nd : ∀ c, o.op ≠ .defer c) (hr : (execOp a.eval o).run Tryd.prog w' = .ok (.value v) w2) (hK : K (a.put o.dst v) w2) : wpOpIn (Fence.wide.inRound l) m Tryd.prog ops Q i K a w' := by
  unfold wpOpIn
  rw [hi]
  simp only [Region.wanted, hg, if_true]
  unfold Oper.wpIn
  refine ⟨fun _ _ => trivial, ?_⟩
  rw [show (Fence.wide.inRound l).round = some l from rfl, Oper.semAt_some l _ _ nd, hr]
  exact hK
end
section
variable {m l : Nat} {ops : Array Oper} {Q : Exit → Go.Act → World → Prop} {a : Go.Act} {w' : World} {i : Nat} {o : Oper} {K : Go.Act → World → Prop}
theorem opIn_of_skip {w2 : World} (hi : ops[i]? = some o) (hg : o.guard = none) (nd : ∀ c, o.op ≠ .defer c) (hr : (execOp a.eval o).run Tryd.prog w' = .ok .skip w2) (hK : K (a.put o.dst undef) w2) : wpOpIn (Fence.wide.inRound l) m Tryd.prog ops Q i K a w' := by
  unfold wpOpIn
  rw [hi]
  simp only [Region.wanted, hg, if_true]
  unfold Oper.wpIn
  refine ⟨fun _ _ => trivial, ?_⟩
  rw [show (Fence.wide.inRound l).round = some l from rfl, Oper.semAt_some l _ _ nd, hr]
  exact hK
end
set_option maxRecDepth 100000 in
set_option maxHeartbeats 2000000 in
theorem rt_step {w : World} {M B n T X : Nat} {c : Co} {on : Value → Option Value} {g : Int → List Int} (hS : RtS w M B n T X c on g) (m l : Nat) (Q : Exit → Go.Act → World → Prop) (listed : Array Bool) (a : Go.Act) (w' : World) (i : Nat) (o : Oper) (hl : listed.size = rtOps.size) (hI : RtI w M B n T X c on g listed a w') (hi : rtOps[i]? = some o) (hn : listed.getD i true = false)
    (hd : ∀ e ∈ o.after, Region.binds .any e = true → listed.getD e.on false = true) : wpOpIn (Fence.wide.inRound l) m Tryd.prog rtOps Q i (RtI w M B n T X c on g (listed.setIfInBounds i true)) a w' := by
  have hl : listed.size = 12 := hl
  have hlt : i < 12 := (Array.getElem?_eq_some_iff.1 hi).1
  have hno : ¬ Ls listed i := fun h => by
    have := getD_false hn
    unfold Ls at h
    rw [Array.getD_eq_getD_getElem?, this] at h
    cases h
  obtain ⟨hT, hX⟩ := hI.cells hS hlt hno
  have c0 : w'.cell? ⟨T, 0, none⟩ = some (.map (some M)) := hT.cell 0
  have x1 : w'.cell? ⟨X, 1, none⟩ = some (.int .i64 c.asid) := hX.cell 1
  have x2 : w'.cell? ⟨X, 2, none⟩ = some (.int .i64 c.rt) := hX.cell 2
  have ev : ∀ k : Nat, a.eval (.tmp k) = a.tmps[k]?.getD undef := fun k => Array.getD_eq_getD_getElem? ..
  have e3 := (ev 3).symm.trans hI.e3
  have e6 := (ev 6).symm.trans hI.e6
  have hq : ∀ j, j < 9 → (∀ gr, { on := j, ground := gr } ∈ o.after → gr = Ground.data → a.tmps[32 + j]?.getD undef = rtVal M X c on j) := fun j hj gr hm he => by
    subst he
    exact (ev (32 + j)).symm.trans (hI.q j hj (hd _ hm rfl))
  match i, hi, hlt, hn, hno with
  | 0, hi, _, hn, hno =>
    obtain rfl := (Option.some.inj hi)
    refine opIn_of_run hi rfl (fun _ h => by cases h) (v := .map (some M)) (w2 := w') ?_ (hI.quiet hl (i := 0) (by omega) hno)
    simp [go_sem, e3, c0]
  | 1, hi, _, hn, hno =>
    obtain rfl := (Option.some.inj hi)
    refine opIn_of_run hi rfl (fun _ h => by cases h) (v := .pointer (some ⟨X, 1, none⟩)) (w2 := w') ?_ (hI.quiet hl (i := 1) (by omega) hno)
    simp [go_sem, e6]
  | 2, hi, _, hn, hno =>
    obtain rfl := (Option.some.inj hi)
    have q1 := hq 1 (by omega) _ (by simp) rfl
    simp only [rtVal] at q1
    refine opIn_of_run hi rfl (fun _ h => by cases h) (v := .int .i64 c.asid) (w2 := w') ?_ (hI.quiet hl (i := 2) (by omega) hno)
    simp [go_sem, q1, x1]
  | 3, hi, _, hn, hno =>
    obtain rfl := (Option.some.inj hi)
    refine opIn_of_run hi rfl (fun _ h => by cases h) (v := .map (some M)) (w2 := w') ?_ (hI.quiet hl (i := 3) (by omega) hno)
    simp [go_sem, e3, c0]
  | 4, hi, _, hn, hno =>
    obtain rfl := (Option.some.inj hi)
    refine opIn_of_run hi rfl (fun _ h => by cases h) (v := .pointer (some ⟨X, 1, none⟩)) (w2 := w') ?_ (hI.quiet hl (i := 4) (by omega) hno)
    simp [go_sem, e6]
  | 5, hi, _, hn, hno =>
    obtain rfl := (Option.some.inj hi)
    have q1 := hq 4 (by omega) _ (by simp) rfl
    simp only [rtVal] at q1
    refine opIn_of_run hi rfl (fun _ h => by cases h) (v := .int .i64 c.asid) (w2 := w') ?_ (hI.quiet hl (i := 5) (by omega) hno)
    simp [go_sem, q1, x1]
  | 6, hi, _, hn, hno =>
    obtain rfl := (Option.some.inj hi)
    have q1 := hq 3 (by omega) _ (by simp) rfl
    have q2 := hq 5 (by omega) _ (by simp) rfl
    simp only [rtVal] at q1 q2
    have hlk : (Instr.lookup 71 (.map (some M)) (.int .i64 c.asid) false).run Tryd.prog w' = .ok (slOf on c.asid) w' := by
      cases hI.st with
      | pre h10 h11 hb h9 => exact (hS.mp.call hb).look kInt Tryd.underlying71 (z := .slice none 0 0) (by kernel_rfl) (ik_key hS.ia)
      | app w1 v' h6 h9 h10 h11 hb hg he ho hat => exact absurd h6 hno
      | fin ha hm hk => exact absurd (ha 6 (by omega)) hno
    refine opIn_of_run hi rfl (fun _ h => by cases h) (v := slOf on c.asid) (w2 := w') ?_ (hI.quiet hl (i := 6) (by omega) hno)
    simp [go_sem, q1, q2, hlk]
  | 7, hi, _, hn, hno =>
    obtain rfl := (Option.some.inj hi)
    refine opIn_of_run hi rfl (fun _ h => by cases h) (v := .pointer (some ⟨X, 2, none⟩)) (w2 := w') ?_ (hI.quiet hl (i := 7) (by omega) hno)
    simp [go_sem, e6]
  | 8, hi, _, hn, hno =>
    obtain rfl := (Option.some.inj hi)
    have q1 := hq 7 (by omega) _ (by simp) rfl
    simp only [rtVal] at q1
    refine opIn_of_run hi rfl (fun _ h => by cases h) (v := .int .i64 c.rt) (w2 := w') ?_ (hI.quiet hl (i := 8) (by omega) hno)
    simp [go_sem, q1, x2]
  | 9, hi, _, hn, hno =>
    obtain rfl := (Option.some.inj hi)
    have q1 := hq 8 (by omega) _ (by simp) rfl
    simp only [rtVal] at q1
    obtain ⟨hc9, hw9⟩ : (∃ hb : Below w.heap.size w w', ¬ Ls listed 10 ∧ ¬ Ls listed 11) ∧ True := by
      cases hI.st with
      | pre h10 h11 hb h9 => exact ⟨⟨hb, h10, h11⟩, trivial⟩
      | app w1 v' h6 h9 h10 h11 hb hg he ho hat => exact absurd h9 hno
      | fin ha hm hk => exact absurd (ha 9 (by omega)) hno
    obtain ⟨hb, h10, h11⟩ := hc9
    refine opIn_of_run hi rfl (fun _ h => by cases h) (v := .slice (some ⟨w'.heap.size, 0, none⟩) 1 1) (w2 := w'.alloc (.cells #[.int .i64 c.rt] 3)) ?_ ?_
    · simp [go_sem, q1]
    · have hls : ∀ j, Ls (listed.setIfInBounds 9 true) j ↔ j = 9 ∨ Ls listed j := fun j => Ls_set (by omega)
      have hev : ∀ (k : Nat) v, (a.put (some 41) v).eval (.tmp k) = if k = 41 then v else a.eval (.tmp k) := fun k v => eval_put (by have := hI.sz; omega)
      have hsz := hI.sz
      show RtI w M B n T X c on g (listed.setIfInBounds 9 true) (a.put (some 41) _) _
      refine ⟨by unfold Act.put; simp [hsz], by rw [hev, if_neg (by omega)]; exact hI.e3, by rw [hev, if_neg (by omega)]; exact hI.e6, fun j hj hL => ?_, .pre (fun h => ((hls _).1 h).elim (fun e => by omega) h10) (fun h => ((hls _).1 h).elim (fun e => by omega) h11) (ba hb _) (fun _ => ⟨w'.heap.size, ?_, ?_⟩)⟩
      · rw [hev, if_neg (by omega)]
        exact hI.q j hj (((hls j).1 hL).resolve_left (by omega))
      · rw [hev, if_pos rfl]
      · exact (Bk.new w' 3 #[.int .i64 c.rt]).cell 0
  | 10, hi, _, hn, hno =>
    obtain rfl := (Option.some.inj hi)
    have q6 := hq 6 (by omega) _ (by simp) rfl
    simp only [rtVal] at q6
    have hL9 : Ls listed 9 := hd ⟨9, .data⟩ (by simp) rfl
    have hL6 : Ls listed 6 := hd ⟨6, .data⟩ (by simp) rfl
    obtain ⟨hb, h11, b, e41, hbc⟩ : ∃ hb : Below w.heap.size w w', ¬ Ls listed 11 ∧ ∃ b : Nat, a.eval (.tmp 41) = .slice (some ⟨b, 0, none⟩) 1 1 ∧ w'.cell? ⟨b, 0, none⟩ = some (.int .i64 c.rt) := by
      cases hI.st with
      | pre h10 h11 hb h9 => exact ⟨hb, h11, h9 hL9⟩
      | app w1 v' h6 h9 h10 h11 hb hg he ho hat => exact absurd h10 hno
      | fin ha hm hk => exact absurd (ha 10 (by omega)) hno
    have q41 := (ev 41).symm.trans e41
    obtain ⟨i0, hi0, hz0, hz1, hz2⟩ := info_parts infoInt
    have hown := (hS.gp.own c.asid hS.ia).call hb
    have hgl := hS.gl
    obtain ⟨v', w2, hrun, r1, r2, r3, r4⟩ := run_append_own_at (P := Tryd.prog) w' B 59 59 3 i0 _ 1 8 Tryd.underlying59 hi0 hz0 hz1 hz2 rfl (by decide) (slOf on c.asid) (g c.asid).length (flat encI (g c.asid)) hown ⟨b, 0, none⟩ 1 1 [.int .i64 c.rt] rfl
      (fun j u hu => by
        match j, hu with
        | 0, hu => simp at hu; subst hu; exact hbc) (encI_one c.rt) (by unfold maxLen; omega) (by omega) (Nat.le_trans hS.bw hb.size)
    refine opIn_of_run hi rfl (fun _ h => by cases h) (v := v') (w2 := w2) ?_ ?_
    · have e38 := (ev 38).trans q6
      have rr : rtOps[10] = ⟨some 42, .call { callee := .builtin .append, args := #[.tmp 38, .tmp 41], argTypes := #[59, 59] }, 59, "watch.go:92", #[{ on := 6, ground := .data }, { on := 9, ground := .data }], none⟩ := rfl
      rw [rr]
      unfold execOp
      simp only [resolve, invoke, builtin, Sem.run_bind, Sem.run_pure, Result.andThen_ok, List.map_toArray, List.map_cons, List.map_nil, e38, e41, hrun]
    · have hls : ∀ j, Ls (listed.setIfInBounds 10 true) j ↔ j = 10 ∨ Ls listed j := fun j => Ls_set (by omega)
      have hev : ∀ (k : Nat) v, (a.put (some 42) v).eval (.tmp k) = if k = 42 then v else a.eval (.tmp k) := fun k v => eval_put (by have := hI.sz; omega)
      have hsz := hI.sz
      show RtI w M B n T X c on g (listed.setIfInBounds 10 true) (a.put (some 42) _) _
      refine ⟨by unfold Act.put; simp [hsz], by rw [hev, if_neg (by omega)]; exact hI.e3, by rw [hev, if_neg (by omega)]; exact hI.e6, fun j hj hL => ?_, .app w' v' ((hls _).2 (.inr hL6)) ((hls _).2 (.inr hL9)) ((hls _).2 (.inl rfl)) (fun h => ((hls _).1 h).elim (fun e => by omega) h11) hb r2 ?_ ?_ (r4.imp id (fun h => ⟨_, h, Nat.le_refl _⟩))⟩
      · rw [hev, if_neg (by omega)]
        exact hI.q j hj (((hls j).1 hL).resolve_left (by omega))
      · rw [hev, if_pos rfl]
      · have := r1
        unfold Ow
        rw [flat_snoc, List.length_append]
        exact this
  | 11, hi, _, hn, hno =>
    obtain rfl := (Option.some.inj hi)
    have hall : ∀ j, j < 11 → Ls listed j := fun j hj => by
      refine hd ⟨j, .phase⟩ ?_ rfl
      have : j = 0 ∨ j = 1 ∨ j = 2 ∨ j = 3 ∨ j = 4 ∨ j = 5 ∨ j = 6 ∨ j = 7 ∨ j = 8 ∨ j = 9 ∨ j = 10 := by omega
      rcases this with rfl | rfl | rfl | rfl | rfl | rfl | rfl | rfl | rfl | rfl | rfl <;> simp
    have q0 := (ev 32).symm.trans (hI.q 0 (by omega) (hall 0 (by omega)))
    have q2 := (ev 34).symm.trans (hI.q 2 (by omega) (hall 2 (by omega)))
    simp only [rtVal] at q0 q2
    obtain ⟨w1, v', hb, hg, he, ho, hat⟩ : ∃ (w1 : World) (v' : Value), Below w.heap.size w w1 ∧ w1.grownBy w' (slOf on c.asid).ownBlock ∧ a.eval (.tmp 42) = v' ∧ Ow encI 1 3 w' B v' (g c.asid ++ [c.rt]) ∧ (v'.ownBlock = (slOf on c.asid).ownBlock ∨ ∃ b, v'.ownBlock = some b ∧ w1.heap.size ≤ b) := by
      cases hI.st with
      | pre h10 h11 hb h9 => exact absurd (hall 10 (by omega)) h10
      | app w1 v' h6 h9 h10 h11 hb hg he ho hat => exact ⟨w1, v', hb, hg, he, ho, hat⟩
      | fin ha hm hk => exact absurd (ha 11 (by omega)) hno
    have q42 := (ev 42).symm.trans he
    obtain ⟨w2, hst, hgm, hk⟩ := GpM.put (hS.mp.call hb) hS.mb (Nat.le_trans hS.bw hb.size) (hS.gp.call hb) hS.ia hS.n1 hg ho hat
    refine opIn_of_skip hi rfl (fun _ h => by cases h) (w2 := w2) ?_ ?_
    · simp [go_sem, q0, q2, q42, hst]
    · show RtI w M B n T X c on g (listed.setIfInBounds 11 true) a _
      have hls : ∀ j, Ls (listed.setIfInBounds 11 true) j ↔ j = 11 ∨ Ls listed j := fun j => Ls_set (by omega)
      refine ⟨hI.sz, hI.e3, hI.e6, fun j hj hL => hI.q j hj (((hls j).1 hL).resolve_left (by omega)), .fin (fun j hj => (hls j).2 ?_) hgm ?_⟩
      · by_cases e : j = 11
        · exact .inl e
        · exact .inr (hall j (by omega))
      · have k1 : Keeps (fun y => y = M ∨ B ≤ y) w w1 := (Keeps.of_below (F := fun _ => False) hb).mono (fun _ h => h.elim)
        have k2 : Keeps (fun y => y = M ∨ B ≤ y) w1 w' := ⟨hg.os, hg.tape, hg.output, hg.size, fun k hk hne => hg.block k hk (fun e => hne (.inr ((hS.gp.own c.asid hS.ia).lt k e.symm).1))⟩
        exact (k1.after k2).after (hk.mono (fun y e => .inl e))
theorem Ls_none {i : Nat} : ¬ Ls (Array.replicate 12 false) i := by
  unfold Ls
  rw [Array.getD_eq_getD_getElem?]
  intro h
  by_cases hi : i < 12
  · rw [Array.getElem?_eq_getElem (by simpa using hi)] at h; simp at h
  · rw [Array.getElem?_eq_none (by simp; omega)] at h; cases h
theorem rt_region {w : World} {M B n T X : Nat} {c : Co} {on : Value → Option Value} {g : Int → List Int} (hS : RtS w M B n T X c on g) (m l : Nat) (Q : Exit → Go.Act → World → Prop) (a : Go.Act) (hsz : a.tmps.size = 44) (e3 : a.eval (.tmp 3) = .pointer (some ⟨T, 0, none⟩)) (e6 : a.eval (.tmp 6) = .pointer (some ⟨X, 0, none⟩))
    (hQ : ∀ a' w', GpM w' M B (fun x => if x = c.asid then g x ++ [c.rt] else g x) (n + 1) → Keeps (fun y => y = M ∨ B ≤ y) w w' → Q .normal a' w') :
    (Code.region 10 rtOps true).wpIn (Fence.wide.inRound l) m Tryd.prog Q a w := by
  refine wpIn_region_inv (Inv := RtI w M B n T X c on g) (by kernel_rfl) (by kernel_rfl) (rt_step hS m l Q) (fun listed a w' hall hI => ?_) ⟨hsz, e3, e6, fun j hj hL => absurd hL Ls_none, .pre Ls_none Ls_none (bd (Below.refl _ _)) (fun hL => absurd hL Ls_none)⟩
  cases hI.st with
  | pre h10 h11 hb h9 => exact absurd (hall 10 (by decide)) h10
  | app w1 v' h6 h9 h10 h11 hb hg he ho hat => exact absurd (hall 11 (by decide)) h11
  | fin ha hm hk => exact hQ a w' hm hk
end Go.Proofs.YtappjiljmpgjcaaDoor
namespace Go.Proofs.YtappjiljmpgjcaaDoor
open Go.RowKit Go.Maps Go.Shelf
set_option linter.unusedVariables false
set_option linter.unusedSimpArgs false
attribute [local go_sem] Oper.semAt_some
section
variable {F : Fence} {n : Nat} {w : World} {ops : Array Oper} {rest : List Oper} {o : Oper} {a : Go.Act} {QQ : Exit → Go.Act → World → Prop}
theorem box_CoIn (hgd : o.guard = none) (y z : Operand) (ho : o.op = .store 44 y z) (g : Nat) (x : Co) (old : Array Value) (hx : a.eval y = .pointer (some ⟨g, 0, none⟩)) (hy : a.eval z = .agg (coC x).toArray) (hb : Bk w g 44 old) (hs : old.size = 28)
    (h : wpListIn F n Tryd.prog ops QQ rest (a.put o.dst undef) (w.setRow g (coC x).toArray)) : wpListIn F n Tryd.prog ops QQ (o :: rest) a w := by
  refine wpListIn_plain hgd fun K hK => ?_
  unfold Oper.wpIn
  refine ⟨fun f hf => by simp [Oper.about, ho] at hf, ?_⟩
  rw [Oper.semAt_plain F _ _ (by rw [ho]; intro c hc'; cases hc')]
  unfold execOp
  simp only [ho, hx, hy, Instr.storeAt, Instr.sureAddr, Sem.run_bind, Sem.run_pure, Result.andThen_ok, run_storeVar_row w g 44 44 old (coC x).toArray hb info_Co hs (all_oneCell_toArray (coC_one x))]
  exact hK _ _ h
theorem unbox_CoIn (hw : Region.wanted o (yielded ops a.tmps) = true) (y : Operand) (ho : o.op = .load 44 y) (g : Nat) (x : Co) (hx : a.eval y = .pointer (some ⟨g, 0, none⟩)) (hb : Bk w g 44 (coC x).toArray)
    (h : wpListIn F n Tryd.prog ops QQ rest (a.put o.dst (.agg (coC x).toArray)) w) : wpListIn F n Tryd.prog ops QQ (o :: rest) a w := by
  refine wpListIn_step fun K hK => ?_
  rw [if_pos hw]
  unfold Oper.wpIn
  refine ⟨fun f hf => by simp [Oper.about, ho] at hf, ?_⟩
  rw [Oper.semAt_plain F _ _ (by rw [ho]; intro c hc'; cases hc')]
  unfold execOp
  simp only [ho, hx, Instr.loadAt, Instr.sureAddr, Sem.run_bind, Sem.run_pure, Result.andThen_ok, run_loadVar_row w g 44 44 (coC x).toArray (0, 0) _ hb Tryd.underlying44 rfl (by exact info_Co)]
  exact hK _ _ h
end
def runs (c : Co) : Bool := !decide (c.rt = 0) && !decide (c.asid = 0)
def runL (cl : List Co) (k : Nat) : List (Int × Int) := ((((cl.take k).drop 1).filter runs).map (fun c => (c.asid, c.rt))).reverse
theorem runL_succ {cl : List Co} {k : Nat} {x : Co} (hx : cl[k]? = some x) : runL cl (k + 1) = if 0 < k ∧ runs x = true then (x.asid, x.rt) :: runL cl k else runL cl k := by
  unfold runL
  have hk : k < cl.length := (List.getElem?_eq_some_iff.1 hx).1
  rw [List.take_add_one, hx, Option.toList_some]
  by_cases e : k = 0
  · subst e; simp
  · rw [List.drop_append_of_le_length (by rw [List.length_take]; omega), List.filter_append, List.map_append, List.reverse_append]
    cases hr : runs x with
    | true => rw [if_pos ⟨by omega, rfl⟩]; simp [hr]
    | false => rw [if_neg (fun h => by cases h.2)]; simp [hr]
theorem runL_len (cl : List Co) (k : Nat) : (runL cl k).length ≤ k := by
  unfold runL
  rw [List.length_reverse, List.length_map]
  refine Nat.le_trans (List.length_filter_le _ _) ?_
  rw [List.length_drop, List.length_take]; omega
set_option maxRecDepth 100000 in
set_option maxHeartbeats 2000000 in
theorem running1_any (s : Sn) (w0 W : World) (R l : Nat) (J : List (Int × Int) → World → Prop) (D : Nat → Prop) (hs : s.Given w0) (hm : Sml s) (hb : Below w0.heap.size w0 W) (hR : Bk W R 26 (snR s)) (hD : ∀ y, D y → w0.heap.size ≤ y)
    (hJb : ∀ ls X X', J ls X → Below X.heap.size X X' → J ls X') (hj : J [] W)
    (hY : ∀ m ls (k : Nat) x X, ls.length < 6 → I64 x.asid → I64 x.rt → J ls X → YieldAt Fence.wide m Tryd.prog l #[.int .i64 k, .agg (coC x).toArray] X fun e X' => e = .returned (.bool true) ∧ J ((x.asid, x.rt) :: ls) X' ∧ Keeps D X X') :
    Calls Tryd.prog 36 #[.func (.yield l) #[] #[], .pointer (some ⟨R, 0, none⟩)] W fun e W' => (∃ v, e = .returned v) ∧ J (runL s.cl s.cl.length) W' := by
  have x0 : W.cell? ⟨R, 0, none⟩ = some (.slice s.cO s.cl.length s.cc) := hR.cell 0
  have HS := Lib.hid hs
  have HB := Lib.hid hb
  have HD := Lib.hid hD
  have HJB := Lib.hid hJb
  have HJ := Lib.hid hj
  have HY := Lib.hid hY
  have hcl : s.cl.length ≤ 6 := hm.ncl
  clear hs hm hb hR hD hJb hj hY
  go_enter Tryd.func36, Tryd.ntmps36
  go_wp2_with fail
  clear x0
  go_loopw [8] (fun i wr => ∃ k : Nat, k ≤ s.cl.length ∧ i = .int .i64 k ∧ Below w0.heap.size w0 wr ∧ J (runL s.cl k) wr) (fun i _ => s.cl.length - (intOf i).toNat)
  case atStart => exact ⟨0, by omega, rfl, HB.out, HJ.out⟩
  case round =>
    clear HB HJ
    obtain ⟨k, hk, rfl, hB, hJ⟩ := hrel
    by_cases hlt : k < s.cl.length
    · obtain ⟨x, hx⟩ : ∃ x, s.cl[k]? = some x := ⟨_, List.getElem?_eq_getElem hlt⟩
      obtain ⟨b, off, hO, hrg⟩ := rk_range HS.out.gc hB hx
      rw [hO]
      have HR := Lib.hid hrg
      have HRL := Lib.hid (runL_succ hx)
      have HLL := Lib.hid (runL_len s.cl k)
      have HX := Lib.hid (HS.out.gcall x (List.mem_of_getElem? hx))
      have HBr := Lib.hid hB
      have HJr := Lib.hid hJ
      have HKz := Lib.hid (Bk.new wr 44 zCo)
      clear hrg hx hB hJ
      go_upto_region 3 with (first | refine get_Co rfl _ rfl b (off + k * 28) x rfl HR.out ?_ | refine box_Co rfl _ _ rfl wr.heap.size x _ rfl rfl HKz.out rfl ?_)
      refine (show ∀ W8 : World, Below wr.heap.size wr W8 → Bk W8 wr.heap.size 44 (coC x).toArray → Code.wp _ _ _ _ W8 from fun W8 hb8 hk8 => ?_) _ (brow (ba (Below.refl _ _) _) (Nat.le_refl _) _) (HKz.out.row _)
      have HB8 := Lib.hid (bthen HBr.out hb8)
      have HJ8 := Lib.hid (HJB.out _ _ _ HJr.out hb8)
      have HK8 := Lib.hid hk8
      have q2 : W8.cell? ⟨wr.heap.size, 2, none⟩ = some (.int .i64 x.rt) := hk8.cell 2
      have q1 : W8.cell? ⟨wr.heap.size, 1, none⟩ = some (.int .i64 x.asid) := hk8.cell 1
      clear hb8 hk8 HKz HR HBr HJr
      by_cases k0 : 0 < k
      · have kb : decide ((0 : Int) < k) = true := by simp; omega
        by_cases r0 : x.rt = 0
        · have HL2 := Lib.hid (show runL s.cl (k + 1) = runL s.cl k by rw [HRL.out, if_neg (fun h => by have := h.2; simp [runs, r0] at this)])
          rw [r0] at q2
          clear r0
          go_wp2_with fail
          go_roundw
          case rel => exact ⟨k + 1, by omega, by go_num, HB8.out, by rw [HL2.out]; exact HJ8.out⟩
          case measure => simp [intOf]; omega
        · have rb : (x.rt != 0) = true := by simp [r0]
          by_cases a0 : x.asid = 0
          · have HL2 := Lib.hid (show runL s.cl (k + 1) = runL s.cl k by rw [HRL.out, if_neg (fun h => by have := h.2; simp [runs, a0] at this)])
            rw [a0] at q1
            clear a0 r0
            go_wp2_with fail
            go_roundw
            case rel => exact ⟨k + 1, by omega, by go_num, HB8.out, by rw [HL2.out]; exact HJ8.out⟩
            case measure => simp [intOf]; omega
          · have ab : (x.asid != 0) = true := by simp [a0]
            have HL2 := Lib.hid (show runL s.cl (k + 1) = (x.asid, x.rt) :: runL s.cl k by rw [HRL.out, if_pos ⟨k0, by simp [runs, r0, a0]⟩])
            clear a0 r0
            obtain ⟨fn, tmps, assign, body, hy, hRd⟩ := HY.out (20 - 1) (runL s.cl k) k x W8 (by have := HLL.out; omega) HX.out.gasid HX.out.grt HJ8.out
            refine (wpIn_wide (n := 20)).1 ?_
            gi_wp2_with (refine unbox_CoIn (by simp [Region.wanted, yielded, kb, rb, ab]) _ rfl wr.heap.size x rfl HK8.out ?_)
            refine hRd.mono ?_
            clear hRd hy
            rintro e W9 ⟨rfl, hj9, hk9⟩
            have HJ9 := Lib.hid hj9
            have HB9 := Lib.hid (hk9.below HB8.out HD.out)
            clear hj9 hk9 q1 q2
            gi_wp2
            go_wp2_with fail
            go_roundw
            case rel => exact ⟨k + 1, by omega, by go_num, HB9.out, by rw [HL2.out]; exact HJ9.out⟩
            case measure => simp [intOf]; omega
      · obtain rfl : k = 0 := by omega
        have HL2 := Lib.hid (show runL s.cl (0 + 1) = runL s.cl 0 by rw [HRL.out, if_neg (fun h => by omega)])
        go_wp2_with fail
        go_roundw
        case rel => exact ⟨1, by omega, by go_num, HB8.out, by rw [HL2.out]; exact HJ8.out⟩
        case measure => simp [intOf]; omega
    · obtain rfl : k = s.cl.length := by omega
      have HJr := Lib.hid hJ
      go_wp2_with fail
      go_end0
      exact ⟨⟨_, rfl⟩, HJr.out⟩
end Go.Proofs.YtappjiljmpgjcaaDoor
