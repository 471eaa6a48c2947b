/-
  Layer 29: the plain law of WatchFewer: a sound snapshot stays so with fewer entries.
-/
import Derived.Test.YtappjiljmpgjcaaDoorWtSound
import Derived.Test.YtappjiljmpgjcaaDoorWtRootsG
namespace Go.Proofs.YtappjiljmpgjcaaDoor
open Go.RowKit Go.Maps
set_option linter.unusedVariables false
set_option linter.unusedSimpArgs false
/-- What Sound's roots are. -/
def byS (s : Sn) : Int → List Int := byR (runL s.cl s.cl.length)
theorem sound_gen (s : Sn) (w : World) (hs : s.Given w) (hm : Sml s) (hG : G w) : Calls Tryd.prog 7 #[snA s] w fun e w' => e = .returned (.bool (soundP s (byS s))) ∧ Below w.heap.size w w' :=
  sound_any s w (byS s) hs hm hG (fun w' hb => roots_any s w' (hs.call hb) hm) (.inr fun W hb => kind_any (hs.call hb) hm (hG.call hb))
/-! ### The searches -/
theorem findT_none (q : Tl → Bool) : ∀ (l : List Tl) (i : Nat), (findT q l i).isNone = true ↔ ∀ x ∈ l, q x = false
  | [], i => by simp [findT]
  | x :: l, i => by
    unfold findT
    cases h : q x with
    | true => simp [h]
    | false => simp [h, findT_none q l (i + 1)]
theorem findC_none (q : Tl → Bool) : ∀ (l : List Co) (n : Nat), 0 < n → ((findC q l n).isNone = true ↔ ∀ c ∈ l, ∀ x ∈ c.tl, q x = false)
  | [], n, h => by simp [findC]
  | c :: l, n, h => by
    unfold findC
    rw [if_neg (by omega)]
    have h1 := findT_none q c.tl 0
    have h2 := findC_none q l (n + 1) (by omega)
    cases e : findT q c.tl 0 with
    | none =>
      rw [e] at h1
      have h1' := h1.1 rfl
      simp only [List.mem_cons, forall_eq_or_imp]
      exact ⟨fun h => ⟨h1', h2.1 h⟩, fun h => h2.2 h.2⟩
    | some i =>
      rw [e] at h1
      have hne : ¬ ∀ x ∈ c.tl, q x = false := fun h => by have := h1.2 h; cases this
      exact iff_of_false (by simp) (fun h => hne (h c List.mem_cons_self))
theorem findC_ents (q : Tl → Bool) (cl : List Co) : (findC q cl 0).isNone = true ↔ ∀ x ∈ ents cl, q x = false := by
  cases cl with
  | nil => simp [findC, ents]
  | cons c l =>
    unfold findC
    rw [if_pos rfl, findC_none q l 1 (by omega)]
    simp only [ents, List.drop_succ_cons, List.drop_zero, List.mem_flatMap]
    exact ⟨fun h x ⟨c, hc, hx⟩ => h c hc x hx, fun h c hc x hx => h x ⟨c, hc, hx⟩⟩
theorem findR_none (q : Co → Bool) : ∀ (l : List Co) (n : Nat), 0 < n → ((findR q l n).isNone = true ↔ ∀ c ∈ l, q c = false)
  | [], n, h => by simp [findR]
  | c :: l, n, h => by
    unfold findR
    have h2 := findR_none q l (n + 1) (by omega)
    cases e : q c with
    | true => rw [if_pos ⟨by omega, rfl⟩]; simp [e]
    | false => rw [if_neg (fun h => by cases h.2), h2]; simp [e]
theorem findR_drop (q : Co → Bool) (cl : List Co) : (findR q cl 0).isNone = true ↔ ∀ c ∈ cl.drop 1, q c = false := by
  cases cl with
  | nil => simp [findR]
  | cons c l =>
    unfold findR
    rw [if_neg (fun h => h.1 rfl), findR_none q l 1 (by omega)]
    simp
/-! ### The frames that entries name -/
def KeyOf (a p : Int) (x : Tl) : Prop := a = x.a ∧ p = x.p
theorem nmL_spec (l : List Tl) : ∀ a p, (nmL l a p = none → ∀ x ∈ l, ¬ KeyOf a p x) ∧ ∀ f o, nmL l a p = some (f, o) → 0 ≤ o ∧ (∃ x ∈ l, KeyOf a p x ∧ x.f = f) ∧ (o = 0 ↔ ∀ x ∈ l, KeyOf a p x → x.f = f) := by
  revert l
  refine snoc_ind ?_ ?_
  · intro a p
    exact ⟨fun _ x hx => by simp at hx, fun f o h => by simp [nmL] at h⟩
  · intro l x ih a p
    obtain ⟨h1, h2⟩ := ih a p
    rw [nmL_snoc]
    unfold nmStep
    by_cases hk : a = x.a ∧ p = x.p
    · rw [if_pos hk]
      cases e : nmL l a p with
      | none =>
        have h1' := h1 e
        refine ⟨fun h => (by simp at h), fun f o h => ?_⟩
        simp at h
        obtain ⟨rfl, rfl⟩ := h
        refine ⟨by omega, ⟨x, by simp, hk, rfl⟩, fun _ y hy hky => ?_, fun _ => rfl⟩
        rcases List.mem_append.1 hy with hy | hy
        · exact absurd hky (h1' y hy)
        · simp at hy; subst hy; rfl
      | some q =>
        obtain ⟨f0, o0⟩ := q
        obtain ⟨b1, ⟨y0, b2, b3, b4⟩, b5⟩ := h2 f0 o0 e
        refine ⟨fun h => (by simp only at h; split at h <;> cases h), fun f o h => ?_⟩
        simp only at h
        by_cases hf : f0 = x.f
        · rw [if_pos hf] at h
          cases h
          refine ⟨b1, ⟨y0, List.mem_append_left _ b2, b3, b4⟩, fun ho y hy hky => ?_, fun hall => b5.2 (fun y hy hky => hall y (List.mem_append_left _ hy) hky)⟩
          rcases List.mem_append.1 hy with hy | hy
          · exact b5.1 ho y hy hky
          · simp at hy; subst hy; exact hf.symm
        · rw [if_neg hf] at h
          cases h
          refine ⟨by omega, ⟨y0, List.mem_append_left _ b2, b3, b4⟩, fun ho => (by omega), fun hall => ?_⟩
          exact absurd (hall x (by simp) hk).symm hf
    · rw [if_neg hk]
      refine ⟨fun h y hy hky => ?_, fun f o h => ?_⟩
      · rcases List.mem_append.1 hy with hy | hy
        · exact h1 h y hy hky
        · simp at hy; subst hy; exact hk hky
      · obtain ⟨b1, ⟨y0, b2, b3, b4⟩, b5⟩ := h2 f o h
        refine ⟨b1, ⟨y0, List.mem_append_left _ b2, b3, b4⟩, fun ho y hy hky => ?_, fun hall => b5.2 (fun y hy hky => hall y (List.mem_append_left _ hy) hky)⟩
        rcases List.mem_append.1 hy with hy | hy
        · exact b5.1 ho y hy hky
        · simp at hy; subst hy; exact absurd hky hk
theorem nm_one {l : List Tl} {x : Tl} (hx : x ∈ l) : ((nmL l x.a x.p).getD (0, 0)).2 = 0 ↔ ∀ y ∈ l, KeyOf x.a x.p y → y.f = x.f := by
  obtain ⟨h1, h2⟩ := nmL_spec l x.a x.p
  cases e : nmL l x.a x.p with
  | none => exact absurd ⟨rfl, rfl⟩ (h1 e x hx)
  | some q =>
    obtain ⟨f, o⟩ := q
    obtain ⟨b1, b2, b3⟩ := h2 f o e
    simp only [Option.getD_some]
    rw [b3]
    exact ⟨fun h y hy hk => (h y hy hk).trans (h x hx ⟨rfl, rfl⟩).symm, fun h => by
      obtain ⟨y0, c1, c2, c3⟩ := b2
      have : x.f = f := by rw [← c3]; exact (h y0 c1 c2).symm
      exact fun y hy hk => (h y hy hk).trans this⟩
theorem nm_pos {l : List Tl} {a p : Int} : 0 ≤ ((nmL l a p).getD (0, 0)).2 := by
  cases e : nmL l a p with
  | none => exact Int.le_refl _
  | some q => exact ((nmL_spec l a p).2 q.1 q.2 e).1
theorem nm_less {l l' : List Tl} (hs : ∀ x ∈ l', x ∈ l) {x : Tl} (hx : x ∈ l') (h : ¬ 0 < ((nmL l x.a x.p).getD (0, 0)).2) : ¬ 0 < ((nmL l' x.a x.p).getD (0, 0)).2 := by
  have h0 := nm_pos (l := l) (a := x.a) (p := x.p)
  have h1 := (nm_one (hs x hx)).1 (by omega)
  have := (nm_one hx).2 (fun y hy hk => h1 y (hs y hy) hk)
  omega
/-! ### The rest does not look at the cores -/
section
variable {s t : Sn} (h1 : t.sl = s.sl) (h2 : t.fl = s.fl)
include h2
theorem thr_eq (f : Int) : thr t f = thr s f := by unfold thr; rw [h2]
theorem frm_eq (f : Int) : frm t f = frm s f := by unfold frm; rw [h2]
theorem tb_eq (f : Int) : tb t f = tb s f := by unfold tb; rw [frm_eq h2]
theorem fre_eq (f : Int) : fre t f = fre s f := by unfold fre; rw [frm_eq h2]
theorem gone_eq : gone t = gone s := by funext f; unfold gone; rw [thr_eq h2, fre_eq h2]
theorem wayL_eq (page : Int) : ∀ n lv a, wayL t page n lv a = wayL s page n lv a
  | 0, lv, a => rfl
  | n + 1, lv, a => by simp only [wayL, thr_eq h2, tb_eq h2, wayL_eq page n]
theorem wayP_eq (r p : Int) : wayP t r p = wayP s r p := by unfold wayP; rw [wayL_eq h2]
theorem decT_eq (lv f : Int) (ix : Nat) : decT t lv f ix = decT s lv f ix := by unfold decT; rw [tb_eq h2]
theorem belowP_eq : ∀ n lv f sn, belowP t n lv f sn = belowP s n lv f sn
  | 0, lv, f, sn => by simp only [belowP, thr_eq h2]
  | n + 1, lv, f, sn => by simp only [belowP, thr_eq h2, decT_eq h2, belowP_eq n]
theorem tabsL_eq : ∀ l sn, tabsL t l sn = tabsL s l sn
  | [], sn => rfl
  | r :: l, sn => by simp only [tabsL, belowP_eq h2, tabsL_eq l]
include h1
theorem tabSeen_eq : tabSeen t = tabSeen s := by unfold tabSeen; rw [h1, tabsL_eq h2]
theorem kd_eq (f : Int) : kd t f = kd s f := by unfold kd; rw [thr_eq h2, fre_eq h2, tabSeen_eq h1 h2]
end
/-- A core with no more than another. -/
structure Less (c c' : Co) : Prop where
  asid : c'.asid = c.asid
  rt : c'.rt = c.rt
  hold : holds c' = holds c
  tl : ∀ x ∈ c'.tl, x ∈ c.tl
  reach : ∀ g, reachC g c = false → reachC g c' = false
theorem Less.refl (c : Co) : Less c c := ⟨rfl, rfl, rfl, fun _ h => h, fun _ h => h⟩
theorem set_at {α : Type} {l : List α} {k : Nat} {c c' : α} (hc : l[k]? = some c) {i : Nat} {y : α} (hy : (l.set k c')[i]? = some y) : (i = k ∧ y = c') ∨ l[i]? = some y := by
  have hk := (List.getElem?_eq_some_iff.1 hc).1
  by_cases e : i = k
  · subst e
    rw [List.getElem?_set_self hk] at hy
    exact .inl ⟨rfl, (Option.some.inj hy).symm⟩
  · rw [List.getElem?_set_ne (fun h => e h.symm)] at hy
    exact .inr hy
theorem drop1_at {α : Type} {l : List α} {y : α} (h : y ∈ l.drop 1) : ∃ i, l[i + 1]? = some y := by
  obtain ⟨i, hi⟩ := List.mem_iff_getElem?.1 h
  rw [List.getElem?_drop] at hi
  exact ⟨i, by rw [Nat.add_comm]; exact hi⟩
theorem at_drop1 {α : Type} {l : List α} {y : α} {i : Nat} (h : l[i + 1]? = some y) : y ∈ l.drop 1 := by
  refine List.mem_iff_getElem?.2 ⟨i, ?_⟩
  rw [List.getElem?_drop, Nat.add_comm]; exact h
theorem less_drop {cl : List Co} {k : Nat} {c c' : Co} (hc : cl[k]? = some c) (hl : Less c c') {y : Co} (hy : y ∈ (cl.set k c').drop 1) : ∃ z ∈ cl.drop 1, Less z y := by
  obtain ⟨i, hi⟩ := drop1_at hy
  rcases set_at hc hi with ⟨e, rfl⟩ | h
  · exact ⟨c, at_drop1 (i := i) (by rw [e]; exact hc), hl⟩
  · exact ⟨y, at_drop1 h, Less.refl y⟩
theorem ents_less {cl : List Co} {k : Nat} {c c' : Co} (hc : cl[k]? = some c) (hl : Less c c') : ∀ x ∈ ents (cl.set k c'), x ∈ ents cl := by
  intro x hx
  unfold ents at hx ⊢
  obtain ⟨y, hy, hx⟩ := List.mem_flatMap.1 hx
  obtain ⟨z, hz, hzy⟩ := less_drop hc hl hy
  exact List.mem_flatMap.2 ⟨z, hz, hzy.tl x hx⟩
theorem holdL_less : ∀ (cl : List Co) (k n : Nat) (c c' : Co), cl[k]? = some c → holds c' = holds c → holdL (cl.set k c') n = holdL cl n
  | [], k, n, c, c', h, _ => by cases h
  | x :: l, 0, n, c, c', h, e => by
    simp at h
    subst h
    simp only [List.set_cons_zero, holdL, e]
  | x :: l, k + 1, n, c, c', h, e => by
    simp only [List.set_cons_succ, holdL, holdL_less l k (n + 1) c c' (by simpa using h) e]
theorem runP_map (cl : List Co) (k : Nat) : runL cl k = ((((cl.map fun c => (c.asid, c.rt)).take k).drop 1).filter (fun p => !decide (p.2 = 0) && !decide (p.1 = 0))).reverse := by
  unfold runL
  rw [← List.map_take, ← List.map_drop, List.filter_map]
  rfl
theorem run_less {cl : List Co} {k : Nat} {c c' : Co} (hc : cl[k]? = some c) (h1 : c'.asid = c.asid) (h2 : c'.rt = c.rt) (n : Nat) : runL (cl.set k c') n = runL cl n := by
  rw [runP_map, runP_map]
  have : (cl.set k c').map (fun c => (c.asid, c.rt)) = cl.map fun c => (c.asid, c.rt) := by
    apply List.ext_getElem?
    intro i
    rw [List.getElem?_map, List.getElem?_map]
    have hk := (List.getElem?_eq_some_iff.1 hc).1
    by_cases e : i = k
    · subst e
      rw [List.getElem?_set_self hk, hc]
      simp [h1, h2]
    · rw [List.getElem?_set_ne (fun h => e h.symm)]
  rw [this]
/-- Fewer entries: as sound. -/
theorem sound_less {s t : Sn} {k : Nat} {c c' : Co} (hc : s.cl[k]? = some c) (hl : Less c c') (hcl : t.cl = s.cl.set k c') (h1 : t.sl = s.sl) (h2 : t.fl = s.fl) (h : soundP s (byS s) = true) : soundP t (byS t) = true := by
  have hby : byS t = byS s := by unfold byS; rw [hcl, List.length_set, run_less hc hl.asid hl.rt]
  have he := ents_less hc hl
  unfold soundP at h ⊢
  rw [hby]
  simp only [Bool.and_eq_true] at h ⊢
  obtain ⟨g1, g2, g3, g4⟩ := h
  rw [findC_ents] at g1 g2 ⊢
  rw [findC_ents, findR_drop]
  rw [findR_drop] at g3
  rw [hcl]
  refine ⟨fun x hx => ?_, fun x hx => ?_, fun y hy => ?_, ?_⟩
  · have := g1 x (he x hx)
    unfold unl1 at this ⊢
    rw [Bool.or_eq_false_iff] at this ⊢
    refine ⟨decide_eq_false (nm_less he hx (of_decide_eq_false this.1)), ?_⟩
    rw [← this.2]
    congr 1
    funext r
    unfold wayBad
    rw [wayP_eq h2]
  · have := g2 x (he x hx)
    unfold for1 at this ⊢
    rw [kd_eq h1 h2]
    exact this
  · obtain ⟨z, hz, hzy⟩ := less_drop hc hl hy
    rw [gone_eq h2]
    exact hzy.reach _ (g3 z hz)
  · rw [holdL_less _ _ _ _ _ hc hl.hold]
    exact g4
/-! ### An entry less -/
def cut {α : Type} (l : List α) (k : Nat) : List α := l.take k ++ l.drop (k + 1)
theorem cut_mem {α : Type} {l : List α} {k : Nat} {x : α} (h : x ∈ cut l k) : x ∈ l := by
  rcases List.mem_append.1 h with h | h
  · exact List.mem_of_mem_take h
  · exact List.mem_of_mem_drop h
theorem cut_any {α : Type} {l : List α} {k : Nat} {q : α → Bool} (h : l.any q = false) : (cut l k).any q = false := by
  rw [List.any_eq_false] at h ⊢
  exact fun x hx => h x (cut_mem hx)
theorem less_t (c : Co) (O : Option Addr) (cap k : Nat) : Less c { c with tO := O, tl := cut c.tl k, tc := cap } := ⟨rfl, rfl, rfl, fun x hx => cut_mem hx, fun g h => by
  unfold reachC at h ⊢
  rw [Bool.or_eq_false_iff] at h ⊢
  exact ⟨cut_any h.1, h.2⟩⟩
theorem less_k (c : Co) (O : Option Addr) (cap k : Nat) : Less c { c with kO := O, kl := cut c.kl k, kc := cap } := ⟨rfl, rfl, rfl, fun x hx => hx, fun g h => by
  unfold reachC at h ⊢
  rw [Bool.or_eq_false_iff, Bool.or_eq_false_iff] at h ⊢
  exact ⟨h.1, cut_any h.2.1, h.2.2⟩⟩
theorem less_b (c : Co) (O : Option Addr) (cap k : Nat) : Less c { c with bO := O, bl := cut c.bl k, bc := cap } := ⟨rfl, rfl, rfl, fun x hx => hx, fun g h => by
  unfold reachC at h ⊢
  rw [Bool.or_eq_false_iff, Bool.or_eq_false_iff, Bool.or_eq_false_iff] at h ⊢
  refine ⟨h.1, h.2.1, h.2.2.1, ?_⟩
  have := h.2.2.2
  rw [Bool.and_eq_false_iff] at this ⊢
  exact this.imp id cut_any⟩
end Go.Proofs.YtappjiljmpgjcaaDoor
