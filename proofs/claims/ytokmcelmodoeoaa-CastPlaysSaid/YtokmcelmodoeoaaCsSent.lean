/-
  A row of 81 slices of invalidations in the world: first each of the call's own, then read and cut.
-/
import Derived.Test.YtokmcelmodoeoaaCsAll
import Derived.Test.YtokmcelmodoeoaaCsOpen
namespace Go.Proofs.Ytokmcelmodoeoaa
open Go.RowKit
set_option linter.unusedVariables false
set_option linter.unusedSimpArgs false
/-- An invalidation. -/
structure Tq where
  k : Int
  a : Int
  p : Int
deriving DecidableEq
def encQ (x : Tq) : List Value := [.int .i8 x.k, .int .i64 x.a, .int .u64 x.p]
theorem encQ_len (x : Tq) : (encQ x).length = 3 := rfl
theorem encQ_one (x : Tq) : ∀ u ∈ encQ x, u.oneCell' = true := by
  intro u hu
  simp [encQ] at hu
  rcases hu with rfl | rfl | rfl <;> rfl
def Pr.t (x : Pr) : Tq := ⟨x.k, x.a, x.p⟩
def sq (vs : Nat → Value) : Array Value := Array.ofFn (n := 81) fun i => vs i
theorem sq_size (vs : Nat → Value) : (sq vs).size = 81 := by simp [sq]
theorem sq_at (vs : Nat → Value) {i : Nat} (h : i < 81) : (sq vs)[i]? = some (vs i) := by simp [sq, h]
theorem sq_set (vs : Nat → Value) {i : Nat} (h : i < 81) (v : Value) : (sq vs).setIfInBounds i v = sq (upV vs i v) := by
  apply Array.ext_getElem?
  intro j
  rw [Array.getElem?_setIfInBounds]
  by_cases hj : j < 81
  · rw [sq_at _ hj, sq_at _ hj, sq_size]
    by_cases e : i = j
    · subst e; simp [hj, upV]
    · rw [if_neg e]; simp only [upV]; rw [if_neg (fun h => e h.symm)]
  · have h1 : (sq vs)[j]? = none := Array.getElem?_eq_none (by rw [sq_size]; omega)
    have h2 : (sq (upV vs i v))[j]? = none := Array.getElem?_eq_none (by rw [sq_size]; omega)
    rw [h1, h2, sq_size]
    split
    · omega
    · rfl
def upS (ss : Nat → List Tq) (i : Nat) (l : List Tq) : Nat → List Tq := fun j => if j = i then l else ss j
theorem upS_same (ss : Nat → List Tq) (i : Nat) (l : List Tq) : upS ss i l i = l := by simp [upS]
theorem upS_other (ss : Nat → List Tq) {i j : Nat} (l : List Tq) (h : j ≠ i) : upS ss i l j = ss j := by simp [upS, h]
/-- 81 rows, each of the call's own. -/
structure Sw (w : World) (S : Nat) (ss : Nat → List Tq) (vs : Nat → Value) (F : Nat → Prop) : Prop where
  str : Bk w S 31 (sq vs)
  row : ∀ k, k < 81 → Ow encQ 3 35 w 0 (vs k) (ss k)
  bF : F S
  rF : ∀ k g, k < 81 → (vs k).ownBlock = some g → F g
  lt : ∀ g, F g → g < w.heap.size
  apart : ∀ j k g, j < 81 → k < 81 → j ≠ k → (vs j).ownBlock = some g → (vs k).ownBlock ≠ some g
  off : ∀ k, k < 81 → (vs k).ownBlock ≠ some S
section
variable {w w' : World} {S : Nat} {ss : Nat → List Tq} {vs : Nat → Value} {F : Nat → Prop}
theorem Sw.keep {G : Nat → Prop} (h : Sw w S ss vs F) (hk : Keeps G w w') (hG : ∀ g, F g → ¬ G g) : Sw w' S ss vs F where
  str := h.str.keep hk (hG S h.bF)
  row := fun k h8 => (h.row k h8).keep hk fun g hg => hG g (h.rF k g h8 hg)
  bF := h.bF
  rF := h.rF
  lt := fun g hg => Nat.lt_of_lt_of_le (h.lt g hg) hk.size
  apart := h.apart
  off := h.off
theorem Sw.call (h : Sw w S ss vs F) (hb : Below w.heap.size w w') : Sw w' S ss vs F := h.keep (Keeps.of_below (F := fun _ => False) hb) fun _ _ hf => hf
theorem Sw.cellk (h : Sw w S ss vs F) {k : Nat} (hk : k < 81) : w.cell? ⟨S, k, none⟩ = some (vs k) := by rw [h.str.cell, sq_at vs hk]
theorem Sw.fr (h : Sw w S ss vs F) (i : Nat) : w.frozen? ⟨S, i, none⟩ = false := h.str.frozen i
theorem Sw.blt (h : Sw w S ss vs F) : S < w.heap.size := h.str.lt
theorem Sw.form (h : Sw w S ss vs F) {k : Nat} (hk : k < 81) : ∃ O cap, vs k = .slice O (ss k).length cap ∧ (ss k).length ≤ cap ∧ cap ≤ maxLen ∧ RK encQ 3 w O (ss k) := (h.row k hk).form encQ_len
theorem Sw.turned (h : Sw w S ss vs F) {k : Nat} (hk : k < 81) {v' : Value} {xs : List Tq} (hO : Ow encQ 3 35 w' 0 v' xs) (hK : Keeps (fun g => (vs k).ownBlock = some g) w w')
    (hv : ∀ g, v'.ownBlock = some g → (vs k).ownBlock = some g ∨ w.heap.size ≤ g) :
    Sw (w'.setCell ⟨S, k, none⟩ v') S (upS ss k xs) (upV vs k v') (fun g => F g ∨ (w.heap.size ≤ g ∧ g < w'.heap.size)) ∧ Keeps F w (w'.setCell ⟨S, k, none⟩ v') := by
  have hstr : Bk w' S 31 (sq vs) := h.str.keep hK (h.off k hk)
  have hKF : Keeps F w w' := hK.mono fun g hg => h.rF k g hk hg
  have hset : Keeps (fun g => g = S) w' (w'.setCell ⟨S, k, none⟩ v') := Keeps.setCell (F := fun g => g = S) (p := ⟨S, k, none⟩) (by rfl) v'
  have hnb : v'.ownBlock ≠ some S := fun e => by
    rcases hv S e with h1 | h1
    · exact h.off k hk h1
    · have := h.blt; omega
  have hj : ∀ j, j < 81 → j ≠ k → ∀ g, (vs j).ownBlock = some g → ¬ (v'.ownBlock = some g) := fun j h8 hne g hg e => by
    rcases hv g e with h1 | h1
    · exact h.apart j k g h8 hk hne hg h1
    · have := h.lt g (h.rF j g h8 hg); omega
  refine ⟨⟨?_, fun j h8 => ?_, Or.inl h.bF, fun j g h8 hg => ?_, fun g hg => ?_, fun i j g hi h8 hne hg => ?_, fun j h8 => ?_⟩, hKF.trans hset fun x hx => Or.inl (by rw [hx]; exact h.bF)⟩
  · have := hstr.set k v'
    rwa [sq_set vs hk] at this
  · by_cases e : j = k
    · subst e
      simp only [upS, upV, if_pos]
      exact hO.keep hset fun g hg e => hnb (by rw [hg, e])
    · simp only [upS, upV, if_neg e]
      exact ((h.row j h8).keep hK fun g hg e' => h.apart j k g h8 hk e hg e').keep hset fun g hg e' => h.off j h8 (by rw [hg, e'])
  · by_cases e : j = k
    · subst e
      simp only [upV, if_pos] at hg
      rcases hv g hg with h1 | h1
      · exact Or.inl (h.rF j g h8 h1)
      · exact Or.inr ⟨h1, (hO.lt g hg).2⟩
    · simp only [upV, if_neg e] at hg
      exact Or.inl (h.rF j g h8 hg)
  · rw [World.size_setCell]
    rcases hg with hg | hg
    · exact Nat.lt_of_lt_of_le (h.lt g hg) hK.size
    · exact hg.2
  · by_cases e1 : i = k
    · have e2 : j ≠ k := fun e => hne (e1.trans e.symm)
      simp only [upV, if_pos e1, if_neg e2] at hg ⊢
      exact fun e => hj j h8 e2 g e hg
    · by_cases e2 : j = k
      · simp only [upV, if_neg e1, if_pos e2] at hg ⊢
        exact hj i hi e1 g hg
      · simp only [upV, if_neg e1, if_neg e2] at hg ⊢
        exact h.apart i j g hi h8 hne hg
  · by_cases e : j = k
    · simp only [upV, if_pos e]; exact hnb
    · simp only [upV, if_neg e]; exact h.off j h8
end
def noQ : Nat → List Tq := fun _ => []
theorem sw_new (w : World) : Sw (w.alloc (.cells (sq nilVs) 31)) w.heap.size noQ nilVs (fun g => g = w.heap.size) where
  str := Bk.new w _ _
  row := fun k _ => Ow.nil _ _ _
  bF := rfl
  rF := fun k g _ hg => by simp [nilVs, Value.ownBlock] at hg
  lt := fun g hg => by rw [hg]; simp
  apart := fun j k g _ _ _ hg => by simp [nilVs, Value.ownBlock] at hg
  off := fun k _ => by simp [nilVs, Value.ownBlock]
/-- The caller's own memory has grown. -/
theorem Ct.grow {w0 w w' : World} {X G : Nat → Prop} {b n : Nat} {rows : Nat → List Pr} (h : Ct w0 X w b n rows) (hk : Keeps G w w') (hG : ∀ g, G g → X g ∧ w0.heap.size ≤ g) : Ct w0 (fun g => X g ∨ (w.heap.size ≤ g ∧ g < w'.heap.size)) w' b n rows := by
  obtain ⟨vs, F, h1, h2, h3, h4, h5⟩ := h
  refine ⟨vs, F, h1.keep hk (fun g hg hg2 => (h2 g hg).2 (hG g hg2).1), fun g hg => ⟨(h2 g hg).1, fun hx => ?_⟩, hk.below h3 (fun g hg => (hG g hg).2), fun g hg => ?_, h5⟩
  · rcases hx with hx | ⟨hx, -⟩
    · exact (h2 g hg).2 hx
    · have := h1.lt g hg; omega
  · rcases hg with hg | hg
    · exact Nat.lt_of_lt_of_le (h4 g hg) hk.size
    · exact hg.2
theorem Ct.sub {w0 w : World} {X Y : Nat → Prop} {b n : Nat} {rows : Nat → List Pr} (h : Ct w0 X w b n rows) (hs : ∀ g, Y g → X g) : Ct w0 Y w b n rows := by
  obtain ⟨vs, F, h1, h2, h3, h4, h5⟩ := h
  exact ⟨vs, F, h1, fun g hg => ⟨(h2 g hg).1, fun hy => (h2 g hg).2 (hs g hy)⟩, h3, fun g hg => h4 g (hs g hg), h5⟩
theorem Ct.lt {w0 w : World} {X : Nat → Prop} {b n : Nat} {rows : Nat → List Pr} (h : Ct w0 X w b n rows) : ∀ g, X g → g < w.heap.size := by
  obtain ⟨vs, F, h1, h2, h3, h4, h5⟩ := h
  exact h4
/-- A cast and 81 rows of the call's own; E: other blocks of the caller's that are left alone. -/
def St (w0 : World) (E : Nat → Prop) (w : World) (b n : Nat) (rows : Nat → List Pr) (S : Nat) (ss : Nat → List Tq) : Prop :=
  ∃ vs F, Sw w S ss vs F ∧ Ct w0 (fun g => F g ∨ E g) w b n rows ∧ (∀ g, F g → w0.heap.size ≤ g ∧ ¬ E g)
section
variable {w0 w w' : World} {E E' : Nat → Prop} {b n S : Nat} {rows rows' : Nat → List Pr} {ss : Nat → List Tq}
theorem St.call (h : St w0 E w b n rows S ss) (hb : Below w.heap.size w w') : St w0 E w' b n rows S ss := by
  obtain ⟨vs, F, h1, h2, h3⟩ := h
  exact ⟨vs, F, h1.call hb, h2.call hb, h3⟩
theorem St.below (h : St w0 E w b n rows S ss) : Below w0.heap.size w0 w := by
  obtain ⟨vs, F, h1, h2, h3⟩ := h
  exact h2.below
theorem St.short (h : St w0 E w b n rows S ss) : ∀ k, k < 8 → (rows k).length ≤ 16 := by
  obtain ⟨vs, F, h1, h2, h3⟩ := h
  exact h2.short
theorem St.sub (h : St w0 E w b n rows S ss) (hs : ∀ g, E' g → E g) : St w0 E' w b n rows S ss := by
  obtain ⟨vs, F, h1, h2, h3⟩ := h
  exact ⟨vs, F, h1, h2.sub (fun g hg => hg.imp id (hs g)), fun g hg => ⟨(h3 g hg).1, fun he => (h3 g hg).2 (hs g he)⟩⟩
theorem St.lay (h : St w0 E w b n rows S ss) (o : Obj) : St w0 (fun g => E g ∨ g = w.heap.size) (w.alloc o) b n rows S ss := by
  obtain ⟨vs, F, h1, h2, h3⟩ := h
  refine ⟨vs, F, h1.call (ba (Below.refl _ _) o), (h2.lay o).sub (fun g hg => ?_), fun g hg => ⟨(h3 g hg).1, fun he => ?_⟩⟩
  · rcases hg with hg | hg | hg
    · exact Or.inl (Or.inl hg)
    · exact Or.inl (Or.inr hg)
    · exact Or.inr hg
  · rcases he with he | he
    · exact (h3 g hg).2 he
    · have := h1.lt g hg; omega
theorem st_new (h : Ct w0 (fun _ => False) w b n rows) : St w0 (fun _ => False) (w.alloc (.cells (sq nilVs) 31)) b n rows w.heap.size noQ := by
  have h2 := (h.lay (.cells (sq nilVs) 31)).sub (Y := fun g => g = w.heap.size ∨ False) (fun g hg => by simpa using hg)
  exact ⟨nilVs, _, sw_new w, h2, fun g hg => ⟨by rw [hg]; exact h.size, fun h => h⟩⟩
theorem st_send (h : St w0 E w b n rows S ss) (x : Pr) (hp : 0 ≤ x.p) :
    Calls Try.prog 8 #[.pointer (some ⟨b, 0, none⟩), .int .i64 x.s, .agg #[.int .i8 x.k, .int .i64 x.a, .int .u64 x.p]] w fun e w' => e = .returned (.int .i64 (sndE n rows x)) ∧ St w0 E w' b n (sndR n rows x) S ss ∧ Keeps (fun g => ¬ E g) w w' := by
  obtain ⟨vs, F, h1, h2, h3⟩ := h
  refine (ct_send h2 x hp).mono ?_
  rintro e w' ⟨rfl, c1, c2⟩
  exact ⟨rfl, ⟨vs, F, h1.keep c2 (fun g hg hn => hn (Or.inl hg)), c1, h3⟩, c2.mono fun g hg he => hg (Or.inr he)⟩
/-- What an append to row i needs and what it makes. -/
theorem St.push (h : St w0 E w b n rows S ss) {i : Nat} (hi : i < 81) : ∃ O cap, w.cell? ⟨S, i, none⟩ = some (.slice O (ss i).length cap) ∧ w.frozen? ⟨S, i, none⟩ = false ∧ S < w.heap.size ∧ (¬ (Value.slice O (ss i).length cap).ownBlock = some S) ∧ Ow encQ 3 35 w 0 (.slice O (ss i).length cap) (ss i) ∧ (∀ g, (Value.slice O (ss i).length cap).ownBlock = some g → ¬ E g) ∧ ¬ E S ∧
    ∀ w1 w' v' xs, Below w.heap.size w w1 → Ow encQ 3 35 w' 0 v' xs → Keeps (fun g => (Value.slice O (ss i).length cap).ownBlock = some g) w1 w' → (∀ g, v'.ownBlock = some g → (Value.slice O (ss i).length cap).ownBlock = some g ∨ w1.heap.size ≤ g) →
      St w0 E (w'.setCell ⟨S, i, none⟩ v') b n rows S (upS ss i xs) ∧ Keeps (fun g => ¬ E g) w1 (w'.setCell ⟨S, i, none⟩ v') := by
  obtain ⟨vs, F, h1, h2, h3⟩ := h
  obtain ⟨O, cap, e1, e2, e3, e4⟩ := h1.form hi
  refine ⟨O, cap, by rw [h1.cellk hi, e1], h1.fr i, h1.blt, by rw [← e1]; exact h1.off i hi, by rw [← e1]; exact h1.row i hi, fun g hg => by rw [← e1] at hg; exact (h3 g (h1.rF i g hi hg)).2, (h3 S h1.bF).2, fun w1 w' v' xs hb hO hK hv => ?_⟩
  rw [← e1] at hK hv
  replace h1 := h1.call hb
  replace h2 := h2.call hb
  obtain ⟨d1, d2⟩ := h1.turned hi hO hK hv
  have d3 := (h2.grow d2 (fun g hg => ⟨Or.inl hg, (h3 g hg).1⟩)).sub (Y := fun g => (F g ∨ (w1.heap.size ≤ g ∧ g < w'.heap.size)) ∨ E g) (fun g hg => ?_)
  · refine ⟨⟨_, _, d1, d3, fun g hg => ?_⟩, d2.mono fun g hg he => (h3 g hg).2 he⟩
    rcases hg with hg | ⟨hg, -⟩
    · exact h3 g hg
    · exact ⟨Nat.le_trans h2.size hg, fun he => by have := h2.lt g (Or.inr he); omega⟩
  · rcases hg with (hg | hg) | hg
    · exact Or.inl (Or.inl hg)
    · exact Or.inr (by rw [World.size_setCell]; exact hg)
    · exact Or.inl (Or.inr hg)
end
/-- 81 rows, read. -/
def Sr (w0 : World) (E : Nat → Prop) (w : World) (b n : Nat) (rows : Nat → List Pr) (S : Nat) (ss : Nat → List Tq) : Prop :=
  ∃ (vs : Nat → Value) (F : Nat → Prop), Bk w S 31 (sq vs) ∧ F S ∧ (∀ k, k < 81 → ∃ O cap, vs k = .slice O (ss k).length cap ∧ (ss k).length ≤ cap ∧ cap ≤ maxLen ∧ RK encQ 3 w O (ss k) ∧ ∀ g o, O = some ⟨g, o, none⟩ → F g ∧ g ≠ S) ∧ Ct w0 (fun g => F g ∨ E g) w b n rows ∧ ∀ g, F g → w0.heap.size ≤ g
theorem RK.keep {α : Type} {enc : α → List Value} {k : Nat} {w w' : World} {O : Option Addr} {xs : List α} {G : Nat → Prop} (h : RK enc k w O xs) (hk : Keeps G w w') (hG : ∀ g o, O = some ⟨g, o, none⟩ → ¬ G g) : RK enc k w' O xs := fun h0 => by
  obtain ⟨b, off, e, hc⟩ := h h0
  refine ⟨b, off, e, fun i x hi j u hu => ?_⟩
  have := hc i x hi j u hu
  exact (World.cell?_of_block (a := ⟨b, off + i * k + j, none⟩) (hk.block b (World.block_lt_of_cell? w ⟨b, off + i * k + j, none⟩ this) (hG b off e))).trans this
section
variable {w0 w w' : World} {E E' : Nat → Prop} {b n S : Nat} {rows rows' : Nat → List Pr} {ss : Nat → List Tq}
theorem St.read (h : St w0 E w b n rows S ss) : Sr w0 E w b n rows S ss := by
  obtain ⟨vs, F, h1, h2, h3⟩ := h
  refine ⟨vs, F, h1.str, h1.bF, fun k hk => ?_, h2, fun g hg => (h3 g hg).1⟩
  obtain ⟨O, cap, e1, e2, e3, e4⟩ := h1.form hk
  refine ⟨O, cap, e1, e2, e3, e4, fun g o ho => ?_⟩
  subst ho
  have hb : (vs k).ownBlock = some g := by rw [e1]; rfl
  exact ⟨h1.rF k g hk hb, fun e => h1.off k hk (by rw [hb, e])⟩
theorem Sr.call (h : Sr w0 E w b n rows S ss) (hb : Below w.heap.size w w') : Sr w0 E w' b n rows S ss := by
  obtain ⟨vs, F, h1, h2, h3, h4, h5⟩ := h
  refine ⟨vs, F, h1.call hb, h2, fun k hk => ?_, h4.call hb, h5⟩
  obtain ⟨O, cap, e1, e2, e3, e4, e5⟩ := h3 k hk
  exact ⟨O, cap, e1, e2, e3, e4.call hb, e5⟩
theorem Sr.drew (h : Sr w0 E w b n rows S ss) : Sr w0 E w.drew b n rows S ss := h.call (bd (Below.refl _ _))
theorem Sr.below (h : Sr w0 E w b n rows S ss) : Below w0.heap.size w0 w := by
  obtain ⟨vs, F, h1, h2, h3, h4, h5⟩ := h
  exact h4.below
theorem Sr.short (h : Sr w0 E w b n rows S ss) : ∀ k, k < 8 → (rows k).length ≤ 16 := by
  obtain ⟨vs, F, h1, h2, h3, h4, h5⟩ := h
  exact h4.short
theorem Sr.sub (h : Sr w0 E w b n rows S ss) (hs : ∀ g, E' g → E g) : Sr w0 E' w b n rows S ss := by
  obtain ⟨vs, F, h1, h2, h3, h4, h5⟩ := h
  exact ⟨vs, F, h1, h2, h3, h4.sub (fun g hg => hg.imp id (hs g)), h5⟩
theorem Sr.lay (h : Sr w0 E w b n rows S ss) (o : Obj) : Sr w0 (fun g => E g ∨ g = w.heap.size) (w.alloc o) b n rows S ss := by
  have h' := h.call (ba (Below.refl _ _) o)
  obtain ⟨vs, F, h1, h2, h3, h4, h5⟩ := h
  refine ⟨vs, F, h1.call (ba (Below.refl _ _) o), h2, fun k hk => ?_, (h4.lay o).sub (fun g hg => ?_), h5⟩
  · obtain ⟨O, cap, e1, e2, e3, e4, e5⟩ := h3 k hk
    exact ⟨O, cap, e1, e2, e3, e4.call (ba (Below.refl _ _) o), e5⟩
  · rcases hg with hg | hg | hg
    · exact Or.inl (Or.inl hg)
    · exact Or.inl (Or.inr hg)
    · exact Or.inr hg
theorem Sr.waits (h : Sr w0 E w b n rows S ss) (c : Int) : Calls Try.prog 9 #[.pointer (some ⟨b, 0, none⟩), .int .i64 c] w fun e w' => e = .returned (.int .i64 (waitsN n rows c : Nat)) ∧ w = w' := by
  obtain ⟨vs, F, h1, h2, h3, h4, h5⟩ := h
  exact ct_waits h4 c
theorem Sr.done (h : Sr w0 E w b n rows S ss) (c : Int) : Calls Try.prog 12 #[.pointer (some ⟨b, 0, none⟩), .int .i64 c] w fun e w' => e = .returned (.bool (dnB n rows c)) ∧ Below w.heap.size w w' := by
  obtain ⟨vs, F, h1, h2, h3, h4, h5⟩ := h
  exact ct_done h4 c
theorem Sr.first (h : Sr w0 E w b n rows S ss) (c : Int) : Calls Try.prog 10 #[.pointer (some ⟨b, 0, none⟩), .int .i64 c] w fun e w' => e = .returned (.tuple #[.int .i64 (firP n rows c).s, .agg #[.int .i8 (firP n rows c).k, .int .i64 (firP n rows c).a, .int .u64 (firP n rows c).p], .int .i64 (firE n rows c)]) ∧ Below w.heap.size w w' := by
  obtain ⟨vs, F, h1, h2, h3, h4, h5⟩ := h
  exact ct_first h4 c
theorem Sr.ack (h : Sr w0 E w b n rows S ss) (c : Int) : Calls Try.prog 11 #[.pointer (some ⟨b, 0, none⟩), .int .i64 c] w fun e w' => e = .returned (.tuple #[.agg #[.int .i8 (firP n rows c).k, .int .i64 (firP n rows c).a, .int .u64 (firP n rows c).p], .int .i64 (firE n rows c)]) ∧ Sr w0 E w' b n (ackR n rows c) S ss ∧ Keeps (fun g => ¬ E g) w w' := by
  obtain ⟨vs, F, h1, h2, h3, h4, h5⟩ := h
  refine (ct_ack h4 c).mono ?_
  rintro e w' ⟨rfl, c1, c2⟩
  refine ⟨rfl, ⟨vs, F, h1.keep c2 (fun h => h (Or.inl h2)), h2, fun k hk => ?_, c1, h5⟩, c2.mono fun g hg he => hg (Or.inr he)⟩
  obtain ⟨O, cap, e1, e2, e3, e4, e5⟩ := h3 k hk
  exact ⟨O, cap, e1, e2, e3, e4.keep c2 (fun g o ho hn => hn (Or.inl (e5 g o ho).1)), e5⟩
theorem Sr.cellk (h : Sr w0 E w b n rows S ss) {k : Nat} (hk : k < 81) : ∃ O cap, w.cell? ⟨S, k, none⟩ = some (.slice O (ss k).length cap) ∧ (ss k).length ≤ cap ∧ cap ≤ maxLen ∧ RK encQ 3 w O (ss k) := by
  obtain ⟨vs, F, h1, h2, h3, h4, h5⟩ := h
  obtain ⟨O, cap, e1, e2, e3, e4, e5⟩ := h3 k hk
  exact ⟨O, cap, by rw [h1.cell, sq_at vs hk, e1], e2, e3, e4⟩
theorem Sr.fr (h : Sr w0 E w b n rows S ss) (i : Nat) : w.frozen? ⟨S, i, none⟩ = false := by
  obtain ⟨vs, F, h1, h2, h3, h4, h5⟩ := h
  exact h1.frozen i
theorem Sr.slt (h : Sr w0 E w b n rows S ss) : S < w.heap.size := by
  obtain ⟨vs, F, h1, h2, h3, h4, h5⟩ := h
  exact h1.lt
/-- The head of a row, and the row without it. -/
theorem Sr.cut (h : Sr w0 E w b n rows S ss) {k : Nat} (hk : k < 81) {x : Tq} {xs : List Tq} (hx : ss k = x :: xs) : ∃ g off cap, w.cell? ⟨S, k, none⟩ = some (.slice (some ⟨g, off, none⟩) (xs.length + 1) cap) ∧ xs.length + 1 ≤ cap ∧ cap ≤ maxLen ∧ w.cell? ⟨g, off, none⟩ = some (.int .i8 x.k) ∧ w.cell? ⟨g, off + 1, none⟩ = some (.int .i64 x.a) ∧ w.cell? ⟨g, off + 2, none⟩ = some (.int .u64 x.p) ∧
    ∀ O', (O' = some ⟨g, off + 3, none⟩ ∨ (O' = some ⟨g, off, none⟩ ∧ xs = [])) → Sr w0 E (w.setCell ⟨S, k, none⟩ (.slice O' xs.length (cap - 1))) b n rows S (upS ss k xs) := by
  obtain ⟨vs, F, h1, h2, h3, h4, h5⟩ := h
  obtain ⟨O, cap, e1, e2, e3, e4, e5⟩ := h3 k hk
  rw [hx] at e1 e2 e4
  obtain ⟨g, off, rfl, hc⟩ := e4 (by simp)
  have q0 := hc 0 x rfl 0 _ rfl
  have q1 := hc 0 x rfl 1 _ rfl
  have q2 := hc 0 x rfl 2 _ rfl
  simp only [Nat.zero_mul, Nat.add_zero] at q0 q1 q2
  refine ⟨g, off, cap, by rw [h1.cell, sq_at vs hk, e1]; rfl, by simpa using e2, e3, q0, q1, q2, fun O' hO' => ?_⟩
  have hkp : Keeps (fun y => y = S) w (w.setCell ⟨S, k, none⟩ (.slice O' xs.length (cap - 1))) := Keeps.setCell (F := fun y => y = S) (p := ⟨S, k, none⟩) rfl _
  refine ⟨upV vs k (.slice O' xs.length (cap - 1)), F, ?_, h2, fun j hj => ?_, h4.put hkp (fun y hy => by rw [hy]; exact ⟨Or.inl h2, h5 S h2⟩), h5⟩
  · have := h1.set k (.slice O' xs.length (cap - 1))
    rwa [sq_set vs hk] at this
  · by_cases e : j = k
    · subst e
      simp only [upV, upS, if_pos]
      simp only [List.length_cons] at e2
      refine ⟨O', cap - 1, rfl, by omega, by omega, ?_, fun g' o' ho => ?_⟩
      · rcases hO' with rfl | ⟨rfl, rfl⟩
        · have := RK.drop1 e4
          simp only [List.drop_succ_cons, List.drop_zero] at this
          exact this.keep hkp (fun y o hy => by
            injection hy with hy
            injection hy with hy
            rw [← hy]; exact (e5 g off rfl).2)
        · exact fun h0 => by simp at h0
      · rcases hO' with rfl | ⟨rfl, -⟩
        · injection ho with ho
          injection ho with ho
          rw [← ho]; exact e5 g off rfl
        · injection ho with ho
          injection ho with ho
          rw [← ho]; exact e5 g off rfl
    · simp only [upV, upS, if_neg e]
      obtain ⟨O1, cap1, d1, d2, d3, d4, d5⟩ := h3 j hj
      exact ⟨O1, cap1, d1, d2, d3, d4.keep hkp (fun y o hy => (d5 y o hy).2), d5⟩
end
end Go.Proofs.Ytokmcelmodoeoaa
