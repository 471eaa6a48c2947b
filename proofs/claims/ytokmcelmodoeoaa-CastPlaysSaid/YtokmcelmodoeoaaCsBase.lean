/-
  A cast (package cast) in the world: its struct's block, its rows of pairs, each of the call's own.
-/
import Derived.Test.YtokmcelmodoeoaaKeep
import Derived.Test.YtokmcelmodoeoaaRwMore
import Derived.ArgAppend
namespace Go.Proofs.Ytokmcelmodoeoaa
open Go.RowKit
set_option linter.unusedVariables false
set_option linter.unusedSimpArgs false

/-- A pair: who sent it, and the invalidation. -/
structure Pr where
  s : Int
  k : Int
  a : Int
  p : Int
def encP (x : Pr) : List Value := [.int .i64 x.s, .int .i8 x.k, .int .i64 x.a, .int .u64 x.p]
theorem encP_len (x : Pr) : (encP x).length = 4 := rfl
theorem encP_one (x : Pr) : ∀ u ∈ encP x, u.oneCell' = true := by
  intro u hu
  simp [encP] at hu
  rcases hu with rfl | rfl | rfl | rfl <;> rfl
/-- A cast's cells. -/
def csRow (n : Nat) (vs : Nat → Value) : Array Value := #[.int .i64 n, vs 0, vs 1, vs 2, vs 3, vs 4, vs 5, vs 6, vs 7]
def upV (vs : Nat → Value) (k : Nat) (v : Value) : Nat → Value := fun i => if i = k then v else vs i
def upR (rows : Nat → List Pr) (k : Nat) (l : List Pr) : Nat → List Pr := fun i => if i = k then l else rows i
theorem upR_same (rows : Nat → List Pr) (k : Nat) (l : List Pr) : upR rows k l k = l := by simp [upR]
theorem upR_other (rows : Nat → List Pr) {i k : Nat} (l : List Pr) (h : i ≠ k) : upR rows k l i = rows i := by simp [upR, h]
theorem lt8 {k : Nat} (h : k < 8) : k = 0 ∨ k = 1 ∨ k = 2 ∨ k = 3 ∨ k = 4 ∨ k = 5 ∨ k = 6 ∨ k = 7 := by omega
theorem csRow_at (n : Nat) (vs : Nat → Value) {k : Nat} (hk : k < 8) : (csRow n vs)[1 + k]? = some (vs k) := by
  rcases lt8 hk with rfl | rfl | rfl | rfl | rfl | rfl | rfl | rfl <;> rfl
theorem csRow_set (n : Nat) (vs : Nat → Value) {k : Nat} (hk : k < 8) (v : Value) : (csRow n vs).setIfInBounds (1 + k) v = csRow n (upV vs k v) := by
  rcases lt8 hk with rfl | rfl | rfl | rfl | rfl | rfl | rfl | rfl <;> simp [csRow, upV]
/-- A cast of n cores lies in w at block b; vs: its slices; F: all its blocks. -/
structure Cs (w : World) (b n : Nat) (rows : Nat → List Pr) (vs : Nat → Value) (F : Nat → Prop) : Prop where
  str : Bk w b 61 (csRow n vs)
  row : ∀ k, k < 8 → Ow encP 4 66 w 0 (vs k) (rows k)
  bF : F b
  rF : ∀ k g, k < 8 → (vs k).ownBlock = some g → F g
  lt : ∀ g, F g → g < w.heap.size
  apart : ∀ j k g, j < 8 → k < 8 → j ≠ k → (vs j).ownBlock = some g → (vs k).ownBlock ≠ some g
  off : ∀ k, k < 8 → (vs k).ownBlock ≠ some b
  n1 : 1 ≤ n
  n8 : n ≤ 8
section
variable {w w' : World} {b n : Nat} {rows : Nat → List Pr} {vs : Nat → Value} {F : Nat → Prop}
theorem Ow.keep {α : Type} {enc : α → List Value} {k : Nat} {t : TypeId} {w w' : World} {B : Nat} {v : Value} {xs : List α} {G : Nat → Prop} (h : Ow enc k t w B v xs) (hk : Keeps G w w') (hG : ∀ g, v.ownBlock = some g → ¬ G g) : Ow enc k t w' B v xs := by
  have hlt := h.lt
  obtain ⟨hl, h⟩ := h
  refine ⟨hl, h.imp id fun ⟨g, cap, cur, e, hB, hh, r⟩ => ⟨g, cap, cur, e, hB, ?_, r⟩⟩
  subst e
  exact (hk.block g (hlt g rfl).2 (hG g rfl)).trans hh
theorem Cs.keep {G : Nat → Prop} (h : Cs w b n rows vs F) (hk : Keeps G w w') (hG : ∀ g, F g → ¬ G g) : Cs w' b n rows vs F where
  str := h.str.keep hk (hG b h.bF)
  row := fun k h8 => (h.row k h8).keep hk fun g hg => hG g (h.rF k g h8 hg)
  bF := h.bF
  rF := h.rF
  lt := fun g hg => Nat.lt_of_lt_of_le (h.lt g hg) hk.size
  apart := h.apart
  off := h.off
  n1 := h.n1
  n8 := h.n8
theorem Cs.call (h : Cs w b n rows vs F) (hb : Below w.heap.size w w') : Cs w' b n rows vs F := h.keep (Keeps.of_below (F := fun _ => False) hb) fun _ _ hf => hf
theorem Cs.alloc (h : Cs w b n rows vs F) (o : Obj) : Cs (w.alloc o) b n rows vs F := h.call (ba (Below.refl _ _) o)
theorem Cs.drew (h : Cs w b n rows vs F) : Cs w.drew b n rows vs F := h.call (bd (Below.refl _ _))
theorem Cs.cell0 (h : Cs w b n rows vs F) : w.cell? ⟨b, 0, none⟩ = some (.int .i64 n) := by rw [h.str.cell]; rfl
theorem Cs.cellk (h : Cs w b n rows vs F) {k : Nat} (hk : k < 8) : w.cell? ⟨b, 1 + k, none⟩ = some (vs k) := by rw [h.str.cell, csRow_at n vs hk]
theorem Cs.fr (h : Cs w b n rows vs F) (i : Nat) : w.frozen? ⟨b, i, none⟩ = false := h.str.frozen i
theorem Cs.blt (h : Cs w b n rows vs F) : b < w.heap.size := h.str.lt
theorem Cs.form (h : Cs w b n rows vs F) {k : Nat} (hk : k < 8) : ∃ O cap, vs k = .slice O (rows k).length cap ∧ (rows k).length ≤ cap ∧ cap ≤ maxLen ∧ RK encP 4 w O (rows k) := (h.row k hk).form encP_len
/-- Another row at k: in the same block, or in a new one. -/
theorem Cs.turned (h : Cs w b n rows vs F) {k : Nat} (hk : k < 8) {v' : Value} {xs : List Pr} (hO : Ow encP 4 66 w' 0 v' xs) (hK : Keeps (fun g => (vs k).ownBlock = some g) w w')
    (hv : ∀ g, v'.ownBlock = some g → (vs k).ownBlock = some g ∨ w.heap.size ≤ g) :
    Cs (w'.setCell ⟨b, 1 + k, none⟩ v') b n (upR rows k xs) (upV vs k v') (fun g => F g ∨ (w.heap.size ≤ g ∧ g < w'.heap.size)) ∧ Keeps F w (w'.setCell ⟨b, 1 + k, none⟩ v') := by
  have hstr : Bk w' b 61 (csRow n vs) := h.str.keep hK (h.off k hk)
  have hKF : Keeps F w w' := hK.mono fun g hg => h.rF k g hk hg
  have hset : Keeps (fun g => g = b) w' (w'.setCell ⟨b, 1 + k, none⟩ v') := Keeps.setCell (F := fun g => g = b) (p := ⟨b, 1 + k, none⟩) (by rfl) v'
  have hnb : v'.ownBlock ≠ some b := fun e => by
    rcases hv b e with h1 | h1
    · exact h.off k hk h1
    · have := h.blt; omega
  have hj : ∀ j, j < 8 → j ≠ k → ∀ g, (vs j).ownBlock = some g → ¬ (v'.ownBlock = some g) := fun j h8 hne g hg e => by
    rcases hv g e with h1 | h1
    · exact h.apart j k g h8 hk hne hg h1
    · have := h.lt g (h.rF j g h8 hg); omega
  refine ⟨⟨?_, fun j h8 => ?_, Or.inl h.bF, fun j g h8 hg => ?_, fun g hg => ?_, fun i j g hi h8 hne hg => ?_, fun j h8 => ?_, h.n1, h.n8⟩, hKF.trans hset fun x hx => Or.inl (by rw [hx]; exact h.bF)⟩
  · have := hstr.set (1 + k) v'
    rwa [csRow_set n vs hk] at this
  · by_cases e : j = k
    · subst e
      simp only [upR, upV, if_pos]
      exact hO.keep hset fun g hg e => hnb (by rw [hg, e])
    · simp only [upR, upV, if_neg e]
      exact ((h.row j h8).keep hK fun g hg e' => h.apart j k g h8 hk e hg e').keep hset fun g hg e' => h.off j h8 (by rw [hg, e'])
  · by_cases e : j = k
    · subst e
      simp only [upV, if_pos] at hg
      rcases hv g hg with h1 | h1
      · exact Or.inl (h.rF j g h8 h1)
      · exact Or.inr ⟨h1, (hO.lt g hg).2⟩
    · simp only [upV, if_neg e] at hg
      exact Or.inl (h.rF j g h8 hg)
  · rw [World.size_setCell]
    rcases hg with hg | hg
    · exact Nat.lt_of_lt_of_le (h.lt g hg) hK.size
    · exact hg.2
  · by_cases e1 : i = k
    · have e2 : j ≠ k := fun e => hne (e1.trans e.symm)
      simp only [upV, if_pos e1, if_neg e2] at hg ⊢
      exact fun e => hj j h8 e2 g e hg
    · by_cases e2 : j = k
      · simp only [upV, if_neg e1, if_pos e2] at hg ⊢
        exact hj i hi e1 g hg
      · simp only [upV, if_neg e1, if_neg e2] at hg ⊢
        exact h.apart i j g hi h8 hne hg
  · by_cases e : j = k
    · simp only [upV, if_pos e]; exact hnb
    · simp only [upV, if_neg e]; exact h.off j h8
end
/-- A new cast. -/
def noRows : Nat → List Pr := fun _ => []
def nilVs : Nat → Value := fun _ => .slice none 0 0
theorem cs_new (w : World) (n : Nat) (h1 : 1 ≤ n) (h8 : n ≤ 8) : Cs (w.alloc (.cells (csRow n nilVs) 61)) w.heap.size n noRows nilVs (fun g => g = w.heap.size) where
  str := Bk.new w _ _
  row := fun k _ => Ow.nil _ _ _
  bF := rfl
  rF := fun k g _ hg => by simp [nilVs, Value.ownBlock] at hg
  lt := fun g hg => by rw [hg]; simp
  apart := fun j k g _ _ _ hg => by simp [nilVs, Value.ownBlock] at hg
  off := fun k _ => by simp [nilVs, Value.ownBlock]
  n1 := h1
  n8 := h8
/-- Where an appended row lies. -/
theorem run_append_own_at {P : Program} {w : World} (t ty e : TypeId) (i : TypeInfo) (z : Value) (size bytes : Nat) (ht : P.underlying t = some (.slice e)) (hi : P.info? e = some i) (hz : i.zero = some z)
    (hsize : i.size = size) (hby : i.bytes = bytes) (hzs : z.cells.size = size) (hsz : 0 < size)
    (v : Value) (n : Nat) (xs : List Value) (hown : w.ownsRow 0 e size v n xs)
    (a : Addr) (m c : Nat) (news : List Value) (hl : news.length = m * size) (hnews : ∀ j u, news[j]? = some u → w.cell? (a.add j) = some u) (h1 : ∀ u ∈ news, u.oneCell' = true)
    (h63 : n + m ≤ maxLen) (hbytes : (n + m) * bytes ≤ 140737488355328) :
    ∃ v' w', (Builtin.append_ #[t, t] ty #[v, .slice (some a) m c]).run P w = .ok v' w' ∧ w'.ownsRow 0 e size v' (n + m) (xs ++ news) ∧ w.grownBy w' v.ownBlock ∧ (∀ g, v'.ownBlock = some g → v.ownBlock = some g ∨ w.heap.size ≤ g) := by
  obtain ⟨v', w', hr, ho, hg, -⟩ := run_append_own (P := P) w 0 t ty e i z size bytes ht hi hz hsize hby hzs hsz v n xs hown a m c news hl hnews h1 h63 hbytes (Nat.zero_le _)
  refine ⟨v', w', hr, ho, hg, fun g hv => ?_⟩
  rcases hown.2 with ⟨rfl, rfl⟩ | ⟨g0, cap, cur, rfl, _, hh, c1, c2, c3, c4⟩
  · have hl0 : xs = [] := List.eq_nil_of_length_eq_zero (by simpa using hown.1)
    subst hl0
    obtain ⟨v2, w2, hr2, ho2, -, -⟩ := run_append_own (P := P) w w.heap.size t ty e i z size bytes ht hi hz hsize hby hzs hsz (.slice none 0 0) 0 [] (World.ownsRow_nil w _ e size) a m c news hl hnews h1 h63 hbytes (Nat.le_refl _)
    rw [hr] at hr2
    injection hr2 with e1 e2
    subst e1 e2
    exact Or.inr (World.ownsRow.lt ho2 g hv).1
  · have cellIs : ∀ j, w.cell? ⟨g0, j, none⟩ = cur[j]? := fun j => cell_of_row w g0 j cur e (0, 0) hh
    by_cases hroom : n + m ≤ cap
    · subst hsize
      have hr2 := run_append_room_cells (P := P) w t ty e i ht hi g0 0 n cap a m c news hl hnews h1 hroom (fun j hj => by
          rw [cellIs, Array.getElem?_eq_getElem (by
            rw [c3]
            have : (n + m) * i.size ≤ cap * i.size := Nat.mul_le_mul_right _ hroom
            rw [Nat.add_mul] at this
            omega)]
          rfl) (fun j hj => frozen_of_row w g0 _ cur e hh)
      rw [hr] at hr2
      injection hr2 with e1 e2
      subst e1
      exact Or.inl hv
    · have holds : ∀ j u, xs[j]? = some u → w.cell? ((⟨g0, 0, none⟩ : Addr).add j) = some u := World.ownsRow.cells hown rfl
      obtain ⟨v2, w2, hr2, ho2, -⟩ := run_append_arg_grows (P := P) w t ty e i z size bytes ht hi hz hsize hby hzs hsz ⟨g0, 0, none⟩ n cap xs hown.1 holds a m c news hl hnews (by omega) h63 hbytes
      rw [hr] at hr2
      injection hr2 with e1 e2
      subst e1 e2
      exact Or.inr (World.ownsRow.lt ho2 g hv).1
end Go.Proofs.Ytokmcelmodoeoaa
