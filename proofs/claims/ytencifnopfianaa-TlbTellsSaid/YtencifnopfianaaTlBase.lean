/-
  Layer 11's entries: their cells, what may be, their places.
-/
import Derived.Test.YtencifnopfianaaRw
import Derived.Test.YtencifnopfianaaTlPlain
import Derived.Test.YtencifnopfianaaInvalHits
import Derived.Laws.EntriesVeiled
import Derived.Laws.StructEq
namespace Go.Proofs.Ytencifnopfianaa
open Go.RowKit
set_option linter.unusedVariables false
set_option linter.unusedSimpArgs false
/-- An entry of a TLB. -/
structure Tb where
  a : Int
  p : Int
  f : Int
  ro : Bool
/-- An entry of a walk cache. -/
structure Sb where
  a : Int
  l : Int
  p : Int
  f : Int
def encT (x : Tb) : List Value := [.int .i64 x.a, .int .u64 x.p, .int .i64 x.f, .bool x.ro]
theorem encT_len (x : Tb) : (encT x).length = 4 := rfl
def encS (x : Sb) : List Value := [.int .i64 x.a, .int .i8 x.l, .int .u64 x.p, .int .i64 x.f]
theorem encS_len (x : Sb) : (encS x).length = 4 := rfl
def plT (x : Tb) : Int × Int × Int := (x.a, 0, x.p)
def plS (x : Sb) : Int × Int × Int := (x.a, x.l, x.p)
def mayT (x : Tb) : Bool := decide (0 ≤ x.a ∧ x.a ≤ 255 ∧ 0 ≤ x.f ∧ x.f < 64 ∧ x.p < 34359738368)
def limS (l : Int) : Int := if l = 1 then 131072 else if l = 2 then 67108864 else 34359738368
def mayS (x : Sb) : Bool := decide (0 ≤ x.a ∧ x.a ≤ 255 ∧ 0 ≤ x.f ∧ x.f < 64 ∧ 1 ≤ x.l ∧ x.l ≤ 3 ∧ x.p < limS x.l)
theorem tbInfo : ∃ i, Try.prog.info? 25 = some i ∧ i.zero = some (.agg #[.int .i64 0, .int .u64 0, .int .i64 0, .bool false]) ∧ i.size = 4 ∧ i.bytes = 32 := by
  have h : (Try.prog.info? 25).map (fun i => (i.zero, i.size, i.bytes)) = some (some (.agg #[.int .i64 0, .int .u64 0, .int .i64 0, .bool false]), 4, 32) := by kernel_rfl
  cases hq : Try.prog.info? 25 with
  | none => simp [hq] at h
  | some i => simp [hq] at h; exact ⟨i, rfl, h.1, h.2.1, h.2.2⟩
theorem sbInfo : ∃ i, Try.prog.info? 44 = some i ∧ i.zero = some (.agg #[.int .i64 0, .int .i8 0, .int .u64 0, .int .i64 0]) ∧ i.size = 4 ∧ i.bytes = 32 := by
  have h : (Try.prog.info? 44).map (fun i => (i.zero, i.size, i.bytes)) = some (some (.agg #[.int .i64 0, .int .i8 0, .int .u64 0, .int .i64 0]), 4, 32) := by kernel_rfl
  cases hq : Try.prog.info? 44 with
  | none => simp [hq] at h
  | some i => simp [hq] at h; exact ⟨i, rfl, h.1, h.2.1, h.2.2⟩
theorem tb_cells {w : World} {b off i : Nat} {xs : List Tb} {x : Tb} (hx : xs[i]? = some x) (h : ∀ (i : Nat) (x : Tb), xs[i]? = some x → ∀ (j : Nat) (u : Value), (encT x)[j]? = some u → w.cell? ⟨b, off + i * 4 + j, none⟩ = some u) :
    w.cell? ⟨b, off + i * 4, none⟩ = some (.int .i64 x.a) ∧ w.cell? ⟨b, off + i * 4 + 1, none⟩ = some (.int .u64 x.p) ∧ w.cell? ⟨b, off + i * 4 + 2, none⟩ = some (.int .i64 x.f) ∧ w.cell? ⟨b, off + i * 4 + 3, none⟩ = some (.bool x.ro) :=
  ⟨h i x hx 0 _ rfl, h i x hx 1 _ rfl, h i x hx 2 _ rfl, h i x hx 3 _ rfl⟩
theorem sb_cells {w : World} {b off i : Nat} {xs : List Sb} {x : Sb} (hx : xs[i]? = some x) (h : ∀ (i : Nat) (x : Sb), xs[i]? = some x → ∀ (j : Nat) (u : Value), (encS x)[j]? = some u → w.cell? ⟨b, off + i * 4 + j, none⟩ = some u) :
    w.cell? ⟨b, off + i * 4, none⟩ = some (.int .i64 x.a) ∧ w.cell? ⟨b, off + i * 4 + 1, none⟩ = some (.int .i8 x.l) ∧ w.cell? ⟨b, off + i * 4 + 2, none⟩ = some (.int .u64 x.p) ∧ w.cell? ⟨b, off + i * 4 + 3, none⟩ = some (.int .i64 x.f) :=
  ⟨h i x hx 0 _ rfl, h i x hx 1 _ rfl, h i x hx 2 _ rfl, h i x hx 3 _ rfl⟩
theorem ne3 {a b c a' b' c' : Int} (h : ¬ ((a, b, c) : Int × Int × Int) = (a', b', c')) : (¬ a = a') ∨ (a = a' ∧ ¬ b = b') ∨ (a = a' ∧ b = b' ∧ ¬ c = c') := by
  by_cases h1 : a = a'
  · by_cases h2 : b = b'
    · exact Or.inr (Or.inr ⟨h1, h2, fun h3 => h (by rw [h1, h2, h3])⟩)
    · exact Or.inr (Or.inl ⟨h1, h2⟩)
  · exact Or.inl h1
section
variable {α : Type} {enc : α → List Value} {k : Nat}
theorem RK.take {w : World} {O : Option Addr} {xs : List α} (h : RK enc k w O xs) (n : Nat) : RK enc k w O (xs.take n) := fun h0 => by
  obtain ⟨b, off, e, hc⟩ := h (by rw [List.length_take] at h0; omega)
  refine ⟨b, off, e, fun i x hx j u hu => hc i x ?_ j u hu⟩
  rw [List.getElem?_take] at hx
  split at hx
  · exact hx
  · simp at hx
end
theorem Ow.low {α : Type} {enc : α → List Value} {k : Nat} {t : TypeId} {w : World} {B B' : Nat} {v : Value} {xs : List α} (h : Ow enc k t w B v xs) (hB : B' ≤ B) : Ow enc k t w B' v xs := by
  obtain ⟨hl, h⟩ := h
  exact ⟨hl, h.imp id fun ⟨g, cap, cur, e, hb, r⟩ => ⟨g, cap, cur, e, Nat.le_trans hB hb, r⟩⟩
theorem take_filter_succ {α : Type} (q : α → Bool) (xs : List α) (i : Nat) (x : α) (h : xs[i]? = some x) : (xs.take (i + 1)).filter q = if q x then (xs.take i).filter q ++ [x] else (xs.take i).filter q := by
  rw [List.take_add_one, h, Option.toList_some, List.filter_append]
  by_cases hq : q x = true
  · simp [hq]
  · simp [hq]
theorem take_filter_len {α : Type} (q : α → Bool) (xs : List α) (i : Nat) : ((xs.take i).filter q).length ≤ xs.length := by
  have h1 := List.length_filter_le q (xs.take i)
  have h2 : (xs.take i).length ≤ xs.length := by rw [List.length_take]; omega
  omega
/-- What a closure has caught: an invalidation. -/
def TCaught (w : World) (C : Nat) (tk ta tp : Int) : Prop := w.cell? ⟨C, 0, none⟩ = some (.int .i8 tk) ∧ w.cell? ⟨C, 1, none⟩ = some (.int .i64 ta) ∧ w.cell? ⟨C, 2, none⟩ = some (.int .u64 tp)
theorem TCaught.call {w w' : World} {C : Nat} {tk ta tp : Int} (h : TCaught w C tk ta tp) (hb : Below w.heap.size w w') : TCaught w' C tk ta tp := by
  obtain ⟨h0, h1, h2⟩ := h
  have l := World.block_lt_of_cell? w ⟨C, 0, none⟩ h0
  exact ⟨(hb.cell (p := ⟨C, 0, none⟩) l).trans h0, (hb.cell (p := ⟨C, 1, none⟩) l).trans h1, (hb.cell (p := ⟨C, 2, none⟩) l).trans h2⟩
theorem TCaught.lt {w : World} {C : Nat} {tk ta tp : Int} (h : TCaught w C tk ta tp) : C < w.heap.size := World.block_lt_of_cell? w ⟨C, 0, none⟩ h.1
/-- Are there such an ASID and such a frame? -/
def nmB (a f : Int) : Bool := decide (0 ≤ a ∧ a ≤ 255 ∧ 0 ≤ f ∧ f < 64)
theorem nmB_of {a f : Int} {b : Bool} (h : b = true ↔ (0 ≤ a ∧ a ≤ 255 ∧ 0 ≤ f ∧ f < 64)) : b = nmB a f := by
  rw [Bool.eq_iff_iff, nmB, decide_eq_true_iff]; exact h
theorem names_any (a f : Int) (w : World) : Calls Try.prog 58 #[.int .i64 a, .int .i64 f] w fun e w' => e = .returned (.bool (nmB a f)) ∧ w = w' := by
  go_enter Try.func58, Try.ntmps58
  go_wp2
  all_goals
    go_ret
    refine ⟨ret_bool (nmB_of ?_), rfl⟩
    simp at *
    omega
theorem mayT_any (x : Tb) (w : World) : Calls Try.prog 57 #[.agg #[.int .i64 x.a, .int .u64 x.p, .int .i64 x.f, .bool x.ro]] w fun e w' => e = .returned (.bool (mayT x)) ∧ Below w.heap.size w w' := by
  obtain ⟨xa, xp, xf, xr⟩ := x
  simp only
  rcases hd : nmB xa xf with _ | _
  · have HE := Lib.hid (show mayT ⟨xa, xp, xf, xr⟩ = false from decide_eq_false (fun h => of_decide_eq_false hd ⟨h.1, h.2.1, h.2.2.1, h.2.2.2.1⟩))
    have HD := Lib.hid hd
    clear hd
    go_enter Try.func57, Try.ntmps57
    go_wp2_with (go_at_call 58; refine (names_any _ _ _).mono ?_; rintro e w1 ⟨rfl, rfl⟩; rw [HD.out])
    go_ret
    exact ⟨by rw [HE.out]; rfl, ba (Below.refl _ _) _⟩
  · have HD := Lib.hid hd
    by_cases hp : xp < 34359738368
    · have HE := Lib.hid (show mayT ⟨xa, xp, xf, xr⟩ = true from decide_eq_true (by have h := of_decide_eq_true hd; exact ⟨h.1, h.2.1, h.2.2.1, h.2.2.2, hp⟩))
      clear hd
      go_enter Try.func57, Try.ntmps57
      go_wp2_with (go_at_call 58; refine (names_any _ _ _).mono ?_; rintro e w1 ⟨rfl, rfl⟩; rw [HD.out])
      go_ret
      exact ⟨by rw [HE.out]; rfl, ba (Below.refl _ _) _⟩
    · have HE := Lib.hid (show mayT ⟨xa, xp, xf, xr⟩ = false from decide_eq_false (fun h => hp h.2.2.2.2))
      clear hd
      go_enter Try.func57, Try.ntmps57
      go_wp2_with (go_at_call 58; refine (names_any _ _ _).mono ?_; rintro e w1 ⟨rfl, rfl⟩; rw [HD.out])
      go_ret
      exact ⟨by rw [HE.out]; first | rfl | simp [hp], ba (Below.refl _ _) _⟩
theorem behind_any (l : Int) (w : World) (h1 : 1 ≤ l) (h3 : l ≤ 3) : Calls Try.prog 43 #[.int .i8 l] w fun e w' => e = .returned (.int .u64 (9 * (3 - l))) ∧ w = w' := by
  rcases (show l = 1 ∨ l = 2 ∨ l = 3 by omega) with rfl | rfl | rfl
  all_goals
    go_enter Try.func43, Try.ntmps43
    go_wp2_with fail
    go_ret
    exact ⟨rfl, rfl⟩
theorem behind_q (l : Int) (w : World) (h1 : 1 ≤ l) (h3 : l ≤ 3) : Calls Try.prog 43 #[.int .i8 l] w fun e w' => e = .returned (.int .u64 (9 * (3 - l))) ∧ w' = w := (behind_any l w h1 h3).mono fun e w' h => ⟨h.1, h.2.symm⟩
theorem mayS_any (x : Sb) (w : World) : Calls Try.prog 62 #[.agg #[.int .i64 x.a, .int .i8 x.l, .int .u64 x.p, .int .i64 x.f]] w fun e w' => e = .returned (.bool (mayS x)) ∧ Below w.heap.size w w' := by
  obtain ⟨xa, xl, xp, xf⟩ := x
  simp only
  rcases hd : nmB xa xf with _ | _
  · have HE := Lib.hid (show mayS ⟨xa, xl, xp, xf⟩ = false from decide_eq_false (fun h => of_decide_eq_false hd ⟨h.1, h.2.1, h.2.2.1, h.2.2.2.1⟩))
    have HD := Lib.hid hd
    clear hd
    go_enter Try.func62, Try.ntmps62
    go_wp2_with (go_at_call 58; refine (names_any _ _ _).mono ?_; rintro e w1 ⟨rfl, rfl⟩; rw [HD.out])
    go_ret
    exact ⟨by rw [HE.out]; rfl, ba (Below.refl _ _) _⟩
  · have HD := Lib.hid hd
    by_cases hl : 1 ≤ xl ∧ xl ≤ 3
    · obtain ⟨l1, l3⟩ := hl
      have HE := Lib.hid (show mayS ⟨xa, xl, xp, xf⟩ = decide (xp < limS xl) from by
        have h := of_decide_eq_true hd
        unfold mayS
        rw [Bool.eq_iff_iff]
        simp only [decide_eq_true_eq]
        exact ⟨fun h => h.2.2.2.2.2.2, fun hp => ⟨h.1, h.2.1, h.2.2.1, h.2.2.2, l1, l3, hp⟩⟩)
      clear hd
      rcases (show xl = 1 ∨ xl = 2 ∨ xl = 3 by omega) with rfl | rfl | rfl
      all_goals
        go_enter Try.func62, Try.ntmps62
        go_wp2_with (go_at_call 58; refine (names_any _ _ _).mono ?_; rintro e w1 ⟨rfl, rfl⟩; rw [HD.out])
        go_quiet ((go_at_call 43; exact Calls.quiet_of_same (behind_q _ _ (by omega) (by omega))))
        go_wp2_with fail
        go_ret
        exact ⟨by rw [HE.out]; rfl, bdn (ba (Below.refl _ _) _) _⟩
    · have HE := Lib.hid (show mayS ⟨xa, xl, xp, xf⟩ = false from decide_eq_false (fun h => hl ⟨h.2.2.2.2.1, h.2.2.2.2.2.1⟩))
      have HD := Lib.hid hd
      clear hd
      rcases (show xl < 1 ∨ (1 ≤ xl ∧ 3 < xl) by omega) with h1 | ⟨h0, h1⟩
      all_goals
        clear hl
        go_enter Try.func62, Try.ntmps62
        go_wp2_with (go_at_call 58; refine (names_any _ _ _).mono ?_; rintro e w1 ⟨rfl, rfl⟩; rw [HD.out])
        go_ret
        exact ⟨by rw [HE.out]; rfl, ba (Below.refl _ _) _⟩
theorem atT_any (x : Tb) (w : World) : Calls Try.prog 59 #[.agg #[.int .i64 x.a, .int .u64 x.p, .int .i64 x.f, .bool x.ro]] w fun e w' => e = .returned (.agg #[.int .i64 x.a, .int .i8 0, .int .u64 x.p]) ∧ Below w.heap.size w w' := by
  obtain ⟨xa, xp, xf, xr⟩ := x
  simp only
  go_enter Try.func59, Try.ntmps59
  go_wp2_with fail
  exact bodyPost_ret (v := .agg #[.int .i64 xa, .int .i8 0, .int .u64 xp]) (by simp [results, Try.results59, go_sem]) rfl ⟨rfl, ba (ba (Below.refl _ _) _) _⟩
theorem atS_any (x : Sb) (w : World) : Calls Try.prog 63 #[.agg #[.int .i64 x.a, .int .i8 x.l, .int .u64 x.p, .int .i64 x.f]] w fun e w' => e = .returned (.agg #[.int .i64 x.a, .int .i8 x.l, .int .u64 x.p]) ∧ Below w.heap.size w w' := by
  obtain ⟨xa, xl, xp, xf⟩ := x
  simp only
  go_enter Try.func63, Try.ntmps63
  go_wp2_with fail
  exact bodyPost_ret (v := .agg #[.int .i64 xa, .int .i8 xl, .int .u64 xp]) (by simp [results, Try.results63, go_sem]) rfl ⟨rfl, ba (ba (Below.refl _ _) _) _⟩
/-- How a TLB's rows are; a walk cache's. -/
def kT : Array Value := #[.int .i64 8, .func (.func 57) #[] #[], .func (.func 59) #[] #[]]
def kS : Array Value := #[.int .i64 4, .func (.func 62) #[] #[], .func (.func 63) #[] #[]]
theorem kindT_any (w : World) : Calls Try.prog 33 #[] w fun e w' => e = .returned (.agg #[.int .i64 8, .func (.func 57) #[] #[], .func (.func 59) #[] #[]]) ∧ Below w.heap.size w w' := by
  go_enter Try.func33, Try.ntmps33
  go_wp2_with fail
  exact bodyPost_ret (v := .agg #[.int .i64 8, .func (.func 57) #[] #[], .func (.func 59) #[] #[]]) (by simp [results, Try.results33, go_sem]) rfl ⟨rfl, ba (Below.refl _ _) _⟩
theorem kindS_any (w : World) : Calls Try.prog 41 #[] w fun e w' => e = .returned (.agg #[.int .i64 4, .func (.func 62) #[] #[], .func (.func 63) #[] #[]]) ∧ Below w.heap.size w w' := by
  go_enter Try.func41, Try.ntmps41
  go_wp2_with fail
  exact bodyPost_ret (v := .agg #[.int .i64 4, .func (.func 62) #[] #[], .func (.func 63) #[] #[]]) (by simp [results, Try.results41, go_sem]) rfl ⟨rfl, ba (Below.refl _ _) _⟩
theorem hitT_any (x : Tb) (tk ta tp : Int) (C : Nat) (w : World) (hC : TCaught w C tk ta tp) :
    Calls Try.prog 36 #[.agg #[.int .i64 x.a, .int .u64 x.p, .int .i64 x.f, .bool x.ro], .pointer (some ⟨C, 0, none⟩)] w fun e w' => e = .returned (.bool (hitB tk ta tp x.a x.p)) ∧ Below w.heap.size w w' := by
  obtain ⟨h0, h1, h2⟩ := hC
  have l := World.block_lt_of_cell? w ⟨C, 0, none⟩ h0
  obtain ⟨xa, xp, xf, xr⟩ := x
  simp only
  go_enter Try.func36, Try.ntmps36
  go_wp2_with (go_at_call 37; refine (hits_any _ _ _ _ _ _ _ _).mono ?_; rintro e w1 ⟨rfl, hb1⟩)
  go_ret
  exact ⟨rfl, bthen (ba (Below.refl _ _) _) hb1⟩
theorem hitS_any (x : Sb) (tk ta tp : Int) (C : Nat) (w : World) (hC : TCaught w C tk ta tp) :
    Calls Try.prog 47 #[.agg #[.int .i64 x.a, .int .i8 x.l, .int .u64 x.p, .int .i64 x.f], .pointer (some ⟨C, 0, none⟩)] w fun e w' => e = .returned (.bool (stepB tk ta tp x.a x.l x.p)) ∧ Below w.heap.size w w' := by
  obtain ⟨h0, h1, h2⟩ := hC
  have l := World.block_lt_of_cell? w ⟨C, 0, none⟩ h0
  obtain ⟨xa, xl, xp, xf⟩ := x
  simp only
  go_enter Try.func47, Try.ntmps47
  go_wp2_with (go_at_call 48; refine (hitsStep_any _ _ _ _ _ _ _ _).mono ?_; rintro e w1 ⟨rfl, hb1⟩)
  go_ret
  exact ⟨rfl, bthen (ba (Below.refl _ _) _) hb1⟩
end Go.Proofs.Ytencifnopfianaa
