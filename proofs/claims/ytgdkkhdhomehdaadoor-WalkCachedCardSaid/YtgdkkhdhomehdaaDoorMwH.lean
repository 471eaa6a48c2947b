/-
  The walks of package inval: what each function computes.
  The walks of the reference of layer 5: what hits.
  Layer 11's entries: their cells, what may be, their places.
  Package tlb's find (T).
  Package tlb's check (T).
  Rows of items: a row appended to one of the call's own; a row made; an item put; a row cut.
  Package tlb's fill (T).
  Package tlb's without (T).
  Package tlb's drop (T).
  Package tlb's functions, as they are called (T).
  Package tlb's find (S).
-/
import Derived.Test.YtgdkkhdhomehdaaDoorMwA
import Derived.Deep.QuietTactic
import Derived.BigQuiet
import Derived.Deep.Draws
import Derived.Laws.EntriesVeiled
import Derived.Laws.StructEq
import Derived.Deep.RegionHeld
import Derived.Deep.RegionHeld3
namespace Go.Proofs.YtgdkkhdhomehdaaDoor
section
open Go.RowKit
set_option linter.unusedVariables false
set_option linter.unusedSimpArgs false

/-- May an invalidation be? -/
def mayB (k a p : Int) : Bool := decide (0 ≤ a ∧ a ≤ 255 ∧ p < 34359738368 ∧ ((k = 0 ∧ a = 0 ∧ p = 0) ∨ (k = 1 ∧ p = 0) ∨ k = 2))
theorem mayB_iff (k a p : Int) : mayB k a p = true ↔ 0 ≤ a ∧ a ≤ 255 ∧ p < 34359738368 ∧ ((k = 0 ∧ a = 0 ∧ p = 0) ∨ (k = 1 ∧ p = 0) ∨ k = 2) := by simp [mayB]
theorem mayB_of {k a p : Int} {b : Bool} (h : b = true ↔ (0 ≤ a ∧ a ≤ 255 ∧ p < 34359738368 ∧ ((k = 0 ∧ a = 0 ∧ p = 0) ∨ (k = 1 ∧ p = 0) ∨ k = 2))) : b = mayB k a p := by
  rw [Bool.eq_iff_iff, mayB_iff]; exact h
/-- Does it hit an entry of a TLB? -/
def hitB (k a p ea ep : Int) : Bool := mayB k a p && ((k == 0) || ((a == ea) && ((k == 1) || (p == ep))))
/-- Does it hit an entry of a walk cache? -/
def stepB (k a p sa sl sp : Int) : Bool := mayB k a p && ((k == 0) || (decide (1 ≤ sl ∧ sl ≤ 3) && ((a == sa) && ((k == 1) || (p / 2 ^ (9 * (3 - sl)).toNat == sp)))))
theorem st_tlbi : Tryd.prog.underlying 171 = some (.struct (Tryd.prog.fieldsOf 171)) := by kernel_rfl
theorem sh_tlbi : Tryd.prog.stoodInHeld 171 = false := by kernel_rfl
theorem eql_tlbi (w : World) (k a p k' a' p' : Int) : (binOp .eql 171 (.agg #[.int .i8 k, .int .i64 a, .int .u64 p]) (.agg #[.int .i8 k', .int .i64 a', .int .u64 p'])).run Tryd.prog w = .ok (.bool ((k == k') && ((a == a') && (p == p')))) w := by
  rw [run_eql_struct, run_equalIn_agg w _ _ _ _ st_tlbi sh_tlbi]
  simp [go_sem, Tryd.underlying171, Tryd.underlying24, Tryd.underlying3, Tryd.underlying22]
  by_cases h1 : k = k' <;> by_cases h2 : a = a' <;> by_cases h3 : p = p' <;> simp [h1, h2, h3]
theorem neq_tlbi (w : World) (k a p k' a' p' : Int) : (binOp .neq 171 (.agg #[.int .i8 k, .int .i64 a, .int .u64 p]) (.agg #[.int .i8 k', .int .i64 a', .int .u64 p'])).run Tryd.prog w = .ok (.bool (!((k == k') && ((a == a') && (p == p'))))) w := by
  rw [run_neq_struct, run_equalIn_agg w _ _ _ _ st_tlbi sh_tlbi]
  simp [go_sem, Tryd.underlying171, Tryd.underlying24, Tryd.underlying3, Tryd.underlying22]
  by_cases h1 : k = k' <;> by_cases h2 : a = a' <;> by_cases h3 : p = p' <;> simp [h1, h2, h3]
theorem stepB_out {k a p sa sl sp : Int} (h : sl < 1 ∨ 3 < sl) : ((k == 0) && ((a == 0) && (p == 0))) = stepB k a p sa sl sp := by
  have hd : decide (1 ≤ sl ∧ sl ≤ 3) = false := by simp; omega
  rw [Bool.eq_iff_iff]
  simp only [stepB, hd, Bool.false_and, Bool.or_false, Bool.and_eq_true, mayB_iff, beq_iff_eq]
  omega
end
section
open Go.RowKit
set_option linter.unusedVariables false
set_option linter.unusedSimpArgs false

theorem rpre_any (p sl : Int) (w : World) (h1 : 1 ≤ sl) (h3 : sl ≤ 3) :
    Calls Tryd.prog 66 #[.int .u64 p, .int .i8 sl] w fun e w' => e = .returned (.int .u64 (p / 2 ^ (9 * (3 - sl)).toNat)) ∧ w = w' := by
  go_enter Tryd.func66, Tryd.ntmps66
  go_wp2
  go_ret
  exact ⟨rfl, rfl⟩
theorem rpre_q (p sl : Int) (w : World) (h1 : 1 ≤ sl) (h3 : sl ≤ 3) :
    Calls Tryd.prog 66 #[.int .u64 p, .int .i8 sl] w fun e w' => e = .returned (.int .u64 (p / 2 ^ (9 * (3 - sl)).toNat)) ∧ w' = w :=
  (rpre_any p sl w h1 h3).mono fun e w' ⟨a, b⟩ => ⟨a, b.symm⟩
end
section
open Go.RowKit
set_option linter.unusedVariables false
set_option linter.unusedSimpArgs false
/-- An entry of a TLB. -/
structure Tb where
  a : Int
  p : Int
  f : Int
  ro : Bool
/-- An entry of a walk cache. -/
structure Sb where
  a : Int
  l : Int
  p : Int
  f : Int
def encT (x : Tb) : List Value := [.int .i64 x.a, .int .u64 x.p, .int .i64 x.f, .bool x.ro]
theorem encT_len (x : Tb) : (encT x).length = 4 := rfl
def encS (x : Sb) : List Value := [.int .i64 x.a, .int .i8 x.l, .int .u64 x.p, .int .i64 x.f]
theorem encS_len (x : Sb) : (encS x).length = 4 := rfl
def plT (x : Tb) : Int × Int × Int := (x.a, 0, x.p)
def plS (x : Sb) : Int × Int × Int := (x.a, x.l, x.p)
def mayT (x : Tb) : Bool := decide (0 ≤ x.a ∧ x.a ≤ 255 ∧ 0 ≤ x.f ∧ x.f < 64 ∧ x.p < 34359738368)
def limS (l : Int) : Int := if l = 1 then 131072 else if l = 2 then 67108864 else 34359738368
def mayS (x : Sb) : Bool := decide (0 ≤ x.a ∧ x.a ≤ 255 ∧ 0 ≤ x.f ∧ x.f < 64 ∧ 1 ≤ x.l ∧ x.l ≤ 3 ∧ x.p < limS x.l)
theorem tbInfo : ∃ i, Tryd.prog.info? 38 = some i ∧ i.zero = some (.agg #[.int .i64 0, .int .u64 0, .int .i64 0, .bool false]) ∧ i.size = 4 ∧ i.bytes = 32 := by
  have h : (Tryd.prog.info? 38).map (fun i => (i.zero, i.size, i.bytes)) = some (some (.agg #[.int .i64 0, .int .u64 0, .int .i64 0, .bool false]), 4, 32) := by kernel_rfl
  cases hq : Tryd.prog.info? 38 with
  | none => simp [hq] at h
  | some i => simp [hq] at h; exact ⟨i, rfl, h.1, h.2.1, h.2.2⟩
theorem sbInfo : ∃ i, Tryd.prog.info? 36 = some i ∧ i.zero = some (.agg #[.int .i64 0, .int .i8 0, .int .u64 0, .int .i64 0]) ∧ i.size = 4 ∧ i.bytes = 32 := by
  have h : (Tryd.prog.info? 36).map (fun i => (i.zero, i.size, i.bytes)) = some (some (.agg #[.int .i64 0, .int .i8 0, .int .u64 0, .int .i64 0]), 4, 32) := by kernel_rfl
  cases hq : Tryd.prog.info? 36 with
  | none => simp [hq] at h
  | some i => simp [hq] at h; exact ⟨i, rfl, h.1, h.2.1, h.2.2⟩
theorem tb_cells {w : World} {b off i : Nat} {xs : List Tb} {x : Tb} (hx : xs[i]? = some x) (h : ∀ (i : Nat) (x : Tb), xs[i]? = some x → ∀ (j : Nat) (u : Value), (encT x)[j]? = some u → w.cell? ⟨b, off + i * 4 + j, none⟩ = some u) :
    w.cell? ⟨b, off + i * 4, none⟩ = some (.int .i64 x.a) ∧ w.cell? ⟨b, off + i * 4 + 1, none⟩ = some (.int .u64 x.p) ∧ w.cell? ⟨b, off + i * 4 + 2, none⟩ = some (.int .i64 x.f) ∧ w.cell? ⟨b, off + i * 4 + 3, none⟩ = some (.bool x.ro) :=
  ⟨h i x hx 0 _ rfl, h i x hx 1 _ rfl, h i x hx 2 _ rfl, h i x hx 3 _ rfl⟩
theorem sb_cells {w : World} {b off i : Nat} {xs : List Sb} {x : Sb} (hx : xs[i]? = some x) (h : ∀ (i : Nat) (x : Sb), xs[i]? = some x → ∀ (j : Nat) (u : Value), (encS x)[j]? = some u → w.cell? ⟨b, off + i * 4 + j, none⟩ = some u) :
    w.cell? ⟨b, off + i * 4, none⟩ = some (.int .i64 x.a) ∧ w.cell? ⟨b, off + i * 4 + 1, none⟩ = some (.int .i8 x.l) ∧ w.cell? ⟨b, off + i * 4 + 2, none⟩ = some (.int .u64 x.p) ∧ w.cell? ⟨b, off + i * 4 + 3, none⟩ = some (.int .i64 x.f) :=
  ⟨h i x hx 0 _ rfl, h i x hx 1 _ rfl, h i x hx 2 _ rfl, h i x hx 3 _ rfl⟩
theorem ne3 {a b c a' b' c' : Int} (h : ¬ ((a, b, c) : Int × Int × Int) = (a', b', c')) : (¬ a = a') ∨ (a = a' ∧ ¬ b = b') ∨ (a = a' ∧ b = b' ∧ ¬ c = c') := by
  by_cases h1 : a = a'
  · by_cases h2 : b = b'
    · exact Or.inr (Or.inr ⟨h1, h2, fun h3 => h (by rw [h1, h2, h3])⟩)
    · exact Or.inr (Or.inl ⟨h1, h2⟩)
  · exact Or.inl h1
section
variable {α : Type} {enc : α → List Value} {k : Nat}
theorem RK.take {w : World} {O : Option Addr} {xs : List α} (h : RK enc k w O xs) (n : Nat) : RK enc k w O (xs.take n) := fun h0 => by
  obtain ⟨b, off, e, hc⟩ := h (by rw [List.length_take] at h0; omega)
  refine ⟨b, off, e, fun i x hx j u hu => hc i x ?_ j u hu⟩
  rw [List.getElem?_take] at hx
  split at hx
  · exact hx
  · simp at hx
end
theorem Ow.low {α : Type} {enc : α → List Value} {k : Nat} {t : TypeId} {w : World} {B B' : Nat} {v : Value} {xs : List α} (h : Ow enc k t w B v xs) (hB : B' ≤ B) : Ow enc k t w B' v xs := by
  obtain ⟨hl, h⟩ := h
  exact ⟨hl, h.imp id fun ⟨g, cap, cur, e, hb, r⟩ => ⟨g, cap, cur, e, Nat.le_trans hB hb, r⟩⟩
theorem take_filter_succ {α : Type} (q : α → Bool) (xs : List α) (i : Nat) (x : α) (h : xs[i]? = some x) : (xs.take (i + 1)).filter q = if q x then (xs.take i).filter q ++ [x] else (xs.take i).filter q := by
  rw [List.take_add_one, h, Option.toList_some, List.filter_append]
  by_cases hq : q x = true
  · simp [hq]
  · simp [hq]
theorem take_filter_len {α : Type} (q : α → Bool) (xs : List α) (i : Nat) : ((xs.take i).filter q).length ≤ xs.length := by
  have h1 := List.length_filter_le q (xs.take i)
  have h2 : (xs.take i).length ≤ xs.length := by rw [List.length_take]; omega
  omega
/-- What a closure has caught: an invalidation. -/
def TCaught (w : World) (C : Nat) (tk ta tp : Int) : Prop := w.cell? ⟨C, 0, none⟩ = some (.int .i8 tk) ∧ w.cell? ⟨C, 1, none⟩ = some (.int .i64 ta) ∧ w.cell? ⟨C, 2, none⟩ = some (.int .u64 tp)
theorem TCaught.call {w w' : World} {C : Nat} {tk ta tp : Int} (h : TCaught w C tk ta tp) (hb : Below w.heap.size w w') : TCaught w' C tk ta tp := by
  obtain ⟨h0, h1, h2⟩ := h
  have l := World.block_lt_of_cell? w ⟨C, 0, none⟩ h0
  exact ⟨(hb.cell (p := ⟨C, 0, none⟩) l).trans h0, (hb.cell (p := ⟨C, 1, none⟩) l).trans h1, (hb.cell (p := ⟨C, 2, none⟩) l).trans h2⟩
theorem TCaught.lt {w : World} {C : Nat} {tk ta tp : Int} (h : TCaught w C tk ta tp) : C < w.heap.size := World.block_lt_of_cell? w ⟨C, 0, none⟩ h.1
/-- Are there such an ASID and such a frame? -/
def nmB (a f : Int) : Bool := decide (0 ≤ a ∧ a ≤ 255 ∧ 0 ≤ f ∧ f < 64)
theorem nmB_of {a f : Int} {b : Bool} (h : b = true ↔ (0 ≤ a ∧ a ≤ 255 ∧ 0 ≤ f ∧ f < 64)) : b = nmB a f := by
  rw [Bool.eq_iff_iff, nmB, decide_eq_true_iff]; exact h
theorem names_any (a f : Int) (w : World) : Calls Tryd.prog 88 #[.int .i64 a, .int .i64 f] w fun e w' => e = .returned (.bool (nmB a f)) ∧ w = w' := by
  go_enter Tryd.func88, Tryd.ntmps88
  go_wp2
  all_goals
    go_ret
    refine ⟨ret_bool (nmB_of ?_), rfl⟩
    simp at *
    omega
theorem behind_any (l : Int) (w : World) (h1 : 1 ≤ l) (h3 : l ≤ 3) : Calls Tryd.prog 61 #[.int .i8 l] w fun e w' => e = .returned (.int .u64 (9 * (3 - l))) ∧ w = w' := by
  rcases (show l = 1 ∨ l = 2 ∨ l = 3 by omega) with rfl | rfl | rfl
  all_goals
    go_enter Tryd.func61, Tryd.ntmps61
    go_wp2_with fail
    go_ret
    exact ⟨rfl, rfl⟩
theorem behind_q (l : Int) (w : World) (h1 : 1 ≤ l) (h3 : l ≤ 3) : Calls Tryd.prog 61 #[.int .i8 l] w fun e w' => e = .returned (.int .u64 (9 * (3 - l))) ∧ w' = w := (behind_any l w h1 h3).mono fun e w' h => ⟨h.1, h.2.symm⟩
theorem mayS_any (x : Sb) (w : World) : Calls Tryd.prog 87 #[.agg #[.int .i64 x.a, .int .i8 x.l, .int .u64 x.p, .int .i64 x.f]] w fun e w' => e = .returned (.bool (mayS x)) ∧ Below w.heap.size w w' := by
  obtain ⟨xa, xl, xp, xf⟩ := x
  simp only
  rcases hd : nmB xa xf with _ | _
  · have HE := Lib.hid (show mayS ⟨xa, xl, xp, xf⟩ = false from decide_eq_false (fun h => of_decide_eq_false hd ⟨h.1, h.2.1, h.2.2.1, h.2.2.2.1⟩))
    have HD := Lib.hid hd
    clear hd
    go_enter Tryd.func87, Tryd.ntmps87
    go_wp2_with (go_at_call 88; refine (names_any _ _ _).mono ?_; rintro e w1 ⟨rfl, rfl⟩; rw [HD.out])
    go_ret
    exact ⟨by rw [HE.out]; rfl, ba (Below.refl _ _) _⟩
  · have HD := Lib.hid hd
    by_cases hl : 1 ≤ xl ∧ xl ≤ 3
    · obtain ⟨l1, l3⟩ := hl
      have HE := Lib.hid (show mayS ⟨xa, xl, xp, xf⟩ = decide (xp < limS xl) from by
        have h := of_decide_eq_true hd
        unfold mayS
        rw [Bool.eq_iff_iff]
        simp only [decide_eq_true_eq]
        exact ⟨fun h => h.2.2.2.2.2.2, fun hp => ⟨h.1, h.2.1, h.2.2.1, h.2.2.2, l1, l3, hp⟩⟩)
      clear hd
      rcases (show xl = 1 ∨ xl = 2 ∨ xl = 3 by omega) with rfl | rfl | rfl
      all_goals
        go_enter Tryd.func87, Tryd.ntmps87
        go_wp2_with (go_at_call 88; refine (names_any _ _ _).mono ?_; rintro e w1 ⟨rfl, rfl⟩; rw [HD.out])
        go_quiet ((go_at_call 61; exact Calls.quiet_of_same (behind_q _ _ (by omega) (by omega))))
        go_wp2_with fail
        go_ret
        exact ⟨by rw [HE.out]; rfl, bdn (ba (Below.refl _ _) _) _⟩
    · have HE := Lib.hid (show mayS ⟨xa, xl, xp, xf⟩ = false from decide_eq_false (fun h => hl ⟨h.2.2.2.2.1, h.2.2.2.2.2.1⟩))
      have HD := Lib.hid hd
      clear hd
      rcases (show xl < 1 ∨ (1 ≤ xl ∧ 3 < xl) by omega) with h1 | ⟨h0, h1⟩
      all_goals
        clear hl
        go_enter Tryd.func87, Tryd.ntmps87
        go_wp2_with (go_at_call 88; refine (names_any _ _ _).mono ?_; rintro e w1 ⟨rfl, rfl⟩; rw [HD.out])
        go_ret
        exact ⟨by rw [HE.out]; rfl, ba (Below.refl _ _) _⟩
theorem atS_any (x : Sb) (w : World) : Calls Tryd.prog 89 #[.agg #[.int .i64 x.a, .int .i8 x.l, .int .u64 x.p, .int .i64 x.f]] w fun e w' => e = .returned (.agg #[.int .i64 x.a, .int .i8 x.l, .int .u64 x.p]) ∧ Below w.heap.size w w' := by
  obtain ⟨xa, xl, xp, xf⟩ := x
  simp only
  go_enter Tryd.func89, Tryd.ntmps89
  go_wp2_with fail
  exact bodyPost_ret (v := .agg #[.int .i64 xa, .int .i8 xl, .int .u64 xp]) (by simp [results, Tryd.results89, go_sem]) rfl ⟨rfl, ba (ba (Below.refl _ _) _) _⟩
def kS : Array Value := #[.int .i64 4, .func (.func 87) #[] #[], .func (.func 89) #[] #[]]
theorem kindS_any (w : World) : Calls Tryd.prog 59 #[] w fun e w' => e = .returned (.agg #[.int .i64 4, .func (.func 87) #[] #[], .func (.func 89) #[] #[]]) ∧ Below w.heap.size w w' := by
  go_enter Tryd.func59, Tryd.ntmps59
  go_wp2_with fail
  exact bodyPost_ret (v := .agg #[.int .i64 4, .func (.func 87) #[] #[], .func (.func 89) #[] #[]]) (by simp [results, Tryd.results59, go_sem]) rfl ⟨rfl, ba (Below.refl _ _) _⟩
end
section
open Go.RowKit
set_option linter.unusedVariables false
set_option linter.unusedSimpArgs false
end
section
open Go.RowKit
set_option linter.unusedVariables false
set_option linter.unusedSimpArgs false
end
section
open Go.RowKit
set_option linter.unusedVariables false
set_option linter.unusedSimpArgs false
section
variable {α : Type} {enc : α → List Value} {k : Nat}
theorem flat_app (xs ys : List α) : flat enc (xs ++ ys) = flat enc xs ++ flat enc ys := by simp [flat]
theorem flat_one (h1 : ∀ x, ∀ u ∈ enc x, u.oneCell' = true) (xs : List α) : ∀ u ∈ flat enc xs, u.oneCell' = true := by
  intro u hu
  simp only [flat, List.mem_flatMap] at hu
  obtain ⟨x, -, hx⟩ := hu
  exact h1 x u hx
theorem flat_of (hk : ∀ x, (enc x).length = k) (hk0 : 0 < k) (xs : List α) (n : Nat) (u : Value) (h : (flat enc xs)[n]? = some u) : ∃ x, xs[n / k]? = some x ∧ (enc x)[n % k]? = some u := by
  have hn := (List.getElem?_eq_some_iff.1 h).1
  rw [flat_len hk] at hn
  have hi : n / k < xs.length := Nat.div_lt_of_lt_mul (by rw [Nat.mul_comm]; exact hn)
  have hj : n % k < (enc xs[n / k]).length := by rw [hk]; exact Nat.mod_lt _ hk0
  refine ⟨xs[n / k], List.getElem?_eq_getElem hi, ?_⟩
  have := flat_at hk xs (n / k) _ (List.getElem?_eq_getElem hi) (n % k) _ (List.getElem?_eq_getElem hj)
  rw [Nat.div_add_mod' n k, h] at this
  rw [List.getElem?_eq_getElem hj, this]
theorem RK.flat {w : World} {O : Option Addr} {xs : List α} (hk : ∀ x, (enc x).length = k) (hk0 : 0 < k) (h : RK enc k w O xs) (h0 : 0 < xs.length) : ∃ b off : Nat, O = some ⟨b, off, none⟩ ∧ ∀ (n : Nat) (u : Value), (Proofs.YtgdkkhdhomehdaaDoor.flat enc xs)[n]? = some u → w.cell? ⟨b, off + n, none⟩ = some u := by
  obtain ⟨b, off, e, hc⟩ := h h0
  refine ⟨b, off, e, fun n u hu => ?_⟩
  obtain ⟨x, hx, hj⟩ := flat_of hk hk0 xs n u hu
  have := hc _ x hx _ u hj
  rw [Nat.add_assoc, Nat.div_add_mod' n k] at this
  exact this
theorem run_app_none {P : Program} {w : World} (t ty e : TypeId) (i : TypeInfo) (c : Nat) (ht : P.underlying t = some (.slice e)) (hi : P.info? e = some i) {B : Nat} {v : Value} {n : Nat} {cs : List Value} (hown : w.ownsRow B e k v n cs) :
    (Builtin.append_ #[t, t] ty #[v, .slice none 0 c]).run P w = .ok v w := by
  rcases hown.2 with ⟨rfl, rfl⟩ | ⟨g, cap, cur, rfl, _, _, hnc, _⟩
  · simp [Builtin.append_, run_underlying ht, sizeOf, typeInfo, hi, Builtin.lenOf, Builtin.firstCells]
  · simp [Builtin.append_, run_underlying ht, sizeOf, typeInfo, hi, Builtin.lenOf, Builtin.firstCells, hnc, storeCells]
theorem run_app {P : Program} {w : World} (t ty e : TypeId) (i : TypeInfo) (z : Value) (bytes : Nat) (ht : P.underlying t = some (.slice e)) (hi : P.info? e = some i) (hz : i.zero = some z)
    (hsize : i.size = k) (hby : i.bytes = bytes) (hzs : z.cells.size = k) (hsz : 0 < k) (hk : ∀ x, (enc x).length = k) (h1 : ∀ x, ∀ u ∈ enc x, u.oneCell' = true)
    {B : Nat} {v : Value} {xs ys : List α} (hO : Ow enc k e w B v xs) {O : Option Addr} {m c : Nat} (hm : ys.length = m) (hR : RK enc k w O ys) (hlen : xs.length + m ≤ 100000) (hb8 : bytes ≤ 100) (hb : B ≤ w.heap.size) :
    ∃ v' w', (Builtin.append_ #[t, t] ty #[v, .slice O m c]).run P w = .ok v' w' ∧ Ow enc k e w' B v' (xs ++ ys) ∧ w.grownBy w' v.ownBlock := by
  have hbt : (xs.length + m) * bytes ≤ 140737488355328 := by
    have : (xs.length + m) * bytes ≤ 100000 * 100 := Nat.mul_le_mul hlen hb8
    omega
  by_cases h0 : 0 < ys.length
  · obtain ⟨b, off, rfl, hc⟩ := hR.flat hk hsz h0
    obtain ⟨v', w', hr, ho, hg, -⟩ := run_append_own (P := P) w B t ty e i z k bytes ht hi hz hsize hby hzs hsz v xs.length (flat enc xs) hO ⟨b, off, none⟩ m c (flat enc ys) (by rw [flat_len hk, hm]) (fun j u hu => by
      have e : (⟨b, off, none⟩ : Addr).add j = ⟨b, off + j, none⟩ := by unfold Addr.add; split <;> simp_all
      rw [e]; exact hc j u hu) (flat_one h1 ys) (by unfold maxLen; omega) hbt hb
    exact ⟨v', w', hr, by unfold Ow; rw [flat_app, List.length_append, hm]; exact ho, hg⟩
  · have hy : ys = [] := List.eq_nil_of_length_eq_zero (by omega)
    subst hy
    simp at hm
    subst hm
    rcases O with _ | ad
    · exact ⟨v, w, run_app_none t ty e i c ht hi hO, by simpa using hO, ⟨rfl, rfl, rfl, Nat.le_refl _, fun _ _ _ => rfl⟩⟩
    · obtain ⟨v', w', hr, ho, hg, -⟩ := run_append_own (P := P) w B t ty e i z k bytes ht hi hz hsize hby hzs hsz v xs.length (flat enc xs) hO ad 0 c [] (by simp) (fun j u hu => by simp at hu) (fun u hu => by simp at hu) (by unfold maxLen; omega) hbt hb
      exact ⟨v', w', hr, by unfold Ow; simpa using ho, hg⟩
theorem wpo_app {P : Program} {w : World} {o : Oper} {a : Go.Act} {K : Go.Act → World → Prop} {Q : Exit → Go.Act → World → Prop} (s x : Operand) (t : TypeId)
    (ho : o.op = .call { callee := .builtin .append, args := #[s, x], argTypes := #[t, t] })
    (B : Nat) (e : TypeId) (i : TypeInfo) (z : Value) (bytes : Nat) (ht : P.underlying t = some (.slice e)) (hi : P.info? e = some i) (hz : i.zero = some z)
    (hsize : i.size = k) (hby : i.bytes = bytes) (hzs : z.cells.size = k) (hsz : 0 < k) (hk : ∀ x, (enc x).length = k) (h1 : ∀ x, ∀ u ∈ enc x, u.oneCell' = true)
    (v : Value) (xs : List α) (hs : a.eval s = v) (hO : Ow enc k e w B v xs) (ys : List α) (O : Option Addr) (m c : Nat) (hx : a.eval x = .slice O m c)
    (hm : ys.length = m) (hR : RK enc k w O ys) (hlen : xs.length + m ≤ 100000) (hb8 : bytes ≤ 100) (w0 : World) (hB : Below B w0 w) (hb : B ≤ w0.heap.size)
    (h : ∀ v' w', Ow enc k e w' B v' (xs ++ ys) → Below B w0 w' → K (a.put o.dst v') w') : Oper.wp P o a w K Q := by
  obtain ⟨v', w', hr, h2, h3⟩ := run_app (P := P) (w := w) t o.type e i z bytes ht hi hz hsize hby hzs hsz hk h1 hO (O := O) (c := c) hm hR hlen hb8 (Nat.le_trans hb hB.size)
  unfold Oper.wp execOp
  simp only [ho, resolve, invoke, builtin, Sem.run_bind, Sem.run_pure, Result.andThen_ok, List.map_toArray, List.map_cons, List.map_nil, hs, hx, hr]
  exact h v' w' h2 (hB.grown h3 (Nat.le_trans hb hB.size) (fun g hg => (hO.lt g hg).1))
/-- A row more. -/
theorem wp_app {P : Program} {w : World} {ops : Array Oper} {rest : List Oper} {o : Oper} {a : Go.Act} {Q : Exit → Go.Act → World → Prop} (hgd : o.guard = none) (s x : Operand) (t : TypeId)
    (ho : o.op = .call { callee := .builtin .append, args := #[s, x], argTypes := #[t, t] })
    (B : Nat) (e : TypeId) (i : TypeInfo) (z : Value) (bytes : Nat) (ht : P.underlying t = some (.slice e)) (hi : P.info? e = some i) (hz : i.zero = some z)
    (hsize : i.size = k) (hby : i.bytes = bytes) (hzs : z.cells.size = k) (hsz : 0 < k) (hk : ∀ x, (enc x).length = k) (h1 : ∀ x, ∀ u ∈ enc x, u.oneCell' = true)
    (v : Value) (xs : List α) (hs : a.eval s = v) (hO : Ow enc k e w B v xs) (ys : List α) (O : Option Addr) (m c : Nat) (hx : a.eval x = .slice O m c)
    (hm : ys.length = m) (hR : RK enc k w O ys) (hlen : xs.length + m ≤ 100000) (hb8 : bytes ≤ 100) (w0 : World) (hB : Below B w0 w) (hb : B ≤ w0.heap.size)
    (h : ∀ v' w', Ow enc k e w' B v' (xs ++ ys) → Below B w0 w' → wpList P ops Q rest (a.put o.dst v') w') : wpList P ops Q (o :: rest) a w :=
  wpList_plain hgd fun _ hK => wpo_app s x t ho B e i z bytes ht hi hz hsize hby hzs hsz hk h1 v xs hs hO ys O m c hx hm hR hlen hb8 w0 hB hb fun v' w' h2 h3 => hK _ _ (h v' w' h2 h3)
theorem step_app {P : Program} {w : World} {ops : Array Oper} {o : Oper} {a : Go.Act} {K : Go.Act → World → Prop} {Q : Exit → Go.Act → World → Prop} {E : Prop} (hgd : o.guard = none) (s x : Operand) (t : TypeId)
    (ho : o.op = .call { callee := .builtin .append, args := #[s, x], argTypes := #[t, t] })
    (B : Nat) (e : TypeId) (i : TypeInfo) (z : Value) (bytes : Nat) (ht : P.underlying t = some (.slice e)) (hi : P.info? e = some i) (hz : i.zero = some z)
    (hsize : i.size = k) (hby : i.bytes = bytes) (hzs : z.cells.size = k) (hsz : 0 < k) (hk : ∀ x, (enc x).length = k) (h1 : ∀ x, ∀ u ∈ enc x, u.oneCell' = true)
    (v : Value) (xs : List α) (hs : a.eval s = v) (hO : Ow enc k e w B v xs) (ys : List α) (O : Option Addr) (m c : Nat) (hx : a.eval x = .slice O m c)
    (hm : ys.length = m) (hR : RK enc k w O ys) (hlen : xs.length + m ≤ 100000) (hb8 : bytes ≤ 100) (w0 : World) (hB : Below B w0 w) (hb : B ≤ w0.heap.size)
    (h : ∀ v' w', Ow enc k e w' B v' (xs ++ ys) → Below B w0 w' → K (a.put o.dst v') w') : if Region.wanted o (yielded ops a.tmps) = true then Oper.wp P o a w K Q else E := by
  have hw : Region.wanted o (yielded ops a.tmps) = true := by simp [Region.wanted, hgd]
  rw [if_pos hw]
  exact wpo_app s x t ho B e i z bytes ht hi hz hsize hby hzs hsz hk h1 v xs hs hO ys O m c hx hm hR hlen hb8 w0 hB hb h
/-- A row made, with room for n. -/
theorem wp_make {P : Program} {w : World} {ops : Array Oper} {rest : List Oper} {o : Oper} {a : Go.Act} {Q : Exit → Go.Act → World → Prop} (hg : o.guard = none) (l c : Operand) (t : TypeId) (hop : o.op = Op.makeSlice t l c)
    (B : Nat) (e : TypeId) (i : TypeInfo) (z : Value) (bytes : Nat) (h1 : P.underlying t = some (.slice e)) (h2 : P.info? e = some i) (h3 : i.zero = some z) (h4 : i.size = k) (h5 : i.bytes = bytes)
    (kl kc : IntKind) (C : Int) (n : Nat) (hl : a.eval l = .int kl 0) (hc : a.eval c = .int kc C) (hC : C = (n : Int)) (hn : n ≤ 100000) (hb8 : bytes ≤ 100) (w0 : World) (hB : Below B w0 w) (hb : B ≤ w0.heap.size)
    (h : ∀ v' w', Ow enc k e w' B v' [] → Below B w0 w' → wpList P ops Q rest (a.put o.dst v') w') : wpList P ops Q (o :: rest) a w := by
  refine wpList_make_own w hg l c t hop B e i z k h1 h2 h3 h4 kl kc C n hl hc hC ?_ (by unfold maxLen; omega) (Nat.le_trans hb hB.size) (fun w' ho hg => h _ w' (by unfold Ow; simpa [flat] using ho) (hB.grown hg (Nat.le_trans hb hB.size) (fun g hg => by cases hg)))
  have : i.bytes * n ≤ 100 * 100000 := Nat.mul_le_mul (by omega) hn
  omega
theorem step_make {P : Program} {w : World} {ops : Array Oper} {o : Oper} {a : Go.Act} {K : Go.Act → World → Prop} {Q : Exit → Go.Act → World → Prop} {E : Prop} (hg : o.guard = none) (l c : Operand) (t : TypeId) (hop : o.op = Op.makeSlice t l c)
    (B : Nat) (e : TypeId) (i : TypeInfo) (z : Value) (bytes : Nat) (h1 : P.underlying t = some (.slice e)) (h2 : P.info? e = some i) (h3 : i.zero = some z) (h4 : i.size = k) (h5 : i.bytes = bytes)
    (kl kc : IntKind) (C : Int) (n : Nat) (hl : a.eval l = .int kl 0) (hc : a.eval c = .int kc C) (hC : C = (n : Int)) (hn : n ≤ 100000) (hb8 : bytes ≤ 100) (w0 : World) (hB : Below B w0 w) (hb : B ≤ w0.heap.size)
    (h : ∀ v' w', Ow enc k e w' B v' [] → Below B w0 w' → K (a.put o.dst v') w') : if Region.wanted o (yielded ops a.tmps) = true then Oper.wp P o a w K Q else E := by
  have hw : Region.wanted o (yielded ops a.tmps) = true := by simp [Region.wanted, hg]
  rw [if_pos hw]
  have hbt : i.bytes * n ≤ 281474976710656 := by
    have : i.bytes * n ≤ 100 * 100000 := Nat.mul_le_mul (by omega) hn
    omega
  obtain ⟨w', hrun, r1, r2⟩ := run_make_own (P := P) w B t e i z k h1 h2 h3 h4 kl kc n hbt (by unfold maxLen; omega) (Nat.le_trans hb hB.size)
  subst hC
  unfold Oper.wp
  simp [execOp, hop, hl, hc, hrun, Result.andThen]
  exact h _ w' (by unfold Ow; simpa [flat] using r1) (hB.grown r2 (Nat.le_trans hb hB.size) (fun g hg => by cases hg))
/-- A row cut to nothing. -/
theorem Ow.cut0 {t : TypeId} {w : World} {B : Nat} {O : Option Addr} {n cap : Nat} {xs : List α} (h : Ow enc k t w B (.slice O n cap) xs) : Ow enc k t w B (.slice O 0 cap) [] := by
  obtain ⟨hl, h⟩ := h
  rcases h with ⟨h, -⟩ | ⟨g, c, cur, h, hb, hh, c1, c2, c3, c4⟩
  · simp only [Value.slice.injEq] at h
    obtain ⟨rfl, rfl, rfl⟩ := h
    exact World.ownsRow_nil _ _ _ _
  · simp only [Value.slice.injEq] at h
    obtain ⟨rfl, rfl, rfl⟩ := h
    exact ⟨by simp [flat], Or.inr ⟨g, cap, cur, rfl, hb, hh, by simp, c2, c3, by simp [flat]⟩⟩
theorem RK.drop1 {w : World} {b off : Nat} {xs : List α} (h : RK enc k w (some ⟨b, off, none⟩) xs) : RK enc k w (some ⟨b, off + k, none⟩) (xs.drop 1) := fun h0 => by
  obtain ⟨b', off', e, hc⟩ := h (by rw [List.length_drop] at h0; omega)
  simp only [Option.some.injEq, Addr.mk.injEq, and_true] at e
  obtain ⟨rfl, rfl⟩ := e
  refine ⟨b, off + k, rfl, fun i x hx j u hu => ?_⟩
  rw [List.getElem?_drop] at hx
  have := hc (1 + i) x hx j u hu
  rw [show off + (1 + i) * k + j = off + k + i * k + j by rw [Nat.add_mul]; omega] at this
  exact this
theorem RK.dropn {w : World} {b off : Nat} {xs : List α} (n : Nat) (h : RK enc k w (some ⟨b, off, none⟩) xs) : RK enc k w (some ⟨b, off + n * k, none⟩) (xs.drop n) := fun h0 => by
  obtain ⟨b', off', e, hc⟩ := h (by rw [List.length_drop] at h0; omega)
  simp only [Option.some.injEq, Addr.mk.injEq, and_true] at e
  obtain ⟨rfl, rfl⟩ := e
  refine ⟨b, off + n * k, rfl, fun i x hx j u hu => ?_⟩
  rw [List.getElem?_drop] at hx
  have := hc (n + i) x hx j u hu
  rw [show off + (n + i) * k + j = off + n * k + i * k + j by rw [Nat.add_mul]; omega] at this
  exact this
end
section
variable {α : Type} {enc : α → List Value}
theorem flat_set4 (hk : ∀ x, (enc x).length = 4) : ∀ (xs : List α) (n : Nat) (e : α) (u0 u1 u2 u3 : Value), n < xs.length → enc e = [u0, u1, u2, u3] → flat enc (xs.set n e) = ((((flat enc xs).set (n * 4) u0).set (n * 4 + 1) u1).set (n * 4 + 2) u2).set (n * 4 + 3) u3
  | [], n, e, u0, u1, u2, u3, hn, he => by simp at hn
  | x :: r, 0, e, u0, u1, u2, u3, hn, he => by
    obtain ⟨a, b, c, d, hx⟩ : ∃ a b c d, enc x = [a, b, c, d] := by
      have := hk x
      match h : enc x, this with
      | [a, b, c, d], _ => exact ⟨a, b, c, d, rfl⟩
    simp [flat, hx, he]
  | x :: r, n + 1, e, u0, u1, u2, u3, hn, he => by
    have ih := flat_set4 hk r n e u0 u1 u2 u3 (by simpa using hn) he
    have h4 := hk x
    simp only [flat, List.set_cons_succ, List.flatMap_cons] at ih ⊢
    rw [ih]
    rw [show (n + 1) * 4 = (enc x).length + n * 4 by rw [h4]; omega]
    simp only [Nat.add_assoc]
    rw [List.set_append_right _ _ (by omega), List.set_append_right _ _ (by omega), List.set_append_right _ _ (by omega), List.set_append_right _ _ (by omega)]
    simp only [Nat.add_sub_cancel_left]
theorem Ow.head {k : Nat} {t : TypeId} {w : World} {B : Nat} {v : Value} {xs : List α} (h : Ow enc k t w B v xs) (h0 : 0 < xs.length) : ∃ g cap, v = .slice (some ⟨g, 0, none⟩) xs.length cap ∧ B ≤ g ∧ g < w.heap.size ∧ xs.length ≤ cap ∧ cap ≤ maxLen := by
  have hl := h.lt
  rcases h.2 with ⟨rfl, hx⟩ | ⟨g, cap, cur, rfl, hb, hh, c1, c2, c3, c4⟩
  · omega
  · exact ⟨g, cap, rfl, hb, (hl g rfl).2, c1, c2⟩
theorem Ow.cells4 (hk : ∀ x, (enc x).length = 4) {t : TypeId} {w : World} {B g n m cap : Nat} {xs : List α} {x : α} {u0 u1 u2 u3 : Value} (h : Ow enc 4 t w B (.slice (some ⟨g, 0, none⟩) m cap) xs) (hx : xs[n]? = some x) (he : enc x = [u0, u1, u2, u3]) :
    w.cell? ⟨g, n * 4, none⟩ = some u0 ∧ w.cell? ⟨g, n * 4 + 1, none⟩ = some u1 ∧ w.cell? ⟨g, n * 4 + 2, none⟩ = some u2 ∧ w.cell? ⟨g, n * 4 + 3, none⟩ = some u3 := by
  have hc := fun j u hu => World.ownsRow.cells h (g := g) rfl _ _ (flat_at hk xs n x hx j u hu)
  have e : ∀ j, (⟨g, 0, none⟩ : Addr).add j = ⟨g, j, none⟩ := fun j => by unfold Addr.add; split <;> simp_all
  simp only [e] at hc
  exact ⟨hc 0 _ (by rw [he]; rfl), hc 1 _ (by rw [he]; rfl), hc 2 _ (by rw [he]; rfl), hc 3 _ (by rw [he]; rfl)⟩
theorem Ow.frozen4 {k : Nat} {t : TypeId} {w : World} {B g m cap : Nat} {xs : List α} (h : Ow enc k t w B (.slice (some ⟨g, 0, none⟩) m cap) xs) (j : Nat) : w.frozen? ⟨g, j, none⟩ = false := by
  rcases h.2 with ⟨h', _⟩ | ⟨g', cap', cur, h', _, hg, _⟩
  · simp at h'
  · simp only [Value.slice.injEq, Option.some.injEq, Addr.mk.injEq, and_true, true_and] at h'
    obtain ⟨rfl, rfl, rfl⟩ := h'
    unfold World.frozen?
    rw [hg]
    simp
theorem Ow.put4 (hk : ∀ x, (enc x).length = 4) {t : TypeId} {w : World} {B g n cap : Nat} {xs : List α} (h : Ow enc 4 t w B (.slice (some ⟨g, 0, none⟩) xs.length cap) xs) (e : α) {u0 u1 u2 u3 : Value} (hn : n < xs.length) (he : enc e = [u0, u1, u2, u3]) :
    Ow enc 4 t ((((w.setCell ⟨g, n * 4, none⟩ u0).setCell ⟨g, n * 4 + 1, none⟩ u1).setCell ⟨g, n * 4 + 2, none⟩ u2).setCell ⟨g, n * 4 + 3, none⟩ u3) B (.slice (some ⟨g, 0, none⟩) xs.length cap) (xs.set n e) := by
  unfold Ow at h ⊢
  rw [flat_set4 hk xs n e u0 u1 u2 u3 hn he, List.length_set]
  exact (World.ownsRow.stored (World.ownsRow.stored (World.ownsRow.stored (World.ownsRow.stored h (n * 4) u0).1 (n * 4 + 1) u1).1 (n * 4 + 2) u2).1 (n * 4 + 3) u3).1
end
theorem encT_one (x : Tb) : ∀ u ∈ encT x, u.oneCell' = true := by
  intro u hu
  simp [encT] at hu
  rcases hu with rfl | rfl | rfl | rfl <;> rfl
theorem encS_one (x : Sb) : ∀ u ∈ encS x, u.oneCell' = true := by
  intro u hu
  simp [encS] at hu
  rcases hu with rfl | rfl | rfl | rfl <;> rfl
end
section
open Go.RowKit
set_option linter.unusedVariables false
set_option linter.unusedSimpArgs false
end
section
open Go.RowKit
set_option linter.unusedVariables false
set_option linter.unusedSimpArgs false
end
section
open Go.RowKit
set_option linter.unusedVariables false
set_option linter.unusedSimpArgs false
end
section
open Go.RowKit
set_option linter.unusedVariables false
set_option linter.unusedSimpArgs false
end
section
open Go.RowKit
set_option linter.unusedVariables false
set_option linter.unusedSimpArgs false
set_option maxRecDepth 100000 in
set_option maxHeartbeats 4000000 in
theorem findS_any (O : Option Addr) (cap : Nat) (xs : List Sb) (qa ql qp : Int) (w : World) (hI : RK encS 4 w O xs) (hcap : xs.length ≤ cap) (h8 : xs.length ≤ 1000) :
    Calls Tryd.prog 86 #[.agg #[.int .i64 4, .func (.func 87) #[] #[], .func (.func 89) #[] #[]], .slice O xs.length cap, .agg #[.int .i64 qa, .int .i8 ql, .int .u64 qp]] w fun e w' => e = .returned (.int .i64 (fdV plS xs (qa, ql, qp))) ∧ Below w.heap.size w w' := by
  have HB0 := Lib.hid (ba (ba (Below.refl w.heap.size w) (.cells #[.int .i64 4, .func (.func 87) #[] #[], .func (.func 89) #[] #[]] 137)) (.cells #[.int .i64 qa, .int .i8 ql, .int .u64 qp] 183))
  have HK := Lib.hid ((Arr.new w #[.int .i64 4, .func (.func 87) #[] #[], .func (.func 89) #[] #[]] 137).alloc (.cells #[.int .i64 qa, .int .i8 ql, .int .u64 qp] 183))
  have HP := Lib.hid (show Arr _ (w.heap.size + 1) _ from (show (w.alloc (.cells #[.int .i64 4, .func (.func 87) #[] #[], .func (.func 89) #[] #[]] 137)).heap.size = w.heap.size + 1 by simp) ▸ Arr.new (w.alloc (.cells #[.int .i64 4, .func (.func 87) #[] #[], .func (.func 89) #[] #[]] 137)) #[.int .i64 qa, .int .i8 ql, .int .u64 qp] 183)
  have HI := Lib.hid (hI.call HB0.out)
  clear hI
  obtain ⟨len, hlen⟩ : ∃ len, len = xs.length := ⟨_, rfl⟩
  rw [← hlen] at hcap h8 ⊢
  have HL := Lib.hid hlen
  clear hlen
  go_enter Tryd.func86, Tryd.ntmps86
  go_wp2_with fail
  generalize (w.alloc (.cells #[.int .i64 4, .func (.func 87) #[] #[], .func (.func 89) #[] #[]] 137)).alloc (.cells #[.int .i64 qa, .int .i8 ql, .int .u64 qp] 183) = W0 at *
  go_loopw [11] (fun i wr => ∃ j : Nat, i = .int .i64 j ∧ j ≤ len ∧ NoB plS xs (qa, ql, qp) j ∧ Below W0.heap.size W0 wr) (fun i _ => len - (intOf i).toNat)
  case atStart => exact ⟨0, rfl, by omega, NoB.zero _ _, Below.refl _ _⟩
  case round =>
    obtain ⟨j, rfl, hj, hN, hB⟩ := hrel
    have HN := Lib.hid hN
    clear hN
    by_cases hlt : j < len
    · obtain ⟨b, off, rfl, hcell⟩ := (HI.out.call hB) (by have := HL.out; omega)
      obtain ⟨x, hx⟩ : ∃ x, xs[j]? = some x := ⟨xs[j]'(by have := HL.out; omega), List.getElem?_eq_getElem _⟩
      obtain ⟨c0, c1, c2, c3⟩ := sb_cells hx hcell
      have HX := Lib.hid hx
      have HB := Lib.hid hB
      clear hcell hB hx
      go_wp2_with fail
      have HA1 := Lib.hid (Arr.new wr #[.int .i64 x.a, .int .i8 x.l, .int .u64 x.p, .int .i64 x.f] 36)
      have HB1 := Lib.hid (ba HB.out (.cells #[.int .i64 x.a, .int .i8 x.l, .int .u64 x.p, .int .i64 x.f] 36))
      have HK1 := Lib.hid (HK.out.call HB1.out)
      have HP1 := Lib.hid (HP.out.call HB1.out)
      clear c0 c1 c2 c3 HB
      generalize wr.heap.size = X at *
      generalize wr.alloc (.cells #[.int .i64 x.a, .int .i8 x.l, .int .u64 x.p, .int .i64 x.f] 36) = W1 at *
      have k2 := HK1.out.cell 2 _ rfl
      have p0 := HP1.out.cell 0 _ rfl
      have p1 := HP1.out.cell 1 _ rfl
      have p2 := HP1.out.cell 2 _ rfl
      have a0 := HA1.out.cell 0 _ rfl
      have a1 := HA1.out.cell 1 _ rfl
      have a2 := HA1.out.cell 2 _ rfl
      have a3 := HA1.out.cell 3 _ rfl
      have lK := HK1.out.lt
      have lP := HP1.out.lt
      have lA := HA1.out.lt
      clear HA1 HK1 HP1
      by_cases hq : plS x = (qa, ql, qp)
      · have HE := Lib.hid (fv_hit HN.out HX.out hq)
        simp only [plS, Prod.mk.injEq] at hq
        obtain ⟨rfl, rfl, rfl⟩ := hq
        clear HN HX HI HL
        refine wp_region_held_drew (S := fun w' => Below W1.heap.size W1 w') (by kernel_rfl) (bd (Below.refl _ _)) (fun hHeld => ?_)
        refine wpAnyH_take (i := 0) (oi := ⟨_, _, _, _, _, _⟩) (v := ?va0) rfl (by kernel_rfl) (by kernel_rfl) (by kernel_rfl) (fun _ _ _ h => h) (Or.inl ⟨by rfl, ?hya0⟩) hHeld ?resta0
        case hya0 => (intro w' hSw; go_simp; try with_reducible rfl)
        try simp only [Act.put, List.setIfInBounds_toArray, List.set_cons_zero, List.set_cons_succ]
        refine wpAnyH_take (i := 1) (oi := ⟨_, _, _, _, _, _⟩) (v := ?va1) rfl (by kernel_rfl) (by kernel_rfl) (by kernel_rfl) (fun _ _ _ h => h) (Or.inl ⟨by rfl, ?hya1⟩) hHeld ?resta1
        case hya1 => (intro w' hSw; obtain ⟨hcc, hff⟩ := bcell hSw; go_simp; try with_reducible rfl)
        try simp only [Act.put, List.setIfInBounds_toArray, List.set_cons_zero, List.set_cons_succ]
        refine wpAnyH_take (i := 2) (oi := ⟨_, _, _, _, _, _⟩) (v := ?va2) rfl (by kernel_rfl) (by kernel_rfl) (by kernel_rfl) (fun _ _ _ h => h) (Or.inl ⟨by rfl, ?hya2⟩) hHeld ?resta2
        case hya2 => (intro w' hSw; obtain ⟨hcc, hff⟩ := bcell hSw; go_simp; try with_reducible rfl)
        try simp only [Act.put, List.setIfInBounds_toArray, List.set_cons_zero, List.set_cons_succ]
        refine wpAnyH_take (i := 4) (oi := ⟨_, _, _, _, _, _⟩) (v := ?va4) rfl (by kernel_rfl) (by kernel_rfl) (by kernel_rfl) (fun _ _ _ h => h) (Or.inl ⟨by rfl, ?hya4⟩) hHeld ?resta4
        case hya4 => (intro w' hSw; obtain ⟨hcc, hff⟩ := bcell hSw; go_simp; try with_reducible rfl)
        try simp only [Act.put, List.setIfInBounds_toArray, List.set_cons_zero, List.set_cons_succ]
        refine wpAnyH_ready (rs := [3]) (by kernel_rfl) (by simp) ?_
        refine AllReadyH.cons (o := ⟨_, _, _, _, _, _⟩) rfl (fun K hK => ?_) AllReadyH.nil
        go_simp
        refine (atS_any x _).mono ?_
        rintro e wra1 ⟨rfl, hb⟩
        go_wp2_with fail
        have hB2 := bthen hHeld hb
        clear hHeld hb
        refine hK.out _ _ hB2 (fun hHeld => ?_)
        clear hB2 hK K
        try simp only [Act.put, List.setIfInBounds_toArray, List.set_cons_zero, List.set_cons_succ]
        refine wpAnyH_take (i := 5) (oi := ⟨_, _, _, _, _, _⟩) (v := ?va5) rfl (by kernel_rfl) (by kernel_rfl) (by kernel_rfl) (fun _ _ _ h => h) (Or.inl ⟨by rfl, ?hya5⟩) hHeld ?resta5
        case hya5 => (intro w' hSw; go_simp; try with_reducible rfl)
        try simp only [Act.put, List.setIfInBounds_toArray, List.set_cons_zero, List.set_cons_succ]
        refine wpAnyH_done (by kernel_rfl) ?_ _
        go_wp2_with fail
        go_ret
        exact ⟨by rw [HE.out]; rfl, HB0.out.trans ((bthen HB1.out hHeld).mono HB0.out.size)⟩
      · have HS := Lib.hid (NoB.succ HN.out HX.out hq)
        have hc := ne3 (show ¬ ((x.a, x.l, x.p) : Int × Int × Int) = (qa, ql, qp) from hq)
        clear hq HN HX HI
        rcases hc with n1 | ⟨rfl, n1⟩ | ⟨rfl, rfl, n1⟩
        · refine wp_region_held_drew (S := fun w' => Below W1.heap.size W1 w') (by kernel_rfl) (bd (Below.refl _ _)) (fun hHeld => ?_)
          refine wpAnyH_take (i := 0) (oi := ⟨_, _, _, _, _, _⟩) (v := ?vb0) rfl (by kernel_rfl) (by kernel_rfl) (by kernel_rfl) (fun _ _ _ h => h) (Or.inl ⟨by rfl, ?hyb0⟩) hHeld ?restb0
          case hyb0 => (intro w' hSw; go_simp; try with_reducible rfl)
          try simp only [Act.put, List.setIfInBounds_toArray, List.set_cons_zero, List.set_cons_succ]
          refine wpAnyH_take (i := 1) (oi := ⟨_, _, _, _, _, _⟩) (v := ?vb1) rfl (by kernel_rfl) (by kernel_rfl) (by kernel_rfl) (fun _ _ _ h => h) (Or.inl ⟨by rfl, ?hyb1⟩) hHeld ?restb1
          case hyb1 => (intro w' hSw; obtain ⟨hcc, hff⟩ := bcell hSw; go_simp; try with_reducible rfl)
          try simp only [Act.put, List.setIfInBounds_toArray, List.set_cons_zero, List.set_cons_succ]
          refine wpAnyH_take (i := 2) (oi := ⟨_, _, _, _, _, _⟩) (v := ?vb2) rfl (by kernel_rfl) (by kernel_rfl) (by kernel_rfl) (fun _ _ _ h => h) (Or.inl ⟨by rfl, ?hyb2⟩) hHeld ?restb2
          case hyb2 => (intro w' hSw; obtain ⟨hcc, hff⟩ := bcell hSw; go_simp; try with_reducible rfl)
          try simp only [Act.put, List.setIfInBounds_toArray, List.set_cons_zero, List.set_cons_succ]
          refine wpAnyH_take (i := 4) (oi := ⟨_, _, _, _, _, _⟩) (v := ?vb4) rfl (by kernel_rfl) (by kernel_rfl) (by kernel_rfl) (fun _ _ _ h => h) (Or.inl ⟨by rfl, ?hyb4⟩) hHeld ?restb4
          case hyb4 => (intro w' hSw; obtain ⟨hcc, hff⟩ := bcell hSw; go_simp; try with_reducible rfl)
          try simp only [Act.put, List.setIfInBounds_toArray, List.set_cons_zero, List.set_cons_succ]
          refine wpAnyH_ready (rs := [3]) (by kernel_rfl) (by simp) ?_
          refine AllReadyH.cons (o := ⟨_, _, _, _, _, _⟩) rfl (fun K hK => ?_) AllReadyH.nil
          go_simp
          refine (atS_any x _).mono ?_
          rintro e wrb1 ⟨rfl, hb⟩
          go_wp2_with fail
          have hB2 := bthen hHeld hb
          clear hHeld hb
          refine hK.out _ _ hB2 (fun hHeld => ?_)
          clear hB2 hK K
          try simp only [Act.put, List.setIfInBounds_toArray, List.set_cons_zero, List.set_cons_succ]
          refine wpAnyH_take (i := 5) (oi := ⟨_, _, _, _, _, _⟩) (v := ?vb5) rfl (by kernel_rfl) (by kernel_rfl) (by kernel_rfl) (fun _ _ _ h => h) (Or.inl ⟨by rfl, ?hyb5⟩) hHeld ?restb5
          case hyb5 => (intro w' hSw; go_simp; try with_reducible rfl)
          try simp only [Act.put, List.setIfInBounds_toArray, List.set_cons_zero, List.set_cons_succ]
          refine wpAnyH_done (by kernel_rfl) ?_ _
          go_wp2_with fail
          go_roundw
          case rel => exact ⟨j + 1, by go_num, by omega, HS.out, bthen HB1.out hHeld⟩
          case measure => simp [intOf]; omega
        · refine wp_region_held_drew (S := fun w' => Below W1.heap.size W1 w') (by kernel_rfl) (bd (Below.refl _ _)) (fun hHeld => ?_)
          refine wpAnyH_take (i := 0) (oi := ⟨_, _, _, _, _, _⟩) (v := ?vc0) rfl (by kernel_rfl) (by kernel_rfl) (by kernel_rfl) (fun _ _ _ h => h) (Or.inl ⟨by rfl, ?hyc0⟩) hHeld ?restc0
          case hyc0 => (intro w' hSw; go_simp; try with_reducible rfl)
          try simp only [Act.put, List.setIfInBounds_toArray, List.set_cons_zero, List.set_cons_succ]
          refine wpAnyH_take (i := 1) (oi := ⟨_, _, _, _, _, _⟩) (v := ?vc1) rfl (by kernel_rfl) (by kernel_rfl) (by kernel_rfl) (fun _ _ _ h => h) (Or.inl ⟨by rfl, ?hyc1⟩) hHeld ?restc1
          case hyc1 => (intro w' hSw; obtain ⟨hcc, hff⟩ := bcell hSw; go_simp; try with_reducible rfl)
          try simp only [Act.put, List.setIfInBounds_toArray, List.set_cons_zero, List.set_cons_succ]
          refine wpAnyH_take (i := 2) (oi := ⟨_, _, _, _, _, _⟩) (v := ?vc2) rfl (by kernel_rfl) (by kernel_rfl) (by kernel_rfl) (fun _ _ _ h => h) (Or.inl ⟨by rfl, ?hyc2⟩) hHeld ?restc2
          case hyc2 => (intro w' hSw; obtain ⟨hcc, hff⟩ := bcell hSw; go_simp; try with_reducible rfl)
          try simp only [Act.put, List.setIfInBounds_toArray, List.set_cons_zero, List.set_cons_succ]
          refine wpAnyH_take (i := 4) (oi := ⟨_, _, _, _, _, _⟩) (v := ?vc4) rfl (by kernel_rfl) (by kernel_rfl) (by kernel_rfl) (fun _ _ _ h => h) (Or.inl ⟨by rfl, ?hyc4⟩) hHeld ?restc4
          case hyc4 => (intro w' hSw; obtain ⟨hcc, hff⟩ := bcell hSw; go_simp; try with_reducible rfl)
          try simp only [Act.put, List.setIfInBounds_toArray, List.set_cons_zero, List.set_cons_succ]
          refine wpAnyH_ready (rs := [3]) (by kernel_rfl) (by simp) ?_
          refine AllReadyH.cons (o := ⟨_, _, _, _, _, _⟩) rfl (fun K hK => ?_) AllReadyH.nil
          go_simp
          refine (atS_any x _).mono ?_
          rintro e wrc1 ⟨rfl, hb⟩
          go_wp2_with fail
          have hB2 := bthen hHeld hb
          clear hHeld hb
          refine hK.out _ _ hB2 (fun hHeld => ?_)
          clear hB2 hK K
          try simp only [Act.put, List.setIfInBounds_toArray, List.set_cons_zero, List.set_cons_succ]
          refine wpAnyH_take (i := 5) (oi := ⟨_, _, _, _, _, _⟩) (v := ?vc5) rfl (by kernel_rfl) (by kernel_rfl) (by kernel_rfl) (fun _ _ _ h => h) (Or.inl ⟨by rfl, ?hyc5⟩) hHeld ?restc5
          case hyc5 => (intro w' hSw; go_simp; try with_reducible rfl)
          try simp only [Act.put, List.setIfInBounds_toArray, List.set_cons_zero, List.set_cons_succ]
          refine wpAnyH_done (by kernel_rfl) ?_ _
          go_wp2_with fail
          go_roundw
          case rel => exact ⟨j + 1, by go_num, by omega, HS.out, bthen HB1.out hHeld⟩
          case measure => simp [intOf]; omega
        · refine wp_region_held_drew (S := fun w' => Below W1.heap.size W1 w') (by kernel_rfl) (bd (Below.refl _ _)) (fun hHeld => ?_)
          refine wpAnyH_take (i := 0) (oi := ⟨_, _, _, _, _, _⟩) (v := ?vd0) rfl (by kernel_rfl) (by kernel_rfl) (by kernel_rfl) (fun _ _ _ h => h) (Or.inl ⟨by rfl, ?hyd0⟩) hHeld ?restd0
          case hyd0 => (intro w' hSw; go_simp; try with_reducible rfl)
          try simp only [Act.put, List.setIfInBounds_toArray, List.set_cons_zero, List.set_cons_succ]
          refine wpAnyH_take (i := 1) (oi := ⟨_, _, _, _, _, _⟩) (v := ?vd1) rfl (by kernel_rfl) (by kernel_rfl) (by kernel_rfl) (fun _ _ _ h => h) (Or.inl ⟨by rfl, ?hyd1⟩) hHeld ?restd1
          case hyd1 => (intro w' hSw; obtain ⟨hcc, hff⟩ := bcell hSw; go_simp; try with_reducible rfl)
          try simp only [Act.put, List.setIfInBounds_toArray, List.set_cons_zero, List.set_cons_succ]
          refine wpAnyH_take (i := 2) (oi := ⟨_, _, _, _, _, _⟩) (v := ?vd2) rfl (by kernel_rfl) (by kernel_rfl) (by kernel_rfl) (fun _ _ _ h => h) (Or.inl ⟨by rfl, ?hyd2⟩) hHeld ?restd2
          case hyd2 => (intro w' hSw; obtain ⟨hcc, hff⟩ := bcell hSw; go_simp; try with_reducible rfl)
          try simp only [Act.put, List.setIfInBounds_toArray, List.set_cons_zero, List.set_cons_succ]
          refine wpAnyH_take (i := 4) (oi := ⟨_, _, _, _, _, _⟩) (v := ?vd4) rfl (by kernel_rfl) (by kernel_rfl) (by kernel_rfl) (fun _ _ _ h => h) (Or.inl ⟨by rfl, ?hyd4⟩) hHeld ?restd4
          case hyd4 => (intro w' hSw; obtain ⟨hcc, hff⟩ := bcell hSw; go_simp; try with_reducible rfl)
          try simp only [Act.put, List.setIfInBounds_toArray, List.set_cons_zero, List.set_cons_succ]
          refine wpAnyH_ready (rs := [3]) (by kernel_rfl) (by simp) ?_
          refine AllReadyH.cons (o := ⟨_, _, _, _, _, _⟩) rfl (fun K hK => ?_) AllReadyH.nil
          go_simp
          refine (atS_any x _).mono ?_
          rintro e wrd1 ⟨rfl, hb⟩
          go_wp2_with fail
          have hB2 := bthen hHeld hb
          clear hHeld hb
          refine hK.out _ _ hB2 (fun hHeld => ?_)
          clear hB2 hK K
          try simp only [Act.put, List.setIfInBounds_toArray, List.set_cons_zero, List.set_cons_succ]
          refine wpAnyH_take (i := 5) (oi := ⟨_, _, _, _, _, _⟩) (v := ?vd5) rfl (by kernel_rfl) (by kernel_rfl) (by kernel_rfl) (fun _ _ _ h => h) (Or.inl ⟨by rfl, ?hyd5⟩) hHeld ?restd5
          case hyd5 => (intro w' hSw; go_simp; try with_reducible rfl)
          try simp only [Act.put, List.setIfInBounds_toArray, List.set_cons_zero, List.set_cons_succ]
          refine wpAnyH_done (by kernel_rfl) ?_ _
          go_wp2_with fail
          go_roundw
          case rel => exact ⟨j + 1, by go_num, by omega, HS.out, bthen HB1.out hHeld⟩
          case measure => simp [intOf]; omega
    · have HE := Lib.hid (fv_no HN.out (by have := HL.out; omega))
      have HB := Lib.hid hB
      clear hB
      go_wp2_with fail
      go_ret
      exact ⟨by rw [HE.out]; rfl, HB0.out.trans (HB.out.mono HB0.out.size)⟩
end
end Go.Proofs.YtgdkkhdhomehdaaDoor
