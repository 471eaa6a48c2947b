/-
  Layer 12: a walk, and whether it may be.
  Layer 12, plain: where a walk begins, its word, what its step comes to, how it ends.
  Layer 12, the plain law: a walk that begins from steps that another walk of the same tables kept comes to the same end.
-/
import Derived.Test.YtgdkkhdhomehdaaDoorMwA
import Derived.Test.YtgdkkhdhomehdaaDoorMwB
import Derived.Test.YtgdkkhdhomehdaaDoorMwJ
import Derived.Test.YtgdkkhdhomehdaaDoorMwE
namespace Go.Proofs.YtgdkkhdhomehdaaDoor
section
open Go.RowKit
set_option linter.unusedVariables false
set_option linter.unusedSimpArgs false
/-- A walk. -/
structure Wk where
  on : Bool
  a : Int
  p : Int
  l : Int
  f : Int
def WkOk (x : Wk) : Prop := x.on = true ∧ 0 ≤ x.l ∧ x.l ≤ 3 ∧ 0 ≤ x.f ∧ x.f < 64 ∧ 1 ≤ x.a ∧ x.a ≤ 255 ∧ x.p < 34359738368
open Classical in
noncomputable def wkE (x : Wk) : Int := if WkOk x then 0 else 2
theorem wkE_cases (x : Wk) : (WkOk x ∧ wkE x = 0) ∨ (¬ WkOk x ∧ wkE x = 2) := by
  by_cases h : WkOk x
  · exact Or.inl ⟨h, if_pos h⟩
  · exact Or.inr ⟨h, if_neg h⟩
set_option maxHeartbeats 4000000 in
theorem wcheck_any (x : Wk) (w : World) : Calls Tryd.prog 15 #[.agg #[.bool x.on, .int .i64 x.a, .int .u64 x.p, .int .i8 x.l, .int .i64 x.f]] w fun e w' => e = .returned (.int .i64 (wkE x)) ∧ Below w.heap.size w w' := by
  obtain ⟨xo, xa, xp, xl, xf⟩ := x
  simp only
  rcases xo with _ | _
  · have HE := Lib.hid (show wkE ⟨false, xa, xp, xl, xf⟩ = 2 from if_neg (fun h => by cases h.1))
    go_enter Tryd.func15, Tryd.ntmps15
    go_wp2_with fail
    go_ret
    exact ⟨by rw [HE.out]; rfl, ba (Below.refl _ _) _⟩
  · go_enter Tryd.func15, Tryd.ntmps15
    go_wp2
    all_goals
      go_ret
      refine ⟨ret_int ?_, ba (Below.refl _ _) _⟩
      first
        | exact (if_neg (fun h => by obtain ⟨-, h1, h2, h3, h4, h5, h6, h7⟩ := h; simp at *; omega)).symm
        | exact (if_pos ⟨rfl, by simp at *; omega, by simp at *; omega, by simp at *; omega, by simp at *; omega, by simp at *; omega, by simp at *; omega, by simp at *; omega⟩).symm
set_option maxHeartbeats 4000000 in
theorem rwcheck_any (x : Wk) (w : World) : Calls Tryd.prog 16 #[.agg #[.bool x.on, .int .i64 x.a, .int .u64 x.p, .int .i8 x.l, .int .i64 x.f]] w fun e w' => e = .returned (.int .i64 (wkE x)) ∧ Below w.heap.size w w' := by
  obtain ⟨xo, xa, xp, xl, xf⟩ := x
  simp only
  rcases xo with _ | _
  · have HE := Lib.hid (show wkE ⟨false, xa, xp, xl, xf⟩ = 2 from if_neg (fun h => by cases h.1))
    go_enter Tryd.func16, Tryd.ntmps16
    go_wp2_with fail
    go_ret
    exact ⟨by rw [HE.out]; rfl, ba (Below.refl _ _) _⟩
  · go_enter Tryd.func16, Tryd.ntmps16
    go_wp2
    all_goals
      go_ret
      refine ⟨ret_int ?_, ba (Below.refl _ _) _⟩
      first
        | exact (if_neg (fun h => by obtain ⟨-, h1, h2, h3, h4, h5, h6, h7⟩ := h; simp at *; omega)).symm
        | exact (if_pos ⟨rfl, by simp at *; omega, by simp at *; omega, by simp at *; omega, by simp at *; omega, by simp at *; omega, by simp at *; omega, by simp at *; omega⟩).symm
end
section
set_option linter.unusedVariables false
set_option linter.unusedSimpArgs false
def zW : Wk := ⟨false, 0, 0, 0, 0⟩
/-- What a walk's step comes to. -/
structure Rd where
  k : Wk
  tb : Bool
  s : Sb
  en : Bool
  t : Tb
  mo : Bool
  mp : Int
  ml : Int
  to : Bool
  wd : Int
def zR : Rd := ⟨zW, false, zS, false, zT, false, 0, 0, false, 0⟩
def rdT (x : Wk) (v : Int) : Rd := ⟨⟨x.on, x.a, x.p, x.l + 1, df v x.l⟩, true, ⟨x.a, x.l + 1, aPre x.p (x.l + 1), df v x.l⟩, false, zT, false, 0, 0, false, 0⟩
def rdP (x : Wk) (v : Int) : Rd := ⟨zW, false, zS, true, ⟨x.a, x.p, df v x.l, dfl v x.l 7⟩, false, 0, 0, tch v, if tch v then v + 1024 else 0⟩
def rdM (x : Wk) : Rd := ⟨zW, false, zS, false, zT, true, x.p, x.l, false, 0⟩
/-- What the step of a walk that may be comes to. -/
def rd (x : Wk) (v : Int) : Rd := if dk v x.l = 1 then rdT x v else if dk v x.l = 2 ∧ dfl v x.l 6 = true then rdP x v else rdM x
/-- Where a walk begins that may. -/
noncomputable def bgW (root asid page : Int) (xs : List Sb) : Wk := match bestO xs asid page with | some s => ⟨true, asid, page, s.l, s.f⟩ | none => ⟨true, asid, page, 0, root⟩
def BgOk (root asid page : Int) (xs : List Sb) : Prop := 1 ≤ root ∧ WkOk ⟨true, asid, page, 0, root⟩ ∧ Ck mayS plS 4 xs
/-- The word that a walk reads next. -/
def wdN (x : Wk) : Int := 512 * x.f + aIdx x.p x.l
theorem dk_cases (v l : Int) (h0 : 0 ≤ l) (h3 : l ≤ 3) : (dk v l = 0 ∧ good v l = false) ∨ (dk v l = 1 ∧ l ≤ 2 ∧ good v l = true) ∨ (dk v l = 2 ∧ l = 3 ∧ good v l = true) := by
  rcases hg : good v l with _ | _
  · exact .inl ⟨(zero_of hg).1, rfl⟩
  · by_cases h : l = 3
    · exact .inr (.inr ⟨by unfold dk; rw [if_pos hg]; unfold kdOf; rw [if_pos h], h, rfl⟩)
    · exact .inr (.inl ⟨by unfold dk; rw [if_pos hg]; unfold kdOf; rw [if_neg h], by omega, rfl⟩)
theorem df_bound (v l : Int) : 0 ≤ df v l ∧ df v l ≤ 63 := by
  unfold df
  split
  · rename_i h
    simp only [good, Bool.and_eq_true] at h
    have h2 := h.2
    unfold wOk at h2
    simp only [Bool.and_eq_true, Bool.not_eq_true', decide_eq_false_iff_not] at h2
    have := (fGet_lt v 47 12 36 (by omega)).1
    omega
  · omega
theorem aIdx_bound (p l : Int) : 0 ≤ aIdx p l ∧ aIdx p l ≤ 511 := fGet_9 _ _ _ (by omega)
theorem rd_on (x : Wk) (v : Int) (hx : WkOk x) : ((rd x v).k.on = true ∧ dk v x.l = 1 ∧ rd x v = rdT x v ∧ x.l ≤ 2) ∨ ((rd x v).k.on = false ∧ dk v x.l ≠ 1) := by
  obtain ⟨h1, h2, h3, -⟩ := hx
  rcases dk_cases v x.l h2 h3 with ⟨h, -⟩ | ⟨h, hl, -⟩ | ⟨h, -, -⟩
  · right
    unfold rd
    rw [h, if_neg (by omega), if_neg (by omega)]
    exact ⟨rfl, by omega⟩
  · left
    unfold rd
    rw [h, if_pos rfl]
    exact ⟨h1, rfl, rfl, hl⟩
  · right
    unfold rd
    rw [h, if_neg (by omega)]
    split <;> exact ⟨rfl, by omega⟩
theorem rdT_ok (x : Wk) (v : Int) (hx : WkOk x) (hl : x.l ≤ 2) : WkOk (rdT x v).k := by
  obtain ⟨h1, h2, h3, h4, h5, h6, h7, h8⟩ := hx
  have := df_bound v x.l
  exact ⟨h1, by show 0 ≤ x.l + 1; omega, by show x.l + 1 ≤ 3; omega, this.1, by show df v x.l < 64; omega, h6, h7, h8⟩
/-- The walk from x to its end: at most k more words; a memory of n frames. -/
def fin (n : Nat) (c : Nat → Nat → Int) : Nat → Wk → Option (Rd × Int)
  | 0, _ => none
  | k + 1, x => if (n : Int) ≤ x.f then none else if (rd x (c x.f.toNat (aIdx x.p x.l).toNat)).k.on then fin n c k (rd x (c x.f.toNat (aIdx x.p x.l).toNat)).k else some (rd x (c x.f.toNat (aIdx x.p x.l).toNat), x.l + 1)
/-- The walk behind k steps. -/
def wat (n : Nat) (c : Nat → Nat → Int) (x : Wk) : Nat → Option Wk
  | 0 => some x
  | k + 1 => (wat n c x k).bind fun y => if (n : Int) ≤ y.f then none else if (rd y (c y.f.toNat (aIdx y.p y.l).toNat)).k.on then some (rd y (c y.f.toNat (aIdx y.p y.l).toNat)).k else none
theorem fin_step (n : Nat) (c : Nat → Nat → Int) (k : Nat) (x : Wk) (hx : WkOk x) (hl : x.l = 4 - (k : Int)) : fin n c k x = if (n : Int) ≤ x.f then none else if (rd x (c x.f.toNat (aIdx x.p x.l).toNat)).k.on then fin n c (k - 1) (rd x (c x.f.toNat (aIdx x.p x.l).toNat)).k else some (rd x (c x.f.toNat (aIdx x.p x.l).toNat), x.l + 1) := by
  cases k with
  | zero => have := hx.2.2.1; omega
  | succ k => rfl
/-- How a walk from its root comes out: the last Read, the words, the errno. -/
noncomputable def allR (n : Nat) (c : Nat → Nat → Int) (root asid page : Int) : Rd × Int × Int :=
  open Classical in if BgOk root asid page [] then (match fin n c 4 ⟨true, asid, page, 0, root⟩ with | some (r, k) => (r, k, 0) | none => (zR, 0, 80)) else (zR, 0, 2)
end
section
set_option linter.unusedVariables false
set_option linter.unusedSimpArgs false
theorem pw0 : (2 : Int) ^ (9 * (3 - (0 : Int))).toNat = 134217728 := by decide
theorem pw1 : (2 : Int) ^ (9 * (3 - (1 : Int))).toNat = 262144 := by decide
theorem pw2 : (2 : Int) ^ (9 * (3 - (2 : Int))).toNat = 512 := by decide
theorem pw3 : (2 : Int) ^ (9 * (3 - (3 : Int))).toNat = 1 := by decide
theorem aIdx_val (p : Nat) : aIdx p 0 = ((p / 134217728 % 512 : Nat) : Int) ∧ aIdx p 1 = ((p / 262144 % 512 : Nat) : Int) ∧ aIdx p 2 = ((p / 512 % 512 : Nat) : Int) :=
  ⟨fGet_nat p 35 27 (by omega) (by omega), fGet_nat p 26 18 (by omega) (by omega), fGet_nat p 17 9 (by omega) (by omega)⟩
theorem pre_step {p q : Int} (hp : 0 ≤ p) (hq : 0 ≤ q) {k : Int} (h0 : 0 ≤ k) (h2 : k ≤ 2) (h : aPre p (k + 1) = aPre q (k + 1)) : (k = 0 ∨ aPre p k = aPre q k) ∧ aIdx p k = aIdx q k := by
  obtain ⟨m, rfl⟩ : ∃ m : Nat, p = m := ⟨p.toNat, by omega⟩
  obtain ⟨n, rfl⟩ : ∃ n : Nat, q = n := ⟨q.toNat, by omega⟩
  obtain ⟨a0, a1, a2⟩ := aIdx_val m
  obtain ⟨b0, b1, b2⟩ := aIdx_val n
  rcases (show k = 0 ∨ k = 1 ∨ k = 2 by omega) with rfl | rfl | rfl
  · refine ⟨.inl rfl, ?_⟩
    simp only [aPre, show (0 : Int) + 1 = 1 by rfl, pw1] at h
    rw [a0, b0]
    omega
  · simp only [aPre, show (1 : Int) + 1 = 2 by rfl, pw2] at h
    refine ⟨.inr ?_, ?_⟩
    · simp only [aPre, pw1]; omega
    · rw [a1, b1]; omega
  · simp only [aPre, show (2 : Int) + 1 = 3 by rfl, pw3] at h
    refine ⟨.inr ?_, ?_⟩
    · simp only [aPre, pw2]; omega
    · rw [a2, b2]; omega
theorem wat_succ (n : Nat) (c : Nat → Nat → Int) (x : Wk) (k : Nat) (y z : Wk) (hy : wat n c x k = some y) : wat n c x (k + 1) = some z ↔ ¬ (n : Int) ≤ y.f ∧ (rd y (c y.f.toNat (aIdx y.p y.l).toNat)).k.on = true ∧ (rd y (c y.f.toNat (aIdx y.p y.l).toNat)).k = z := by
  show (wat n c x k).bind _ = some z ↔ _
  rw [hy, Option.bind_some]
  by_cases h : (n : Int) ≤ y.f
  · rw [if_pos h]; simp [h]
  · rw [if_neg h]
    by_cases h2 : (rd y (c y.f.toNat (aIdx y.p y.l).toNat)).k.on = true
    · rw [if_pos h2]; simp [h, h2]
    · rw [if_neg h2]; simp [h2]
theorem wat_pred {n : Nat} {c : Nat → Nat → Int} {x : Wk} {k : Nat} {z : Wk} (h : wat n c x (k + 1) = some z) : ∃ y, wat n c x k = some y ∧ ¬ (n : Int) ≤ y.f ∧ (rd y (c y.f.toNat (aIdx y.p y.l).toNat)).k.on = true ∧ (rd y (c y.f.toNat (aIdx y.p y.l).toNat)).k = z := by
  cases hy : wat n c x k with
  | none =>
    have h' : (wat n c x k).bind _ = some z := h
    rw [hy] at h'
    cases h'
  | some y => exact ⟨y, rfl, (wat_succ n c x k y z hy).1 h⟩
/-- What is known of a walk behind k steps. -/
theorem wat_ok (n : Nat) (c : Nat → Nat → Int) (a p root : Int) (h0 : WkOk ⟨true, a, p, 0, root⟩) : ∀ (k : Nat) (y : Wk), wat n c ⟨true, a, p, 0, root⟩ k = some y → WkOk y ∧ y.l = k ∧ y.p = p ∧ y.a = a ∧ y.on = true
  | 0, y, h => by
    injection h with h
    subst h
    exact ⟨h0, rfl, rfl, rfl, rfl⟩
  | k + 1, z, h => by
    obtain ⟨y, hy, hf, ho, rfl⟩ := wat_pred h
    obtain ⟨hx, hl, hp, ha, hon⟩ := wat_ok n c a p root h0 k y hy
    rcases rd_on y (c y.f.toNat (aIdx y.p y.l).toNat) hx with ⟨-, -, h3, h4⟩ | ⟨h3, -⟩
    · rw [h3]
      exact ⟨rdT_ok y _ hx h4, by show y.l + 1 = _; omega, hp, ha, hon⟩
    · rw [h3] at ho; cases ho
theorem wat_fin (n : Nat) (c : Nat → Nat → Int) (x : Wk) : ∀ (k j : Nat) (y : Wk), wat n c x k = some y → fin n c (j + k) x = fin n c j y
  | 0, j, y, h => by
    injection h with h
    subst h
    rfl
  | k + 1, j, z, h => by
    obtain ⟨y, hy, hf, ho, rfl⟩ := wat_pred h
    have := wat_fin n c x k (j + 1) y hy
    rw [show j + (k + 1) = j + 1 + k by omega, this]
    show (if (n : Int) ≤ y.f then none else if (rd y (c y.f.toNat (aIdx y.p y.l).toNat)).k.on then fin n c j (rd y (c y.f.toNat (aIdx y.p y.l).toNat)).k else some (rd y (c y.f.toNat (aIdx y.p y.l).toNat), y.l + 1)) = _
    rw [if_neg hf, if_pos ho]
/-- Pages of one prefix have one way. -/
theorem wat_same (n : Nat) (c : Nat → Nat → Int) (a p q root : Int) (hp0 : 0 ≤ p) (hq0 : 0 ≤ q) (hq : WkOk ⟨true, a, q, 0, root⟩) : ∀ (k : Nat) (y : Wk), k ≤ 3 → (k = 0 ∨ aPre p k = aPre q k) → wat n c ⟨true, a, q, 0, root⟩ k = some y → wat n c ⟨true, a, p, 0, root⟩ k = some ⟨true, a, p, k, y.f⟩
  | 0, y, _, _, h => by
    injection h with h
    subst h
    rfl
  | k + 1, z, hk, he, h => by
    obtain ⟨y, hy, hf, ho, rfl⟩ := wat_pred h
    obtain ⟨hx, hl, hpp, ha, hon⟩ := wat_ok n c a q root hq k y hy
    have he' : aPre p ((k : Int) + 1) = aPre q ((k : Int) + 1) := by
      rcases he with he | he
      · omega
      · exact_mod_cast he
    obtain ⟨e1, e2⟩ := pre_step hp0 hq0 (show 0 ≤ (k : Int) by omega) (by omega) he'
    have ih := wat_same n c a p q root hp0 hq0 hq k y (by omega) (by omega) hy
    rw [wat_succ n c _ k _ _ ih]
    simp only
    rcases rd_on y (c y.f.toNat (aIdx y.p y.l).toNat) hx with ⟨h1, h2, h3, h4⟩ | ⟨h3, -⟩
    · rw [h3]
      obtain ⟨yo, ya, yp, yl, yf⟩ := y
      simp only at hl hpp ha hon hf h2 ⊢
      subst hl hpp ha hon
      rw [← e2] at h2
      rw [← e2]
      have h5 : rd ⟨true, ya, p, k, yf⟩ (c yf.toNat (aIdx p k).toNat) = rdT ⟨true, ya, p, k, yf⟩ (c yf.toNat (aIdx p k).toNat) := by
        unfold rd
        rw [if_pos h2]
      rw [h5]
      refine ⟨hf, rfl, ?_⟩
      simp only [rdT, Wk.mk.injEq, true_and, and_true]
      omega
    · rw [h3] at ho; cases ho
theorem fin_words (n : Nat) (c : Nat → Nat → Int) : ∀ (k : Nat) (x : Wk) (r : Rd) (m : Int), WkOk x → x.l = 4 - (k : Int) → fin n c k x = some (r, m) → m ≤ 4 ∧ r.k.on = false
  | 0, x, r, m, hx, hl, h => by cases h
  | k + 1, x, r, m, hx, hl, h => by
    rw [fin_step n c (k + 1) x hx hl] at h
    by_cases hf : (n : Int) ≤ x.f
    · rw [if_pos hf] at h; cases h
    · rw [if_neg hf] at h
      rcases rd_on x (c x.f.toNat (aIdx x.p x.l).toNat) hx with ⟨h1, h2, h3, h4⟩ | ⟨h1, -⟩
      · rw [if_pos h1, h3] at h
        exact fin_words n c k _ r m (rdT_ok x _ hx h4) (by show x.l + 1 = _; omega) h
      · rw [if_neg (by rw [h1]; exact Bool.noConfusion)] at h
        injection h with h
        injection h with h5 h6
        subst h5 h6
        exact ⟨by have := hx.2.2.1; omega, h1⟩
/-- A row of steps that a page's walk kept. -/
def Kept (n : Nat) (c : Nat → Nat → Int) (a q root : Int) (xs : List Sb) : Prop :=
  Ck mayS plS 4 xs ∧ ∀ s ∈ xs, s.a = a ∧ ∃ (k : Nat) (y : Wk), 1 ≤ k ∧ k ≤ 3 ∧ s.l = k ∧ s.p = aPre q k ∧ wat n c ⟨true, a, q, 0, root⟩ k = some y ∧ y.f = s.f
theorem Kept.nil (n : Nat) (c : Nat → Nat → Int) (a q root : Int) : Kept n c a q root [] := ⟨⟨by simp, fun i x hi => by simp at hi⟩, fun s hs => by cases hs⟩
theorem mem_fil {xs : List Sb} {e s : Sb} (h : s ∈ filL mayS plS 4 xs e) : s ∈ xs ∨ s = e := by
  unfold filL at h
  split at h
  · cases hf : fdx plS xs (plS e) with
    | some n =>
      rw [hf] at h
      exact List.mem_or_eq_of_mem_set h
    | none =>
      rw [hf] at h
      simp only [List.mem_append, List.mem_singleton] at h
      rcases h with h | h
      · left
        split at h
        · exact List.mem_of_mem_drop h
        · exact h
      · exact .inr h
  · cases h
theorem pre_lt {q : Int} (h0 : 0 ≤ q) (h : q < 34359738368) {k : Nat} (h1 : 1 ≤ k) (h3 : k ≤ 3) : aPre q k < limS k := by
  rcases (show k = 1 ∨ k = 2 ∨ k = 3 by omega) with rfl | rfl | rfl
  · show q / (2 : Int) ^ (9 * (3 - (1 : Int))).toNat < 131072
    rw [pw1]; omega
  · show q / (2 : Int) ^ (9 * (3 - (2 : Int))).toNat < 67108864
    rw [pw2]; omega
  · show q / (2 : Int) ^ (9 * (3 - (3 : Int))).toNat < 34359738368
    rw [pw3]; omega
theorem Kept.add {n : Nat} {c : Nat → Nat → Int} {a q root : Int} {xs : List Sb} (h : Kept n c a q root xs) (h0 : 0 ≤ q) (hq : WkOk ⟨true, a, q, 0, root⟩) {k : Nat} {y : Wk} (hk : k ≤ 2) (hw : wat n c ⟨true, a, q, 0, root⟩ (k + 1) = some y) :
    Kept n c a q root (filL mayS plS 4 xs ⟨a, (k : Int) + 1, aPre q ((k : Int) + 1), y.f⟩) := by
  obtain ⟨hy, hl, -⟩ := wat_ok n c a q root hq _ y hw
  have hlt := pre_lt h0 hq.2.2.2.2.2.2.2 (show 1 ≤ k + 1 by omega) (by omega)
  have hm : mayS ⟨a, (k : Int) + 1, aPre q ((k : Int) + 1), y.f⟩ = true := by
    have h5 := hq.2.2.2.2.2.1
    have h6 := hq.2.2.2.2.2.2.1
    have h7 := hy.2.2.2.1
    have h8 := hy.2.2.2.2.1
    simp only at h5 h6
    rw [show ((k + 1 : Nat) : Int) = (k : Int) + 1 by omega] at hlt
    unfold mayS
    simp only [decide_eq_true_eq]
    exact ⟨by omega, h6, h7, h8, by omega, by omega, hlt⟩
  refine ⟨(h.1.fill (by omega) hm).1, fun s hs => ?_⟩
  rcases mem_fil hs with hs | rfl
  · exact h.2 s hs
  · exact ⟨rfl, k + 1, y, by omega, by omega, by simp, by simp, hw, rfl⟩
/-- Beginning from the best of the steps that were kept, the walk comes to the same. -/
theorem kept_same {n : Nat} {c : Nat → Nat → Int} {a p q root : Int} {xs : List Sb} (h : Kept n c a q root xs) (hp0 : 0 ≤ p) (hq0 : 0 ≤ q) (hq : WkOk ⟨true, a, q, 0, root⟩) (hp : WkOk ⟨true, a, p, 0, root⟩) :
    ∃ k : Nat, k ≤ 3 ∧ WkOk (bgW root a p xs) ∧ (bgW root a p xs).l = k ∧ fin n c 4 ⟨true, a, p, 0, root⟩ = fin n c (4 - k) (bgW root a p xs) := by
  cases hb : bestO xs a p with
  | none =>
    have e : bgW root a p xs = ⟨true, a, p, 0, root⟩ := by unfold bgW; rw [hb]
    rw [e]
    exact ⟨0, by omega, hp, rfl, rfl⟩
  | some s =>
    have e : bgW root a p xs = ⟨true, a, p, s.l, s.f⟩ := by unfold bgW; rw [hb]
    have hbs : bst (ofB a p) xs = some s := by
      unfold bestO at hb
      rw [if_pos h.1] at hb
      exact hb
    obtain ⟨hmem, hof⟩ := (bst_inv (ofB a p) xs).1 s hbs
    obtain ⟨ha, k, y, h1, h3, hl, hpr, hw, hf⟩ := h.2 s hmem
    have hpe : aPre p k = aPre q k := by
      rw [← hpr]
      simp only [ofB, Bool.and_eq_true, beq_iff_eq] at hof
      rw [← hof.2, hl]
      rfl
    have hw2 := wat_same n c a p q root hp0 hq0 hq k y h3 (.inr hpe) hw
    obtain ⟨hy, -⟩ := wat_ok n c a p root hp k _ hw2
    have hfin := wat_fin n c _ k (4 - k) _ hw2
    rw [show 4 - k + k = 4 by omega] at hfin
    rw [e, hl, ← hf]
    exact ⟨k, h3, hy, rfl, hfin⟩
end
end Go.Proofs.YtgdkkhdhomehdaaDoor
