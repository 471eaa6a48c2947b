/-
  What a house comes to may be: each call keeps it.
-/
import Derived.Test.YtgfogbifbpadoaaPcSetS
import Derived.Test.YtgfogbifbpadoaaPcWakes
namespace Go.Proofs.Ytgfogbifbpadoaa
open Go.RowKit Go.Maps
set_option linter.unusedVariables false
set_option linter.unusedSimpArgs false
/-- A sum over threads 1 to 8. -/
def sum8 (f : Nat → Nat) : Nat := f 1 + f 2 + f 3 + f 4 + f 5 + f 6 + f 7 + f 8
theorem sum8_congr {f g : Nat → Nat} (h : ∀ k, 1 ≤ k → k ≤ 8 → f k = g k) : sum8 f = sum8 g := by
  unfold sum8
  rw [h 1 (by omega) (by omega), h 2 (by omega) (by omega), h 3 (by omega) (by omega), h 4 (by omega) (by omega), h 5 (by omega) (by omega), h 6 (by omega) (by omega), h 7 (by omega) (by omega), h 8 (by omega) (by omega)]
theorem sum8_upd {f g : Nat → Nat} {n : Nat} (h1 : 1 ≤ n) (h8 : n ≤ 8) (h : ∀ k, k ≠ n → g k = f k) : sum8 g + f n = sum8 f + g n := by
  have e : ∀ k, k = n ∨ g k = f k := fun k => (Decidable.em (k = n)).imp id (h k)
  unfold sum8
  rcases (show n = 1 ∨ n = 2 ∨ n = 3 ∨ n = 4 ∨ n = 5 ∨ n = 6 ∨ n = 7 ∨ n = 8 by omega) with rfl | rfl | rfl | rfl | rfl | rfl | rfl | rfl
  · rw [h 2 (by omega), h 3 (by omega), h 4 (by omega), h 5 (by omega), h 6 (by omega), h 7 (by omega), h 8 (by omega)]; omega
  · rw [h 1 (by omega), h 3 (by omega), h 4 (by omega), h 5 (by omega), h 6 (by omega), h 7 (by omega), h 8 (by omega)]; omega
  · rw [h 1 (by omega), h 2 (by omega), h 4 (by omega), h 5 (by omega), h 6 (by omega), h 7 (by omega), h 8 (by omega)]; omega
  · rw [h 1 (by omega), h 2 (by omega), h 3 (by omega), h 5 (by omega), h 6 (by omega), h 7 (by omega), h 8 (by omega)]; omega
  · rw [h 1 (by omega), h 2 (by omega), h 3 (by omega), h 4 (by omega), h 6 (by omega), h 7 (by omega), h 8 (by omega)]; omega
  · rw [h 1 (by omega), h 2 (by omega), h 3 (by omega), h 4 (by omega), h 5 (by omega), h 7 (by omega), h 8 (by omega)]; omega
  · rw [h 1 (by omega), h 2 (by omega), h 3 (by omega), h 4 (by omega), h 5 (by omega), h 6 (by omega), h 8 (by omega)]; omega
  · rw [h 1 (by omega), h 2 (by omega), h 3 (by omega), h 4 (by omega), h 5 (by omega), h 6 (by omega), h 7 (by omega)]; omega
theorem sum8_zero {f : Nat → Nat} (h : ∀ k, 1 ≤ k → k ≤ 8 → f k = 0) : sum8 f = 0 := by
  rw [sum8_congr (g := fun _ => 0) h]; rfl
theorem sum8_pos {f : Nat → Nat} {n : Nat} (h1 : 1 ≤ n) (h8 : n ≤ 8) : f n ≤ sum8 f := by
  unfold sum8
  rcases (show n = 1 ∨ n = 2 ∨ n = 3 ∨ n = 4 ∨ n = 5 ∨ n = 6 ∨ n = 7 ∨ n = 8 by omega) with rfl | rfl | rfl | rfl | rfl | rfl | rfl | rfl <;> omega
theorem sum8_le {f : Nat → Nat} (h : ∀ k, f k ≤ 1) : sum8 f ≤ 8 := by
  have h1 := h 1; have h2 := h 2; have h3 := h 3; have h4 := h 4; have h5 := h 5; have h6 := h 6; have h7 := h 7; have h8 := h 8
  unfold sum8; omega
/-- Is thread t one of space q's live ones? -/
def ln (q : Nat) (t : Th) : Nat := if t.sp = q ∧ t.dead = false then 1 else 0
theorem ln_le (q : Nat) (t : Th) : ln q t ≤ 1 := by unfold ln; split <;> omega
def cntL (H : Hs) (q : Nat) : Nat := sum8 fun k => ln q (H.th k)
/-- What a house may be. -/
structure Inv (H : Hs) : Prop where
  cores : 1 ≤ H.cores ∧ H.cores ≤ 8
  sp : ∀ k, k < 9 → 0 ≤ (H.th k).sp ∧ (H.th k).sp ≤ 6
  pc : ∀ k, k < 9 → 0 ≤ (H.th k).pc
  core : ∀ k, k < 9 → 0 ≤ (H.th k).core ∧ (H.th k).core ≤ H.cores
  runs : ∀ k, 1 ≤ k → k ≤ 8 → (H.th k).core ≠ 0 → H.on (H.th k).core = some k ∧ (H.th k).dead = false ∧ (H.th k).sp ≠ 0
  on : ∀ c t, H.on c = some t → ∃ k : Nat, t = k ∧ 1 ≤ k ∧ k ≤ 8 ∧ (H.th k).core = c ∧ 1 ≤ c
  thr : ∀ q, 1 ≤ q → q ≤ 6 → (H.sp q).thr = cntL H q
  thr0 : (H.sp 0).thr = 0
  there : ∀ k, k < 9 → (H.th k).sp ≠ 0 → ∃ q : Nat, (H.th k).sp = q ∧ 1 ≤ (H.sp q).thr
  zero : (H.th 0).sp = 0 ∧ (H.th 0).core = 0
theorem cnt_z (c : Int) (q : Nat) (hq : 1 ≤ q) : cntL (Hs.z c) q = 0 := sum8_zero fun k _ _ => by
  show (if (0 : Int) = q ∧ false = false then 1 else 0) = 0
  rw [if_neg (by omega)]
theorem Inv.made (c : Int) (h : 1 ≤ c ∧ c ≤ 8) : Inv (Hs.z c) :=
  ⟨h, fun _ _ => (show (0 : Int) ≤ 0 ∧ (0 : Int) ≤ 6 by omega), fun _ _ => Int.le_refl 0, fun _ _ => (show (0 : Int) ≤ 0 ∧ (0 : Int) ≤ c by omega), fun _ _ _ hc => absurd rfl hc, fun _ _ h => (by cases h),
    fun q hq _ => (show (0 : Int) = (cntL (Hs.z c) q : Nat) by rw [cnt_z c q hq]; rfl), rfl, fun _ _ h => absurd rfl h, ⟨rfl, rfl⟩⟩
theorem Inv.thrOk {H : Hs} (h : Inv H) : ThrOk H := fun q hq => by
  by_cases h0 : q = 0
  · subst h0; rw [h.thr0]; omega
  · rw [h.thr q (by omega) (by omega)]
    have := sum8_le (f := fun k => ln q (H.th k)) (fun k => ln_le _ _)
    unfold cntL
    omega
theorem Inv.onOk {H : Hs} (h : Inv H) : OnOk H := fun c t hc => by
  obtain ⟨k, rfl, k1, k8, -⟩ := h.on c t hc
  exact ⟨k, rfl, by omega⟩
theorem Inv.coreI {H : Hs} (h : Inv H) : ∀ k, k < 9 → I64 (H.th k).core := fun k hk => by
  have := h.core k hk
  have := h.cores
  exact ⟨by omega, by omega⟩
/-- A thread that is not there takes part in nothing. -/
theorem ln_none {q : Nat} {t : Th} (hq : 1 ≤ q) (h : t.sp = 0) : ln q t = 0 := by unfold ln; rw [if_neg (by omega)]
theorem cnt_upd (H H' : Hs) (q n : Nat) (h1 : 1 ≤ n) (h8 : n ≤ 8) (h : ∀ k, k ≠ n → H'.th k = H.th k) : cntL H' q + ln q (H.th n) = cntL H q + ln q (H'.th n) :=
  sum8_upd (f := fun k => ln q (H.th k)) (g := fun k => ln q (H'.th k)) h1 h8 (fun k hk => by show ln q (H'.th k) = _; rw [h k hk])
/-- A space and its one thread come to be. -/
theorem Inv.born {H : Hs} (h : Inv H) {s t : Nat} (hs : frS H = some s) (ht : frT H = some t) (S : Spc) (T : Th) (hS : S.thr = 1) (hT : T.sp = s) (hd : T.dead = false) (hc : T.core = 0) (hp : 0 ≤ T.pc) : Inv ((H.setSp s S).setTh t T) := by
  obtain ⟨s1, s6, s0⟩ := frS_lt hs
  obtain ⟨t1, t8, t0⟩ := frT_lt ht
  have eth : ∀ k, ((H.setSp s S).setTh t T).th k = if k = t then T else H.th k := fun k => rfl
  have esp : ∀ q, ((H.setSp s S).setTh t T).sp q = if q = s then S else H.sp q := fun q => rfl
  have hnone : ∀ k, k < 9 → (H.th k).sp ≠ s := fun k hk e => by
    by_cases e0 : (H.th k).sp = 0
    · omega
    · obtain ⟨q, e1, e2⟩ := h.there k hk e0
      have : q = s := by omega
      subst this
      omega
  refine ⟨h.cores, fun k hk => ?_, fun k hk => ?_, fun k hk => ?_, fun k k1 k8 hk => ?_, fun c u hu => ?_, fun q q1 q6 => ?_, ?_, fun k hk h0 => ?_, ?_⟩
  · rw [eth]; split
    · rw [hT]; omega
    · exact h.sp k hk
  · rw [eth]; split
    · exact hp
    · exact h.pc k hk
  · rw [eth]; split
    · rw [hc]; have := h.cores; exact ⟨by omega, by show (0 : Int) ≤ H.cores; omega⟩
    · exact h.core k hk
  · rw [eth] at hk ⊢
    split at hk
    · exact absurd hc hk
    · rename_i hkt
      rw [if_neg hkt]
      exact h.runs k k1 k8 hk
  · obtain ⟨k, e, k1, k8, h3, h4⟩ := h.on c u hu
    refine ⟨k, e, k1, k8, ?_, h4⟩
    rw [eth]
    split
    · rename_i hkt
      subst hkt
      have := (h.runs k k1 k8 (by omega)).2.2
      omega
    · exact h3
  · have hu := cnt_upd H ((H.setSp s S).setTh t T) q t t1 t8 (fun k hk => by rw [eth, if_neg hk])
    rw [ln_none q1 t0, eth, if_pos rfl] at hu
    rw [esp]
    split
    · rename_i e
      subst e
      have hz : cntL H q = 0 := sum8_zero fun k k1 k8 => by
        show ln q (H.th k) = 0
        unfold ln
        rw [if_neg (fun e => hnone k (by omega) e.1)]
      have hl : ln q T = 1 := by unfold ln; rw [if_pos ⟨hT, hd⟩]
      rw [hS]; omega
    · rename_i e
      have hl : ln q T = 0 := by unfold ln; rw [if_neg (fun e' => e (by omega))]
      rw [h.thr q q1 q6]; omega
  · rw [esp, if_neg (by omega)]; exact h.thr0
  · rw [eth] at h0 ⊢
    split
    · exact ⟨s, hT, by rw [esp, if_pos rfl, hS]; omega⟩
    · rename_i hkt
      rw [if_neg hkt] at h0
      obtain ⟨q, e1, e2⟩ := h.there k hk h0
      refine ⟨q, e1, ?_⟩
      rw [esp, if_neg (fun e => hnone k hk (by rw [e1, e]))]
      exact e2
  · rw [eth, if_neg (by omega)]; exact h.zero
/-- A thread more. -/
theorem Inv.more {H : Hs} (h : Inv H) {k q t : Nat} (hl : livesB H k = true) (hq : (H.th k).sp = q) (ht : frT H = some t) (pc : Int) (hp : 0 ≤ pc) : Inv ((H.setTh t (Th.of q pc)).setSp q { H.sp q with thr := (H.sp q).thr + 1 }) := by
  obtain ⟨k', ek, k1, k8, hk0, hkd⟩ := livesB_some hl
  obtain rfl : k = k' := by omega
  obtain ⟨t1, t8, t0⟩ := frT_lt ht
  obtain ⟨q', e1, e2⟩ := h.there k (by omega) hk0
  obtain rfl : q = q' := by omega
  have hq6 := h.sp k (by omega)
  have q1 : 1 ≤ q := by omega
  have eth : ∀ j, ((H.setTh t (Th.of q pc)).setSp q { H.sp q with thr := (H.sp q).thr + 1 }).th j = if j = t then Th.of q pc else H.th j := fun j => rfl
  have esp : ∀ j, ((H.setTh t (Th.of q pc)).setSp q { H.sp q with thr := (H.sp q).thr + 1 }).sp j = if j = q then { H.sp q with thr := (H.sp q).thr + 1 } else H.sp j := fun j => rfl
  have hof : (Th.of q pc).sp = q := rfl
  have hof2 : (Th.of q pc).core = 0 := rfl
  refine ⟨h.cores, fun j hj => ?_, fun j hj => ?_, fun j hj => ?_, fun j j1 j8 hj => ?_, fun c u hu => ?_, fun p p1 p6 => ?_, ?_, fun j hj h0 => ?_, ?_⟩
  · rw [eth]; split
    · rw [hof]; omega
    · exact h.sp j hj
  · rw [eth]; split
    · exact hp
    · exact h.pc j hj
  · rw [eth]; split
    · rw [hof2]; have := h.cores; exact ⟨by omega, by show (0 : Int) ≤ H.cores; omega⟩
    · exact h.core j hj
  · rw [eth] at hj ⊢
    split at hj
    · exact absurd hof2 hj
    · rename_i hjt
      rw [if_neg hjt]
      exact h.runs j j1 j8 hj
  · obtain ⟨j, e, j1, j8, h3, h4⟩ := h.on c u hu
    refine ⟨j, e, j1, j8, ?_, h4⟩
    rw [eth]
    split
    · rename_i hjt
      subst hjt
      have := (h.runs j j1 j8 (by omega)).2.2
      omega
    · exact h3
  · have hu := cnt_upd H ((H.setTh t (Th.of q pc)).setSp q { H.sp q with thr := (H.sp q).thr + 1 }) p t t1 t8 (fun j hj => by rw [eth, if_neg hj])
    rw [ln_none p1 t0, eth, if_pos rfl] at hu
    rw [esp]
    split
    · rename_i e
      subst e
      have hl : ln p (Th.of p pc) = 1 := by unfold ln; rw [if_pos ⟨rfl, rfl⟩]
      have := h.thr p p1 p6
      show (H.sp p).thr + 1 = _
      omega
    · rename_i e
      have hl : ln p (Th.of q pc) = 0 := by unfold ln; rw [if_neg (fun e' => e (by have := e'.1; omega))]
      rw [h.thr p p1 p6]; omega
  · rw [esp, if_neg (by omega)]; exact h.thr0
  · rw [eth] at h0 ⊢
    split
    · exact ⟨q, hof, by rw [esp, if_pos rfl]; show 1 ≤ (H.sp q).thr + 1; omega⟩
    · rename_i hjt
      rw [if_neg hjt] at h0
      obtain ⟨p, p1, p2⟩ := h.there j hj h0
      refine ⟨p, p1, ?_⟩
      rw [esp]
      split
      · rename_i e; subst e; show 1 ≤ (H.sp p).thr + 1; omega
      · exact p2
  · rw [eth, if_neg (by omega)]; exact h.zero
/-- A thread is turned, but neither its space nor whether it is dead. -/
theorem cnt_same (H H' : Hs) (q : Nat) (h : ∀ k, 1 ≤ k → k ≤ 8 → (H'.th k).sp = (H.th k).sp ∧ (H'.th k).dead = (H.th k).dead) : cntL H' q = cntL H q :=
  sum8_congr fun k k1 k8 => by
    show ln q (H'.th k) = ln q (H.th k)
    unfold ln
    rw [(h k k1 k8).1, (h k k1 k8).2]
theorem Inv.run {H : Hs} (h : Inv H) {n c : Int} : Inv (rnH H n c) := by
  unfold rnH
  split
  · rename_i hE
    unfold rnE at hE
    split at hE
    · rename_i hco
      split at hE
      · rename_i hlv
        split at hE
        · simp at hE
        · rename_i hno
          obtain ⟨k, rfl, k1, k8, hk0, hkd⟩ := livesB_some hlv
          simp only [Bool.or_eq_true, Bool.not_eq_true', beq_eq_false_iff_ne, not_or, Int.toNat_natCast, Bool.not_eq_true, ne_eq, Decidable.not_not] at hno
          rw [Int.toNat_natCast]
          obtain ⟨hn1, hn2⟩ := hno
          simp only [coreB, Bool.and_eq_true, decide_eq_true_eq] at hco
          have hon : H.on c = none := by cases hx : H.on c with
            | none => rfl
            | some u => rw [hx] at hn1; cases hn1
          have eth : ∀ j, ((H.setTh k { H.th k with core := c }).setOn (updI H.on c (some k))).th j = if j = k then { H.th k with core := c } else H.th j := fun j => rfl
          have hsame : ∀ j, (((H.setTh k { H.th k with core := c }).setOn (updI H.on c (some k))).th j).sp = (H.th j).sp ∧ (((H.setTh k { H.th k with core := c }).setOn (updI H.on c (some k))).th j).dead = (H.th j).dead ∧ (((H.setTh k { H.th k with core := c }).setOn (updI H.on c (some k))).th j).pc = (H.th j).pc := fun j => by
            rw [eth]; split
            · rename_i e; subst e; exact ⟨rfl, rfl, rfl⟩
            · exact ⟨rfl, rfl, rfl⟩
          refine ⟨h.cores, fun j hj => by rw [(hsame j).1]; exact h.sp j hj, fun j hj => by rw [(hsame j).2.2]; exact h.pc j hj, fun j hj => ?_, fun j j1 j8 hj => ?_, fun d u hu => ?_, fun p p1 p6 => by rw [cnt_same _ _ _ (fun j _ _ => ⟨(hsame j).1, (hsame j).2.1⟩)]; exact h.thr p p1 p6, h.thr0, fun j hj h0 => by rw [(hsame j).1] at h0 ⊢; exact h.there j hj h0, ?_⟩
          · rw [eth]; split
            · exact ⟨by show 0 ≤ c; omega, hco.2⟩
            · exact h.core j hj
          · rw [eth] at hj ⊢
            show updI H.on c (some k) _ = _ ∧ _
            unfold updI
            split
            · rename_i e; subst e
              exact ⟨if_pos rfl, hkd, hk0⟩
            · rename_i e
              rw [if_neg e] at hj
              obtain ⟨r1, r2, r3⟩ := h.runs j j1 j8 hj
              refine ⟨?_, r2, r3⟩
              split
              · rename_i e2; rw [e2, hon] at r1; cases r1
              · exact r1
          · have hu' : updI H.on c (some k) d = some u := hu
            unfold updI at hu'
            split at hu'
            · rename_i e; subst e; cases hu'
              exact ⟨k, rfl, k1, k8, by rw [eth, if_pos rfl], hco.1⟩
            · rename_i e
              obtain ⟨j, e1, j1, j8, h3, h4⟩ := h.on d u hu'
              refine ⟨j, e1, j1, j8, ?_, h4⟩
              rw [eth]
              split
              · rename_i e2; subst e2; omega
              · exact h3
          · rw [eth, if_neg (by omega)]; exact h.zero
      · simp at hE
    · simp at hE
  · exact h
theorem Inv.stop {H : Hs} (h : Inv H) {c : Int} : Inv (stH H c) := by
  unfold stH
  split
  · rename_i hE
    unfold stE at hE
    split at hE
    · split at hE
      · rename_i hs
        obtain ⟨t, ht⟩ := Option.isSome_iff_exists.1 hs
        obtain ⟨k, rfl, k1, k8, hkc, hc1⟩ := h.on c t ht
        rw [ht, Option.getD_some, Int.toNat_natCast]
        have eth : ∀ j, ((H.setTh k { H.th k with core := 0 }).setOn (updI H.on c none)).th j = if j = k then { H.th k with core := 0 } else H.th j := fun j => rfl
        have hsame : ∀ j, (((H.setTh k { H.th k with core := 0 }).setOn (updI H.on c none)).th j).sp = (H.th j).sp ∧ (((H.setTh k { H.th k with core := 0 }).setOn (updI H.on c none)).th j).dead = (H.th j).dead ∧ (((H.setTh k { H.th k with core := 0 }).setOn (updI H.on c none)).th j).pc = (H.th j).pc := fun j => by
          rw [eth]; split
          · rename_i e; subst e; exact ⟨rfl, rfl, rfl⟩
          · exact ⟨rfl, rfl, rfl⟩
        refine ⟨h.cores, fun j hj => by rw [(hsame j).1]; exact h.sp j hj, fun j hj => by rw [(hsame j).2.2]; exact h.pc j hj, fun j hj => ?_, fun j j1 j8 hj => ?_, fun d u hu => ?_, fun p p1 p6 => by rw [cnt_same _ _ _ (fun j _ _ => ⟨(hsame j).1, (hsame j).2.1⟩)]; exact h.thr p p1 p6, h.thr0, fun j hj h0 => by rw [(hsame j).1] at h0 ⊢; exact h.there j hj h0, ?_⟩
        · rw [eth]; split
          · have := h.cores; exact ⟨Int.le_refl 0, by show (0 : Int) ≤ H.cores; omega⟩
          · exact h.core j hj
        · rw [eth] at hj ⊢
          show updI H.on c none _ = _ ∧ _
          unfold updI
          split at hj
          · exact absurd rfl hj
          · rename_i e
            rw [if_neg e]
            obtain ⟨r1, r2, r3⟩ := h.runs j j1 j8 hj
            refine ⟨?_, r2, r3⟩
            rw [if_neg (fun e2 => by rw [e2, ht] at r1; cases r1; exact e rfl)]
            exact r1
        · have hu' : updI H.on c none d = some u := hu
          unfold updI at hu'
          split at hu'
          · cases hu'
          · rename_i e
            obtain ⟨j, e1, j1, j8, h3, h4⟩ := h.on d u hu'
            refine ⟨j, e1, j1, j8, ?_, h4⟩
            rw [eth, if_neg (fun e2 => by subst e2; exact e (h3.symm.trans hkc))]
            exact h3
        · rw [eth, if_neg (by omega)]; exact h.zero
      · simp at hE
    · simp at hE
  · exact h
/-- A thread's registers and pc are set. -/
theorem Inv.setTh {H : Hs} (h : Inv H) {n : Int} {t : Th} : Inv (stTH H n t) := by
  unfold stTH
  split
  · rename_i hE
    unfold stTE at hE
    split at hE
    · rename_i hth
      split at hE
      · rename_i hm
        obtain ⟨k, rfl, k1, k8, hk0⟩ := thereB_some hth
        rw [Int.toNat_natCast] at hm ⊢
        simp only [thMay, Bool.and_eq_true, beq_iff_eq, decide_eq_true_eq] at hm
        obtain ⟨m1, m2, m3, m4⟩ := hm
        have eth : ∀ j, (H.setTh k t).th j = if j = k then t else H.th j := fun j => rfl
        have hsame : ∀ j, ((H.setTh k t).th j).sp = (H.th j).sp ∧ ((H.setTh k t).th j).dead = (H.th j).dead ∧ ((H.setTh k t).th j).core = (H.th j).core := fun j => by
          rw [eth]; split
          · rename_i e; subst e; exact ⟨m1, m3, m2⟩
          · exact ⟨rfl, rfl, rfl⟩
        refine ⟨h.cores, fun j hj => by rw [(hsame j).1]; exact h.sp j hj, fun j hj => ?_, fun j hj => by rw [(hsame j).2.2]; exact h.core j hj, fun j j1 j8 hj => by rw [(hsame j).2.2] at hj ⊢; rw [(hsame j).1, (hsame j).2.1]; exact h.runs j j1 j8 hj, fun d u hu => ?_, fun p p1 p6 => by rw [cnt_same _ _ _ (fun j _ _ => ⟨(hsame j).1, (hsame j).2.1⟩)]; exact h.thr p p1 p6, h.thr0, fun j hj h0 => by rw [(hsame j).1] at h0 ⊢; exact h.there j hj h0, by rw [(hsame 0).1, (hsame 0).2.2]; exact h.zero⟩
        · rw [eth]; split
          · exact m4
          · exact h.pc j hj
        · obtain ⟨j, e1, j1, j8, h3, h4⟩ := h.on d u hu
          exact ⟨j, e1, j1, j8, by rw [(hsame j).2.2]; exact h3, h4⟩
      · simp at hE
    · simp at hE
  · exact h
/-- A space's regions, ASID and age are set. -/
theorem Inv.setSp {H : Hs} (h : Inv H) {k : Nat} {s : Spc} (hs : s.thr = (H.sp k).thr) : Inv (H.setSp k s) := by
  have esp : ∀ j, ((H.setSp k s).sp j).thr = (H.sp j).thr := fun j => by
    show (if j = k then s else H.sp j).thr = _
    split
    · rename_i e; subst e; exact hs
    · rfl
  exact ⟨h.cores, h.sp, h.pc, h.core, h.runs, h.on, fun p p1 p6 => by rw [esp]; exact h.thr p p1 p6, by rw [esp]; exact h.thr0, fun j hj h0 => by
    obtain ⟨q, e1, e2⟩ := h.there j hj h0
    exact ⟨q, e1, by rw [esp]; exact e2⟩, h.zero⟩
end Go.Proofs.Ytgfogbifbpadoaa
