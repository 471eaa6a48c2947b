/-
  What an act on a memory answers, and what it leaves: one contract for each call, whatever its arguments.
-/
import Derived.Test.YtlhbofgcgfbchaaMemWordsR
import Derived.Test.YtlhbofgcgfbchaaMemAct
namespace Go.Proofs.Ytlhbofgcgfbchaa
open Go.RowKit Go.Maps
set_option linter.unusedVariables false
set_option linter.unusedSimpArgs false
def wrE (n : Nat) (x : Int) : Int := if x / 512 < n then 0 else 80
def wrC (n : Nat) (c : Nat → Nat → Int) (x v : Int) : Nat → Nat → Int := if x / 512 < n then upd2 c (x / 512).toNat (x % 512).toNat v else c
def rdV (n : Nat) (c : Nat → Nat → Int) (x : Int) : Int := if x / 512 < n then c (x / 512).toNat (x % 512).toNat else 0
def adC (n : Nat) (c : Nat → Nat → Int) (x v : Int) : Nat → Nat → Int := if x / 512 < n then upd2 c (x / 512).toNat (x % 512).toNat (IntKind.u64.wrap (c (x / 512).toNat (x % 512).toNat + v)) else c
def inF (n : Nat) (t : Int) : Prop := 0 ≤ t ∧ t < n
instance (n : Nat) (t : Int) : Decidable (inF n t) := by unfold inF; infer_instance
def rcE (n : Nat) (kd x g t : Int) : Int := if kd = 0 then wrE n x else if kd = 1 then 0 else if kd = 2 then (if inF n t then 0 else 80) else if kd = 3 then (if inF n t ∧ inF n g then 0 else 80) else 2
def rcC (n : Nat) (c : Nat → Nat → Int) (kd x v g t : Int) : Nat → Nat → Int := if kd = 0 then wrC n c x v else if kd = 1 then c else if kd = 2 then (if inF n t then clr c t.toNat else c) else if kd = 3 then (if inF n t ∧ inF n g then cpy c g.toNat t.toNat else c) else c
section
variable {w : World} {p n k : Nat} {c : Nat → Nat → Int} {F : Nat → Prop} {x v : Int}
theorem RWent.same {w' : World} {val : Value} (h : RefS w p n c F) (hb : Below w.heap.size w w') : RWent w p n c F val (.returned val) w' :=
  ⟨rfl, F, h.call hb, Keeps.of_below hb, fun x hx => .inl hx, fun x hx => hx⟩
theorem parts (hx : U64 x) : x / 512 = ((x / 512).toNat : Int) ∧ x % 512 = ((x % 512).toNat : Int) := ⟨by have := hx.1; omega, by omega⟩
theorem mWrite_any (hM : MemS w p n c F k) (hk : k < 1000000) (hn : n ≤ 64) (hx : U64 x) :
    Calls Try.prog 14 #[.pointer (some ⟨p, 0, none⟩), .int .u64 x, .int .u64 v] w (Went w p n (wrC n c x v) F k (.int .i64 (wrE n x))) := by
  obtain ⟨h1, h2⟩ := parts hx
  unfold wrC wrE
  split
  · exact write_yes p n k _ _ x v c F w hM hk hn hx h1 h2 (by omega)
  · refine (write_no p n k x v c F w hM hn hx (by omega)).mono ?_
    rintro e w' ⟨rfl, rfl⟩
    exact Went.same hM (Below.refl _ _)
theorem rWrite_any (hM : RefS w p n c F) (hn : n ≤ 64) (hx : U64 x) :
    Calls Try.prog 24 #[.pointer (some ⟨p, 0, none⟩), .int .u64 x, .int .u64 v] w (RWent w p n (wrC n c x v) F (.int .i64 (wrE n x))) := by
  obtain ⟨h1, h2⟩ := parts hx
  unfold wrC wrE
  split
  · exact rwrite_yes p n _ _ x v c F w hM hn hx h1 h2 (by omega)
  · refine (rwrite_no p n x v c F w hM hn hx (by omega)).mono ?_
    rintro e w' ⟨rfl, rfl⟩
    exact RWent.same hM (Below.refl _ _)
theorem mRead_any (hM : MemS w p n c F k) (hn : n ≤ 64) (hx : U64 x) :
    Calls Try.prog 12 #[.pointer (some ⟨p, 0, none⟩), .int .u64 x] w fun e w' => e = .returned (.tuple #[.int .u64 (rdV n c x), .int .i64 (wrE n x)]) ∧ w = w' := by
  obtain ⟨h1, h2⟩ := parts hx
  unfold rdV wrE
  split
  · exact read_yes p n k _ _ x c F w hM hn hx h1 h2 (by omega)
  · exact read_no p n k x c F w hM hn hx (by omega)
theorem rRead_any (hM : RefS w p n c F) (hn : n ≤ 64) (hx : U64 x) :
    Calls Try.prog 41 #[.pointer (some ⟨p, 0, none⟩), .int .u64 x] w fun e w' => e = .returned (.tuple #[.int .u64 (rdV n c x), .int .i64 (wrE n x)]) ∧ w = w' := by
  obtain ⟨h1, h2⟩ := parts hx
  unfold rdV wrE
  split
  · exact rread_yes p n _ _ x c F w hM hn hx h1 h2 (by omega)
  · exact rread_no p n x c F w hM hn hx (by omega)
theorem mAdd_any (hM : MemS w p n c F k) (hk : k < 1000000) (hn : n ≤ 64) (hx : U64 x) :
    Calls Try.prog 22 #[.pointer (some ⟨p, 0, none⟩), .int .u64 x, .int .u64 v] w (Went w p n (adC n c x v) F k (.tuple #[.int .u64 (rdV n c x), .int .i64 (wrE n x)])) := by
  obtain ⟨h1, h2⟩ := parts hx
  unfold adC rdV wrE
  split
  · exact add_yes p n k _ _ x v c F w hM hk hn hx h1 h2 (by omega)
  · refine (add_no p n k x v c F w hM hn hx (by omega)).mono ?_
    rintro e w' ⟨rfl, rfl⟩
    exact Went.same hM (Below.refl _ _)
theorem rAdd_any (hM : RefS w p n c F) (hn : n ≤ 64) (hx : U64 x) :
    Calls Try.prog 40 #[.pointer (some ⟨p, 0, none⟩), .int .u64 x, .int .u64 v] w (RWent w p n (adC n c x v) F (.tuple #[.int .u64 (rdV n c x), .int .i64 (wrE n x)])) := by
  obtain ⟨h1, h2⟩ := parts hx
  unfold adC rdV wrE
  split
  · exact radd_yes p n _ _ x v c F w hM hn hx h1 h2 (by omega)
  · refine (radd_no p n x v c F w hM hn hx (by omega)).mono ?_
    rintro e w' ⟨rfl, rfl⟩
    exact RWent.same hM (Below.refl _ _)
variable {kd g t : Int}
theorem mReach_any (hM : MemS w p n c F k) (hk : k < 1000000) (hn : n ≤ 64) (hx : U64 x) :
    Calls Try.prog 11 #[.pointer (some ⟨p, 0, none⟩), .agg #[.int .i8 kd, .int .u64 x, .int .u64 v, .int .i64 g, .int .i64 t]] w (Went w p n (rcC n c kd x v g t) F k (.int .i64 (rcE n kd x g t))) := by
  unfold rcC rcE
  split
  · rename_i h0
    subst h0
    obtain ⟨h1, h2⟩ := parts hx
    unfold wrC wrE
    split
    · exact reach_word p n k _ _ x v g t c F w hM hk hn hx h1 h2 (by omega)
    · refine (reach_word_no p n k x v g t c F w hM hn hx (by omega)).mono ?_
      rintro e w' ⟨rfl, hb⟩
      exact Went.same hM hb
  split
  · rename_i h0
    subst h0
    refine (reach_bar p n k x v g t c F w hM hn).mono ?_
    rintro e w' ⟨rfl, hb⟩
    exact Went.same hM hb
  split
  · rename_i h0
    subst h0
    split
    · rename_i ht
      obtain ⟨t', rfl⟩ := Int.eq_ofNat_of_zero_le ht.1
      exact reach_zero p n k t' x v g c F w hM hn (by have := ht.2; omega)
    · rename_i ht
      refine (reach_zero_no p n k x v g t c F w hM hn (by unfold inF at ht; omega)).mono ?_
      rintro e w' ⟨rfl, hb⟩
      exact Went.same hM hb
  split
  · rename_i h0
    subst h0
    split
    · rename_i h
      obtain ⟨ht, hg⟩ := h
      obtain ⟨t', rfl⟩ := Int.eq_ofNat_of_zero_le ht.1
      obtain ⟨g', rfl⟩ := Int.eq_ofNat_of_zero_le hg.1
      exact reach_copy p n k g' t' x v c F w hM hk hn (by have := ht.2; omega) (by have := hg.2; omega)
    · rename_i h
      refine (reach_copy_no p n k x v g t c F w hM hn (by unfold inF at h; omega)).mono ?_
      rintro e w' ⟨rfl, hb⟩
      exact Went.same hM hb
  · refine (reach_kind p kd x v g t w (by omega)).mono ?_
    rintro e w' ⟨rfl, hb⟩
    exact Went.same hM hb
theorem rReach_any (hM : RefS w p n c F) (hn : n ≤ 64) (hx : U64 x) :
    Calls Try.prog 29 #[.pointer (some ⟨p, 0, none⟩), .agg #[.int .i8 kd, .int .u64 x, .int .u64 v, .int .i64 g, .int .i64 t]] w (RWent w p n (rcC n c kd x v g t) F (.int .i64 (rcE n kd x g t))) := by
  unfold rcC rcE
  split
  · rename_i h0
    subst h0
    obtain ⟨h1, h2⟩ := parts hx
    unfold wrC wrE
    split
    · exact rreach_word p n _ _ x v g t c F w hM hn hx h1 h2 (by omega)
    · refine (rreach_word_no p n x v g t c F w hM hn hx (by omega)).mono ?_
      rintro e w' ⟨rfl, hb⟩
      exact RWent.same hM hb
  split
  · rename_i h0
    subst h0
    refine (rreach_bar p x v g t w).mono ?_
    rintro e w' ⟨rfl, hb⟩
    exact RWent.same hM hb
  split
  · rename_i h0
    subst h0
    split
    · rename_i ht
      obtain ⟨t', rfl⟩ := Int.eq_ofNat_of_zero_le ht.1
      exact rreach_zero p n t' x v g c F w hM hn (by have := ht.2; omega)
    · rename_i ht
      refine (rreach_zero_no p n x v g t c F w hM hn (by unfold inF at ht; omega)).mono ?_
      rintro e w' ⟨rfl, hb⟩
      exact RWent.same hM hb
  split
  · rename_i h0
    subst h0
    split
    · rename_i h
      obtain ⟨ht, hg⟩ := h
      obtain ⟨t', rfl⟩ := Int.eq_ofNat_of_zero_le ht.1
      obtain ⟨g', rfl⟩ := Int.eq_ofNat_of_zero_le hg.1
      obtain ⟨bl, s, hR⟩ := hM
      rcases hR.row g' (by have := hg.2; omega) with ⟨a1, a2⟩ | ⟨b, cap, a1, a2, a3, a4⟩
      · exact rreach_copy_nil p n bl t' g' x v c F s w hR hn (by have := ht.2; omega) (by have := hg.2; omega) a1 a2
      · exact rreach_copy_row p n bl t' g' b cap x v c F s w hR hn (by have := ht.2; omega) (by have := hg.2; omega) a1 a3
    · rename_i h
      refine (rreach_copy_no p n x v g t c F w hM hn (by unfold inF at h; omega)).mono ?_
      rintro e w' ⟨rfl, hb⟩
      exact RWent.same hM hb
  · refine (rreach_kind p kd x v g t w (by omega)).mono ?_
    rintro e w' ⟨rfl, hb⟩
    exact RWent.same hM hb
end
/-- Words of frames that are none stay 0. -/
def Zout (n : Nat) (c : Nat → Nat → Int) : Prop := ∀ g, n ≤ g → ∀ i, i < 512 → c g i = 0
theorem Zout.upd {n : Nat} {c : Nat → Nat → Int} (h : Zout n c) {f i : Nat} {v : Int} (hf : f < n) : Zout n (upd2 c f i v) := fun g hg j hj => by
  unfold upd2
  rw [if_neg (by omega)]
  exact h g hg j hj
theorem Zout.wr {n : Nat} {c : Nat → Nat → Int} (h : Zout n c) (h1 : 1 ≤ n) {x v : Int} : Zout n (wrC n c x v) := by
  unfold wrC
  split
  · exact h.upd (by omega)
  · exact h
theorem Zout.ad {n : Nat} {c : Nat → Nat → Int} (h : Zout n c) (h1 : 1 ≤ n) {x v : Int} : Zout n (adC n c x v) := by
  unfold adC
  split
  · exact h.upd (by omega)
  · exact h
theorem Zout.rc {n : Nat} {c : Nat → Nat → Int} (h : Zout n c) (h1 : 1 ≤ n) {kd x v g t : Int} : Zout n (rcC n c kd x v g t) := by
  unfold rcC
  split
  · exact h.wr h1
  split
  · exact h
  split
  · split
    · intro f hf j hj
      unfold clr
      split
      · rfl
      · exact h f hf j hj
    · exact h
  split
  · split
    · rename_i hh
      intro f hf j hj
      unfold cpy
      rw [if_neg (by have := hh.1; unfold inF at this; omega)]
      exact h f hf j hj
    · exact h
  · exact h
end Go.Proofs.Ytlhbofgcgfbchaa
