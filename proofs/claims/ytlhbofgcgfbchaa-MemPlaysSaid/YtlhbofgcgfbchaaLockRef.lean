/-
  The document's lock (tenementref18) over its memory; two memories side by side.
-/
import Derived.Test.YtlhbofgcgfbchaaRefMem
import Derived.Test.YtlhbofgcgfbchaaLockWalks
namespace Go.Proofs.Ytlhbofgcgfbchaa
open Go.RowKit Go.Maps
set_option linter.unusedVariables false
set_option linter.unusedSimpArgs false

theorem RWent.from {w w0 w' : World} {p n : Nat} {c' : Nat → Nat → Int} {F : Nat → Prop} {v : Value} {e : Ending} (h : RWent w p n c' F v e w') (hb : Below w0.heap.size w0 w) : RWent w0 p n c' F v e w' := by
  obtain ⟨he, F', m1, m3, m4, m5⟩ := h
  exact ⟨he, F', m1, (Keeps.of_below hb).trans m3 (fun y hy => .inl hy), fun y hy => (m4 y hy).imp id (fun hle => Nat.le_trans hb.size hle), m5⟩
set_option maxHeartbeats 400000 in
theorem rreach_word (p n f i : Nat) (x v fr t : Int) (c : Nat → Nat → Int) (F : Nat → Prop) (w : World) (hM : RefS w p n c F) (hn : n ≤ 64) (hx : U64 x) (h1 : x / 512 = f) (h2 : x % 512 = i) (hf : f < n) :
    Calls Try.prog 29 #[.pointer (some ⟨p, 0, none⟩), .agg #[.int .i8 0, .int .u64 x, .int .u64 v, .int .i64 fr, .int .i64 t]] w (RWent w p n (upd2 c f i v) F (.int .i64 0)) := by
  have H1 := Lib.hid h1
  have H2 := Lib.hid h2
  clear h1 h2
  have HB := Lib.hid (ba (Below.refl w.heap.size w) (.cells #[.int .i8 0, .int .u64 x, .int .u64 v, .int .i64 fr, .int .i64 t] 29))
  have HM := Lib.hid (hM.call HB.out)
  clear hM
  go_enter Try.func29, Try.ntmps29
  go_wp2_with fail
  refine (rwrite_yes p n f i x v c F _ HM.out hn hx H1.out H2.out hf).mono ?_
  intro e w1 hW
  have R := Lib.hid (hW.from HB.out)
  obtain ⟨rfl, _⟩ := hW
  go_wp2_with fail
  go_ret
  exact R.out
theorem rTake_any (p n : Nat) (c : Nat → Nat → Int) (F : Nat → Prop) (w : World) (hM : RefS w p n c F) (hn1 : 1 ≤ n) (hn : n ≤ 64) :
    Calls Try.prog 26 #[.pointer (some ⟨p, 0, none⟩)] w (RWent w p n (upd2 c 0 0 (IntKind.u64.wrap (c 0 0 + 1))) F (.tuple #[.int .u64 (c 0 0), .int .i64 0])) := by
  go_enter Try.func26, Try.ntmps26
  go_wp2_with fail
  refine (radd_yes p n 0 0 0 1 c F _ hM hn ⟨by omega, by omega⟩ (by decide) (by decide) (by omega)).mono ?_
  intro e w1 hW
  have R := Lib.hid hW
  obtain ⟨rfl, _⟩ := hW
  go_wp2_with fail
  go_ret2
  exact R.out
theorem rServed_any (p n : Nat) (t : Int) (c : Nat → Nat → Int) (F : Nat → Prop) (w : World) (hM : RefS w p n c F) (hn1 : 1 ≤ n) (hn : n ≤ 64) :
    Calls Try.prog 31 #[.pointer (some ⟨p, 0, none⟩), .int .u64 t] w fun e w' => e = .returned (.bool (c 0 1 == t)) ∧ w = w' := by
  go_enter Try.func31, Try.ntmps31
  go_wp2_with fail
  refine (rread_yes p n 0 1 1 c F _ hM hn ⟨by omega, by omega⟩ (by decide) (by decide) (by omega)).mono ?_
  rintro e w1 ⟨rfl, rfl⟩
  go_wp2_with fail
  go_ret
  exact ⟨rfl, rfl⟩
theorem rWaiting_any (p n : Nat) (c : Nat → Nat → Int) (F : Nat → Prop) (w : World) (hM : RefS w p n c F) (hn1 : 1 ≤ n) (hn : n ≤ 64) :
    Calls Try.prog 33 #[.pointer (some ⟨p, 0, none⟩)] w fun e w' => e = .returned (.int .u64 (IntKind.u64.wrap (c 0 0 - c 0 1))) ∧ w = w' := by
  go_enter Try.func33, Try.ntmps33
  go_wp2_with fail
  refine (rread_yes p n 0 0 0 c F _ hM hn ⟨by omega, by omega⟩ (by decide) (by decide) (by omega)).mono ?_
  rintro e w1 ⟨rfl, rfl⟩
  go_wp2_with fail
  refine (rread_yes p n 0 1 1 c F _ hM hn ⟨by omega, by omega⟩ (by decide) (by decide) (by omega)).mono ?_
  rintro e w1 ⟨rfl, rfl⟩
  go_wp2_with fail
  go_ret
  exact ⟨rfl, rfl⟩
set_option maxHeartbeats 400000 in
theorem rPass_any (p n : Nat) (c : Nat → Nat → Int) (F : Nat → Prop) (w : World) (hM : RefS w p n c F) (hn1 : 1 ≤ n) (hn : n ≤ 64) :
    Calls Try.prog 28 #[.pointer (some ⟨p, 0, none⟩)] w fun e w' => e = .returned (.tuple #[.agg #[.int .i8 0, .int .u64 1, .int .u64 (IntKind.u64.wrap (c 0 1 + 1)), .int .i64 0, .int .i64 0], .int .i64 0]) ∧ Below w.heap.size w w' := by
  have HM := Lib.hid (hM.call (ba (Below.refl w.heap.size w) (.cells #[.int .i8 0, .int .u64 0, .int .u64 0, .int .i64 0, .int .i64 0] 29)))
  clear hM
  go_enter Try.func28, Try.ntmps28
  go_wp2_with fail
  refine (rread_yes p n 0 1 1 c F _ HM.out hn ⟨by omega, by omega⟩ (by decide) (by decide) (by omega)).mono ?_
  rintro e w1 ⟨rfl, rfl⟩
  go_wp2_with fail
  exact bodyPost_ret (v := .tuple #[.agg #[.int .i8 0, .int .u64 1, .int .u64 (IntKind.u64.wrap (c 0 1 + 1)), .int .i64 0, .int .i64 0], .int .i64 0]) (by simp [results, Try.results28, go_sem]) rfl ⟨rfl, ba (Below.refl _ _) _⟩
theorem wt_eq (a b : Int) : wt a b = IntKind.u64.wrap (a - b) := by
  unfold wt
  split
  · rename_i h
    have : b = a := by simpa using h
    subst this
    rw [Int.sub_self]
    rfl
  · rfl
/-- The program's memory and the document's, side by side, both made since w0. -/
structure Pair (w0 w : World) (p q n : Nat) (c d : Nat → Nat → Int) (F G : Nat → Prop) (k : Nat) : Prop where
  mem : MemS w p n c F k
  ref : RefS w q n d G
  ap : ∀ y, F y → G y → False
  hF : ∀ y, F y → w0.heap.size ≤ y
  hG : ∀ y, G y → w0.heap.size ≤ y
  below : Below w0.heap.size w0 w
section
variable {w0 w w' : World} {p q n k k' : Nat} {c c' d d' : Nat → Nat → Int} {F F' G G' : Nat → Prop}
theorem Pair.call (h : Pair w0 w p q n c d F G k) (hb : Below w.heap.size w w') : Pair w0 w' p q n c d F G k := ⟨h.mem.call hb, h.ref.call hb, h.ap, h.hF, h.hG, bthen h.below hb⟩
theorem Pair.one (h : Pair w0 w p q n c d F G k) (m1 : MemS w' p n c' F' k') (m3 : Keeps F w w') (m4 : ∀ x, F' x → F x ∨ w.heap.size ≤ x) : Pair w0 w' p q n c' d F' G k' :=
  ⟨m1, h.ref.keep m3 (fun y hg hf => h.ap y hf hg), sep h.ap h.ref.all m4, grow h.hF h.below m4, h.hG, m3.below h.below h.hF⟩
theorem Pair.two (h : Pair w0 w p q n c d F G k) (m1 : RefS w' q n d' G') (m3 : Keeps G w w') (m4 : ∀ x, G' x → G x ∨ w.heap.size ≤ x) : Pair w0 w' p q n c d' F G' k :=
  ⟨h.mem.keep m3 (fun y hf hg => h.ap y hf hg), m1, fun y hf hg => sep (fun y hg hf => h.ap y hf hg) h.mem.all m4 y hg hf, h.hF, grow h.hG h.below m4, m3.below h.below h.hG⟩
end
/-- A slice of ints that came in. -/
def Ints (w : World) (O : Option Addr) (len : Nat) (zs : Nat → Int) : Prop := 0 < len → ∃ b off : Nat, O = some ⟨b, off, none⟩ ∧ ∀ i, i < len → w.cell? ⟨b, off + i, none⟩ = some (.int .i64 (zs i))
theorem Ints.call {w w' : World} {O : Option Addr} {len : Nat} {zs : Nat → Int} (h : Ints w O len zs) (hb : Below w.heap.size w w') : Ints w' O len zs := fun hl => by
  obtain ⟨b, off, e, hc⟩ := h hl
  exact ⟨b, off, e, fun i hi => (hb.cell (p := ⟨b, off + i, none⟩) (World.block_lt_of_cell? w ⟨b, off + i, none⟩ (hc i hi))).trans (hc i hi)⟩
end Go.Proofs.Ytlhbofgcgfbchaa
