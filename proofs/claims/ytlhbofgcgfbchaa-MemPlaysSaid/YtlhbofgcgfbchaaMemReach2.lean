/-
  The walks of package mem: store, bar, Reach.
-/
import Derived.Test.YtlhbofgcgfbchaaMemReach
import Derived.Laws.EntriesVeiled
namespace Go.Proofs.Ytlhbofgcgfbchaa
open Go.RowKit Go.Maps
set_option linter.unusedVariables false
set_option linter.unusedSimpArgs false

theorem Went.from {w w0 w' : World} {p n k : Nat} {c' : Nat → Nat → Int} {F : Nat → Prop} {v : Value} {e : Ending} (h : Went w p n c' F k v e w') (hb : Below w0.heap.size w0 w) : Went w0 p n c' F k v e w' := by
  obtain ⟨he, F', k', m1, m2, m3, m4, m5⟩ := h
  exact ⟨he, F', k', m1, m2, (Keeps.of_below hb).trans m3 (fun y hy => .inl hy), fun y hy => (m4 y hy).imp id (fun hle => Nat.le_trans hb.size hle), m5⟩
/-- An entry's argument. -/
abbrev entA (kd x v fr t : Int) : Value := .agg #[.int .i8 kd, .int .u64 x, .int .u64 v, .int .i64 fr, .int .i64 t]
set_option maxHeartbeats 400000 in
theorem mstore_yes (p n k f i : Nat) (kd x v fr t : Int) (c : Nat → Nat → Int) (F : Nat → Prop) (w : World) (hM : MemS w p n c F k) (hk : k < 1000000) (hn : n ≤ 64) (hx : U64 x) (h1 : x / 512 = f) (h2 : x % 512 = i) (hf : f < n) :
    Calls Try.prog 34 #[.pointer (some ⟨p, 0, none⟩), .agg #[.int .i8 kd, .int .u64 x, .int .u64 v, .int .i64 fr, .int .i64 t]] w (Went w p n (upd2 c f i v) F k (.int .i64 0)) := by
  have H1 := Lib.hid h1
  have H2 := Lib.hid h2
  clear h1 h2
  have hM1 := hM.alloc (.cells #[.int .i8 kd, .int .u64 x, .int .u64 v, .int .i64 fr, .int .i64 t] 29)
  have HB := Lib.hid (ba (Below.refl w.heap.size w) (.cells #[.int .i8 kd, .int .u64 x, .int .u64 v, .int .i64 fr, .int .i64 t] 29))
  clear hM
  go_enter Try.func34, Try.ntmps34
  go_wp2_with fail
  refine (write_yes p n k f i x v c F _ hM1 hk hn hx H1.out H2.out hf).mono ?_
  intro e w1 hW
  have R := Lib.hid (hW.from HB.out)
  obtain ⟨rfl, _⟩ := hW
  clear hM1
  go_wp2_with fail
  go_ret
  exact R.out
set_option maxHeartbeats 400000 in
theorem mstore_no (p n k : Nat) (kd x v fr t : Int) (c : Nat → Nat → Int) (F : Nat → Prop) (w : World) (hM : MemS w p n c F k) (hn : n ≤ 64) (hx : U64 x) (h : (n : Int) ≤ x / 512) :
    Calls Try.prog 34 #[.pointer (some ⟨p, 0, none⟩), .agg #[.int .i8 kd, .int .u64 x, .int .u64 v, .int .i64 fr, .int .i64 t]] w fun e w' => e = .returned (.int .i64 80) ∧ Below w.heap.size w w' := by
  have hM1 := hM.alloc (.cells #[.int .i8 kd, .int .u64 x, .int .u64 v, .int .i64 fr, .int .i64 t] 29)
  clear hM
  go_enter Try.func34, Try.ntmps34
  go_wp2_with fail
  refine (write_no p n k x v c F _ hM1 hn hx h).mono ?_
  rintro e w1 ⟨rfl, rfl⟩
  go_wp2_with fail
  go_ret
  exact ⟨rfl, ba (Below.refl _ _) _⟩
theorem take_no (p n k : Nat) (kd x v g t : Int) (c : Nat → Nat → Int) (F : Nat → Prop) (w : World) (hM : MemS w p n c F k) (hn : n ≤ 64) (h : (t < 0 ∨ (n : Int) ≤ t) ∨ (0 ≤ t ∧ t < n) ∧ (g < 0 ∨ (n : Int) ≤ g)) :
    Calls Try.prog 37 #[.pointer (some ⟨p, 0, none⟩), .agg #[.int .i8 kd, .int .u64 x, .int .u64 v, .int .i64 g, .int .i64 t]] w fun e w' => e = .returned (.int .i64 80) ∧ Below w.heap.size w w' := by
  have c0 := hM.cell
  have hp := hM.lt
  clear hM
  rcases h with h | ⟨⟨h1, h2⟩, h⟩
  · have H := Lib.hid h
    clear h
    go_enter Try.func37, Try.ntmps37
    go_wp2_with fail
    refine (has_no p n t _ (by simp [World.cell?_alloc_lt, hp, c0]) hn H.out).mono ?_
    rintro e w1 ⟨rfl, rfl⟩
    go_wp2_with fail
    go_ret
    exact ⟨rfl, ba (Below.refl _ _) _⟩
  · have H := Lib.hid h
    clear h
    go_enter Try.func37, Try.ntmps37
    go_wp2_with fail
    refine (has_yes p n t _ (by simp [World.cell?_alloc_lt, hp, c0]) hn h1 h2).mono ?_
    rintro e w1 ⟨rfl, rfl⟩
    go_wp2_with fail
    refine (has_no p n g _ (by simp [World.cell?_alloc_lt, hp, c0]) hn H.out).mono ?_
    rintro e w1 ⟨rfl, rfl⟩
    go_wp2_with fail
    go_ret
    exact ⟨rfl, ba (Below.refl _ _) _⟩
/-- The table of Reach. -/
def boxes (w : World) (p : Nat) (kd x v fr t : Int) : World := (w.alloc (.cells #[.int .i8 kd, .int .u64 x, .int .u64 v, .int .i64 fr, .int .i64 t] 29)).alloc (.cells #[.func (.func 34) #[.pointer (some ⟨p, 0, none⟩)] #[], .func (.func 35) #[.pointer (some ⟨p, 0, none⟩)] #[], .func (.func 36) #[.pointer (some ⟨p, 0, none⟩)] #[], .func (.func 37) #[.pointer (some ⟨p, 0, none⟩)] #[]] 71)
theorem boxes_below (w : World) (p : Nat) (kd x v fr t : Int) : Below w.heap.size w (boxes w p kd x v fr t) := ba (ba (Below.refl _ _) _) _
theorem bar_any (p : Nat) (kd x v fr t : Int) (w : World) :
    Calls Try.prog 35 #[.pointer (some ⟨p, 0, none⟩), .agg #[.int .i8 kd, .int .u64 x, .int .u64 v, .int .i64 fr, .int .i64 t]] w fun e w' => e = .returned (.int .i64 0) ∧ Below w.heap.size w w' := by
  go_enter Try.func35, Try.ntmps35
  go_wp2_with fail
  go_ret
  exact ⟨rfl, by repeat (first | exact Below.refl _ _ | apply ba)⟩
set_option maxHeartbeats 1000000 in
theorem reach_word (p n k f i : Nat) (x v fr t : Int) (c : Nat → Nat → Int) (F : Nat → Prop) (w : World) (hM : MemS w p n c F k) (hk : k < 1000000) (hn : n ≤ 64) (hx : U64 x) (h1 : x / 512 = f) (h2 : x % 512 = i) (hf : f < n) :
    Calls Try.prog 11 #[.pointer (some ⟨p, 0, none⟩), .agg #[.int .i8 0, .int .u64 x, .int .u64 v, .int .i64 fr, .int .i64 t]] w (Went w p n (upd2 c f i v) F k (.int .i64 0)) := by
  have HB := Lib.hid (boxes_below w p 0 x v fr t)
  have HM := Lib.hid (hM.call (boxes_below w p 0 x v fr t))
  clear hM
  have H1 := Lib.hid h1
  clear h1
  have H2 := Lib.hid h2
  clear h2
  go_enter Try.func11, Try.ntmps11
  go_wp2_with fail
  refine (mstore_yes p n k f i 0 x v fr t c F _ HM.out hk hn hx H1.out H2.out hf).mono ?_
  intro e w1 hW
  have R := Lib.hid (hW.from HB.out)
  obtain ⟨rfl, _⟩ := hW
  go_wp2_with fail
  go_ret
  exact R.out
set_option maxHeartbeats 1000000 in
theorem reach_word_no (p n k : Nat) (x v fr t : Int) (c : Nat → Nat → Int) (F : Nat → Prop) (w : World) (hM : MemS w p n c F k) (hn : n ≤ 64) (hx : U64 x) (h : (n : Int) ≤ x / 512) :
    Calls Try.prog 11 #[.pointer (some ⟨p, 0, none⟩), .agg #[.int .i8 0, .int .u64 x, .int .u64 v, .int .i64 fr, .int .i64 t]] w fun e w' => e = .returned (.int .i64 80) ∧ Below w.heap.size w w' := by
  have HB := Lib.hid (boxes_below w p 0 x v fr t)
  have HM := Lib.hid (hM.call (boxes_below w p 0 x v fr t))
  clear hM
  go_enter Try.func11, Try.ntmps11
  go_wp2_with fail
  refine (mstore_no p n k 0 x v fr t c F _ HM.out hn hx h).mono ?_
  rintro e w1 ⟨rfl, hb⟩
  have R := Lib.hid (bthen HB.out hb)
  clear hb
  go_wp2_with fail
  go_ret
  exact ⟨rfl, R.out⟩
set_option maxHeartbeats 1000000 in
theorem reach_bar (p n k : Nat) (x v fr t : Int) (c : Nat → Nat → Int) (F : Nat → Prop) (w : World) (hM : MemS w p n c F k) (hn : n ≤ 64) :
    Calls Try.prog 11 #[.pointer (some ⟨p, 0, none⟩), .agg #[.int .i8 1, .int .u64 x, .int .u64 v, .int .i64 fr, .int .i64 t]] w fun e w' => e = .returned (.int .i64 0) ∧ Below w.heap.size w w' := by
  have HB := Lib.hid (boxes_below w p 1 x v fr t)
  have HM := Lib.hid (hM.call (boxes_below w p 1 x v fr t))
  clear hM
  go_enter Try.func11, Try.ntmps11
  go_wp2_with fail
  refine (bar_any p 1 x v fr t _).mono ?_
  rintro e w1 ⟨rfl, hb⟩
  have R := Lib.hid (bthen HB.out hb)
  clear hb
  go_wp2_with fail
  go_ret
  exact ⟨rfl, R.out⟩
set_option maxHeartbeats 1000000 in
theorem reach_zero (p n k t : Nat) (x v fr : Int) (c : Nat → Nat → Int) (F : Nat → Prop) (w : World) (hM : MemS w p n c F k) (hn : n ≤ 64) (ht : t < n) :
    Calls Try.prog 11 #[.pointer (some ⟨p, 0, none⟩), .agg #[.int .i8 2, .int .u64 x, .int .u64 v, .int .i64 fr, .int .i64 t]] w (Went w p n (clr c t) F k (.int .i64 0)) := by
  have HB := Lib.hid (boxes_below w p 2 x v fr t)
  have HM := Lib.hid (hM.call (boxes_below w p 2 x v fr t))
  clear hM
  go_enter Try.func11, Try.ntmps11
  go_wp2_with fail
  refine (zero_yes p n k t 2 x v fr c F _ HM.out hn ht).mono ?_
  intro e w1 hW
  have R := Lib.hid (hW.from HB.out)
  obtain ⟨rfl, _⟩ := hW
  go_wp2_with fail
  go_ret
  exact R.out
set_option maxHeartbeats 1000000 in
theorem reach_zero_no (p n k : Nat) (x v fr t : Int) (c : Nat → Nat → Int) (F : Nat → Prop) (w : World) (hM : MemS w p n c F k) (hn : n ≤ 64) (h : t < 0 ∨ (n : Int) ≤ t) :
    Calls Try.prog 11 #[.pointer (some ⟨p, 0, none⟩), .agg #[.int .i8 2, .int .u64 x, .int .u64 v, .int .i64 fr, .int .i64 t]] w fun e w' => e = .returned (.int .i64 80) ∧ Below w.heap.size w w' := by
  have HB := Lib.hid (boxes_below w p 2 x v fr t)
  have HM := Lib.hid (hM.call (boxes_below w p 2 x v fr t))
  clear hM
  have H := Lib.hid h
  clear h
  go_enter Try.func11, Try.ntmps11
  go_wp2_with fail
  refine (zero_no p n k 2 x v fr t c F _ HM.out hn H.out).mono ?_
  rintro e w1 ⟨rfl, hb⟩
  have R := Lib.hid (bthen HB.out hb)
  clear hb
  go_wp2_with fail
  go_ret
  exact ⟨rfl, R.out⟩
set_option maxHeartbeats 1000000 in
theorem reach_copy (p n k g t : Nat) (x v : Int) (c : Nat → Nat → Int) (F : Nat → Prop) (w : World) (hM : MemS w p n c F k) (hk : k < 1000000) (hn : n ≤ 64) (ht : t < n) (hg : g < n) :
    Calls Try.prog 11 #[.pointer (some ⟨p, 0, none⟩), .agg #[.int .i8 3, .int .u64 x, .int .u64 v, .int .i64 g, .int .i64 t]] w (Went w p n (cpy c g t) F k (.int .i64 0)) := by
  have HB := Lib.hid (boxes_below w p 3 x v g t)
  have HM := Lib.hid (hM.call (boxes_below w p 3 x v g t))
  clear hM
  go_enter Try.func11, Try.ntmps11
  go_wp2_with fail
  refine (take_yes p n k t g 3 x v c F _ HM.out hk hn ht hg).mono ?_
  intro e w1 hW
  have R := Lib.hid (hW.from HB.out)
  obtain ⟨rfl, _⟩ := hW
  go_wp2_with fail
  go_ret
  exact R.out
set_option maxHeartbeats 1000000 in
theorem reach_copy_no (p n k : Nat) (x v g t : Int) (c : Nat → Nat → Int) (F : Nat → Prop) (w : World) (hM : MemS w p n c F k) (hn : n ≤ 64) (h : (t < 0 ∨ (n : Int) ≤ t) ∨ (0 ≤ t ∧ t < n) ∧ (g < 0 ∨ (n : Int) ≤ g)) :
    Calls Try.prog 11 #[.pointer (some ⟨p, 0, none⟩), .agg #[.int .i8 3, .int .u64 x, .int .u64 v, .int .i64 g, .int .i64 t]] w fun e w' => e = .returned (.int .i64 80) ∧ Below w.heap.size w w' := by
  have HB := Lib.hid (boxes_below w p 3 x v g t)
  have HM := Lib.hid (hM.call (boxes_below w p 3 x v g t))
  clear hM
  have H := Lib.hid h
  clear h
  go_enter Try.func11, Try.ntmps11
  go_wp2_with fail
  refine (take_no p n k 3 x v g t c F _ HM.out hn H.out).mono ?_
  rintro e w1 ⟨rfl, hb⟩
  have R := Lib.hid (bthen HB.out hb)
  clear hb
  go_wp2_with fail
  go_ret
  exact ⟨rfl, R.out⟩
theorem reach_kind (p : Nat) (kd x v fr t : Int) (w : World) (h : kd < 0 ∨ 3 < kd) :
    Calls Try.prog 11 #[.pointer (some ⟨p, 0, none⟩), .agg #[.int .i8 kd, .int .u64 x, .int .u64 v, .int .i64 fr, .int .i64 t]] w fun e w' => e = .returned (.int .i64 2) ∧ Below w.heap.size w w' := by
  by_cases h0 : kd < 0
  · clear h
    go_enter Try.func11, Try.ntmps11
    go_wp2_with fail
    go_ret
    exact ⟨rfl, ba (Below.refl _ _) _⟩
  · have h1 : 3 < kd := by omega
    clear h
    go_enter Try.func11, Try.ntmps11
    go_wp2_with fail
    go_ret
    exact ⟨rfl, ba (Below.refl _ _) _⟩
theorem reach_nil (kd x v fr t : Int) (w : World) :
    Calls Try.prog 11 #[.pointer none, .agg #[.int .i8 kd, .int .u64 x, .int .u64 v, .int .i64 fr, .int .i64 t]] w fun e w' => e = .returned (.int .i64 1) ∧ Below w.heap.size w w' := by
  go_enter Try.func11, Try.ntmps11
  go_wp2_with fail
  go_ret
  exact ⟨rfl, ba (Below.refl _ _) _⟩
theorem frames_any (p n : Nat) (w : World) (hc : w.cell? ⟨p, 0, none⟩ = some (.int .i64 n)) : Calls Try.prog 21 #[.pointer (some ⟨p, 0, none⟩)] w fun e w' => e = .returned (.int .i64 n) ∧ w = w' := by
  go_enter Try.func21, Try.ntmps21
  go_wp2_with fail
  go_ret
  exact ⟨rfl, rfl⟩
theorem frames_nil (w : World) : Calls Try.prog 21 #[.pointer none] w fun e w' => e = .returned (.int .i64 0) ∧ w = w' := by
  go_enter Try.func21, Try.ntmps21
  go_wp2_with fail
  go_ret
  exact ⟨rfl, rfl⟩
theorem words_nil (f : Int) (w : World) : Calls Try.prog 15 #[.pointer none, .int .i64 f] w fun e w' => e = .returned (.slice none 0 0) ∧ w = w' := by
  go_enter Try.func15, Try.ntmps15
  go_wp2_with fail
  go_ret
  exact ⟨rfl, rfl⟩
theorem copy_nil (w : World) : Calls Try.prog 19 #[.pointer none] w fun e w' => e = .returned (.pointer none) ∧ w = w' := by
  go_enter Try.func19, Try.ntmps19
  go_wp2_with fail
  go_ret
  exact ⟨rfl, rfl⟩
set_option maxHeartbeats 1000000 in
theorem wakes8_any (w : World) : Calls Try.prog 13 #[] w fun e w' => e = .returned (.bool true) ∧ Below w.heap.size w w' := by
  go_enter Try.func13, Try.ntmps13
  go_wp2_with fail
  refine (new_yes 4 _ (by omega) (by omega)).mono ?_
  rintro e w1 ⟨p, F, rfl, hM, hB, hF⟩
  have HF := Lib.hid hF
  clear hF
  go_wp2_with fail
  refine (write_yes p 4 0 1 1 513 7 _ F _ hM (by omega) (by omega) ⟨by omega, by omega⟩ (by decide) (by decide) (by omega)).mono ?_
  rintro e w2 ⟨rfl, F2, k2, m1, m2, m3, m4, m5⟩
  have K2 := Lib.hid m3
  have L2 := Lib.hid m4
  clear m3 m4 m5 hM
  go_wp2_with fail
  refine (reach_copy p 4 k2 1 2 0 0 _ F2 _ m1 (by omega) (by omega) (by omega) (by omega)).mono ?_
  rintro e w3 ⟨rfl, F3, k3, n1, n2, n3, n4, n5⟩
  have K3 := Lib.hid n3
  have L3 := Lib.hid n4
  clear n3 n4 n5 m1
  go_wp2_with fail
  refine (read_yes p 4 k3 2 1 1025 _ F3 _ n1 (by omega) ⟨by omega, by omega⟩ (by decide) (by decide) (by omega)).mono ?_
  rintro e w4 ⟨rfl, rfl⟩
  rw [show cpy (upd2 (fun _ _ => 0) 1 1 7) 1 2 2 1 = 7 by decide]
  go_wp2_with fail
  refine (add_yes p 4 k3 0 0 0 1 _ F3 _ n1 (by omega) (by omega) ⟨by omega, by omega⟩ (by decide) (by decide) (by omega)).mono ?_
  rw [show cpy (upd2 (fun _ _ => 0) 1 1 7) 1 2 0 0 = 0 by decide, show IntKind.u64.wrap (0 + 1) = 1 by decide]
  rintro e w5 ⟨rfl, F5, k5, o1, o2, o3, o4, o5⟩
  have K5 := Lib.hid o3
  have L5 := Lib.hid o4
  clear o3 o4 o5 n1
  go_wp2_with fail
  refine (add_yes p 4 k5 0 0 0 1 _ F5 _ o1 (by omega) (by omega) ⟨by omega, by omega⟩ (by decide) (by decide) (by omega)).mono ?_
  rw [show upd2 (cpy (upd2 (fun _ _ => 0) 1 1 7) 1 2) 0 0 1 0 0 = 1 by decide, show IntKind.u64.wrap (1 + 1) = 2 by decide]
  rintro e w6 ⟨rfl, F6, k6, q1, q2, q3, q4, q5⟩
  have K6 := Lib.hid q3
  have L6 := Lib.hid q4
  clear q3 q4 q5 o1
  go_wp2_with fail
  refine (read_yes p 4 k6 0 0 0 _ F6 _ q1 (by omega) ⟨by omega, by omega⟩ (by decide) (by decide) (by omega)).mono ?_
  rintro e w7 ⟨rfl, rfl⟩
  rw [show upd2 (upd2 (cpy (upd2 (fun _ _ => 0) 1 1 7) 1 2) 0 0 1) 0 0 2 0 0 = 2 by decide]
  go_wp2_with fail
  go_ret
  have f2 : ∀ y, F2 y → w.heap.size ≤ y := fun y hy => (L2.out y hy).elim (HF.out y) (fun h => Nat.le_trans hB.size h)
  have b2 := K2.out.below hB HF.out
  have f3 : ∀ y, F3 y → w.heap.size ≤ y := fun y hy => (L3.out y hy).elim (f2 y) (fun h => Nat.le_trans b2.size h)
  have b3 := K3.out.below b2 f2
  have f5 : ∀ y, F5 y → w.heap.size ≤ y := fun y hy => (L5.out y hy).elim (f3 y) (fun h => Nat.le_trans b3.size h)
  have b5 := K5.out.below b3 f3
  exact ⟨rfl, K6.out.below b5 f5⟩
end Go.Proofs.Ytlhbofgcgfbchaa
