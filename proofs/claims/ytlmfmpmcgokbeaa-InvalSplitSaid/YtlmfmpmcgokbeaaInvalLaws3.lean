/-
  The walk of the law InvalSplit.
-/
import Derived.Test.YtlmfmpmcgokbeaaInvalLaws2
import Derived.Deep.RegionHeld
namespace Go.Proofs.Ytlmfmpmcgokbeaa
open Go.RowKit
set_option linter.unusedVariables false
set_option linter.unusedSimpArgs false

theorem split_page {s ea ep : Int} (h0 : 0 ≤ s) (h1 : s ≤ 255) (h2 : ep < 34359738368) : hitB 2 s ep ea ep = (s == ea) ∧ hitB 1 s 0 ea ep = (s == ea) ∧ (0 ≤ ea → ea ≤ 255 → hitB 1 ea 0 ea ep = true) := by
  have m1 : mayB 2 s ep = true := by rw [mayB_iff]; omega
  have m2 : mayB 1 s 0 = true := by rw [mayB_iff]; omega
  refine ⟨by simp [hitB, m1], by simp [hitB, m2], fun a b => ?_⟩
  have m3 : mayB 1 ea 0 = true := by rw [mayB_iff]; omega
  simp [hitB, m3]
theorem split_step {s ep sa sl sp : Int} (h : stepB 2 s ep sa sl sp = true) (h0 : 0 ≤ s) (h1 : s ≤ 255) : stepB 1 s 0 sa sl sp = true := by
  have m2 : mayB 1 s 0 = true := by rw [mayB_iff]; omega
  simp only [stepB, m2, Bool.and_eq_true, Bool.or_eq_true, beq_iff_eq, decide_eq_true_eq] at h ⊢
  have h2 := h.2
  generalize ep / 2 ^ (9 * (3 - sl)).toNat = q at h2
  refine ⟨trivial, .inr ⟨?_, ?_, .inl trivial⟩⟩
  · omega
  · omega
theorem boxes5 (w : World) (c0 c1 c2 c3 c4 : Array Value) (t0 t1 t2 t3 t4 : TypeId) :
    Below w.heap.size w (((((w.alloc (.cells c0 t0)).alloc (.cells c1 t1)).alloc (.cells c2 t2)).alloc (.cells c3 t3)).alloc (.cells c4 t4)) ∧
    Arr (((((w.alloc (.cells c0 t0)).alloc (.cells c1 t1)).alloc (.cells c2 t2)).alloc (.cells c3 t3)).alloc (.cells c4 t4)) w.heap.size c0.toList ∧
    Arr (((((w.alloc (.cells c0 t0)).alloc (.cells c1 t1)).alloc (.cells c2 t2)).alloc (.cells c3 t3)).alloc (.cells c4 t4)) (w.heap.size + 1) c1.toList ∧
    Arr (((((w.alloc (.cells c0 t0)).alloc (.cells c1 t1)).alloc (.cells c2 t2)).alloc (.cells c3 t3)).alloc (.cells c4 t4)) (w.heap.size + 1 + 1) c2.toList ∧
    Arr (((((w.alloc (.cells c0 t0)).alloc (.cells c1 t1)).alloc (.cells c2 t2)).alloc (.cells c3 t3)).alloc (.cells c4 t4)) (w.heap.size + 1 + 1 + 1) c3.toList ∧
    Arr (((((w.alloc (.cells c0 t0)).alloc (.cells c1 t1)).alloc (.cells c2 t2)).alloc (.cells c3 t3)).alloc (.cells c4 t4)) (w.heap.size + 1 + 1 + 1 + 1) c4.toList := by
  have h1 := Arr.new (w.alloc (.cells c0 t0)) c1 t1
  have h2 := Arr.new ((w.alloc (.cells c0 t0)).alloc (.cells c1 t1)) c2 t2
  have h3 := Arr.new (((w.alloc (.cells c0 t0)).alloc (.cells c1 t1)).alloc (.cells c2 t2)) c3 t3
  have h4 := Arr.new ((((w.alloc (.cells c0 t0)).alloc (.cells c1 t1)).alloc (.cells c2 t2)).alloc (.cells c3 t3)) c4 t4
  simp only [World.size_alloc] at h1 h2 h3 h4
  exact ⟨ba (ba (ba (ba (ba (Below.refl _ _) _) _) _) _) _, ((((Arr.new w c0 t0).alloc _).alloc _).alloc _).alloc _, ((h1.alloc _).alloc _).alloc _, (h2.alloc _).alloc _, h3.alloc _, h4⟩
theorem keepc {W w1 : World} (hb : Below W.heap.size W w1) : ∀ (b o : Nat) (v : Value), W.cell? ⟨b, o, none⟩ = some v → w1.cell? ⟨b, o, none⟩ = some v := by
  intro b o v h
  refine (hb.cell (p := ⟨b, o, none⟩) ?_).trans h
  show b < W.heap.size
  rcases Nat.lt_or_ge b W.heap.size with hlt | hge
  · exact hlt
  · unfold World.cell? at h
    rw [Array.getElem?_eq_none hge] at h
    cases h
set_option maxHeartbeats 2000000 in
theorem invalSplit_out (s ea ep ef : Int) (ro : Bool) (sa sl sp sf : Int) (w : World) (h : ea < 0 ∨ (0 ≤ ea ∧ 255 < ea) ∨ (0 ≤ ea ∧ ea ≤ 255 ∧ 34359738368 ≤ ep) ∨ (0 ≤ ea ∧ ea ≤ 255 ∧ ep < 34359738368 ∧ s < 0) ∨ (0 ≤ ea ∧ ea ≤ 255 ∧ ep < 34359738368 ∧ 0 ≤ s ∧ 255 < s)) :
    Calls Try.prog 3 #[.int .i64 s, .agg #[.int .i64 ea, .int .u64 ep, .int .i64 ef, .bool ro], .agg #[.int .i64 sa, .int .i8 sl, .int .u64 sp, .int .i64 sf]] w fun e w' => e = .returned (.bool true) ∧ Below w.heap.size w w' := by
  rcases h with h1 | ⟨h1, h2⟩ | ⟨h1, h2, h3⟩ | ⟨h1, h2, h3, h4⟩ | ⟨h1, h2, h3, h4, h5⟩
  all_goals
    go_enter Try.func3, Try.ntmps3
    go_wp2_with (go_at_call 7; refine (wakes5_any _).mono ?_; rintro e w1 ⟨rfl, hb1⟩)
    go_ret
    exact ⟨rfl, bthen (ba (ba (Below.refl _ _) _) _) hb1⟩
set_option maxHeartbeats 8000000 in
theorem invalSplit_f (s ea ep ef : Int) (ro : Bool) (sa sl sp sf : Int) (w : World) (h1 : 0 ≤ ea) (h2 : ea ≤ 255) (h3 : ep < 34359738368) (h4 : 0 ≤ s) (h5 : s ≤ 255) (hs : stepB 2 s ep sa sl sp = false) :
    Calls Try.prog 3 #[.int .i64 s, .agg #[.int .i64 ea, .int .u64 ep, .int .i64 ef, .bool ro], .agg #[.int .i64 sa, .int .i8 sl, .int .u64 sp, .int .i64 sf]] w fun e w' => e = .returned (.bool true) ∧ Below w.heap.size w w' := by
  obtain ⟨e1, e2, e3⟩ := split_page (ea := ea) h4 h5 h3
  have E1 := Lib.hid e1
  have E2 := Lib.hid e2
  have E3 := Lib.hid (e3 h1 h2)
  have S1 := Lib.hid hs
  clear e1 e2 e3 hs
  go_enter Try.func3, Try.ntmps3
  go_wp2_with fail
  obtain ⟨hW, hR0, hR1, hR2, hR3, hR4⟩ := boxes5 w #[.int .i64 ea, .int .u64 ep, .int .i64 ef, .bool ro] #[.int .i64 sa, .int .i8 sl, .int .u64 sp, .int .i64 sf] #[.int .i8 2, .int .i64 s, .int .u64 ep] #[.int .i8 1, .int .i64 s, .int .u64 0] #[.int .i8 1, .int .i64 ea, .int .u64 0] 24 27 30 30 30
  generalize ((((w.alloc (.cells #[.int .i64 ea, .int .u64 ep, .int .i64 ef, .bool ro] 24)).alloc (.cells #[.int .i64 sa, .int .i8 sl, .int .u64 sp, .int .i64 sf] 27)).alloc (.cells #[.int .i8 2, .int .i64 s, .int .u64 ep] 30)).alloc (.cells #[.int .i8 1, .int .i64 s, .int .u64 0] 30)).alloc (.cells #[.int .i8 1, .int .i64 ea, .int .u64 0] 30) = W at hW hR0 hR1 hR2 hR3 hR4 ⊢
  have a0 := hR0.cell 0 _ rfl
  have a1 := hR0.cell 1 _ rfl
  have a2 := hR0.cell 2 _ rfl
  have a3 := hR0.cell 3 _ rfl
  have b0 := hR1.cell 0 _ rfl
  have b1 := hR1.cell 1 _ rfl
  have b2 := hR1.cell 2 _ rfl
  have b3 := hR1.cell 3 _ rfl
  have c0 := hR2.cell 0 _ rfl
  have c1 := hR2.cell 1 _ rfl
  have c2 := hR2.cell 2 _ rfl
  have d0 := hR3.cell 0 _ rfl
  have d1 := hR3.cell 1 _ rfl
  have d2 := hR3.cell 2 _ rfl
  have f0 := hR4.cell 0 _ rfl
  have f1 := hR4.cell 1 _ rfl
  have f2 := hR4.cell 2 _ rfl
  have l0 := hR0.lt
  have l1 := hR1.lt
  have l2 := hR2.lt
  have l3 := hR3.lt
  have l4 := hR4.lt
  clear hR0 hR1 hR2 hR3 hR4
  refine wp_region_held_drew (S := fun w' => Below W.heap.size W w') (by kernel_rfl) (bd (Below.refl _ _)) (fun hHeld => ?_)
  refine wpAnyH_take (i := 0) (oi := ⟨some 41, Op.load 30 (Operand.tmp 8), 30, _, #[], none⟩) (v := ?v0) rfl (by kernel_rfl) (by kernel_rfl) (by kernel_rfl) (fun _ _ _ h => h) (Or.inl ⟨by rfl, ?hy0⟩) hHeld ?rest0
  case hy0 => (intro w' hSw; obtain ⟨hcc, hff⟩ := bcell hSw; go_simp; try with_reducible rfl)
  try simp only [Act.put, List.setIfInBounds_toArray, List.set_cons_zero, List.set_cons_succ]
  refine wpAnyH_take (i := 1) (oi := ⟨some 42, Op.load 24 (Operand.tmp 4), 24, _, #[], none⟩) (v := ?v1) rfl (by kernel_rfl) (by kernel_rfl) (by kernel_rfl) (fun _ _ _ h => h) (Or.inl ⟨by rfl, ?hy1⟩) hHeld ?rest1
  case hy1 => (intro w' hSw; obtain ⟨hcc, hff⟩ := bcell hSw; go_simp; try with_reducible rfl)
  try simp only [Act.put, List.setIfInBounds_toArray, List.set_cons_zero, List.set_cons_succ]
  refine wpAnyH_take (i := 3) (oi := ⟨some 44, Op.load 30 (Operand.tmp 7), 30, _, #[], none⟩) (v := ?v3) rfl (by kernel_rfl) (by kernel_rfl) (by kernel_rfl) (fun _ _ _ h => h) (Or.inl ⟨by rfl, ?hy3⟩) hHeld ?rest3
  case hy3 => (intro w' hSw; obtain ⟨hcc, hff⟩ := bcell hSw; go_simp; try with_reducible rfl)
  try simp only [Act.put, List.setIfInBounds_toArray, List.set_cons_zero, List.set_cons_succ]
  refine wpAnyH_take (i := 4) (oi := ⟨some 45, Op.load 24 (Operand.tmp 4), 24, _, #[], none⟩) (v := ?v4) rfl (by kernel_rfl) (by kernel_rfl) (by kernel_rfl) (fun _ _ _ h => h) (Or.inl ⟨by rfl, ?hy4⟩) hHeld ?rest4
  case hy4 => (intro w' hSw; obtain ⟨hcc, hff⟩ := bcell hSw; go_simp; try with_reducible rfl)
  try simp only [Act.put, List.setIfInBounds_toArray, List.set_cons_zero, List.set_cons_succ]
  refine wpAnyH_ready (rs := [2]) (by kernel_rfl) (by simp) ?_
  refine AllReadyH.cons (o := ⟨some 43, Op.call { callee := Callee.value (Operand.func 8), args := #[Operand.tmp 41, Operand.tmp 42], argTypes := #[30, 24] }, 4, _, #[{ on := 0, ground := Ground.data }, { on := 1, ground := Ground.data }], none⟩) rfl (fun K hK => ?_) AllReadyH.nil
  go_simp
  refine (hits_any _ _ _ _ _ _ _ _).mono ?_
  rintro e wr1 ⟨rfl, hb⟩
  rw [E2.out]
  go_wp2_with fail
  have hB2 := bthen hHeld hb
  clear hHeld hb
  refine hK.out _ _ hB2 (fun hHeld => ?_)
  clear hB2 hK K
  try simp only [Act.put, List.setIfInBounds_toArray, List.set_cons_zero, List.set_cons_succ]
  refine wpAnyH_ready (rs := [5]) (by kernel_rfl) (by simp) ?_
  refine AllReadyH.cons (o := ⟨some 46, Op.call { callee := Callee.value (Operand.func 8), args := #[Operand.tmp 44, Operand.tmp 45], argTypes := #[30, 24] }, 4, _, #[{ on := 3, ground := Ground.data }, { on := 4, ground := Ground.data }, { on := 2, ground := Ground.chain }], none⟩) rfl (fun K hK => ?_) AllReadyH.nil
  go_simp
  refine (hits_any _ _ _ _ _ _ _ _).mono ?_
  rintro e wr2 ⟨rfl, hb⟩
  rw [E1.out]
  go_wp2_with fail
  have hB2 := bthen hHeld hb
  clear hHeld hb
  refine hK.out _ _ hB2 (fun hHeld => ?_)
  clear hB2 hK K
  try simp only [Act.put, List.setIfInBounds_toArray, List.set_cons_zero, List.set_cons_succ]
  refine wpAnyH_take (i := 6) (oi := ⟨some 47, Op.binOp BinOp.eql 4 (Operand.tmp 43) (Operand.tmp 46) 4, 4, _, #[{ on := 2, ground := Ground.data }, { on := 5, ground := Ground.data }], none⟩) (v := ?v6) rfl (by kernel_rfl) (by kernel_rfl) (by kernel_rfl) (fun _ _ _ h => h) (Or.inl ⟨by rfl, ?hy6⟩) hHeld ?rest6
  case hy6 => (intro w' hSw; go_simp; try with_reducible rfl)
  try simp only [Act.put, List.setIfInBounds_toArray, List.set_cons_zero, List.set_cons_succ]
  refine wpAnyH_take (i := 7) (oi := ⟨some 48, Op.move (Operand.tmp 47), 4, _, #[{ on := 6, ground := Ground.data }, { on := 5, ground := Ground.chain }], none⟩) (v := ?v7) rfl (by kernel_rfl) (by kernel_rfl) (by kernel_rfl) (fun _ _ _ h => h) (Or.inl ⟨by rfl, ?hy7⟩) hHeld ?rest7
  case hy7 => (intro w' hSw; go_simp; try with_reducible rfl)
  try simp only [Act.put, List.setIfInBounds_toArray, List.set_cons_zero, List.set_cons_succ]
  first
    | (refine wpAnyH_take (i := 8) (oi := ⟨some 49, Op.load 30 (Operand.tmp 9), 30, _, #[{ on := 7, ground := Ground.guard }], some (7, true)⟩) (v := undef) rfl (by kernel_rfl) (by kernel_rfl) (by kernel_rfl) (fun _ _ _ h => h) (Or.inr ⟨by rfl, rfl⟩) hHeld ?_)
    | (refine wpAnyH_take (i := 8) (oi := ⟨some 49, Op.load 30 (Operand.tmp 9), 30, _, #[{ on := 7, ground := Ground.guard }], some (7, true)⟩) (v := ?v8) rfl (by kernel_rfl) (by kernel_rfl) (by kernel_rfl) (fun _ _ _ h => h) (Or.inl ⟨by rfl, ?hy8⟩) hHeld ?rest8; case hy8 => (intro w' hSw; obtain ⟨hcc, hff⟩ := bcell hSw; go_simp; try with_reducible rfl))
  try simp only [Act.put, List.setIfInBounds_toArray, List.set_cons_zero, List.set_cons_succ]
  first
    | (refine wpAnyH_take (i := 9) (oi := ⟨some 50, Op.load 24 (Operand.tmp 4), 24, _, #[{ on := 7, ground := Ground.guard }], some (7, true)⟩) (v := undef) rfl (by kernel_rfl) (by kernel_rfl) (by kernel_rfl) (fun _ _ _ h => h) (Or.inr ⟨by rfl, rfl⟩) hHeld ?_)
    | (refine wpAnyH_take (i := 9) (oi := ⟨some 50, Op.load 24 (Operand.tmp 4), 24, _, #[{ on := 7, ground := Ground.guard }], some (7, true)⟩) (v := ?v9) rfl (by kernel_rfl) (by kernel_rfl) (by kernel_rfl) (fun _ _ _ h => h) (Or.inl ⟨by rfl, ?hy9⟩) hHeld ?rest9; case hy9 => (intro w' hSw; obtain ⟨hcc, hff⟩ := bcell hSw; go_simp; try with_reducible rfl))
  try simp only [Act.put, List.setIfInBounds_toArray, List.set_cons_zero, List.set_cons_succ]
  refine wpAnyH_ready (rs := [10]) (by kernel_rfl) (by simp) ?_
  refine AllReadyH.cons (o := ⟨some 51, Op.call { callee := Callee.value (Operand.func 8), args := #[Operand.tmp 49, Operand.tmp 50], argTypes := #[30, 24] }, 4, _, #[{ on := 8, ground := Ground.data }, { on := 9, ground := Ground.data }, { on := 7, ground := Ground.chain }, { on := 7, ground := Ground.guard }], some (7, true)⟩) rfl (fun K hK => ?_) AllReadyH.nil
  go_simp
  refine (hits_any _ _ _ _ _ _ _ _).mono ?_
  rintro e wr3 ⟨rfl, hb⟩
  rw [E3.out]
  go_wp2_with fail
  have hB2 := bthen hHeld hb
  clear hHeld hb
  refine hK.out _ _ hB2 (fun hHeld => ?_)
  clear hB2 hK K
  try simp only [Act.put, List.setIfInBounds_toArray, List.set_cons_zero, List.set_cons_succ]
  refine wpAnyH_take (i := 11) (oi := ⟨some 52, Op.pick (Operand.tmp 48) (Operand.tmp 51) (Operand.const (Value.bool false)), 4, _, #[{ on := 7, ground := Ground.data }, { on := 10, ground := Ground.data }], none⟩) (v := ?v11) rfl (by kernel_rfl) (by kernel_rfl) (by kernel_rfl) (fun _ _ _ h => h) (Or.inl ⟨by rfl, ?hy11⟩) hHeld ?rest11
  case hy11 => (intro w' hSw; go_simp; try with_reducible rfl)
  try simp only [Act.put, List.setIfInBounds_toArray, List.set_cons_zero, List.set_cons_succ]
  refine wpAnyH_take (i := 12) (oi := ⟨some 53, Op.move (Operand.tmp 52), 4, _, #[{ on := 11, ground := Ground.data }, { on := 10, ground := Ground.chain }], none⟩) (v := ?v12) rfl (by kernel_rfl) (by kernel_rfl) (by kernel_rfl) (fun _ _ _ h => h) (Or.inl ⟨by rfl, ?hy12⟩) hHeld ?rest12
  case hy12 => (intro w' hSw; go_simp; try with_reducible rfl)
  try simp only [Act.put, List.setIfInBounds_toArray, List.set_cons_zero, List.set_cons_succ]
  first
    | (refine wpAnyH_take (i := 13) (oi := ⟨some 54, Op.load 30 (Operand.tmp 8), 30, _, #[{ on := 12, ground := Ground.guard }], some (12, true)⟩) (v := undef) rfl (by kernel_rfl) (by kernel_rfl) (by kernel_rfl) (fun _ _ _ h => h) (Or.inr ⟨by rfl, rfl⟩) hHeld ?_)
    | (refine wpAnyH_take (i := 13) (oi := ⟨some 54, Op.load 30 (Operand.tmp 8), 30, _, #[{ on := 12, ground := Ground.guard }], some (12, true)⟩) (v := ?v13) rfl (by kernel_rfl) (by kernel_rfl) (by kernel_rfl) (fun _ _ _ h => h) (Or.inl ⟨by rfl, ?hy13⟩) hHeld ?rest13; case hy13 => (intro w' hSw; obtain ⟨hcc, hff⟩ := bcell hSw; go_simp; try with_reducible rfl))
  try simp only [Act.put, List.setIfInBounds_toArray, List.set_cons_zero, List.set_cons_succ]
  first
    | (refine wpAnyH_take (i := 14) (oi := ⟨some 55, Op.load 24 (Operand.tmp 4), 24, _, #[{ on := 12, ground := Ground.guard }], some (12, true)⟩) (v := undef) rfl (by kernel_rfl) (by kernel_rfl) (by kernel_rfl) (fun _ _ _ h => h) (Or.inr ⟨by rfl, rfl⟩) hHeld ?_)
    | (refine wpAnyH_take (i := 14) (oi := ⟨some 55, Op.load 24 (Operand.tmp 4), 24, _, #[{ on := 12, ground := Ground.guard }], some (12, true)⟩) (v := ?v14) rfl (by kernel_rfl) (by kernel_rfl) (by kernel_rfl) (fun _ _ _ h => h) (Or.inl ⟨by rfl, ?hy14⟩) hHeld ?rest14; case hy14 => (intro w' hSw; obtain ⟨hcc, hff⟩ := bcell hSw; go_simp; try with_reducible rfl))
  try simp only [Act.put, List.setIfInBounds_toArray, List.set_cons_zero, List.set_cons_succ]
  first
    | (refine wpAnyH_take (i := 16) (oi := ⟨some 57, Op.move (Operand.tmp 0), 3, _, #[{ on := 12, ground := Ground.guard }], some (12, true)⟩) (v := undef) rfl (by kernel_rfl) (by kernel_rfl) (by kernel_rfl) (fun _ _ _ h => h) (Or.inr ⟨by rfl, rfl⟩) hHeld ?_)
    | (refine wpAnyH_take (i := 16) (oi := ⟨some 57, Op.move (Operand.tmp 0), 3, _, #[{ on := 12, ground := Ground.guard }], some (12, true)⟩) (v := ?v16) rfl (by kernel_rfl) (by kernel_rfl) (by kernel_rfl) (fun _ _ _ h => h) (Or.inl ⟨by rfl, ?hy16⟩) hHeld ?rest16; case hy16 => (intro w' hSw; go_simp; try with_reducible rfl))
  try simp only [Act.put, List.setIfInBounds_toArray, List.set_cons_zero, List.set_cons_succ]
  first
    | (refine wpAnyH_take (i := 17) (oi := ⟨some 58, Op.fieldAddr 24 (Operand.tmp 4) 0, 0, _, #[{ on := 12, ground := Ground.guard }], some (12, true)⟩) (v := undef) rfl (by kernel_rfl) (by kernel_rfl) (by kernel_rfl) (fun _ _ _ h => h) (Or.inr ⟨by rfl, rfl⟩) hHeld ?_)
    | (refine wpAnyH_take (i := 17) (oi := ⟨some 58, Op.fieldAddr 24 (Operand.tmp 4) 0, 0, _, #[{ on := 12, ground := Ground.guard }], some (12, true)⟩) (v := ?v17) rfl (by kernel_rfl) (by kernel_rfl) (by kernel_rfl) (fun _ _ _ h => h) (Or.inl ⟨by rfl, ?hy17⟩) hHeld ?rest17; case hy17 => (intro w' hSw; go_simp; try with_reducible rfl))
  try simp only [Act.put, List.setIfInBounds_toArray, List.set_cons_zero, List.set_cons_succ]
  first
    | (refine wpAnyH_take (i := 18) (oi := ⟨some 59, Op.load 3 (Operand.tmp 58), 3, _, #[{ on := 17, ground := Ground.data }, { on := 12, ground := Ground.guard }], some (12, true)⟩) (v := undef) rfl (by kernel_rfl) (by kernel_rfl) (by kernel_rfl) (fun _ _ _ h => h) (Or.inr ⟨by rfl, rfl⟩) hHeld ?_)
    | (refine wpAnyH_take (i := 18) (oi := ⟨some 59, Op.load 3 (Operand.tmp 58), 3, _, #[{ on := 17, ground := Ground.data }, { on := 12, ground := Ground.guard }], some (12, true)⟩) (v := ?v18) rfl (by kernel_rfl) (by kernel_rfl) (by kernel_rfl) (fun _ _ _ h => h) (Or.inl ⟨by rfl, ?hy18⟩) hHeld ?rest18; case hy18 => (intro w' hSw; obtain ⟨hcc, hff⟩ := bcell hSw; go_simp; try with_reducible rfl))
  try simp only [Act.put, List.setIfInBounds_toArray, List.set_cons_zero, List.set_cons_succ]
  first
    | (refine wpAnyH_take (i := 19) (oi := ⟨some 60, Op.binOp BinOp.eql 3 (Operand.tmp 57) (Operand.tmp 59) 3, 4, _, #[{ on := 16, ground := Ground.data }, { on := 18, ground := Ground.data }, { on := 12, ground := Ground.guard }], some (12, true)⟩) (v := undef) rfl (by kernel_rfl) (by kernel_rfl) (by kernel_rfl) (fun _ _ _ h => h) (Or.inr ⟨by rfl, rfl⟩) hHeld ?_)
    | (refine wpAnyH_take (i := 19) (oi := ⟨some 60, Op.binOp BinOp.eql 3 (Operand.tmp 57) (Operand.tmp 59) 3, 4, _, #[{ on := 16, ground := Ground.data }, { on := 18, ground := Ground.data }, { on := 12, ground := Ground.guard }], some (12, true)⟩) (v := ?v19) rfl (by kernel_rfl) (by kernel_rfl) (by kernel_rfl) (fun _ _ _ h => h) (Or.inl ⟨by rfl, ?hy19⟩) hHeld ?rest19; case hy19 => (intro w' hSw; go_simp; try with_reducible rfl))
  try simp only [Act.put, List.setIfInBounds_toArray, List.set_cons_zero, List.set_cons_succ]
  refine wpAnyH_ready (rs := [15]) (by kernel_rfl) (by simp) ?_
  refine AllReadyH.cons (o := ⟨some 56, Op.call { callee := Callee.value (Operand.func 8), args := #[Operand.tmp 54, Operand.tmp 55], argTypes := #[30, 24] }, 4, _, #[{ on := 13, ground := Ground.data }, { on := 14, ground := Ground.data }, { on := 12, ground := Ground.chain }, { on := 12, ground := Ground.guard }], some (12, true)⟩) rfl (fun K hK => ?_) AllReadyH.nil
  go_simp
  refine (hits_any _ _ _ _ _ _ _ _).mono ?_
  rintro e wr4 ⟨rfl, hb⟩
  rw [E2.out]
  go_wp2_with fail
  have hB2 := bthen hHeld hb
  clear hHeld hb
  refine hK.out _ _ hB2 (fun hHeld => ?_)
  clear hB2 hK K
  try simp only [Act.put, List.setIfInBounds_toArray, List.set_cons_zero, List.set_cons_succ]
  first
    | (refine wpAnyH_take (i := 20) (oi := ⟨some 61, Op.binOp BinOp.eql 4 (Operand.tmp 56) (Operand.tmp 60) 4, 4, _, #[{ on := 15, ground := Ground.data }, { on := 19, ground := Ground.data }, { on := 12, ground := Ground.guard }], some (12, true)⟩) (v := undef) rfl (by kernel_rfl) (by kernel_rfl) (by kernel_rfl) (fun _ _ _ h => h) (Or.inr ⟨by rfl, rfl⟩) hHeld ?_)
    | (refine wpAnyH_take (i := 20) (oi := ⟨some 61, Op.binOp BinOp.eql 4 (Operand.tmp 56) (Operand.tmp 60) 4, 4, _, #[{ on := 15, ground := Ground.data }, { on := 19, ground := Ground.data }, { on := 12, ground := Ground.guard }], some (12, true)⟩) (v := ?v20) rfl (by kernel_rfl) (by kernel_rfl) (by kernel_rfl) (fun _ _ _ h => h) (Or.inl ⟨by rfl, ?hy20⟩) hHeld ?rest20; case hy20 => (intro w' hSw; go_simp; try with_reducible rfl))
  try simp only [Act.put, List.setIfInBounds_toArray, List.set_cons_zero, List.set_cons_succ]
  refine wpAnyH_take (i := 21) (oi := ⟨some 62, Op.pick (Operand.tmp 53) (Operand.tmp 61) (Operand.const (Value.bool false)), 4, _, #[{ on := 12, ground := Ground.data }, { on := 20, ground := Ground.data }], none⟩) (v := ?v21) rfl (by kernel_rfl) (by kernel_rfl) (by kernel_rfl) (fun _ _ _ h => h) (Or.inl ⟨by rfl, ?hy21⟩) hHeld ?rest21
  case hy21 => (intro w' hSw; go_simp; try with_reducible rfl)
  try simp only [Act.put, List.setIfInBounds_toArray, List.set_cons_zero, List.set_cons_succ]
  refine wpAnyH_take (i := 22) (oi := ⟨some 63, Op.move (Operand.tmp 62), 4, _, #[{ on := 21, ground := Ground.data }, { on := 15, ground := Ground.chain }], none⟩) (v := ?v22) rfl (by kernel_rfl) (by kernel_rfl) (by kernel_rfl) (fun _ _ _ h => h) (Or.inl ⟨by rfl, ?hy22⟩) hHeld ?rest22
  case hy22 => (intro w' hSw; go_simp; try with_reducible rfl)
  try simp only [Act.put, List.setIfInBounds_toArray, List.set_cons_zero, List.set_cons_succ]
  first
    | (refine wpAnyH_take (i := 23) (oi := ⟨some 64, Op.load 30 (Operand.tmp 7), 30, _, #[{ on := 22, ground := Ground.guard }], some (22, true)⟩) (v := undef) rfl (by kernel_rfl) (by kernel_rfl) (by kernel_rfl) (fun _ _ _ h => h) (Or.inr ⟨by rfl, rfl⟩) hHeld ?_)
    | (refine wpAnyH_take (i := 23) (oi := ⟨some 64, Op.load 30 (Operand.tmp 7), 30, _, #[{ on := 22, ground := Ground.guard }], some (22, true)⟩) (v := ?v23) rfl (by kernel_rfl) (by kernel_rfl) (by kernel_rfl) (fun _ _ _ h => h) (Or.inl ⟨by rfl, ?hy23⟩) hHeld ?rest23; case hy23 => (intro w' hSw; obtain ⟨hcc, hff⟩ := bcell hSw; go_simp; try with_reducible rfl))
  try simp only [Act.put, List.setIfInBounds_toArray, List.set_cons_zero, List.set_cons_succ]
  first
    | (refine wpAnyH_take (i := 24) (oi := ⟨some 65, Op.load 27 (Operand.tmp 5), 27, _, #[{ on := 22, ground := Ground.guard }], some (22, true)⟩) (v := undef) rfl (by kernel_rfl) (by kernel_rfl) (by kernel_rfl) (fun _ _ _ h => h) (Or.inr ⟨by rfl, rfl⟩) hHeld ?_)
    | (refine wpAnyH_take (i := 24) (oi := ⟨some 65, Op.load 27 (Operand.tmp 5), 27, _, #[{ on := 22, ground := Ground.guard }], some (22, true)⟩) (v := ?v24) rfl (by kernel_rfl) (by kernel_rfl) (by kernel_rfl) (fun _ _ _ h => h) (Or.inl ⟨by rfl, ?hy24⟩) hHeld ?rest24; case hy24 => (intro w' hSw; obtain ⟨hcc, hff⟩ := bcell hSw; go_simp; try with_reducible rfl))
  try simp only [Act.put, List.setIfInBounds_toArray, List.set_cons_zero, List.set_cons_succ]
  refine wpAnyH_ready (rs := [25]) (by kernel_rfl) (by simp) ?_
  refine AllReadyH.cons (o := ⟨some 66, Op.call { callee := Callee.value (Operand.func 9), args := #[Operand.tmp 64, Operand.tmp 65], argTypes := #[30, 27] }, 4, _, #[{ on := 23, ground := Ground.data }, { on := 24, ground := Ground.data }, { on := 22, ground := Ground.chain }, { on := 22, ground := Ground.guard }], some (22, true)⟩) rfl (fun K hK => ?_) AllReadyH.nil
  go_simp
  refine (hitsStep_any _ _ _ _ _ _ _ _).mono ?_
  rintro e wr5 ⟨rfl, hb⟩
  rw [S1.out]
  go_wp2_with fail
  have hB2 := bthen hHeld hb
  clear hHeld hb
  refine hK.out _ _ hB2 (fun hHeld => ?_)
  clear hB2 hK K
  try simp only [Act.put, List.setIfInBounds_toArray, List.set_cons_zero, List.set_cons_succ]
  first
    | (refine wpAnyH_take (i := 26) (oi := ⟨some 67, Op.unOp UnOp.not 4 (Operand.tmp 66), 4, _, #[{ on := 25, ground := Ground.data }, { on := 22, ground := Ground.guard }], some (22, true)⟩) (v := undef) rfl (by kernel_rfl) (by kernel_rfl) (by kernel_rfl) (fun _ _ _ h => h) (Or.inr ⟨by rfl, rfl⟩) hHeld ?_)
    | (refine wpAnyH_take (i := 26) (oi := ⟨some 67, Op.unOp UnOp.not 4 (Operand.tmp 66), 4, _, #[{ on := 25, ground := Ground.data }, { on := 22, ground := Ground.guard }], some (22, true)⟩) (v := ?v26) rfl (by kernel_rfl) (by kernel_rfl) (by kernel_rfl) (fun _ _ _ h => h) (Or.inl ⟨by rfl, ?hy26⟩) hHeld ?rest26; case hy26 => (intro w' hSw; go_simp; try with_reducible rfl))
  try simp only [Act.put, List.setIfInBounds_toArray, List.set_cons_zero, List.set_cons_succ]
  first
    | (refine wpAnyH_take (i := 27) (oi := ⟨some 68, Op.move (Operand.tmp 67), 4, _, #[{ on := 26, ground := Ground.data }, { on := 25, ground := Ground.chain }, { on := 22, ground := Ground.guard }], some (22, true)⟩) (v := undef) rfl (by kernel_rfl) (by kernel_rfl) (by kernel_rfl) (fun _ _ _ h => h) (Or.inr ⟨by rfl, rfl⟩) hHeld ?_)
    | (refine wpAnyH_take (i := 27) (oi := ⟨some 68, Op.move (Operand.tmp 67), 4, _, #[{ on := 26, ground := Ground.data }, { on := 25, ground := Ground.chain }, { on := 22, ground := Ground.guard }], some (22, true)⟩) (v := ?v27) rfl (by kernel_rfl) (by kernel_rfl) (by kernel_rfl) (fun _ _ _ h => h) (Or.inl ⟨by rfl, ?hy27⟩) hHeld ?rest27; case hy27 => (intro w' hSw; go_simp; try with_reducible rfl))
  try simp only [Act.put, List.setIfInBounds_toArray, List.set_cons_zero, List.set_cons_succ]
  first
    | (refine wpAnyH_take (i := 28) (oi := ⟨some 69, Op.load 30 (Operand.tmp 8), 30, _, #[{ on := 27, ground := Ground.guard }], some (27, false)⟩) (v := undef) rfl (by kernel_rfl) (by kernel_rfl) (by kernel_rfl) (fun _ _ _ h => h) (Or.inr ⟨by rfl, rfl⟩) hHeld ?_)
    | (refine wpAnyH_take (i := 28) (oi := ⟨some 69, Op.load 30 (Operand.tmp 8), 30, _, #[{ on := 27, ground := Ground.guard }], some (27, false)⟩) (v := ?v28) rfl (by kernel_rfl) (by kernel_rfl) (by kernel_rfl) (fun _ _ _ h => h) (Or.inl ⟨by rfl, ?hy28⟩) hHeld ?rest28; case hy28 => (intro w' hSw; obtain ⟨hcc, hff⟩ := bcell hSw; go_simp; try with_reducible rfl))
  try simp only [Act.put, List.setIfInBounds_toArray, List.set_cons_zero, List.set_cons_succ]
  first
    | (refine wpAnyH_take (i := 29) (oi := ⟨some 70, Op.load 27 (Operand.tmp 5), 27, _, #[{ on := 27, ground := Ground.guard }], some (27, false)⟩) (v := undef) rfl (by kernel_rfl) (by kernel_rfl) (by kernel_rfl) (fun _ _ _ h => h) (Or.inr ⟨by rfl, rfl⟩) hHeld ?_)
    | (refine wpAnyH_take (i := 29) (oi := ⟨some 70, Op.load 27 (Operand.tmp 5), 27, _, #[{ on := 27, ground := Ground.guard }], some (27, false)⟩) (v := ?v29) rfl (by kernel_rfl) (by kernel_rfl) (by kernel_rfl) (fun _ _ _ h => h) (Or.inl ⟨by rfl, ?hy29⟩) hHeld ?rest29; case hy29 => (intro w' hSw; obtain ⟨hcc, hff⟩ := bcell hSw; go_simp; try with_reducible rfl))
  try simp only [Act.put, List.setIfInBounds_toArray, List.set_cons_zero, List.set_cons_succ]
  refine wpAnyH_take (i := 30) (oi := ⟨some 71, Op.call { callee := Callee.value (Operand.func 9), args := #[Operand.tmp 69, Operand.tmp 70], argTypes := #[30, 27] }, 4, _, #[{ on := 28, ground := Ground.data }, { on := 29, ground := Ground.data }, { on := 27, ground := Ground.chain }, { on := 27, ground := Ground.guard }], some (27, false)⟩) (v := undef) rfl (by kernel_rfl) (by kernel_rfl) (by kernel_rfl) (fun _ _ _ h => h) (Or.inr ⟨by rfl, rfl⟩) hHeld ?_
  try simp only [Act.put, List.setIfInBounds_toArray, List.set_cons_zero, List.set_cons_succ]
  first
    | (refine wpAnyH_take (i := 31) (oi := ⟨some 72, Op.pick (Operand.tmp 68) (Operand.const (Value.bool true)) (Operand.tmp 71), 4, _, #[{ on := 27, ground := Ground.data }, { on := 30, ground := Ground.data }, { on := 22, ground := Ground.guard }], some (22, true)⟩) (v := undef) rfl (by kernel_rfl) (by kernel_rfl) (by kernel_rfl) (fun _ _ _ h => h) (Or.inr ⟨by rfl, rfl⟩) hHeld ?_)
    | (refine wpAnyH_take (i := 31) (oi := ⟨some 72, Op.pick (Operand.tmp 68) (Operand.const (Value.bool true)) (Operand.tmp 71), 4, _, #[{ on := 27, ground := Ground.data }, { on := 30, ground := Ground.data }, { on := 22, ground := Ground.guard }], some (22, true)⟩) (v := ?v31) rfl (by kernel_rfl) (by kernel_rfl) (by kernel_rfl) (fun _ _ _ h => h) (Or.inl ⟨by rfl, ?hy31⟩) hHeld ?rest31; case hy31 => (intro w' hSw; go_simp; try with_reducible rfl))
  try simp only [Act.put, List.setIfInBounds_toArray, List.set_cons_zero, List.set_cons_succ]
  refine wpAnyH_take (i := 32) (oi := ⟨some 73, Op.pick (Operand.tmp 63) (Operand.tmp 72) (Operand.const (Value.bool false)), 4, _, #[{ on := 22, ground := Ground.data }, { on := 31, ground := Ground.data }], none⟩) (v := ?v32) rfl (by kernel_rfl) (by kernel_rfl) (by kernel_rfl) (fun _ _ _ h => h) (Or.inl ⟨by rfl, ?hy32⟩) hHeld ?rest32
  case hy32 => (intro w' hSw; go_simp; try with_reducible rfl)
  try simp only [Act.put, List.setIfInBounds_toArray, List.set_cons_zero, List.set_cons_succ]
  refine wpAnyH_take (i := 33) (oi := ⟨some 74, Op.move (Operand.tmp 73), 4, _, #[{ on := 32, ground := Ground.data }, { on := 30, ground := Ground.chain }], none⟩) (v := ?v33) rfl (by kernel_rfl) (by kernel_rfl) (by kernel_rfl) (fun _ _ _ h => h) (Or.inl ⟨by rfl, ?hy33⟩) hHeld ?rest33
  case hy33 => (intro w' hSw; go_simp; try with_reducible rfl)
  try simp only [Act.put, List.setIfInBounds_toArray, List.set_cons_zero, List.set_cons_succ]
  refine wpAnyH_ready (rs := [34]) (by kernel_rfl) (by simp) ?_
  refine AllReadyH.cons (o := ⟨some 75, Op.call { callee := Callee.value (Operand.func 7), args := #[], argTypes := #[] }, 4, _, #[{ on := 33, ground := Ground.chain }, { on := 33, ground := Ground.guard }], some (33, true)⟩) rfl (fun K hK => ?_) AllReadyH.nil
  go_simp
  refine (wakes5_any _).mono ?_
  rintro e wr7 ⟨rfl, hb⟩
  go_wp2_with fail
  have hB2 := bthen hHeld hb
  clear hHeld hb
  refine hK.out _ _ hB2 (fun hHeld => ?_)
  clear hB2 hK K
  try simp only [Act.put, List.setIfInBounds_toArray, List.set_cons_zero, List.set_cons_succ]
  refine wpAnyH_take (i := 35) (oi := ⟨some 76, Op.pick (Operand.tmp 74) (Operand.tmp 75) (Operand.const (Value.bool false)), 4, _, #[{ on := 33, ground := Ground.data }, { on := 34, ground := Ground.data }], none⟩) (v := ?v35) rfl (by kernel_rfl) (by kernel_rfl) (by kernel_rfl) (fun _ _ _ h => h) (Or.inl ⟨by rfl, ?hy35⟩) hHeld ?rest35
  case hy35 => (intro w' hSw; go_simp; try with_reducible rfl)
  try simp only [Act.put, List.setIfInBounds_toArray, List.set_cons_zero, List.set_cons_succ]
  refine wpAnyH_take (i := 36) (oi := ⟨some 6, Op.assign (Operand.tmp 76), 4, _, #[{ on := 35, ground := Ground.data }, { on := 34, ground := Ground.chain }, { on := 0, ground := Ground.phase }, { on := 1, ground := Ground.phase }, { on := 2, ground := Ground.phase }, { on := 3, ground := Ground.phase }, { on := 4, ground := Ground.phase }, { on := 5, ground := Ground.phase }, { on := 6, ground := Ground.phase }, { on := 7, ground := Ground.phase }, { on := 8, ground := Ground.phase }, { on := 9, ground := Ground.phase }, { on := 10, ground := Ground.phase }, { on := 11, ground := Ground.phase }, { on := 12, ground := Ground.phase }, { on := 13, ground := Ground.phase }, { on := 14, ground := Ground.phase }, { on := 15, ground := Ground.phase }, { on := 16, ground := Ground.phase }, { on := 17, ground := Ground.phase }, { on := 18, ground := Ground.phase }, { on := 19, ground := Ground.phase }, { on := 20, ground := Ground.phase }, { on := 21, ground := Ground.phase }, { on := 22, ground := Ground.phase }, { on := 23, ground := Ground.phase }, { on := 24, ground := Ground.phase }, { on := 25, ground := Ground.phase }, { on := 26, ground := Ground.phase }, { on := 27, ground := Ground.phase }, { on := 28, ground := Ground.phase }, { on := 29, ground := Ground.phase }, { on := 30, ground := Ground.phase }, { on := 31, ground := Ground.phase }, { on := 32, ground := Ground.phase }, { on := 33, ground := Ground.phase }, { on := 34, ground := Ground.phase }, { on := 35, ground := Ground.phase }], none⟩) (v := ?v36) rfl (by kernel_rfl) (by kernel_rfl) (by kernel_rfl) (fun _ _ _ h => h) (Or.inl ⟨by rfl, ?hy36⟩) hHeld ?rest36
  case hy36 => (intro w' hSw; go_simp; try with_reducible rfl)
  try simp only [Act.put, List.setIfInBounds_toArray, List.set_cons_zero, List.set_cons_succ]
  refine wpAnyH_done (by kernel_rfl) ?_ _
  go_wp2_with fail
  go_ret
  exact ⟨rfl, bthen hW hHeld⟩
set_option maxHeartbeats 8000000 in
theorem invalSplit_t (s ea ep ef : Int) (ro : Bool) (sa sl sp sf : Int) (w : World) (h1 : 0 ≤ ea) (h2 : ea ≤ 255) (h3 : ep < 34359738368) (h4 : 0 ≤ s) (h5 : s ≤ 255) (hs : stepB 2 s ep sa sl sp = true) :
    Calls Try.prog 3 #[.int .i64 s, .agg #[.int .i64 ea, .int .u64 ep, .int .i64 ef, .bool ro], .agg #[.int .i64 sa, .int .i8 sl, .int .u64 sp, .int .i64 sf]] w fun e w' => e = .returned (.bool true) ∧ Below w.heap.size w w' := by
  obtain ⟨e1, e2, e3⟩ := split_page (ea := ea) h4 h5 h3
  have E1 := Lib.hid e1
  have E2 := Lib.hid e2
  have E3 := Lib.hid (e3 h1 h2)
  have S1 := Lib.hid hs
  have S2 := Lib.hid (split_step hs h4 h5)
  clear e1 e2 e3 hs
  go_enter Try.func3, Try.ntmps3
  go_wp2_with fail
  obtain ⟨hW, hR0, hR1, hR2, hR3, hR4⟩ := boxes5 w #[.int .i64 ea, .int .u64 ep, .int .i64 ef, .bool ro] #[.int .i64 sa, .int .i8 sl, .int .u64 sp, .int .i64 sf] #[.int .i8 2, .int .i64 s, .int .u64 ep] #[.int .i8 1, .int .i64 s, .int .u64 0] #[.int .i8 1, .int .i64 ea, .int .u64 0] 24 27 30 30 30
  generalize ((((w.alloc (.cells #[.int .i64 ea, .int .u64 ep, .int .i64 ef, .bool ro] 24)).alloc (.cells #[.int .i64 sa, .int .i8 sl, .int .u64 sp, .int .i64 sf] 27)).alloc (.cells #[.int .i8 2, .int .i64 s, .int .u64 ep] 30)).alloc (.cells #[.int .i8 1, .int .i64 s, .int .u64 0] 30)).alloc (.cells #[.int .i8 1, .int .i64 ea, .int .u64 0] 30) = W at hW hR0 hR1 hR2 hR3 hR4 ⊢
  have a0 := hR0.cell 0 _ rfl
  have a1 := hR0.cell 1 _ rfl
  have a2 := hR0.cell 2 _ rfl
  have a3 := hR0.cell 3 _ rfl
  have b0 := hR1.cell 0 _ rfl
  have b1 := hR1.cell 1 _ rfl
  have b2 := hR1.cell 2 _ rfl
  have b3 := hR1.cell 3 _ rfl
  have c0 := hR2.cell 0 _ rfl
  have c1 := hR2.cell 1 _ rfl
  have c2 := hR2.cell 2 _ rfl
  have d0 := hR3.cell 0 _ rfl
  have d1 := hR3.cell 1 _ rfl
  have d2 := hR3.cell 2 _ rfl
  have f0 := hR4.cell 0 _ rfl
  have f1 := hR4.cell 1 _ rfl
  have f2 := hR4.cell 2 _ rfl
  have l0 := hR0.lt
  have l1 := hR1.lt
  have l2 := hR2.lt
  have l3 := hR3.lt
  have l4 := hR4.lt
  clear hR0 hR1 hR2 hR3 hR4
  refine wp_region_held_drew (S := fun w' => Below W.heap.size W w') (by kernel_rfl) (bd (Below.refl _ _)) (fun hHeld => ?_)
  refine wpAnyH_take (i := 0) (oi := ⟨some 41, Op.load 30 (Operand.tmp 8), 30, _, #[], none⟩) (v := ?v0) rfl (by kernel_rfl) (by kernel_rfl) (by kernel_rfl) (fun _ _ _ h => h) (Or.inl ⟨by rfl, ?hy0⟩) hHeld ?rest0
  case hy0 => (intro w' hSw; obtain ⟨hcc, hff⟩ := bcell hSw; go_simp; try with_reducible rfl)
  try simp only [Act.put, List.setIfInBounds_toArray, List.set_cons_zero, List.set_cons_succ]
  refine wpAnyH_take (i := 1) (oi := ⟨some 42, Op.load 24 (Operand.tmp 4), 24, _, #[], none⟩) (v := ?v1) rfl (by kernel_rfl) (by kernel_rfl) (by kernel_rfl) (fun _ _ _ h => h) (Or.inl ⟨by rfl, ?hy1⟩) hHeld ?rest1
  case hy1 => (intro w' hSw; obtain ⟨hcc, hff⟩ := bcell hSw; go_simp; try with_reducible rfl)
  try simp only [Act.put, List.setIfInBounds_toArray, List.set_cons_zero, List.set_cons_succ]
  refine wpAnyH_take (i := 3) (oi := ⟨some 44, Op.load 30 (Operand.tmp 7), 30, _, #[], none⟩) (v := ?v3) rfl (by kernel_rfl) (by kernel_rfl) (by kernel_rfl) (fun _ _ _ h => h) (Or.inl ⟨by rfl, ?hy3⟩) hHeld ?rest3
  case hy3 => (intro w' hSw; obtain ⟨hcc, hff⟩ := bcell hSw; go_simp; try with_reducible rfl)
  try simp only [Act.put, List.setIfInBounds_toArray, List.set_cons_zero, List.set_cons_succ]
  refine wpAnyH_take (i := 4) (oi := ⟨some 45, Op.load 24 (Operand.tmp 4), 24, _, #[], none⟩) (v := ?v4) rfl (by kernel_rfl) (by kernel_rfl) (by kernel_rfl) (fun _ _ _ h => h) (Or.inl ⟨by rfl, ?hy4⟩) hHeld ?rest4
  case hy4 => (intro w' hSw; obtain ⟨hcc, hff⟩ := bcell hSw; go_simp; try with_reducible rfl)
  try simp only [Act.put, List.setIfInBounds_toArray, List.set_cons_zero, List.set_cons_succ]
  refine wpAnyH_ready (rs := [2]) (by kernel_rfl) (by simp) ?_
  refine AllReadyH.cons (o := ⟨some 43, Op.call { callee := Callee.value (Operand.func 8), args := #[Operand.tmp 41, Operand.tmp 42], argTypes := #[30, 24] }, 4, _, #[{ on := 0, ground := Ground.data }, { on := 1, ground := Ground.data }], none⟩) rfl (fun K hK => ?_) AllReadyH.nil
  go_simp
  refine (hits_any _ _ _ _ _ _ _ _).mono ?_
  rintro e wr1 ⟨rfl, hb⟩
  rw [E2.out]
  go_wp2_with fail
  have hB2 := bthen hHeld hb
  clear hHeld hb
  refine hK.out _ _ hB2 (fun hHeld => ?_)
  clear hB2 hK K
  try simp only [Act.put, List.setIfInBounds_toArray, List.set_cons_zero, List.set_cons_succ]
  refine wpAnyH_ready (rs := [5]) (by kernel_rfl) (by simp) ?_
  refine AllReadyH.cons (o := ⟨some 46, Op.call { callee := Callee.value (Operand.func 8), args := #[Operand.tmp 44, Operand.tmp 45], argTypes := #[30, 24] }, 4, _, #[{ on := 3, ground := Ground.data }, { on := 4, ground := Ground.data }, { on := 2, ground := Ground.chain }], none⟩) rfl (fun K hK => ?_) AllReadyH.nil
  go_simp
  refine (hits_any _ _ _ _ _ _ _ _).mono ?_
  rintro e wr2 ⟨rfl, hb⟩
  rw [E1.out]
  go_wp2_with fail
  have hB2 := bthen hHeld hb
  clear hHeld hb
  refine hK.out _ _ hB2 (fun hHeld => ?_)
  clear hB2 hK K
  try simp only [Act.put, List.setIfInBounds_toArray, List.set_cons_zero, List.set_cons_succ]
  refine wpAnyH_take (i := 6) (oi := ⟨some 47, Op.binOp BinOp.eql 4 (Operand.tmp 43) (Operand.tmp 46) 4, 4, _, #[{ on := 2, ground := Ground.data }, { on := 5, ground := Ground.data }], none⟩) (v := ?v6) rfl (by kernel_rfl) (by kernel_rfl) (by kernel_rfl) (fun _ _ _ h => h) (Or.inl ⟨by rfl, ?hy6⟩) hHeld ?rest6
  case hy6 => (intro w' hSw; go_simp; try with_reducible rfl)
  try simp only [Act.put, List.setIfInBounds_toArray, List.set_cons_zero, List.set_cons_succ]
  refine wpAnyH_take (i := 7) (oi := ⟨some 48, Op.move (Operand.tmp 47), 4, _, #[{ on := 6, ground := Ground.data }, { on := 5, ground := Ground.chain }], none⟩) (v := ?v7) rfl (by kernel_rfl) (by kernel_rfl) (by kernel_rfl) (fun _ _ _ h => h) (Or.inl ⟨by rfl, ?hy7⟩) hHeld ?rest7
  case hy7 => (intro w' hSw; go_simp; try with_reducible rfl)
  try simp only [Act.put, List.setIfInBounds_toArray, List.set_cons_zero, List.set_cons_succ]
  first
    | (refine wpAnyH_take (i := 8) (oi := ⟨some 49, Op.load 30 (Operand.tmp 9), 30, _, #[{ on := 7, ground := Ground.guard }], some (7, true)⟩) (v := undef) rfl (by kernel_rfl) (by kernel_rfl) (by kernel_rfl) (fun _ _ _ h => h) (Or.inr ⟨by rfl, rfl⟩) hHeld ?_)
    | (refine wpAnyH_take (i := 8) (oi := ⟨some 49, Op.load 30 (Operand.tmp 9), 30, _, #[{ on := 7, ground := Ground.guard }], some (7, true)⟩) (v := ?v8) rfl (by kernel_rfl) (by kernel_rfl) (by kernel_rfl) (fun _ _ _ h => h) (Or.inl ⟨by rfl, ?hy8⟩) hHeld ?rest8; case hy8 => (intro w' hSw; obtain ⟨hcc, hff⟩ := bcell hSw; go_simp; try with_reducible rfl))
  try simp only [Act.put, List.setIfInBounds_toArray, List.set_cons_zero, List.set_cons_succ]
  first
    | (refine wpAnyH_take (i := 9) (oi := ⟨some 50, Op.load 24 (Operand.tmp 4), 24, _, #[{ on := 7, ground := Ground.guard }], some (7, true)⟩) (v := undef) rfl (by kernel_rfl) (by kernel_rfl) (by kernel_rfl) (fun _ _ _ h => h) (Or.inr ⟨by rfl, rfl⟩) hHeld ?_)
    | (refine wpAnyH_take (i := 9) (oi := ⟨some 50, Op.load 24 (Operand.tmp 4), 24, _, #[{ on := 7, ground := Ground.guard }], some (7, true)⟩) (v := ?v9) rfl (by kernel_rfl) (by kernel_rfl) (by kernel_rfl) (fun _ _ _ h => h) (Or.inl ⟨by rfl, ?hy9⟩) hHeld ?rest9; case hy9 => (intro w' hSw; obtain ⟨hcc, hff⟩ := bcell hSw; go_simp; try with_reducible rfl))
  try simp only [Act.put, List.setIfInBounds_toArray, List.set_cons_zero, List.set_cons_succ]
  refine wpAnyH_ready (rs := [10]) (by kernel_rfl) (by simp) ?_
  refine AllReadyH.cons (o := ⟨some 51, Op.call { callee := Callee.value (Operand.func 8), args := #[Operand.tmp 49, Operand.tmp 50], argTypes := #[30, 24] }, 4, _, #[{ on := 8, ground := Ground.data }, { on := 9, ground := Ground.data }, { on := 7, ground := Ground.chain }, { on := 7, ground := Ground.guard }], some (7, true)⟩) rfl (fun K hK => ?_) AllReadyH.nil
  go_simp
  refine (hits_any _ _ _ _ _ _ _ _).mono ?_
  rintro e wr3 ⟨rfl, hb⟩
  rw [E3.out]
  go_wp2_with fail
  have hB2 := bthen hHeld hb
  clear hHeld hb
  refine hK.out _ _ hB2 (fun hHeld => ?_)
  clear hB2 hK K
  try simp only [Act.put, List.setIfInBounds_toArray, List.set_cons_zero, List.set_cons_succ]
  refine wpAnyH_take (i := 11) (oi := ⟨some 52, Op.pick (Operand.tmp 48) (Operand.tmp 51) (Operand.const (Value.bool false)), 4, _, #[{ on := 7, ground := Ground.data }, { on := 10, ground := Ground.data }], none⟩) (v := ?v11) rfl (by kernel_rfl) (by kernel_rfl) (by kernel_rfl) (fun _ _ _ h => h) (Or.inl ⟨by rfl, ?hy11⟩) hHeld ?rest11
  case hy11 => (intro w' hSw; go_simp; try with_reducible rfl)
  try simp only [Act.put, List.setIfInBounds_toArray, List.set_cons_zero, List.set_cons_succ]
  refine wpAnyH_take (i := 12) (oi := ⟨some 53, Op.move (Operand.tmp 52), 4, _, #[{ on := 11, ground := Ground.data }, { on := 10, ground := Ground.chain }], none⟩) (v := ?v12) rfl (by kernel_rfl) (by kernel_rfl) (by kernel_rfl) (fun _ _ _ h => h) (Or.inl ⟨by rfl, ?hy12⟩) hHeld ?rest12
  case hy12 => (intro w' hSw; go_simp; try with_reducible rfl)
  try simp only [Act.put, List.setIfInBounds_toArray, List.set_cons_zero, List.set_cons_succ]
  first
    | (refine wpAnyH_take (i := 13) (oi := ⟨some 54, Op.load 30 (Operand.tmp 8), 30, _, #[{ on := 12, ground := Ground.guard }], some (12, true)⟩) (v := undef) rfl (by kernel_rfl) (by kernel_rfl) (by kernel_rfl) (fun _ _ _ h => h) (Or.inr ⟨by rfl, rfl⟩) hHeld ?_)
    | (refine wpAnyH_take (i := 13) (oi := ⟨some 54, Op.load 30 (Operand.tmp 8), 30, _, #[{ on := 12, ground := Ground.guard }], some (12, true)⟩) (v := ?v13) rfl (by kernel_rfl) (by kernel_rfl) (by kernel_rfl) (fun _ _ _ h => h) (Or.inl ⟨by rfl, ?hy13⟩) hHeld ?rest13; case hy13 => (intro w' hSw; obtain ⟨hcc, hff⟩ := bcell hSw; go_simp; try with_reducible rfl))
  try simp only [Act.put, List.setIfInBounds_toArray, List.set_cons_zero, List.set_cons_succ]
  first
    | (refine wpAnyH_take (i := 14) (oi := ⟨some 55, Op.load 24 (Operand.tmp 4), 24, _, #[{ on := 12, ground := Ground.guard }], some (12, true)⟩) (v := undef) rfl (by kernel_rfl) (by kernel_rfl) (by kernel_rfl) (fun _ _ _ h => h) (Or.inr ⟨by rfl, rfl⟩) hHeld ?_)
    | (refine wpAnyH_take (i := 14) (oi := ⟨some 55, Op.load 24 (Operand.tmp 4), 24, _, #[{ on := 12, ground := Ground.guard }], some (12, true)⟩) (v := ?v14) rfl (by kernel_rfl) (by kernel_rfl) (by kernel_rfl) (fun _ _ _ h => h) (Or.inl ⟨by rfl, ?hy14⟩) hHeld ?rest14; case hy14 => (intro w' hSw; obtain ⟨hcc, hff⟩ := bcell hSw; go_simp; try with_reducible rfl))
  try simp only [Act.put, List.setIfInBounds_toArray, List.set_cons_zero, List.set_cons_succ]
  first
    | (refine wpAnyH_take (i := 16) (oi := ⟨some 57, Op.move (Operand.tmp 0), 3, _, #[{ on := 12, ground := Ground.guard }], some (12, true)⟩) (v := undef) rfl (by kernel_rfl) (by kernel_rfl) (by kernel_rfl) (fun _ _ _ h => h) (Or.inr ⟨by rfl, rfl⟩) hHeld ?_)
    | (refine wpAnyH_take (i := 16) (oi := ⟨some 57, Op.move (Operand.tmp 0), 3, _, #[{ on := 12, ground := Ground.guard }], some (12, true)⟩) (v := ?v16) rfl (by kernel_rfl) (by kernel_rfl) (by kernel_rfl) (fun _ _ _ h => h) (Or.inl ⟨by rfl, ?hy16⟩) hHeld ?rest16; case hy16 => (intro w' hSw; go_simp; try with_reducible rfl))
  try simp only [Act.put, List.setIfInBounds_toArray, List.set_cons_zero, List.set_cons_succ]
  first
    | (refine wpAnyH_take (i := 17) (oi := ⟨some 58, Op.fieldAddr 24 (Operand.tmp 4) 0, 0, _, #[{ on := 12, ground := Ground.guard }], some (12, true)⟩) (v := undef) rfl (by kernel_rfl) (by kernel_rfl) (by kernel_rfl) (fun _ _ _ h => h) (Or.inr ⟨by rfl, rfl⟩) hHeld ?_)
    | (refine wpAnyH_take (i := 17) (oi := ⟨some 58, Op.fieldAddr 24 (Operand.tmp 4) 0, 0, _, #[{ on := 12, ground := Ground.guard }], some (12, true)⟩) (v := ?v17) rfl (by kernel_rfl) (by kernel_rfl) (by kernel_rfl) (fun _ _ _ h => h) (Or.inl ⟨by rfl, ?hy17⟩) hHeld ?rest17; case hy17 => (intro w' hSw; go_simp; try with_reducible rfl))
  try simp only [Act.put, List.setIfInBounds_toArray, List.set_cons_zero, List.set_cons_succ]
  first
    | (refine wpAnyH_take (i := 18) (oi := ⟨some 59, Op.load 3 (Operand.tmp 58), 3, _, #[{ on := 17, ground := Ground.data }, { on := 12, ground := Ground.guard }], some (12, true)⟩) (v := undef) rfl (by kernel_rfl) (by kernel_rfl) (by kernel_rfl) (fun _ _ _ h => h) (Or.inr ⟨by rfl, rfl⟩) hHeld ?_)
    | (refine wpAnyH_take (i := 18) (oi := ⟨some 59, Op.load 3 (Operand.tmp 58), 3, _, #[{ on := 17, ground := Ground.data }, { on := 12, ground := Ground.guard }], some (12, true)⟩) (v := ?v18) rfl (by kernel_rfl) (by kernel_rfl) (by kernel_rfl) (fun _ _ _ h => h) (Or.inl ⟨by rfl, ?hy18⟩) hHeld ?rest18; case hy18 => (intro w' hSw; obtain ⟨hcc, hff⟩ := bcell hSw; go_simp; try with_reducible rfl))
  try simp only [Act.put, List.setIfInBounds_toArray, List.set_cons_zero, List.set_cons_succ]
  first
    | (refine wpAnyH_take (i := 19) (oi := ⟨some 60, Op.binOp BinOp.eql 3 (Operand.tmp 57) (Operand.tmp 59) 3, 4, _, #[{ on := 16, ground := Ground.data }, { on := 18, ground := Ground.data }, { on := 12, ground := Ground.guard }], some (12, true)⟩) (v := undef) rfl (by kernel_rfl) (by kernel_rfl) (by kernel_rfl) (fun _ _ _ h => h) (Or.inr ⟨by rfl, rfl⟩) hHeld ?_)
    | (refine wpAnyH_take (i := 19) (oi := ⟨some 60, Op.binOp BinOp.eql 3 (Operand.tmp 57) (Operand.tmp 59) 3, 4, _, #[{ on := 16, ground := Ground.data }, { on := 18, ground := Ground.data }, { on := 12, ground := Ground.guard }], some (12, true)⟩) (v := ?v19) rfl (by kernel_rfl) (by kernel_rfl) (by kernel_rfl) (fun _ _ _ h => h) (Or.inl ⟨by rfl, ?hy19⟩) hHeld ?rest19; case hy19 => (intro w' hSw; go_simp; try with_reducible rfl))
  try simp only [Act.put, List.setIfInBounds_toArray, List.set_cons_zero, List.set_cons_succ]
  refine wpAnyH_ready (rs := [15]) (by kernel_rfl) (by simp) ?_
  refine AllReadyH.cons (o := ⟨some 56, Op.call { callee := Callee.value (Operand.func 8), args := #[Operand.tmp 54, Operand.tmp 55], argTypes := #[30, 24] }, 4, _, #[{ on := 13, ground := Ground.data }, { on := 14, ground := Ground.data }, { on := 12, ground := Ground.chain }, { on := 12, ground := Ground.guard }], some (12, true)⟩) rfl (fun K hK => ?_) AllReadyH.nil
  go_simp
  refine (hits_any _ _ _ _ _ _ _ _).mono ?_
  rintro e wr4 ⟨rfl, hb⟩
  rw [E2.out]
  go_wp2_with fail
  have hB2 := bthen hHeld hb
  clear hHeld hb
  refine hK.out _ _ hB2 (fun hHeld => ?_)
  clear hB2 hK K
  try simp only [Act.put, List.setIfInBounds_toArray, List.set_cons_zero, List.set_cons_succ]
  first
    | (refine wpAnyH_take (i := 20) (oi := ⟨some 61, Op.binOp BinOp.eql 4 (Operand.tmp 56) (Operand.tmp 60) 4, 4, _, #[{ on := 15, ground := Ground.data }, { on := 19, ground := Ground.data }, { on := 12, ground := Ground.guard }], some (12, true)⟩) (v := undef) rfl (by kernel_rfl) (by kernel_rfl) (by kernel_rfl) (fun _ _ _ h => h) (Or.inr ⟨by rfl, rfl⟩) hHeld ?_)
    | (refine wpAnyH_take (i := 20) (oi := ⟨some 61, Op.binOp BinOp.eql 4 (Operand.tmp 56) (Operand.tmp 60) 4, 4, _, #[{ on := 15, ground := Ground.data }, { on := 19, ground := Ground.data }, { on := 12, ground := Ground.guard }], some (12, true)⟩) (v := ?v20) rfl (by kernel_rfl) (by kernel_rfl) (by kernel_rfl) (fun _ _ _ h => h) (Or.inl ⟨by rfl, ?hy20⟩) hHeld ?rest20; case hy20 => (intro w' hSw; go_simp; try with_reducible rfl))
  try simp only [Act.put, List.setIfInBounds_toArray, List.set_cons_zero, List.set_cons_succ]
  refine wpAnyH_take (i := 21) (oi := ⟨some 62, Op.pick (Operand.tmp 53) (Operand.tmp 61) (Operand.const (Value.bool false)), 4, _, #[{ on := 12, ground := Ground.data }, { on := 20, ground := Ground.data }], none⟩) (v := ?v21) rfl (by kernel_rfl) (by kernel_rfl) (by kernel_rfl) (fun _ _ _ h => h) (Or.inl ⟨by rfl, ?hy21⟩) hHeld ?rest21
  case hy21 => (intro w' hSw; go_simp; try with_reducible rfl)
  try simp only [Act.put, List.setIfInBounds_toArray, List.set_cons_zero, List.set_cons_succ]
  refine wpAnyH_take (i := 22) (oi := ⟨some 63, Op.move (Operand.tmp 62), 4, _, #[{ on := 21, ground := Ground.data }, { on := 15, ground := Ground.chain }], none⟩) (v := ?v22) rfl (by kernel_rfl) (by kernel_rfl) (by kernel_rfl) (fun _ _ _ h => h) (Or.inl ⟨by rfl, ?hy22⟩) hHeld ?rest22
  case hy22 => (intro w' hSw; go_simp; try with_reducible rfl)
  try simp only [Act.put, List.setIfInBounds_toArray, List.set_cons_zero, List.set_cons_succ]
  first
    | (refine wpAnyH_take (i := 23) (oi := ⟨some 64, Op.load 30 (Operand.tmp 7), 30, _, #[{ on := 22, ground := Ground.guard }], some (22, true)⟩) (v := undef) rfl (by kernel_rfl) (by kernel_rfl) (by kernel_rfl) (fun _ _ _ h => h) (Or.inr ⟨by rfl, rfl⟩) hHeld ?_)
    | (refine wpAnyH_take (i := 23) (oi := ⟨some 64, Op.load 30 (Operand.tmp 7), 30, _, #[{ on := 22, ground := Ground.guard }], some (22, true)⟩) (v := ?v23) rfl (by kernel_rfl) (by kernel_rfl) (by kernel_rfl) (fun _ _ _ h => h) (Or.inl ⟨by rfl, ?hy23⟩) hHeld ?rest23; case hy23 => (intro w' hSw; obtain ⟨hcc, hff⟩ := bcell hSw; go_simp; try with_reducible rfl))
  try simp only [Act.put, List.setIfInBounds_toArray, List.set_cons_zero, List.set_cons_succ]
  first
    | (refine wpAnyH_take (i := 24) (oi := ⟨some 65, Op.load 27 (Operand.tmp 5), 27, _, #[{ on := 22, ground := Ground.guard }], some (22, true)⟩) (v := undef) rfl (by kernel_rfl) (by kernel_rfl) (by kernel_rfl) (fun _ _ _ h => h) (Or.inr ⟨by rfl, rfl⟩) hHeld ?_)
    | (refine wpAnyH_take (i := 24) (oi := ⟨some 65, Op.load 27 (Operand.tmp 5), 27, _, #[{ on := 22, ground := Ground.guard }], some (22, true)⟩) (v := ?v24) rfl (by kernel_rfl) (by kernel_rfl) (by kernel_rfl) (fun _ _ _ h => h) (Or.inl ⟨by rfl, ?hy24⟩) hHeld ?rest24; case hy24 => (intro w' hSw; obtain ⟨hcc, hff⟩ := bcell hSw; go_simp; try with_reducible rfl))
  try simp only [Act.put, List.setIfInBounds_toArray, List.set_cons_zero, List.set_cons_succ]
  refine wpAnyH_ready (rs := [25]) (by kernel_rfl) (by simp) ?_
  refine AllReadyH.cons (o := ⟨some 66, Op.call { callee := Callee.value (Operand.func 9), args := #[Operand.tmp 64, Operand.tmp 65], argTypes := #[30, 27] }, 4, _, #[{ on := 23, ground := Ground.data }, { on := 24, ground := Ground.data }, { on := 22, ground := Ground.chain }, { on := 22, ground := Ground.guard }], some (22, true)⟩) rfl (fun K hK => ?_) AllReadyH.nil
  go_simp
  refine (hitsStep_any _ _ _ _ _ _ _ _).mono ?_
  rintro e wr5 ⟨rfl, hb⟩
  rw [S1.out]
  go_wp2_with fail
  have hB2 := bthen hHeld hb
  clear hHeld hb
  refine hK.out _ _ hB2 (fun hHeld => ?_)
  clear hB2 hK K
  try simp only [Act.put, List.setIfInBounds_toArray, List.set_cons_zero, List.set_cons_succ]
  first
    | (refine wpAnyH_take (i := 26) (oi := ⟨some 67, Op.unOp UnOp.not 4 (Operand.tmp 66), 4, _, #[{ on := 25, ground := Ground.data }, { on := 22, ground := Ground.guard }], some (22, true)⟩) (v := undef) rfl (by kernel_rfl) (by kernel_rfl) (by kernel_rfl) (fun _ _ _ h => h) (Or.inr ⟨by rfl, rfl⟩) hHeld ?_)
    | (refine wpAnyH_take (i := 26) (oi := ⟨some 67, Op.unOp UnOp.not 4 (Operand.tmp 66), 4, _, #[{ on := 25, ground := Ground.data }, { on := 22, ground := Ground.guard }], some (22, true)⟩) (v := ?v26) rfl (by kernel_rfl) (by kernel_rfl) (by kernel_rfl) (fun _ _ _ h => h) (Or.inl ⟨by rfl, ?hy26⟩) hHeld ?rest26; case hy26 => (intro w' hSw; go_simp; try with_reducible rfl))
  try simp only [Act.put, List.setIfInBounds_toArray, List.set_cons_zero, List.set_cons_succ]
  first
    | (refine wpAnyH_take (i := 27) (oi := ⟨some 68, Op.move (Operand.tmp 67), 4, _, #[{ on := 26, ground := Ground.data }, { on := 25, ground := Ground.chain }, { on := 22, ground := Ground.guard }], some (22, true)⟩) (v := undef) rfl (by kernel_rfl) (by kernel_rfl) (by kernel_rfl) (fun _ _ _ h => h) (Or.inr ⟨by rfl, rfl⟩) hHeld ?_)
    | (refine wpAnyH_take (i := 27) (oi := ⟨some 68, Op.move (Operand.tmp 67), 4, _, #[{ on := 26, ground := Ground.data }, { on := 25, ground := Ground.chain }, { on := 22, ground := Ground.guard }], some (22, true)⟩) (v := ?v27) rfl (by kernel_rfl) (by kernel_rfl) (by kernel_rfl) (fun _ _ _ h => h) (Or.inl ⟨by rfl, ?hy27⟩) hHeld ?rest27; case hy27 => (intro w' hSw; go_simp; try with_reducible rfl))
  try simp only [Act.put, List.setIfInBounds_toArray, List.set_cons_zero, List.set_cons_succ]
  first
    | (refine wpAnyH_take (i := 28) (oi := ⟨some 69, Op.load 30 (Operand.tmp 8), 30, _, #[{ on := 27, ground := Ground.guard }], some (27, false)⟩) (v := undef) rfl (by kernel_rfl) (by kernel_rfl) (by kernel_rfl) (fun _ _ _ h => h) (Or.inr ⟨by rfl, rfl⟩) hHeld ?_)
    | (refine wpAnyH_take (i := 28) (oi := ⟨some 69, Op.load 30 (Operand.tmp 8), 30, _, #[{ on := 27, ground := Ground.guard }], some (27, false)⟩) (v := ?v28) rfl (by kernel_rfl) (by kernel_rfl) (by kernel_rfl) (fun _ _ _ h => h) (Or.inl ⟨by rfl, ?hy28⟩) hHeld ?rest28; case hy28 => (intro w' hSw; obtain ⟨hcc, hff⟩ := bcell hSw; go_simp; try with_reducible rfl))
  try simp only [Act.put, List.setIfInBounds_toArray, List.set_cons_zero, List.set_cons_succ]
  first
    | (refine wpAnyH_take (i := 29) (oi := ⟨some 70, Op.load 27 (Operand.tmp 5), 27, _, #[{ on := 27, ground := Ground.guard }], some (27, false)⟩) (v := undef) rfl (by kernel_rfl) (by kernel_rfl) (by kernel_rfl) (fun _ _ _ h => h) (Or.inr ⟨by rfl, rfl⟩) hHeld ?_)
    | (refine wpAnyH_take (i := 29) (oi := ⟨some 70, Op.load 27 (Operand.tmp 5), 27, _, #[{ on := 27, ground := Ground.guard }], some (27, false)⟩) (v := ?v29) rfl (by kernel_rfl) (by kernel_rfl) (by kernel_rfl) (fun _ _ _ h => h) (Or.inl ⟨by rfl, ?hy29⟩) hHeld ?rest29; case hy29 => (intro w' hSw; obtain ⟨hcc, hff⟩ := bcell hSw; go_simp; try with_reducible rfl))
  try simp only [Act.put, List.setIfInBounds_toArray, List.set_cons_zero, List.set_cons_succ]
  refine wpAnyH_ready (rs := [30]) (by kernel_rfl) (by simp) ?_
  refine AllReadyH.cons (o := ⟨some 71, Op.call { callee := Callee.value (Operand.func 9), args := #[Operand.tmp 69, Operand.tmp 70], argTypes := #[30, 27] }, 4, _, #[{ on := 28, ground := Ground.data }, { on := 29, ground := Ground.data }, { on := 27, ground := Ground.chain }, { on := 27, ground := Ground.guard }], some (27, false)⟩) rfl (fun K hK => ?_) AllReadyH.nil
  go_simp
  refine (hitsStep_any _ _ _ _ _ _ _ _).mono ?_
  rintro e wr6 ⟨rfl, hb⟩
  rw [S2.out]
  go_wp2_with fail
  have hB2 := bthen hHeld hb
  clear hHeld hb
  refine hK.out _ _ hB2 (fun hHeld => ?_)
  clear hB2 hK K
  try simp only [Act.put, List.setIfInBounds_toArray, List.set_cons_zero, List.set_cons_succ]
  first
    | (refine wpAnyH_take (i := 31) (oi := ⟨some 72, Op.pick (Operand.tmp 68) (Operand.const (Value.bool true)) (Operand.tmp 71), 4, _, #[{ on := 27, ground := Ground.data }, { on := 30, ground := Ground.data }, { on := 22, ground := Ground.guard }], some (22, true)⟩) (v := undef) rfl (by kernel_rfl) (by kernel_rfl) (by kernel_rfl) (fun _ _ _ h => h) (Or.inr ⟨by rfl, rfl⟩) hHeld ?_)
    | (refine wpAnyH_take (i := 31) (oi := ⟨some 72, Op.pick (Operand.tmp 68) (Operand.const (Value.bool true)) (Operand.tmp 71), 4, _, #[{ on := 27, ground := Ground.data }, { on := 30, ground := Ground.data }, { on := 22, ground := Ground.guard }], some (22, true)⟩) (v := ?v31) rfl (by kernel_rfl) (by kernel_rfl) (by kernel_rfl) (fun _ _ _ h => h) (Or.inl ⟨by rfl, ?hy31⟩) hHeld ?rest31; case hy31 => (intro w' hSw; go_simp; try with_reducible rfl))
  try simp only [Act.put, List.setIfInBounds_toArray, List.set_cons_zero, List.set_cons_succ]
  refine wpAnyH_take (i := 32) (oi := ⟨some 73, Op.pick (Operand.tmp 63) (Operand.tmp 72) (Operand.const (Value.bool false)), 4, _, #[{ on := 22, ground := Ground.data }, { on := 31, ground := Ground.data }], none⟩) (v := ?v32) rfl (by kernel_rfl) (by kernel_rfl) (by kernel_rfl) (fun _ _ _ h => h) (Or.inl ⟨by rfl, ?hy32⟩) hHeld ?rest32
  case hy32 => (intro w' hSw; go_simp; try with_reducible rfl)
  try simp only [Act.put, List.setIfInBounds_toArray, List.set_cons_zero, List.set_cons_succ]
  refine wpAnyH_take (i := 33) (oi := ⟨some 74, Op.move (Operand.tmp 73), 4, _, #[{ on := 32, ground := Ground.data }, { on := 30, ground := Ground.chain }], none⟩) (v := ?v33) rfl (by kernel_rfl) (by kernel_rfl) (by kernel_rfl) (fun _ _ _ h => h) (Or.inl ⟨by rfl, ?hy33⟩) hHeld ?rest33
  case hy33 => (intro w' hSw; go_simp; try with_reducible rfl)
  try simp only [Act.put, List.setIfInBounds_toArray, List.set_cons_zero, List.set_cons_succ]
  refine wpAnyH_ready (rs := [34]) (by kernel_rfl) (by simp) ?_
  refine AllReadyH.cons (o := ⟨some 75, Op.call { callee := Callee.value (Operand.func 7), args := #[], argTypes := #[] }, 4, _, #[{ on := 33, ground := Ground.chain }, { on := 33, ground := Ground.guard }], some (33, true)⟩) rfl (fun K hK => ?_) AllReadyH.nil
  go_simp
  refine (wakes5_any _).mono ?_
  rintro e wr7 ⟨rfl, hb⟩
  go_wp2_with fail
  have hB2 := bthen hHeld hb
  clear hHeld hb
  refine hK.out _ _ hB2 (fun hHeld => ?_)
  clear hB2 hK K
  try simp only [Act.put, List.setIfInBounds_toArray, List.set_cons_zero, List.set_cons_succ]
  refine wpAnyH_take (i := 35) (oi := ⟨some 76, Op.pick (Operand.tmp 74) (Operand.tmp 75) (Operand.const (Value.bool false)), 4, _, #[{ on := 33, ground := Ground.data }, { on := 34, ground := Ground.data }], none⟩) (v := ?v35) rfl (by kernel_rfl) (by kernel_rfl) (by kernel_rfl) (fun _ _ _ h => h) (Or.inl ⟨by rfl, ?hy35⟩) hHeld ?rest35
  case hy35 => (intro w' hSw; go_simp; try with_reducible rfl)
  try simp only [Act.put, List.setIfInBounds_toArray, List.set_cons_zero, List.set_cons_succ]
  refine wpAnyH_take (i := 36) (oi := ⟨some 6, Op.assign (Operand.tmp 76), 4, _, #[{ on := 35, ground := Ground.data }, { on := 34, ground := Ground.chain }, { on := 0, ground := Ground.phase }, { on := 1, ground := Ground.phase }, { on := 2, ground := Ground.phase }, { on := 3, ground := Ground.phase }, { on := 4, ground := Ground.phase }, { on := 5, ground := Ground.phase }, { on := 6, ground := Ground.phase }, { on := 7, ground := Ground.phase }, { on := 8, ground := Ground.phase }, { on := 9, ground := Ground.phase }, { on := 10, ground := Ground.phase }, { on := 11, ground := Ground.phase }, { on := 12, ground := Ground.phase }, { on := 13, ground := Ground.phase }, { on := 14, ground := Ground.phase }, { on := 15, ground := Ground.phase }, { on := 16, ground := Ground.phase }, { on := 17, ground := Ground.phase }, { on := 18, ground := Ground.phase }, { on := 19, ground := Ground.phase }, { on := 20, ground := Ground.phase }, { on := 21, ground := Ground.phase }, { on := 22, ground := Ground.phase }, { on := 23, ground := Ground.phase }, { on := 24, ground := Ground.phase }, { on := 25, ground := Ground.phase }, { on := 26, ground := Ground.phase }, { on := 27, ground := Ground.phase }, { on := 28, ground := Ground.phase }, { on := 29, ground := Ground.phase }, { on := 30, ground := Ground.phase }, { on := 31, ground := Ground.phase }, { on := 32, ground := Ground.phase }, { on := 33, ground := Ground.phase }, { on := 34, ground := Ground.phase }, { on := 35, ground := Ground.phase }], none⟩) (v := ?v36) rfl (by kernel_rfl) (by kernel_rfl) (by kernel_rfl) (fun _ _ _ h => h) (Or.inl ⟨by rfl, ?hy36⟩) hHeld ?rest36
  case hy36 => (intro w' hSw; go_simp; try with_reducible rfl)
  try simp only [Act.put, List.setIfInBounds_toArray, List.set_cons_zero, List.set_cons_succ]
  refine wpAnyH_done (by kernel_rfl) ?_ _
  go_wp2_with fail
  go_ret
  exact ⟨rfl, bthen hW hHeld⟩
theorem invalSplit_any (s ea ep ef : Int) (ro : Bool) (sa sl sp sf : Int) (w : World) :
    Calls Try.prog 3 #[.int .i64 s, .agg #[.int .i64 ea, .int .u64 ep, .int .i64 ef, .bool ro], .agg #[.int .i64 sa, .int .i8 sl, .int .u64 sp, .int .i64 sf]] w fun e w' => e = .returned (.bool true) ∧ Below w.heap.size w w' := by
  by_cases h : 0 ≤ ea ∧ ea ≤ 255 ∧ ep < 34359738368 ∧ 0 ≤ s ∧ s ≤ 255
  · obtain ⟨h1, h2, h3, h4, h5⟩ := h
    rcases hs : stepB 2 s ep sa sl sp with _ | _
    · exact invalSplit_f s ea ep ef ro sa sl sp sf w h1 h2 h3 h4 h5 hs
    · exact invalSplit_t s ea ep ef ro sa sl sp sf w h1 h2 h3 h4 h5 hs
  · exact invalSplit_out s ea ep ef ro sa sl sp sf w (by omega)
end Go.Proofs.Ytlmfmpmcgokbeaa
