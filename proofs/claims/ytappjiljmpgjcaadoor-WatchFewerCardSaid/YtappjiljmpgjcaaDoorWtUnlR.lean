/-
  Layer 29: the drawn regions of Unlike and Foreign (printed by gen/wtunlike.py).
-/
import Derived.Test.YtappjiljmpgjcaaDoorWtUnl1
import Derived.Deep.RegionHeld
import Derived.Deep.RegionHeld3
namespace Go.Proofs.YtappjiljmpgjcaaDoor
open Go.RowKit Go.Maps
set_option linter.unusedVariables false
set_option linter.unusedSimpArgs false
/-- What roots does. -/
def RootsDo (s : Sn) (w : World) (by' : Int → List Int) : Prop := ∀ w', Below w.heap.size w w' → Calls Tryd.prog 17 #[snA s] w' fun e w2 => ∃ M, e = .returned (.map (some M)) ∧ ByM (fun y => w'.heap.size ≤ y) w2 M by' ∧ Below w'.heap.size w' w2
/-- The blocks that are not the view's. -/
abbrev Oth (a b : Nat) : Nat → Prop := fun y => ¬ (a ≤ y ∧ y < b)

theorem byM_far {U : Nat → Prop} {w w' : World} {M g : Nat} {t : TypeId} {cs : Array Value} {by' : Int → List Int} (h : ByM U w M by') (hb : Bk w g t cs) (hc : cs.toList.all (fun v => match v with | .int _ _ => false | _ => true) = true) (hk : Keeps (fun x => x = g) w w') : ByM U w' M by' := by
  obtain ⟨hM, K, on, h1, h2⟩ := h
  refine ⟨hM, K, on, h1.keep hk (fun e => h1.ne_bk hb e.symm), fun a ha => ?_⟩
  obtain ⟨O, cap, e1, e2, e3, e4, e5⟩ := h2 a ha
  refine ⟨O, cap, e1, fun h0 => ?_, e3, e4, e5⟩
  obtain ⟨b, off, e, hcc⟩ := e2 h0
  refine ⟨b, off, e, fun i x hi j u hu => ?_⟩
  have h3 := hcc i x hi j u hu
  have hlt : b < w.heap.size := World.block_lt_of_cell? w ⟨b, off + i * 1 + j, none⟩ h3
  refine (World.cell?_of_block (a := ⟨b, off + i * 1 + j, none⟩) (hk.block b hlt (fun eg => ?_))).trans h3
  have eg' : b = g := eg
  subst eg'
  rw [hb.cell] at h3
  have hmem : u ∈ cs.toList := by
    have := List.mem_of_getElem? (l := cs.toList) (by simpa using h3)
    exact this
  have := List.all_eq_true.1 hc u hmem
  match j, hu with
  | 0, hu => simp [encI] at hu; subst hu; simp at this
abbrev unOps : Array Oper := #[{ dst := some 8, op := Go.Op.load 26 (Go.Operand.tmp 1), type := 26, pos := "watch.go:118", after := #[], guard := none }, { dst := some 9, op := Go.Op.call { callee := Go.Callee.value (Go.Operand.func 14), args := #[Go.Operand.tmp 8], argTypes := #[26] }, type := 63, pos := "watch.go:118", after := #[{ on := 0, ground := Go.Ground.data }], guard := none }, { dst := some 10, op := Go.Op.load 26 (Go.Operand.tmp 1), type := 26, pos := "watch.go:118", after := #[], guard := none }, { dst := some 11, op := Go.Op.call { callee := Go.Callee.value (Go.Operand.func 16), args := #[Go.Operand.tmp 10], argTypes := #[26] }, type := 69, pos := "watch.go:118", after := #[{ on := 2, ground := Go.Ground.data }, { on := 1, ground := Go.Ground.chain }], guard := none }, { dst := some 12, op := Go.Op.load 26 (Go.Operand.tmp 1), type := 26, pos := "watch.go:118", after := #[], guard := none }, { dst := some 13, op := Go.Op.call { callee := Go.Callee.value (Go.Operand.func 17), args := #[Go.Operand.tmp 12], argTypes := #[26] }, type := 71, pos := "watch.go:118", after := #[{ on := 4, ground := Go.Ground.data }, { on := 3, ground := Go.Ground.chain }], guard := none }, { dst := some 5, op := Go.Op.alloc 63, type := 0, pos := "watch.go:118", after := #[], guard := none }, { dst := some 6, op := Go.Op.alloc 69, type := 0, pos := "watch.go:118", after := #[], guard := none }, { dst := some 7, op := Go.Op.alloc 71, type := 0, pos := "watch.go:118", after := #[], guard := none }, { dst := none, op := Go.Op.store 63 (Go.Operand.tmp 5) (Go.Operand.tmp 9), type := 0, pos := "watch.go:118", after := #[{ on := 6, ground := Go.Ground.data }, { on := 1, ground := Go.Ground.data }, { on := 5, ground := Go.Ground.chain }, { on := 0, ground := Go.Ground.phase }, { on := 1, ground := Go.Ground.phase }, { on := 2, ground := Go.Ground.textOnly Go.Departure.lateStores }, { on := 3, ground := Go.Ground.textOnly Go.Departure.lateStoresUnsure }, { on := 4, ground := Go.Ground.textOnly Go.Departure.lateStores }, { on := 5, ground := Go.Ground.textOnly Go.Departure.lateStoresUnsure }, { on := 6, ground := Go.Ground.phase }, { on := 7, ground := Go.Ground.phase }, { on := 8, ground := Go.Ground.phase }], guard := none }, { dst := none, op := Go.Op.store 69 (Go.Operand.tmp 6) (Go.Operand.tmp 11), type := 0, pos := "watch.go:118", after := #[{ on := 7, ground := Go.Ground.data }, { on := 3, ground := Go.Ground.data }, { on := 9, ground := Go.Ground.chain }, { on := 0, ground := Go.Ground.phase }, { on := 1, ground := Go.Ground.phase }, { on := 2, ground := Go.Ground.phase }, { on := 3, ground := Go.Ground.phase }, { on := 4, ground := Go.Ground.textOnly Go.Departure.lateStores }, { on := 5, ground := Go.Ground.textOnly Go.Departure.lateStoresUnsure }, { on := 6, ground := Go.Ground.phase }, { on := 7, ground := Go.Ground.phase }, { on := 8, ground := Go.Ground.phase }, { on := 9, ground := Go.Ground.phase }], guard := none }, { dst := none, op := Go.Op.store 71 (Go.Operand.tmp 7) (Go.Operand.tmp 13), type := 0, pos := "watch.go:118", after := #[{ on := 8, ground := Go.Ground.data }, { on := 5, ground := Go.Ground.data }, { on := 10, ground := Go.Ground.chain }, { on := 0, ground := Go.Ground.phase }, { on := 1, ground := Go.Ground.phase }, { on := 2, ground := Go.Ground.phase }, { on := 3, ground := Go.Ground.phase }, { on := 4, ground := Go.Ground.phase }, { on := 5, ground := Go.Ground.phase }, { on := 6, ground := Go.Ground.phase }, { on := 7, ground := Go.Ground.phase }, { on := 8, ground := Go.Ground.phase }, { on := 9, ground := Go.Ground.phase }, { on := 10, ground := Go.Ground.phase }], guard := none }]
set_option maxRecDepth 100000 in
set_option maxHeartbeats 4000000 in
theorem un_region (Q : Exit → Go.Act → World → Prop) (s : Sn) (w W0 : World) (by' : Int → List Int) (B0 : Nat) (hs : s.Given w) (hm : Sml s) (hr : RootsDo s w by') (hB0 : w.heap.size ≤ B0) (hB : Below w.heap.size w W0) (hS : Bk W0 B0 26 (snR s))
    (hQ : ∀ (W : World) (P a b M M2 T5 T6 T7 : Nat), Below w.heap.size w W → Bk W B0 26 (snR s) → Vx w (Oth a b) W P s .no → b ≤ W.heap.size → NmM W M (ents s.cl) → w.heap.size ≤ M ∧ Oth a b M → ByM (fun y => w.heap.size ≤ y ∧ Oth a b y) W M2 by' → Bk W T5 63 #[.pointer (some ⟨P, 0, none⟩)] → w.heap.size ≤ T5 → Oth a b T5 → Bk W T6 69 #[.map (some M)] → w.heap.size ≤ T6 → Oth a b T6 → Bk W T7 71 #[.map (some M2)] → w.heap.size ≤ T7 → Oth a b T7 → Q .normal { tmps := #[snA s, .pointer (some ⟨B0, 0, none⟩), .int .i64 0, .int .i64 0, .bool false, .pointer (some ⟨T5, 0, none⟩), .pointer (some ⟨T6, 0, none⟩), .pointer (some ⟨T7, 0, none⟩), snA s, .pointer (some ⟨P, 0, none⟩), snA s, .map (some M), snA s, .map (some M2), undef, undef, undef, undef, undef, undef], defers := [] } W) :
    (Code.region 1 unOps true).wp Tryd.prog Q { tmps := #[snA s, .pointer (some ⟨B0, 0, none⟩), .int .i64 0, .int .i64 0, .bool false, undef, undef, undef, undef, undef, undef, undef, undef, undef, undef, undef, undef, undef, undef, undef], defers := [] } W0 := by
  refine wp_region_noPanic ?_
  have HQ := Lib.hid hQ
  have HR := Lib.hid hr
  have HSg := Lib.hid hs
  have HSm := Lib.hid hm
  clear hQ hr hs hm
  have n3_678 : ∀ (W : World) (P a b M M2 T5 T6 T7 : Nat), Below w.heap.size w W → Bk W B0 26 (snR s) → Vx w (Oth a b) W P s .no → b ≤ W.heap.size → NmM W M (ents s.cl) → w.heap.size ≤ M ∧ Oth a b M → ByM (fun y => w.heap.size ≤ y ∧ Oth a b y) W M2 by' → Bk W T5 63 #[.pointer none] → w.heap.size ≤ T5 → Oth a b T5 → Bk W T6 69 #[.map none] → w.heap.size ≤ T6 → Oth a b T6 → Bk W T7 71 #[.map none] → w.heap.size ≤ T7 → Oth a b T7 → wpAnyH Tryd.prog .any unOps (NoPanic Q) (fun w' => Bk w' B0 26 (snR s)) 3 #[true, true, true, true, true, true, true, true, true, false, false, false] { tmps := #[snA s, .pointer (some ⟨B0, 0, none⟩), .int .i64 0, .int .i64 0, .bool false, .pointer (some ⟨T5, 0, none⟩), .pointer (some ⟨T6, 0, none⟩), .pointer (some ⟨T7, 0, none⟩), snA s, .pointer (some ⟨P, 0, none⟩), snA s, .map (some M), snA s, .map (some M2), undef, undef, undef, undef, undef, undef], defers := [] } W := by
    intro W P a b M M2 T5 T6 T7 hB hS hV hab hN hM hY hT5 gT5 eT5 hT6 gT6 eT6 hT7 gT7 eT7
    refine wpAnyH_ready (rs := [9]) (by kernel_rfl) (by simp) ?_
    refine AllReadyH.cons (o := ⟨_, _, _, _, _, _⟩) rfl (fun K hK => ?_) AllReadyH.nil
    have c0 := hT5.cell 0
    have f0 := hT5.frozen 0
    simp only [List.getElem?_toArray, List.getElem?_cons_zero] at c0
    go_simp
    have qT6 := hT6.far (p := ⟨T5, 0, none⟩) (bk_ne hT6 hT5 (by decide)) (.pointer (some ⟨P, 0, none⟩))
    have qT7 := hT7.far (p := ⟨T5, 0, none⟩) (bk_ne hT7 hT5 (by decide)) (.pointer (some ⟨P, 0, none⟩))
    have qk : Keeps (fun x => x = T5) W (W.setCell ⟨T5, 0, none⟩ (.pointer (some ⟨P, 0, none⟩))) := Keeps.setCell (F := fun x => x = T5) rfl _
    have qT5 := hT5.set 0 (.pointer (some ⟨P, 0, none⟩))
    replace hV := hV.keep qk (fun x e => by subst e; exact ⟨eT5, gT5⟩)
    replace hB := qk.below hB (fun x e => by subst e; exact gT5)
    replace hS := hS.far (p := ⟨T5, 0, none⟩) (bk_ne hS hT5 (by decide)) (.pointer (some ⟨P, 0, none⟩))
    replace hN := hN.keep qk (fun e => by obtain ⟨on, h1, h2⟩ := hN; exact h1.ne_bk hT5 e.symm)
    replace hY := byM_far hY hT5 (by decide) qk
    replace hab := Nat.le_trans hab qk.size
    refine hK.out _ _ hS (fun hHeld => ?_)
    replace hT5 := qT5
    clear qT5
    replace hT6 := qT6
    clear qT6
    replace hT7 := qT7
    clear qT7
    clear hK K qk c0 f0
    generalize W.setCell ⟨T5, 0, none⟩ (.pointer (some ⟨P, 0, none⟩)) = W at *
    try simp only [Act.put, List.setIfInBounds_toArray, List.set_cons_zero, List.set_cons_succ]
    refine wpAnyH_ready (rs := [10]) (by kernel_rfl) (by simp) ?_
    refine AllReadyH.cons (o := ⟨_, _, _, _, _, _⟩) rfl (fun K hK => ?_) AllReadyH.nil
    have c0 := hT6.cell 0
    have f0 := hT6.frozen 0
    simp only [List.getElem?_toArray, List.getElem?_cons_zero] at c0
    go_simp
    have qT5 := hT5.far (p := ⟨T6, 0, none⟩) (bk_ne hT5 hT6 (by decide)) (.map (some M))
    have qT7 := hT7.far (p := ⟨T6, 0, none⟩) (bk_ne hT7 hT6 (by decide)) (.map (some M))
    have qk : Keeps (fun x => x = T6) W (W.setCell ⟨T6, 0, none⟩ (.map (some M))) := Keeps.setCell (F := fun x => x = T6) rfl _
    have qT6 := hT6.set 0 (.map (some M))
    replace hV := hV.keep qk (fun x e => by subst e; exact ⟨eT6, gT6⟩)
    replace hB := qk.below hB (fun x e => by subst e; exact gT6)
    replace hS := hS.far (p := ⟨T6, 0, none⟩) (bk_ne hS hT6 (by decide)) (.map (some M))
    replace hN := hN.keep qk (fun e => by obtain ⟨on, h1, h2⟩ := hN; exact h1.ne_bk hT6 e.symm)
    replace hY := byM_far hY hT6 (by decide) qk
    replace hab := Nat.le_trans hab qk.size
    refine hK.out _ _ hS (fun hHeld => ?_)
    replace hT5 := qT5
    clear qT5
    replace hT6 := qT6
    clear qT6
    replace hT7 := qT7
    clear qT7
    clear hK K qk c0 f0
    generalize W.setCell ⟨T6, 0, none⟩ (.map (some M)) = W at *
    try simp only [Act.put, List.setIfInBounds_toArray, List.set_cons_zero, List.set_cons_succ]
    refine wpAnyH_ready (rs := [11]) (by kernel_rfl) (by simp) ?_
    refine AllReadyH.cons (o := ⟨_, _, _, _, _, _⟩) rfl (fun K hK => ?_) AllReadyH.nil
    have c0 := hT7.cell 0
    have f0 := hT7.frozen 0
    simp only [List.getElem?_toArray, List.getElem?_cons_zero] at c0
    go_simp
    have qT5 := hT5.far (p := ⟨T7, 0, none⟩) (bk_ne hT5 hT7 (by decide)) (.map (some M2))
    have qT6 := hT6.far (p := ⟨T7, 0, none⟩) (bk_ne hT6 hT7 (by decide)) (.map (some M2))
    have qk : Keeps (fun x => x = T7) W (W.setCell ⟨T7, 0, none⟩ (.map (some M2))) := Keeps.setCell (F := fun x => x = T7) rfl _
    have qT7 := hT7.set 0 (.map (some M2))
    replace hV := hV.keep qk (fun x e => by subst e; exact ⟨eT7, gT7⟩)
    replace hB := qk.below hB (fun x e => by subst e; exact gT7)
    replace hS := hS.far (p := ⟨T7, 0, none⟩) (bk_ne hS hT7 (by decide)) (.map (some M2))
    replace hN := hN.keep qk (fun e => by obtain ⟨on, h1, h2⟩ := hN; exact h1.ne_bk hT7 e.symm)
    replace hY := byM_far hY hT7 (by decide) qk
    replace hab := Nat.le_trans hab qk.size
    refine hK.out _ _ hS (fun hHeld => ?_)
    replace hT5 := qT5
    clear qT5
    replace hT6 := qT6
    clear qT6
    replace hT7 := qT7
    clear qT7
    clear hK K qk c0 f0
    generalize W.setCell ⟨T7, 0, none⟩ (.map (some M2)) = W at *
    try simp only [Act.put, List.setIfInBounds_toArray, List.set_cons_zero, List.set_cons_succ]
    refine wpAnyH_done (by kernel_rfl) ?_ _
    exact HQ.out W P a b M M2 T5 T6 T7 hB hS hV hab hN hM hY hT5 gT5 eT5 hT6 gT6 eT6 hT7 gT7 eT7
  have n3_67 : ∀ (W : World) (P a b M M2 T5 T6 T7 : Nat), Below w.heap.size w W → Bk W B0 26 (snR s) → Vx w (Oth a b) W P s .no → b ≤ W.heap.size → NmM W M (ents s.cl) → w.heap.size ≤ M ∧ Oth a b M → ByM (fun y => w.heap.size ≤ y ∧ Oth a b y) W M2 by' → Bk W T5 63 #[.pointer none] → w.heap.size ≤ T5 → Oth a b T5 → Bk W T6 69 #[.map none] → w.heap.size ≤ T6 → Oth a b T6 → wpAnyH Tryd.prog .any unOps (NoPanic Q) (fun w' => Bk w' B0 26 (snR s)) 4 #[true, true, true, true, true, true, true, true, false, false, false, false] { tmps := #[snA s, .pointer (some ⟨B0, 0, none⟩), .int .i64 0, .int .i64 0, .bool false, .pointer (some ⟨T5, 0, none⟩), .pointer (some ⟨T6, 0, none⟩), undef, snA s, .pointer (some ⟨P, 0, none⟩), snA s, .map (some M), snA s, .map (some M2), undef, undef, undef, undef, undef, undef], defers := [] } W := by
    intro W P a b M M2 T5 T6 T7 hB hS hV hab hN hM hY hT5 gT5 eT5 hT6 gT6 eT6
    refine wpAnyH_ready (rs := [8]) (by kernel_rfl) (by simp) ?_
    refine AllReadyH.cons (o := ⟨_, _, _, _, _, _⟩) rfl (fun K hK => ?_) AllReadyH.nil
    · go_simp
      have hb : Below W.heap.size W (W.alloc (.cells #[.map none] 71)) := ba (Below.refl _ _) _
      have hnew := Bk.new W 71 #[.map none]
      refine hK.out _ _ (hS.call hb) (fun hHeld => ?_)
      try simp only [Act.put, List.setIfInBounds_toArray, List.set_cons_zero, List.set_cons_succ]
      exact n3_678 _ P a b M M2 T5 T6 W.heap.size (bthen hB hb) (hS.call hb) (hV.call hb) (Nat.le_trans hab hb.size) (hN.call hb) hM (hY.within (fun b' _ hlt => hb.block b' hlt)) (hT5.call hb) gT5 eT5 (hT6.call hb) gT6 eT6 hnew hB.size (by unfold Oth; omega)
  have n3_68 : ∀ (W : World) (P a b M M2 T5 T6 T7 : Nat), Below w.heap.size w W → Bk W B0 26 (snR s) → Vx w (Oth a b) W P s .no → b ≤ W.heap.size → NmM W M (ents s.cl) → w.heap.size ≤ M ∧ Oth a b M → ByM (fun y => w.heap.size ≤ y ∧ Oth a b y) W M2 by' → Bk W T5 63 #[.pointer none] → w.heap.size ≤ T5 → Oth a b T5 → Bk W T7 71 #[.map none] → w.heap.size ≤ T7 → Oth a b T7 → wpAnyH Tryd.prog .any unOps (NoPanic Q) (fun w' => Bk w' B0 26 (snR s)) 4 #[true, true, true, true, true, true, true, false, true, false, false, false] { tmps := #[snA s, .pointer (some ⟨B0, 0, none⟩), .int .i64 0, .int .i64 0, .bool false, .pointer (some ⟨T5, 0, none⟩), undef, .pointer (some ⟨T7, 0, none⟩), snA s, .pointer (some ⟨P, 0, none⟩), snA s, .map (some M), snA s, .map (some M2), undef, undef, undef, undef, undef, undef], defers := [] } W := by
    intro W P a b M M2 T5 T6 T7 hB hS hV hab hN hM hY hT5 gT5 eT5 hT7 gT7 eT7
    refine wpAnyH_ready (rs := [7]) (by kernel_rfl) (by simp) ?_
    refine AllReadyH.cons (o := ⟨_, _, _, _, _, _⟩) rfl (fun K hK => ?_) AllReadyH.nil
    · go_simp
      have hb : Below W.heap.size W (W.alloc (.cells #[.map none] 69)) := ba (Below.refl _ _) _
      have hnew := Bk.new W 69 #[.map none]
      refine hK.out _ _ (hS.call hb) (fun hHeld => ?_)
      try simp only [Act.put, List.setIfInBounds_toArray, List.set_cons_zero, List.set_cons_succ]
      exact n3_678 _ P a b M M2 T5 W.heap.size T7 (bthen hB hb) (hS.call hb) (hV.call hb) (Nat.le_trans hab hb.size) (hN.call hb) hM (hY.within (fun b' _ hlt => hb.block b' hlt)) (hT5.call hb) gT5 eT5 hnew hB.size (by unfold Oth; omega) (hT7.call hb) gT7 eT7
  have n3_78 : ∀ (W : World) (P a b M M2 T5 T6 T7 : Nat), Below w.heap.size w W → Bk W B0 26 (snR s) → Vx w (Oth a b) W P s .no → b ≤ W.heap.size → NmM W M (ents s.cl) → w.heap.size ≤ M ∧ Oth a b M → ByM (fun y => w.heap.size ≤ y ∧ Oth a b y) W M2 by' → Bk W T6 69 #[.map none] → w.heap.size ≤ T6 → Oth a b T6 → Bk W T7 71 #[.map none] → w.heap.size ≤ T7 → Oth a b T7 → wpAnyH Tryd.prog .any unOps (NoPanic Q) (fun w' => Bk w' B0 26 (snR s)) 4 #[true, true, true, true, true, true, false, true, true, false, false, false] { tmps := #[snA s, .pointer (some ⟨B0, 0, none⟩), .int .i64 0, .int .i64 0, .bool false, undef, .pointer (some ⟨T6, 0, none⟩), .pointer (some ⟨T7, 0, none⟩), snA s, .pointer (some ⟨P, 0, none⟩), snA s, .map (some M), snA s, .map (some M2), undef, undef, undef, undef, undef, undef], defers := [] } W := by
    intro W P a b M M2 T5 T6 T7 hB hS hV hab hN hM hY hT6 gT6 eT6 hT7 gT7 eT7
    refine wpAnyH_ready (rs := [6]) (by kernel_rfl) (by simp) ?_
    refine AllReadyH.cons (o := ⟨_, _, _, _, _, _⟩) rfl (fun K hK => ?_) AllReadyH.nil
    · go_simp
      have hb : Below W.heap.size W (W.alloc (.cells #[.pointer none] 63)) := ba (Below.refl _ _) _
      have hnew := Bk.new W 63 #[.pointer none]
      refine hK.out _ _ (hS.call hb) (fun hHeld => ?_)
      try simp only [Act.put, List.setIfInBounds_toArray, List.set_cons_zero, List.set_cons_succ]
      exact n3_678 _ P a b M M2 W.heap.size T6 T7 (bthen hB hb) (hS.call hb) (hV.call hb) (Nat.le_trans hab hb.size) (hN.call hb) hM (hY.within (fun b' _ hlt => hb.block b' hlt)) hnew hB.size (by unfold Oth; omega) (hT6.call hb) gT6 eT6 (hT7.call hb) gT7 eT7
  have n3_6 : ∀ (W : World) (P a b M M2 T5 T6 T7 : Nat), Below w.heap.size w W → Bk W B0 26 (snR s) → Vx w (Oth a b) W P s .no → b ≤ W.heap.size → NmM W M (ents s.cl) → w.heap.size ≤ M ∧ Oth a b M → ByM (fun y => w.heap.size ≤ y ∧ Oth a b y) W M2 by' → Bk W T5 63 #[.pointer none] → w.heap.size ≤ T5 → Oth a b T5 → wpAnyH Tryd.prog .any unOps (NoPanic Q) (fun w' => Bk w' B0 26 (snR s)) 5 #[true, true, true, true, true, true, true, false, false, false, false, false] { tmps := #[snA s, .pointer (some ⟨B0, 0, none⟩), .int .i64 0, .int .i64 0, .bool false, .pointer (some ⟨T5, 0, none⟩), undef, undef, snA s, .pointer (some ⟨P, 0, none⟩), snA s, .map (some M), snA s, .map (some M2), undef, undef, undef, undef, undef, undef], defers := [] } W := by
    intro W P a b M M2 T5 T6 T7 hB hS hV hab hN hM hY hT5 gT5 eT5
    refine wpAnyH_ready (rs := [7, 8]) (by kernel_rfl) (by simp) ?_
    refine AllReadyH.cons (o := ⟨_, _, _, _, _, _⟩) rfl (fun K hK => ?_) ?_
    · go_simp
      have hb : Below W.heap.size W (W.alloc (.cells #[.map none] 69)) := ba (Below.refl _ _) _
      have hnew := Bk.new W 69 #[.map none]
      refine hK.out _ _ (hS.call hb) (fun hHeld => ?_)
      try simp only [Act.put, List.setIfInBounds_toArray, List.set_cons_zero, List.set_cons_succ]
      exact n3_67 _ P a b M M2 T5 W.heap.size T7 (bthen hB hb) (hS.call hb) (hV.call hb) (Nat.le_trans hab hb.size) (hN.call hb) hM (hY.within (fun b' _ hlt => hb.block b' hlt)) (hT5.call hb) gT5 eT5 hnew hB.size (by unfold Oth; omega)
    refine AllReadyH.cons (o := ⟨_, _, _, _, _, _⟩) rfl (fun K hK => ?_) AllReadyH.nil
    · go_simp
      have hb : Below W.heap.size W (W.alloc (.cells #[.map none] 71)) := ba (Below.refl _ _) _
      have hnew := Bk.new W 71 #[.map none]
      refine hK.out _ _ (hS.call hb) (fun hHeld => ?_)
      try simp only [Act.put, List.setIfInBounds_toArray, List.set_cons_zero, List.set_cons_succ]
      exact n3_68 _ P a b M M2 T5 T6 W.heap.size (bthen hB hb) (hS.call hb) (hV.call hb) (Nat.le_trans hab hb.size) (hN.call hb) hM (hY.within (fun b' _ hlt => hb.block b' hlt)) (hT5.call hb) gT5 eT5 hnew hB.size (by unfold Oth; omega)
  have n3_7 : ∀ (W : World) (P a b M M2 T5 T6 T7 : Nat), Below w.heap.size w W → Bk W B0 26 (snR s) → Vx w (Oth a b) W P s .no → b ≤ W.heap.size → NmM W M (ents s.cl) → w.heap.size ≤ M ∧ Oth a b M → ByM (fun y => w.heap.size ≤ y ∧ Oth a b y) W M2 by' → Bk W T6 69 #[.map none] → w.heap.size ≤ T6 → Oth a b T6 → wpAnyH Tryd.prog .any unOps (NoPanic Q) (fun w' => Bk w' B0 26 (snR s)) 5 #[true, true, true, true, true, true, false, true, false, false, false, false] { tmps := #[snA s, .pointer (some ⟨B0, 0, none⟩), .int .i64 0, .int .i64 0, .bool false, undef, .pointer (some ⟨T6, 0, none⟩), undef, snA s, .pointer (some ⟨P, 0, none⟩), snA s, .map (some M), snA s, .map (some M2), undef, undef, undef, undef, undef, undef], defers := [] } W := by
    intro W P a b M M2 T5 T6 T7 hB hS hV hab hN hM hY hT6 gT6 eT6
    refine wpAnyH_ready (rs := [6, 8]) (by kernel_rfl) (by simp) ?_
    refine AllReadyH.cons (o := ⟨_, _, _, _, _, _⟩) rfl (fun K hK => ?_) ?_
    · go_simp
      have hb : Below W.heap.size W (W.alloc (.cells #[.pointer none] 63)) := ba (Below.refl _ _) _
      have hnew := Bk.new W 63 #[.pointer none]
      refine hK.out _ _ (hS.call hb) (fun hHeld => ?_)
      try simp only [Act.put, List.setIfInBounds_toArray, List.set_cons_zero, List.set_cons_succ]
      exact n3_67 _ P a b M M2 W.heap.size T6 T7 (bthen hB hb) (hS.call hb) (hV.call hb) (Nat.le_trans hab hb.size) (hN.call hb) hM (hY.within (fun b' _ hlt => hb.block b' hlt)) hnew hB.size (by unfold Oth; omega) (hT6.call hb) gT6 eT6
    refine AllReadyH.cons (o := ⟨_, _, _, _, _, _⟩) rfl (fun K hK => ?_) AllReadyH.nil
    · go_simp
      have hb : Below W.heap.size W (W.alloc (.cells #[.map none] 71)) := ba (Below.refl _ _) _
      have hnew := Bk.new W 71 #[.map none]
      refine hK.out _ _ (hS.call hb) (fun hHeld => ?_)
      try simp only [Act.put, List.setIfInBounds_toArray, List.set_cons_zero, List.set_cons_succ]
      exact n3_78 _ P a b M M2 T5 T6 W.heap.size (bthen hB hb) (hS.call hb) (hV.call hb) (Nat.le_trans hab hb.size) (hN.call hb) hM (hY.within (fun b' _ hlt => hb.block b' hlt)) (hT6.call hb) gT6 eT6 hnew hB.size (by unfold Oth; omega)
  have n3_8 : ∀ (W : World) (P a b M M2 T5 T6 T7 : Nat), Below w.heap.size w W → Bk W B0 26 (snR s) → Vx w (Oth a b) W P s .no → b ≤ W.heap.size → NmM W M (ents s.cl) → w.heap.size ≤ M ∧ Oth a b M → ByM (fun y => w.heap.size ≤ y ∧ Oth a b y) W M2 by' → Bk W T7 71 #[.map none] → w.heap.size ≤ T7 → Oth a b T7 → wpAnyH Tryd.prog .any unOps (NoPanic Q) (fun w' => Bk w' B0 26 (snR s)) 5 #[true, true, true, true, true, true, false, false, true, false, false, false] { tmps := #[snA s, .pointer (some ⟨B0, 0, none⟩), .int .i64 0, .int .i64 0, .bool false, undef, undef, .pointer (some ⟨T7, 0, none⟩), snA s, .pointer (some ⟨P, 0, none⟩), snA s, .map (some M), snA s, .map (some M2), undef, undef, undef, undef, undef, undef], defers := [] } W := by
    intro W P a b M M2 T5 T6 T7 hB hS hV hab hN hM hY hT7 gT7 eT7
    refine wpAnyH_ready (rs := [6, 7]) (by kernel_rfl) (by simp) ?_
    refine AllReadyH.cons (o := ⟨_, _, _, _, _, _⟩) rfl (fun K hK => ?_) ?_
    · go_simp
      have hb : Below W.heap.size W (W.alloc (.cells #[.pointer none] 63)) := ba (Below.refl _ _) _
      have hnew := Bk.new W 63 #[.pointer none]
      refine hK.out _ _ (hS.call hb) (fun hHeld => ?_)
      try simp only [Act.put, List.setIfInBounds_toArray, List.set_cons_zero, List.set_cons_succ]
      exact n3_68 _ P a b M M2 W.heap.size T6 T7 (bthen hB hb) (hS.call hb) (hV.call hb) (Nat.le_trans hab hb.size) (hN.call hb) hM (hY.within (fun b' _ hlt => hb.block b' hlt)) hnew hB.size (by unfold Oth; omega) (hT7.call hb) gT7 eT7
    refine AllReadyH.cons (o := ⟨_, _, _, _, _, _⟩) rfl (fun K hK => ?_) AllReadyH.nil
    · go_simp
      have hb : Below W.heap.size W (W.alloc (.cells #[.map none] 69)) := ba (Below.refl _ _) _
      have hnew := Bk.new W 69 #[.map none]
      refine hK.out _ _ (hS.call hb) (fun hHeld => ?_)
      try simp only [Act.put, List.setIfInBounds_toArray, List.set_cons_zero, List.set_cons_succ]
      exact n3_78 _ P a b M M2 T5 W.heap.size T7 (bthen hB hb) (hS.call hb) (hV.call hb) (Nat.le_trans hab hb.size) (hN.call hb) hM (hY.within (fun b' _ hlt => hb.block b' hlt)) hnew hB.size (by unfold Oth; omega) (hT7.call hb) gT7 eT7
  have n3_ : ∀ (W : World) (P a b M M2 T5 T6 T7 : Nat), Below w.heap.size w W → Bk W B0 26 (snR s) → Vx w (Oth a b) W P s .no → b ≤ W.heap.size → NmM W M (ents s.cl) → w.heap.size ≤ M ∧ Oth a b M → ByM (fun y => w.heap.size ≤ y ∧ Oth a b y) W M2 by' → wpAnyH Tryd.prog .any unOps (NoPanic Q) (fun w' => Bk w' B0 26 (snR s)) 6 #[true, true, true, true, true, true, false, false, false, false, false, false] { tmps := #[snA s, .pointer (some ⟨B0, 0, none⟩), .int .i64 0, .int .i64 0, .bool false, undef, undef, undef, snA s, .pointer (some ⟨P, 0, none⟩), snA s, .map (some M), snA s, .map (some M2), undef, undef, undef, undef, undef, undef], defers := [] } W := by
    intro W P a b M M2 T5 T6 T7 hB hS hV hab hN hM hY
    refine wpAnyH_ready (rs := [6, 7, 8]) (by kernel_rfl) (by simp) ?_
    refine AllReadyH.cons (o := ⟨_, _, _, _, _, _⟩) rfl (fun K hK => ?_) ?_
    · go_simp
      have hb : Below W.heap.size W (W.alloc (.cells #[.pointer none] 63)) := ba (Below.refl _ _) _
      have hnew := Bk.new W 63 #[.pointer none]
      refine hK.out _ _ (hS.call hb) (fun hHeld => ?_)
      try simp only [Act.put, List.setIfInBounds_toArray, List.set_cons_zero, List.set_cons_succ]
      exact n3_6 _ P a b M M2 W.heap.size T6 T7 (bthen hB hb) (hS.call hb) (hV.call hb) (Nat.le_trans hab hb.size) (hN.call hb) hM (hY.within (fun b' _ hlt => hb.block b' hlt)) hnew hB.size (by unfold Oth; omega)
    refine AllReadyH.cons (o := ⟨_, _, _, _, _, _⟩) rfl (fun K hK => ?_) ?_
    · go_simp
      have hb : Below W.heap.size W (W.alloc (.cells #[.map none] 69)) := ba (Below.refl _ _) _
      have hnew := Bk.new W 69 #[.map none]
      refine hK.out _ _ (hS.call hb) (fun hHeld => ?_)
      try simp only [Act.put, List.setIfInBounds_toArray, List.set_cons_zero, List.set_cons_succ]
      exact n3_7 _ P a b M M2 T5 W.heap.size T7 (bthen hB hb) (hS.call hb) (hV.call hb) (Nat.le_trans hab hb.size) (hN.call hb) hM (hY.within (fun b' _ hlt => hb.block b' hlt)) hnew hB.size (by unfold Oth; omega)
    refine AllReadyH.cons (o := ⟨_, _, _, _, _, _⟩) rfl (fun K hK => ?_) AllReadyH.nil
    · go_simp
      have hb : Below W.heap.size W (W.alloc (.cells #[.map none] 71)) := ba (Below.refl _ _) _
      have hnew := Bk.new W 71 #[.map none]
      refine hK.out _ _ (hS.call hb) (fun hHeld => ?_)
      try simp only [Act.put, List.setIfInBounds_toArray, List.set_cons_zero, List.set_cons_succ]
      exact n3_8 _ P a b M M2 T5 T6 W.heap.size (bthen hB hb) (hS.call hb) (hV.call hb) (Nat.le_trans hab hb.size) (hN.call hb) hM (hY.within (fun b' _ hlt => hb.block b' hlt)) hnew hB.size (by unfold Oth; omega)
  have n2_678 : ∀ (W : World) (P a b M M2 T5 T6 T7 : Nat), Below w.heap.size w W → Bk W B0 26 (snR s) → Vx w (Oth a b) W P s .no → b ≤ W.heap.size → NmM W M (ents s.cl) → w.heap.size ≤ M ∧ Oth a b M → Bk W T5 63 #[.pointer none] → w.heap.size ≤ T5 → Oth a b T5 → Bk W T6 69 #[.map none] → w.heap.size ≤ T6 → Oth a b T6 → Bk W T7 71 #[.map none] → w.heap.size ≤ T7 → Oth a b T7 → wpAnyH Tryd.prog .any unOps (NoPanic Q) (fun w' => Bk w' B0 26 (snR s)) 4 #[true, true, true, true, true, false, true, true, true, false, false, false] { tmps := #[snA s, .pointer (some ⟨B0, 0, none⟩), .int .i64 0, .int .i64 0, .bool false, .pointer (some ⟨T5, 0, none⟩), .pointer (some ⟨T6, 0, none⟩), .pointer (some ⟨T7, 0, none⟩), snA s, .pointer (some ⟨P, 0, none⟩), snA s, .map (some M), snA s, undef, undef, undef, undef, undef, undef, undef], defers := [] } W := by
    intro W P a b M M2 T5 T6 T7 hB hS hV hab hN hM hT5 gT5 eT5 hT6 gT6 eT6 hT7 gT7 eT7
    refine wpAnyH_ready (rs := [5]) (by kernel_rfl) (by simp) ?_
    refine AllReadyH.cons (o := ⟨_, _, _, _, _, _⟩) rfl (fun K hK => ?_) AllReadyH.nil
    · go_simp
      refine (HR.out W hB).mono ?_
      rintro e W2 ⟨M2', rfl, hy, hb⟩
      go_wp2_with fail
      refine hK.out _ _ (hS.call hb) (fun hHeld => ?_)
      try simp only [Act.put, List.setIfInBounds_toArray, List.set_cons_zero, List.set_cons_succ]
      exact n3_678 W2 P a b M M2' T5 T6 T7 (bthen hB hb) (hS.call hb) (hV.call hb) (Nat.le_trans hab hb.size) (hN.call hb) hM (hy.mono (fun y hy => ⟨by have := hB.size; omega, by unfold Oth; omega⟩)) (hT5.call hb) gT5 eT5 (hT6.call hb) gT6 eT6 (hT7.call hb) gT7 eT7
  have n2_67 : ∀ (W : World) (P a b M M2 T5 T6 T7 : Nat), Below w.heap.size w W → Bk W B0 26 (snR s) → Vx w (Oth a b) W P s .no → b ≤ W.heap.size → NmM W M (ents s.cl) → w.heap.size ≤ M ∧ Oth a b M → Bk W T5 63 #[.pointer none] → w.heap.size ≤ T5 → Oth a b T5 → Bk W T6 69 #[.map none] → w.heap.size ≤ T6 → Oth a b T6 → wpAnyH Tryd.prog .any unOps (NoPanic Q) (fun w' => Bk w' B0 26 (snR s)) 5 #[true, true, true, true, true, false, true, true, false, false, false, false] { tmps := #[snA s, .pointer (some ⟨B0, 0, none⟩), .int .i64 0, .int .i64 0, .bool false, .pointer (some ⟨T5, 0, none⟩), .pointer (some ⟨T6, 0, none⟩), undef, snA s, .pointer (some ⟨P, 0, none⟩), snA s, .map (some M), snA s, undef, undef, undef, undef, undef, undef, undef], defers := [] } W := by
    intro W P a b M M2 T5 T6 T7 hB hS hV hab hN hM hT5 gT5 eT5 hT6 gT6 eT6
    refine wpAnyH_ready (rs := [5, 8]) (by kernel_rfl) (by simp) ?_
    refine AllReadyH.cons (o := ⟨_, _, _, _, _, _⟩) rfl (fun K hK => ?_) ?_
    · go_simp
      refine (HR.out W hB).mono ?_
      rintro e W2 ⟨M2', rfl, hy, hb⟩
      go_wp2_with fail
      refine hK.out _ _ (hS.call hb) (fun hHeld => ?_)
      try simp only [Act.put, List.setIfInBounds_toArray, List.set_cons_zero, List.set_cons_succ]
      exact n3_67 W2 P a b M M2' T5 T6 T7 (bthen hB hb) (hS.call hb) (hV.call hb) (Nat.le_trans hab hb.size) (hN.call hb) hM (hy.mono (fun y hy => ⟨by have := hB.size; omega, by unfold Oth; omega⟩)) (hT5.call hb) gT5 eT5 (hT6.call hb) gT6 eT6
    refine AllReadyH.cons (o := ⟨_, _, _, _, _, _⟩) rfl (fun K hK => ?_) AllReadyH.nil
    · go_simp
      have hb : Below W.heap.size W (W.alloc (.cells #[.map none] 71)) := ba (Below.refl _ _) _
      have hnew := Bk.new W 71 #[.map none]
      refine hK.out _ _ (hS.call hb) (fun hHeld => ?_)
      try simp only [Act.put, List.setIfInBounds_toArray, List.set_cons_zero, List.set_cons_succ]
      exact n2_678 _ P a b M M2 T5 T6 W.heap.size (bthen hB hb) (hS.call hb) (hV.call hb) (Nat.le_trans hab hb.size) (hN.call hb) hM (hT5.call hb) gT5 eT5 (hT6.call hb) gT6 eT6 hnew hB.size (by unfold Oth; omega)
  have n2_68 : ∀ (W : World) (P a b M M2 T5 T6 T7 : Nat), Below w.heap.size w W → Bk W B0 26 (snR s) → Vx w (Oth a b) W P s .no → b ≤ W.heap.size → NmM W M (ents s.cl) → w.heap.size ≤ M ∧ Oth a b M → Bk W T5 63 #[.pointer none] → w.heap.size ≤ T5 → Oth a b T5 → Bk W T7 71 #[.map none] → w.heap.size ≤ T7 → Oth a b T7 → wpAnyH Tryd.prog .any unOps (NoPanic Q) (fun w' => Bk w' B0 26 (snR s)) 5 #[true, true, true, true, true, false, true, false, true, false, false, false] { tmps := #[snA s, .pointer (some ⟨B0, 0, none⟩), .int .i64 0, .int .i64 0, .bool false, .pointer (some ⟨T5, 0, none⟩), undef, .pointer (some ⟨T7, 0, none⟩), snA s, .pointer (some ⟨P, 0, none⟩), snA s, .map (some M), snA s, undef, undef, undef, undef, undef, undef, undef], defers := [] } W := by
    intro W P a b M M2 T5 T6 T7 hB hS hV hab hN hM hT5 gT5 eT5 hT7 gT7 eT7
    refine wpAnyH_ready (rs := [5, 7]) (by kernel_rfl) (by simp) ?_
    refine AllReadyH.cons (o := ⟨_, _, _, _, _, _⟩) rfl (fun K hK => ?_) ?_
    · go_simp
      refine (HR.out W hB).mono ?_
      rintro e W2 ⟨M2', rfl, hy, hb⟩
      go_wp2_with fail
      refine hK.out _ _ (hS.call hb) (fun hHeld => ?_)
      try simp only [Act.put, List.setIfInBounds_toArray, List.set_cons_zero, List.set_cons_succ]
      exact n3_68 W2 P a b M M2' T5 T6 T7 (bthen hB hb) (hS.call hb) (hV.call hb) (Nat.le_trans hab hb.size) (hN.call hb) hM (hy.mono (fun y hy => ⟨by have := hB.size; omega, by unfold Oth; omega⟩)) (hT5.call hb) gT5 eT5 (hT7.call hb) gT7 eT7
    refine AllReadyH.cons (o := ⟨_, _, _, _, _, _⟩) rfl (fun K hK => ?_) AllReadyH.nil
    · go_simp
      have hb : Below W.heap.size W (W.alloc (.cells #[.map none] 69)) := ba (Below.refl _ _) _
      have hnew := Bk.new W 69 #[.map none]
      refine hK.out _ _ (hS.call hb) (fun hHeld => ?_)
      try simp only [Act.put, List.setIfInBounds_toArray, List.set_cons_zero, List.set_cons_succ]
      exact n2_678 _ P a b M M2 T5 W.heap.size T7 (bthen hB hb) (hS.call hb) (hV.call hb) (Nat.le_trans hab hb.size) (hN.call hb) hM (hT5.call hb) gT5 eT5 hnew hB.size (by unfold Oth; omega) (hT7.call hb) gT7 eT7
  have n2_78 : ∀ (W : World) (P a b M M2 T5 T6 T7 : Nat), Below w.heap.size w W → Bk W B0 26 (snR s) → Vx w (Oth a b) W P s .no → b ≤ W.heap.size → NmM W M (ents s.cl) → w.heap.size ≤ M ∧ Oth a b M → Bk W T6 69 #[.map none] → w.heap.size ≤ T6 → Oth a b T6 → Bk W T7 71 #[.map none] → w.heap.size ≤ T7 → Oth a b T7 → wpAnyH Tryd.prog .any unOps (NoPanic Q) (fun w' => Bk w' B0 26 (snR s)) 5 #[true, true, true, true, true, false, false, true, true, false, false, false] { tmps := #[snA s, .pointer (some ⟨B0, 0, none⟩), .int .i64 0, .int .i64 0, .bool false, undef, .pointer (some ⟨T6, 0, none⟩), .pointer (some ⟨T7, 0, none⟩), snA s, .pointer (some ⟨P, 0, none⟩), snA s, .map (some M), snA s, undef, undef, undef, undef, undef, undef, undef], defers := [] } W := by
    intro W P a b M M2 T5 T6 T7 hB hS hV hab hN hM hT6 gT6 eT6 hT7 gT7 eT7
    refine wpAnyH_ready (rs := [5, 6]) (by kernel_rfl) (by simp) ?_
    refine AllReadyH.cons (o := ⟨_, _, _, _, _, _⟩) rfl (fun K hK => ?_) ?_
    · go_simp
      refine (HR.out W hB).mono ?_
      rintro e W2 ⟨M2', rfl, hy, hb⟩
      go_wp2_with fail
      refine hK.out _ _ (hS.call hb) (fun hHeld => ?_)
      try simp only [Act.put, List.setIfInBounds_toArray, List.set_cons_zero, List.set_cons_succ]
      exact n3_78 W2 P a b M M2' T5 T6 T7 (bthen hB hb) (hS.call hb) (hV.call hb) (Nat.le_trans hab hb.size) (hN.call hb) hM (hy.mono (fun y hy => ⟨by have := hB.size; omega, by unfold Oth; omega⟩)) (hT6.call hb) gT6 eT6 (hT7.call hb) gT7 eT7
    refine AllReadyH.cons (o := ⟨_, _, _, _, _, _⟩) rfl (fun K hK => ?_) AllReadyH.nil
    · go_simp
      have hb : Below W.heap.size W (W.alloc (.cells #[.pointer none] 63)) := ba (Below.refl _ _) _
      have hnew := Bk.new W 63 #[.pointer none]
      refine hK.out _ _ (hS.call hb) (fun hHeld => ?_)
      try simp only [Act.put, List.setIfInBounds_toArray, List.set_cons_zero, List.set_cons_succ]
      exact n2_678 _ P a b M M2 W.heap.size T6 T7 (bthen hB hb) (hS.call hb) (hV.call hb) (Nat.le_trans hab hb.size) (hN.call hb) hM hnew hB.size (by unfold Oth; omega) (hT6.call hb) gT6 eT6 (hT7.call hb) gT7 eT7
  have n2_6 : ∀ (W : World) (P a b M M2 T5 T6 T7 : Nat), Below w.heap.size w W → Bk W B0 26 (snR s) → Vx w (Oth a b) W P s .no → b ≤ W.heap.size → NmM W M (ents s.cl) → w.heap.size ≤ M ∧ Oth a b M → Bk W T5 63 #[.pointer none] → w.heap.size ≤ T5 → Oth a b T5 → wpAnyH Tryd.prog .any unOps (NoPanic Q) (fun w' => Bk w' B0 26 (snR s)) 6 #[true, true, true, true, true, false, true, false, false, false, false, false] { tmps := #[snA s, .pointer (some ⟨B0, 0, none⟩), .int .i64 0, .int .i64 0, .bool false, .pointer (some ⟨T5, 0, none⟩), undef, undef, snA s, .pointer (some ⟨P, 0, none⟩), snA s, .map (some M), snA s, undef, undef, undef, undef, undef, undef, undef], defers := [] } W := by
    intro W P a b M M2 T5 T6 T7 hB hS hV hab hN hM hT5 gT5 eT5
    refine wpAnyH_ready (rs := [5, 7, 8]) (by kernel_rfl) (by simp) ?_
    refine AllReadyH.cons (o := ⟨_, _, _, _, _, _⟩) rfl (fun K hK => ?_) ?_
    · go_simp
      refine (HR.out W hB).mono ?_
      rintro e W2 ⟨M2', rfl, hy, hb⟩
      go_wp2_with fail
      refine hK.out _ _ (hS.call hb) (fun hHeld => ?_)
      try simp only [Act.put, List.setIfInBounds_toArray, List.set_cons_zero, List.set_cons_succ]
      exact n3_6 W2 P a b M M2' T5 T6 T7 (bthen hB hb) (hS.call hb) (hV.call hb) (Nat.le_trans hab hb.size) (hN.call hb) hM (hy.mono (fun y hy => ⟨by have := hB.size; omega, by unfold Oth; omega⟩)) (hT5.call hb) gT5 eT5
    refine AllReadyH.cons (o := ⟨_, _, _, _, _, _⟩) rfl (fun K hK => ?_) ?_
    · go_simp
      have hb : Below W.heap.size W (W.alloc (.cells #[.map none] 69)) := ba (Below.refl _ _) _
      have hnew := Bk.new W 69 #[.map none]
      refine hK.out _ _ (hS.call hb) (fun hHeld => ?_)
      try simp only [Act.put, List.setIfInBounds_toArray, List.set_cons_zero, List.set_cons_succ]
      exact n2_67 _ P a b M M2 T5 W.heap.size T7 (bthen hB hb) (hS.call hb) (hV.call hb) (Nat.le_trans hab hb.size) (hN.call hb) hM (hT5.call hb) gT5 eT5 hnew hB.size (by unfold Oth; omega)
    refine AllReadyH.cons (o := ⟨_, _, _, _, _, _⟩) rfl (fun K hK => ?_) AllReadyH.nil
    · go_simp
      have hb : Below W.heap.size W (W.alloc (.cells #[.map none] 71)) := ba (Below.refl _ _) _
      have hnew := Bk.new W 71 #[.map none]
      refine hK.out _ _ (hS.call hb) (fun hHeld => ?_)
      try simp only [Act.put, List.setIfInBounds_toArray, List.set_cons_zero, List.set_cons_succ]
      exact n2_68 _ P a b M M2 T5 T6 W.heap.size (bthen hB hb) (hS.call hb) (hV.call hb) (Nat.le_trans hab hb.size) (hN.call hb) hM (hT5.call hb) gT5 eT5 hnew hB.size (by unfold Oth; omega)
  have n2_7 : ∀ (W : World) (P a b M M2 T5 T6 T7 : Nat), Below w.heap.size w W → Bk W B0 26 (snR s) → Vx w (Oth a b) W P s .no → b ≤ W.heap.size → NmM W M (ents s.cl) → w.heap.size ≤ M ∧ Oth a b M → Bk W T6 69 #[.map none] → w.heap.size ≤ T6 → Oth a b T6 → wpAnyH Tryd.prog .any unOps (NoPanic Q) (fun w' => Bk w' B0 26 (snR s)) 6 #[true, true, true, true, true, false, false, true, false, false, false, false] { tmps := #[snA s, .pointer (some ⟨B0, 0, none⟩), .int .i64 0, .int .i64 0, .bool false, undef, .pointer (some ⟨T6, 0, none⟩), undef, snA s, .pointer (some ⟨P, 0, none⟩), snA s, .map (some M), snA s, undef, undef, undef, undef, undef, undef, undef], defers := [] } W := by
    intro W P a b M M2 T5 T6 T7 hB hS hV hab hN hM hT6 gT6 eT6
    refine wpAnyH_ready (rs := [5, 6, 8]) (by kernel_rfl) (by simp) ?_
    refine AllReadyH.cons (o := ⟨_, _, _, _, _, _⟩) rfl (fun K hK => ?_) ?_
    · go_simp
      refine (HR.out W hB).mono ?_
      rintro e W2 ⟨M2', rfl, hy, hb⟩
      go_wp2_with fail
      refine hK.out _ _ (hS.call hb) (fun hHeld => ?_)
      try simp only [Act.put, List.setIfInBounds_toArray, List.set_cons_zero, List.set_cons_succ]
      exact n3_7 W2 P a b M M2' T5 T6 T7 (bthen hB hb) (hS.call hb) (hV.call hb) (Nat.le_trans hab hb.size) (hN.call hb) hM (hy.mono (fun y hy => ⟨by have := hB.size; omega, by unfold Oth; omega⟩)) (hT6.call hb) gT6 eT6
    refine AllReadyH.cons (o := ⟨_, _, _, _, _, _⟩) rfl (fun K hK => ?_) ?_
    · go_simp
      have hb : Below W.heap.size W (W.alloc (.cells #[.pointer none] 63)) := ba (Below.refl _ _) _
      have hnew := Bk.new W 63 #[.pointer none]
      refine hK.out _ _ (hS.call hb) (fun hHeld => ?_)
      try simp only [Act.put, List.setIfInBounds_toArray, List.set_cons_zero, List.set_cons_succ]
      exact n2_67 _ P a b M M2 W.heap.size T6 T7 (bthen hB hb) (hS.call hb) (hV.call hb) (Nat.le_trans hab hb.size) (hN.call hb) hM hnew hB.size (by unfold Oth; omega) (hT6.call hb) gT6 eT6
    refine AllReadyH.cons (o := ⟨_, _, _, _, _, _⟩) rfl (fun K hK => ?_) AllReadyH.nil
    · go_simp
      have hb : Below W.heap.size W (W.alloc (.cells #[.map none] 71)) := ba (Below.refl _ _) _
      have hnew := Bk.new W 71 #[.map none]
      refine hK.out _ _ (hS.call hb) (fun hHeld => ?_)
      try simp only [Act.put, List.setIfInBounds_toArray, List.set_cons_zero, List.set_cons_succ]
      exact n2_78 _ P a b M M2 T5 T6 W.heap.size (bthen hB hb) (hS.call hb) (hV.call hb) (Nat.le_trans hab hb.size) (hN.call hb) hM (hT6.call hb) gT6 eT6 hnew hB.size (by unfold Oth; omega)
  have n2_8 : ∀ (W : World) (P a b M M2 T5 T6 T7 : Nat), Below w.heap.size w W → Bk W B0 26 (snR s) → Vx w (Oth a b) W P s .no → b ≤ W.heap.size → NmM W M (ents s.cl) → w.heap.size ≤ M ∧ Oth a b M → Bk W T7 71 #[.map none] → w.heap.size ≤ T7 → Oth a b T7 → wpAnyH Tryd.prog .any unOps (NoPanic Q) (fun w' => Bk w' B0 26 (snR s)) 6 #[true, true, true, true, true, false, false, false, true, false, false, false] { tmps := #[snA s, .pointer (some ⟨B0, 0, none⟩), .int .i64 0, .int .i64 0, .bool false, undef, undef, .pointer (some ⟨T7, 0, none⟩), snA s, .pointer (some ⟨P, 0, none⟩), snA s, .map (some M), snA s, undef, undef, undef, undef, undef, undef, undef], defers := [] } W := by
    intro W P a b M M2 T5 T6 T7 hB hS hV hab hN hM hT7 gT7 eT7
    refine wpAnyH_ready (rs := [5, 6, 7]) (by kernel_rfl) (by simp) ?_
    refine AllReadyH.cons (o := ⟨_, _, _, _, _, _⟩) rfl (fun K hK => ?_) ?_
    · go_simp
      refine (HR.out W hB).mono ?_
      rintro e W2 ⟨M2', rfl, hy, hb⟩
      go_wp2_with fail
      refine hK.out _ _ (hS.call hb) (fun hHeld => ?_)
      try simp only [Act.put, List.setIfInBounds_toArray, List.set_cons_zero, List.set_cons_succ]
      exact n3_8 W2 P a b M M2' T5 T6 T7 (bthen hB hb) (hS.call hb) (hV.call hb) (Nat.le_trans hab hb.size) (hN.call hb) hM (hy.mono (fun y hy => ⟨by have := hB.size; omega, by unfold Oth; omega⟩)) (hT7.call hb) gT7 eT7
    refine AllReadyH.cons (o := ⟨_, _, _, _, _, _⟩) rfl (fun K hK => ?_) ?_
    · go_simp
      have hb : Below W.heap.size W (W.alloc (.cells #[.pointer none] 63)) := ba (Below.refl _ _) _
      have hnew := Bk.new W 63 #[.pointer none]
      refine hK.out _ _ (hS.call hb) (fun hHeld => ?_)
      try simp only [Act.put, List.setIfInBounds_toArray, List.set_cons_zero, List.set_cons_succ]
      exact n2_68 _ P a b M M2 W.heap.size T6 T7 (bthen hB hb) (hS.call hb) (hV.call hb) (Nat.le_trans hab hb.size) (hN.call hb) hM hnew hB.size (by unfold Oth; omega) (hT7.call hb) gT7 eT7
    refine AllReadyH.cons (o := ⟨_, _, _, _, _, _⟩) rfl (fun K hK => ?_) AllReadyH.nil
    · go_simp
      have hb : Below W.heap.size W (W.alloc (.cells #[.map none] 69)) := ba (Below.refl _ _) _
      have hnew := Bk.new W 69 #[.map none]
      refine hK.out _ _ (hS.call hb) (fun hHeld => ?_)
      try simp only [Act.put, List.setIfInBounds_toArray, List.set_cons_zero, List.set_cons_succ]
      exact n2_78 _ P a b M M2 T5 W.heap.size T7 (bthen hB hb) (hS.call hb) (hV.call hb) (Nat.le_trans hab hb.size) (hN.call hb) hM hnew hB.size (by unfold Oth; omega) (hT7.call hb) gT7 eT7
  have n2_ : ∀ (W : World) (P a b M M2 T5 T6 T7 : Nat), Below w.heap.size w W → Bk W B0 26 (snR s) → Vx w (Oth a b) W P s .no → b ≤ W.heap.size → NmM W M (ents s.cl) → w.heap.size ≤ M ∧ Oth a b M → wpAnyH Tryd.prog .any unOps (NoPanic Q) (fun w' => Bk w' B0 26 (snR s)) 7 #[true, true, true, true, true, false, false, false, false, false, false, false] { tmps := #[snA s, .pointer (some ⟨B0, 0, none⟩), .int .i64 0, .int .i64 0, .bool false, undef, undef, undef, snA s, .pointer (some ⟨P, 0, none⟩), snA s, .map (some M), snA s, undef, undef, undef, undef, undef, undef, undef], defers := [] } W := by
    intro W P a b M M2 T5 T6 T7 hB hS hV hab hN hM
    refine wpAnyH_ready (rs := [5, 6, 7, 8]) (by kernel_rfl) (by simp) ?_
    refine AllReadyH.cons (o := ⟨_, _, _, _, _, _⟩) rfl (fun K hK => ?_) ?_
    · go_simp
      refine (HR.out W hB).mono ?_
      rintro e W2 ⟨M2', rfl, hy, hb⟩
      go_wp2_with fail
      refine hK.out _ _ (hS.call hb) (fun hHeld => ?_)
      try simp only [Act.put, List.setIfInBounds_toArray, List.set_cons_zero, List.set_cons_succ]
      exact n3_ W2 P a b M M2' T5 T6 T7 (bthen hB hb) (hS.call hb) (hV.call hb) (Nat.le_trans hab hb.size) (hN.call hb) hM (hy.mono (fun y hy => ⟨by have := hB.size; omega, by unfold Oth; omega⟩))
    refine AllReadyH.cons (o := ⟨_, _, _, _, _, _⟩) rfl (fun K hK => ?_) ?_
    · go_simp
      have hb : Below W.heap.size W (W.alloc (.cells #[.pointer none] 63)) := ba (Below.refl _ _) _
      have hnew := Bk.new W 63 #[.pointer none]
      refine hK.out _ _ (hS.call hb) (fun hHeld => ?_)
      try simp only [Act.put, List.setIfInBounds_toArray, List.set_cons_zero, List.set_cons_succ]
      exact n2_6 _ P a b M M2 W.heap.size T6 T7 (bthen hB hb) (hS.call hb) (hV.call hb) (Nat.le_trans hab hb.size) (hN.call hb) hM hnew hB.size (by unfold Oth; omega)
    refine AllReadyH.cons (o := ⟨_, _, _, _, _, _⟩) rfl (fun K hK => ?_) ?_
    · go_simp
      have hb : Below W.heap.size W (W.alloc (.cells #[.map none] 69)) := ba (Below.refl _ _) _
      have hnew := Bk.new W 69 #[.map none]
      refine hK.out _ _ (hS.call hb) (fun hHeld => ?_)
      try simp only [Act.put, List.setIfInBounds_toArray, List.set_cons_zero, List.set_cons_succ]
      exact n2_7 _ P a b M M2 T5 W.heap.size T7 (bthen hB hb) (hS.call hb) (hV.call hb) (Nat.le_trans hab hb.size) (hN.call hb) hM hnew hB.size (by unfold Oth; omega)
    refine AllReadyH.cons (o := ⟨_, _, _, _, _, _⟩) rfl (fun K hK => ?_) AllReadyH.nil
    · go_simp
      have hb : Below W.heap.size W (W.alloc (.cells #[.map none] 71)) := ba (Below.refl _ _) _
      have hnew := Bk.new W 71 #[.map none]
      refine hK.out _ _ (hS.call hb) (fun hHeld => ?_)
      try simp only [Act.put, List.setIfInBounds_toArray, List.set_cons_zero, List.set_cons_succ]
      exact n2_8 _ P a b M M2 T5 T6 W.heap.size (bthen hB hb) (hS.call hb) (hV.call hb) (Nat.le_trans hab hb.size) (hN.call hb) hM hnew hB.size (by unfold Oth; omega)
  have n1_678 : ∀ (W : World) (P a b M M2 T5 T6 T7 : Nat), Below w.heap.size w W → Bk W B0 26 (snR s) → Vx w (Oth a b) W P s .no → b ≤ W.heap.size → Bk W T5 63 #[.pointer none] → w.heap.size ≤ T5 → Oth a b T5 → Bk W T6 69 #[.map none] → w.heap.size ≤ T6 → Oth a b T6 → Bk W T7 71 #[.map none] → w.heap.size ≤ T7 → Oth a b T7 → wpAnyH Tryd.prog .any unOps (NoPanic Q) (fun w' => Bk w' B0 26 (snR s)) 5 #[true, true, true, false, true, false, true, true, true, false, false, false] { tmps := #[snA s, .pointer (some ⟨B0, 0, none⟩), .int .i64 0, .int .i64 0, .bool false, .pointer (some ⟨T5, 0, none⟩), .pointer (some ⟨T6, 0, none⟩), .pointer (some ⟨T7, 0, none⟩), snA s, .pointer (some ⟨P, 0, none⟩), snA s, undef, snA s, undef, undef, undef, undef, undef, undef, undef], defers := [] } W := by
    intro W P a b M M2 T5 T6 T7 hB hS hV hab hT5 gT5 eT5 hT6 gT6 eT6 hT7 gT7 eT7
    refine wpAnyH_ready (rs := [3]) (by kernel_rfl) (by simp) ?_
    refine AllReadyH.cons (o := ⟨_, _, _, _, _, _⟩) rfl (fun K hK => ?_) AllReadyH.nil
    · go_simp
      refine (named_any s W (HSg.out.call hB) HSm.out).mono ?_
      rintro e W2 ⟨rfl, hn, hb⟩
      go_wp2_with fail
      refine hK.out _ _ (hS.call hb) (fun hHeld => ?_)
      try simp only [Act.put, List.setIfInBounds_toArray, List.set_cons_zero, List.set_cons_succ]
      exact n2_678 W2 P a b (W.heap.size + 1) M2 T5 T6 T7 (bthen hB hb) (hS.call hb) (hV.call hb) (Nat.le_trans hab hb.size) hn ⟨by have := hB.size; omega, by unfold Oth; omega⟩ (hT5.call hb) gT5 eT5 (hT6.call hb) gT6 eT6 (hT7.call hb) gT7 eT7
  have n1_67 : ∀ (W : World) (P a b M M2 T5 T6 T7 : Nat), Below w.heap.size w W → Bk W B0 26 (snR s) → Vx w (Oth a b) W P s .no → b ≤ W.heap.size → Bk W T5 63 #[.pointer none] → w.heap.size ≤ T5 → Oth a b T5 → Bk W T6 69 #[.map none] → w.heap.size ≤ T6 → Oth a b T6 → wpAnyH Tryd.prog .any unOps (NoPanic Q) (fun w' => Bk w' B0 26 (snR s)) 6 #[true, true, true, false, true, false, true, true, false, false, false, false] { tmps := #[snA s, .pointer (some ⟨B0, 0, none⟩), .int .i64 0, .int .i64 0, .bool false, .pointer (some ⟨T5, 0, none⟩), .pointer (some ⟨T6, 0, none⟩), undef, snA s, .pointer (some ⟨P, 0, none⟩), snA s, undef, snA s, undef, undef, undef, undef, undef, undef, undef], defers := [] } W := by
    intro W P a b M M2 T5 T6 T7 hB hS hV hab hT5 gT5 eT5 hT6 gT6 eT6
    refine wpAnyH_ready (rs := [3, 8]) (by kernel_rfl) (by simp) ?_
    refine AllReadyH.cons (o := ⟨_, _, _, _, _, _⟩) rfl (fun K hK => ?_) ?_
    · go_simp
      refine (named_any s W (HSg.out.call hB) HSm.out).mono ?_
      rintro e W2 ⟨rfl, hn, hb⟩
      go_wp2_with fail
      refine hK.out _ _ (hS.call hb) (fun hHeld => ?_)
      try simp only [Act.put, List.setIfInBounds_toArray, List.set_cons_zero, List.set_cons_succ]
      exact n2_67 W2 P a b (W.heap.size + 1) M2 T5 T6 T7 (bthen hB hb) (hS.call hb) (hV.call hb) (Nat.le_trans hab hb.size) hn ⟨by have := hB.size; omega, by unfold Oth; omega⟩ (hT5.call hb) gT5 eT5 (hT6.call hb) gT6 eT6
    refine AllReadyH.cons (o := ⟨_, _, _, _, _, _⟩) rfl (fun K hK => ?_) AllReadyH.nil
    · go_simp
      have hb : Below W.heap.size W (W.alloc (.cells #[.map none] 71)) := ba (Below.refl _ _) _
      have hnew := Bk.new W 71 #[.map none]
      refine hK.out _ _ (hS.call hb) (fun hHeld => ?_)
      try simp only [Act.put, List.setIfInBounds_toArray, List.set_cons_zero, List.set_cons_succ]
      exact n1_678 _ P a b M M2 T5 T6 W.heap.size (bthen hB hb) (hS.call hb) (hV.call hb) (Nat.le_trans hab hb.size) (hT5.call hb) gT5 eT5 (hT6.call hb) gT6 eT6 hnew hB.size (by unfold Oth; omega)
  have n1_68 : ∀ (W : World) (P a b M M2 T5 T6 T7 : Nat), Below w.heap.size w W → Bk W B0 26 (snR s) → Vx w (Oth a b) W P s .no → b ≤ W.heap.size → Bk W T5 63 #[.pointer none] → w.heap.size ≤ T5 → Oth a b T5 → Bk W T7 71 #[.map none] → w.heap.size ≤ T7 → Oth a b T7 → wpAnyH Tryd.prog .any unOps (NoPanic Q) (fun w' => Bk w' B0 26 (snR s)) 6 #[true, true, true, false, true, false, true, false, true, false, false, false] { tmps := #[snA s, .pointer (some ⟨B0, 0, none⟩), .int .i64 0, .int .i64 0, .bool false, .pointer (some ⟨T5, 0, none⟩), undef, .pointer (some ⟨T7, 0, none⟩), snA s, .pointer (some ⟨P, 0, none⟩), snA s, undef, snA s, undef, undef, undef, undef, undef, undef, undef], defers := [] } W := by
    intro W P a b M M2 T5 T6 T7 hB hS hV hab hT5 gT5 eT5 hT7 gT7 eT7
    refine wpAnyH_ready (rs := [3, 7]) (by kernel_rfl) (by simp) ?_
    refine AllReadyH.cons (o := ⟨_, _, _, _, _, _⟩) rfl (fun K hK => ?_) ?_
    · go_simp
      refine (named_any s W (HSg.out.call hB) HSm.out).mono ?_
      rintro e W2 ⟨rfl, hn, hb⟩
      go_wp2_with fail
      refine hK.out _ _ (hS.call hb) (fun hHeld => ?_)
      try simp only [Act.put, List.setIfInBounds_toArray, List.set_cons_zero, List.set_cons_succ]
      exact n2_68 W2 P a b (W.heap.size + 1) M2 T5 T6 T7 (bthen hB hb) (hS.call hb) (hV.call hb) (Nat.le_trans hab hb.size) hn ⟨by have := hB.size; omega, by unfold Oth; omega⟩ (hT5.call hb) gT5 eT5 (hT7.call hb) gT7 eT7
    refine AllReadyH.cons (o := ⟨_, _, _, _, _, _⟩) rfl (fun K hK => ?_) AllReadyH.nil
    · go_simp
      have hb : Below W.heap.size W (W.alloc (.cells #[.map none] 69)) := ba (Below.refl _ _) _
      have hnew := Bk.new W 69 #[.map none]
      refine hK.out _ _ (hS.call hb) (fun hHeld => ?_)
      try simp only [Act.put, List.setIfInBounds_toArray, List.set_cons_zero, List.set_cons_succ]
      exact n1_678 _ P a b M M2 T5 W.heap.size T7 (bthen hB hb) (hS.call hb) (hV.call hb) (Nat.le_trans hab hb.size) (hT5.call hb) gT5 eT5 hnew hB.size (by unfold Oth; omega) (hT7.call hb) gT7 eT7
  have n1_78 : ∀ (W : World) (P a b M M2 T5 T6 T7 : Nat), Below w.heap.size w W → Bk W B0 26 (snR s) → Vx w (Oth a b) W P s .no → b ≤ W.heap.size → Bk W T6 69 #[.map none] → w.heap.size ≤ T6 → Oth a b T6 → Bk W T7 71 #[.map none] → w.heap.size ≤ T7 → Oth a b T7 → wpAnyH Tryd.prog .any unOps (NoPanic Q) (fun w' => Bk w' B0 26 (snR s)) 6 #[true, true, true, false, true, false, false, true, true, false, false, false] { tmps := #[snA s, .pointer (some ⟨B0, 0, none⟩), .int .i64 0, .int .i64 0, .bool false, undef, .pointer (some ⟨T6, 0, none⟩), .pointer (some ⟨T7, 0, none⟩), snA s, .pointer (some ⟨P, 0, none⟩), snA s, undef, snA s, undef, undef, undef, undef, undef, undef, undef], defers := [] } W := by
    intro W P a b M M2 T5 T6 T7 hB hS hV hab hT6 gT6 eT6 hT7 gT7 eT7
    refine wpAnyH_ready (rs := [3, 6]) (by kernel_rfl) (by simp) ?_
    refine AllReadyH.cons (o := ⟨_, _, _, _, _, _⟩) rfl (fun K hK => ?_) ?_
    · go_simp
      refine (named_any s W (HSg.out.call hB) HSm.out).mono ?_
      rintro e W2 ⟨rfl, hn, hb⟩
      go_wp2_with fail
      refine hK.out _ _ (hS.call hb) (fun hHeld => ?_)
      try simp only [Act.put, List.setIfInBounds_toArray, List.set_cons_zero, List.set_cons_succ]
      exact n2_78 W2 P a b (W.heap.size + 1) M2 T5 T6 T7 (bthen hB hb) (hS.call hb) (hV.call hb) (Nat.le_trans hab hb.size) hn ⟨by have := hB.size; omega, by unfold Oth; omega⟩ (hT6.call hb) gT6 eT6 (hT7.call hb) gT7 eT7
    refine AllReadyH.cons (o := ⟨_, _, _, _, _, _⟩) rfl (fun K hK => ?_) AllReadyH.nil
    · go_simp
      have hb : Below W.heap.size W (W.alloc (.cells #[.pointer none] 63)) := ba (Below.refl _ _) _
      have hnew := Bk.new W 63 #[.pointer none]
      refine hK.out _ _ (hS.call hb) (fun hHeld => ?_)
      try simp only [Act.put, List.setIfInBounds_toArray, List.set_cons_zero, List.set_cons_succ]
      exact n1_678 _ P a b M M2 W.heap.size T6 T7 (bthen hB hb) (hS.call hb) (hV.call hb) (Nat.le_trans hab hb.size) hnew hB.size (by unfold Oth; omega) (hT6.call hb) gT6 eT6 (hT7.call hb) gT7 eT7
  have n1_6 : ∀ (W : World) (P a b M M2 T5 T6 T7 : Nat), Below w.heap.size w W → Bk W B0 26 (snR s) → Vx w (Oth a b) W P s .no → b ≤ W.heap.size → Bk W T5 63 #[.pointer none] → w.heap.size ≤ T5 → Oth a b T5 → wpAnyH Tryd.prog .any unOps (NoPanic Q) (fun w' => Bk w' B0 26 (snR s)) 7 #[true, true, true, false, true, false, true, false, false, false, false, false] { tmps := #[snA s, .pointer (some ⟨B0, 0, none⟩), .int .i64 0, .int .i64 0, .bool false, .pointer (some ⟨T5, 0, none⟩), undef, undef, snA s, .pointer (some ⟨P, 0, none⟩), snA s, undef, snA s, undef, undef, undef, undef, undef, undef, undef], defers := [] } W := by
    intro W P a b M M2 T5 T6 T7 hB hS hV hab hT5 gT5 eT5
    refine wpAnyH_ready (rs := [3, 7, 8]) (by kernel_rfl) (by simp) ?_
    refine AllReadyH.cons (o := ⟨_, _, _, _, _, _⟩) rfl (fun K hK => ?_) ?_
    · go_simp
      refine (named_any s W (HSg.out.call hB) HSm.out).mono ?_
      rintro e W2 ⟨rfl, hn, hb⟩
      go_wp2_with fail
      refine hK.out _ _ (hS.call hb) (fun hHeld => ?_)
      try simp only [Act.put, List.setIfInBounds_toArray, List.set_cons_zero, List.set_cons_succ]
      exact n2_6 W2 P a b (W.heap.size + 1) M2 T5 T6 T7 (bthen hB hb) (hS.call hb) (hV.call hb) (Nat.le_trans hab hb.size) hn ⟨by have := hB.size; omega, by unfold Oth; omega⟩ (hT5.call hb) gT5 eT5
    refine AllReadyH.cons (o := ⟨_, _, _, _, _, _⟩) rfl (fun K hK => ?_) ?_
    · go_simp
      have hb : Below W.heap.size W (W.alloc (.cells #[.map none] 69)) := ba (Below.refl _ _) _
      have hnew := Bk.new W 69 #[.map none]
      refine hK.out _ _ (hS.call hb) (fun hHeld => ?_)
      try simp only [Act.put, List.setIfInBounds_toArray, List.set_cons_zero, List.set_cons_succ]
      exact n1_67 _ P a b M M2 T5 W.heap.size T7 (bthen hB hb) (hS.call hb) (hV.call hb) (Nat.le_trans hab hb.size) (hT5.call hb) gT5 eT5 hnew hB.size (by unfold Oth; omega)
    refine AllReadyH.cons (o := ⟨_, _, _, _, _, _⟩) rfl (fun K hK => ?_) AllReadyH.nil
    · go_simp
      have hb : Below W.heap.size W (W.alloc (.cells #[.map none] 71)) := ba (Below.refl _ _) _
      have hnew := Bk.new W 71 #[.map none]
      refine hK.out _ _ (hS.call hb) (fun hHeld => ?_)
      try simp only [Act.put, List.setIfInBounds_toArray, List.set_cons_zero, List.set_cons_succ]
      exact n1_68 _ P a b M M2 T5 T6 W.heap.size (bthen hB hb) (hS.call hb) (hV.call hb) (Nat.le_trans hab hb.size) (hT5.call hb) gT5 eT5 hnew hB.size (by unfold Oth; omega)
  have n1_7 : ∀ (W : World) (P a b M M2 T5 T6 T7 : Nat), Below w.heap.size w W → Bk W B0 26 (snR s) → Vx w (Oth a b) W P s .no → b ≤ W.heap.size → Bk W T6 69 #[.map none] → w.heap.size ≤ T6 → Oth a b T6 → wpAnyH Tryd.prog .any unOps (NoPanic Q) (fun w' => Bk w' B0 26 (snR s)) 7 #[true, true, true, false, true, false, false, true, false, false, false, false] { tmps := #[snA s, .pointer (some ⟨B0, 0, none⟩), .int .i64 0, .int .i64 0, .bool false, undef, .pointer (some ⟨T6, 0, none⟩), undef, snA s, .pointer (some ⟨P, 0, none⟩), snA s, undef, snA s, undef, undef, undef, undef, undef, undef, undef], defers := [] } W := by
    intro W P a b M M2 T5 T6 T7 hB hS hV hab hT6 gT6 eT6
    refine wpAnyH_ready (rs := [3, 6, 8]) (by kernel_rfl) (by simp) ?_
    refine AllReadyH.cons (o := ⟨_, _, _, _, _, _⟩) rfl (fun K hK => ?_) ?_
    · go_simp
      refine (named_any s W (HSg.out.call hB) HSm.out).mono ?_
      rintro e W2 ⟨rfl, hn, hb⟩
      go_wp2_with fail
      refine hK.out _ _ (hS.call hb) (fun hHeld => ?_)
      try simp only [Act.put, List.setIfInBounds_toArray, List.set_cons_zero, List.set_cons_succ]
      exact n2_7 W2 P a b (W.heap.size + 1) M2 T5 T6 T7 (bthen hB hb) (hS.call hb) (hV.call hb) (Nat.le_trans hab hb.size) hn ⟨by have := hB.size; omega, by unfold Oth; omega⟩ (hT6.call hb) gT6 eT6
    refine AllReadyH.cons (o := ⟨_, _, _, _, _, _⟩) rfl (fun K hK => ?_) ?_
    · go_simp
      have hb : Below W.heap.size W (W.alloc (.cells #[.pointer none] 63)) := ba (Below.refl _ _) _
      have hnew := Bk.new W 63 #[.pointer none]
      refine hK.out _ _ (hS.call hb) (fun hHeld => ?_)
      try simp only [Act.put, List.setIfInBounds_toArray, List.set_cons_zero, List.set_cons_succ]
      exact n1_67 _ P a b M M2 W.heap.size T6 T7 (bthen hB hb) (hS.call hb) (hV.call hb) (Nat.le_trans hab hb.size) hnew hB.size (by unfold Oth; omega) (hT6.call hb) gT6 eT6
    refine AllReadyH.cons (o := ⟨_, _, _, _, _, _⟩) rfl (fun K hK => ?_) AllReadyH.nil
    · go_simp
      have hb : Below W.heap.size W (W.alloc (.cells #[.map none] 71)) := ba (Below.refl _ _) _
      have hnew := Bk.new W 71 #[.map none]
      refine hK.out _ _ (hS.call hb) (fun hHeld => ?_)
      try simp only [Act.put, List.setIfInBounds_toArray, List.set_cons_zero, List.set_cons_succ]
      exact n1_78 _ P a b M M2 T5 T6 W.heap.size (bthen hB hb) (hS.call hb) (hV.call hb) (Nat.le_trans hab hb.size) (hT6.call hb) gT6 eT6 hnew hB.size (by unfold Oth; omega)
  have n1_8 : ∀ (W : World) (P a b M M2 T5 T6 T7 : Nat), Below w.heap.size w W → Bk W B0 26 (snR s) → Vx w (Oth a b) W P s .no → b ≤ W.heap.size → Bk W T7 71 #[.map none] → w.heap.size ≤ T7 → Oth a b T7 → wpAnyH Tryd.prog .any unOps (NoPanic Q) (fun w' => Bk w' B0 26 (snR s)) 7 #[true, true, true, false, true, false, false, false, true, false, false, false] { tmps := #[snA s, .pointer (some ⟨B0, 0, none⟩), .int .i64 0, .int .i64 0, .bool false, undef, undef, .pointer (some ⟨T7, 0, none⟩), snA s, .pointer (some ⟨P, 0, none⟩), snA s, undef, snA s, undef, undef, undef, undef, undef, undef, undef], defers := [] } W := by
    intro W P a b M M2 T5 T6 T7 hB hS hV hab hT7 gT7 eT7
    refine wpAnyH_ready (rs := [3, 6, 7]) (by kernel_rfl) (by simp) ?_
    refine AllReadyH.cons (o := ⟨_, _, _, _, _, _⟩) rfl (fun K hK => ?_) ?_
    · go_simp
      refine (named_any s W (HSg.out.call hB) HSm.out).mono ?_
      rintro e W2 ⟨rfl, hn, hb⟩
      go_wp2_with fail
      refine hK.out _ _ (hS.call hb) (fun hHeld => ?_)
      try simp only [Act.put, List.setIfInBounds_toArray, List.set_cons_zero, List.set_cons_succ]
      exact n2_8 W2 P a b (W.heap.size + 1) M2 T5 T6 T7 (bthen hB hb) (hS.call hb) (hV.call hb) (Nat.le_trans hab hb.size) hn ⟨by have := hB.size; omega, by unfold Oth; omega⟩ (hT7.call hb) gT7 eT7
    refine AllReadyH.cons (o := ⟨_, _, _, _, _, _⟩) rfl (fun K hK => ?_) ?_
    · go_simp
      have hb : Below W.heap.size W (W.alloc (.cells #[.pointer none] 63)) := ba (Below.refl _ _) _
      have hnew := Bk.new W 63 #[.pointer none]
      refine hK.out _ _ (hS.call hb) (fun hHeld => ?_)
      try simp only [Act.put, List.setIfInBounds_toArray, List.set_cons_zero, List.set_cons_succ]
      exact n1_68 _ P a b M M2 W.heap.size T6 T7 (bthen hB hb) (hS.call hb) (hV.call hb) (Nat.le_trans hab hb.size) hnew hB.size (by unfold Oth; omega) (hT7.call hb) gT7 eT7
    refine AllReadyH.cons (o := ⟨_, _, _, _, _, _⟩) rfl (fun K hK => ?_) AllReadyH.nil
    · go_simp
      have hb : Below W.heap.size W (W.alloc (.cells #[.map none] 69)) := ba (Below.refl _ _) _
      have hnew := Bk.new W 69 #[.map none]
      refine hK.out _ _ (hS.call hb) (fun hHeld => ?_)
      try simp only [Act.put, List.setIfInBounds_toArray, List.set_cons_zero, List.set_cons_succ]
      exact n1_78 _ P a b M M2 T5 W.heap.size T7 (bthen hB hb) (hS.call hb) (hV.call hb) (Nat.le_trans hab hb.size) hnew hB.size (by unfold Oth; omega) (hT7.call hb) gT7 eT7
  have n1_ : ∀ (W : World) (P a b M M2 T5 T6 T7 : Nat), Below w.heap.size w W → Bk W B0 26 (snR s) → Vx w (Oth a b) W P s .no → b ≤ W.heap.size → wpAnyH Tryd.prog .any unOps (NoPanic Q) (fun w' => Bk w' B0 26 (snR s)) 8 #[true, true, true, false, true, false, false, false, false, false, false, false] { tmps := #[snA s, .pointer (some ⟨B0, 0, none⟩), .int .i64 0, .int .i64 0, .bool false, undef, undef, undef, snA s, .pointer (some ⟨P, 0, none⟩), snA s, undef, snA s, undef, undef, undef, undef, undef, undef, undef], defers := [] } W := by
    intro W P a b M M2 T5 T6 T7 hB hS hV hab
    refine wpAnyH_ready (rs := [3, 6, 7, 8]) (by kernel_rfl) (by simp) ?_
    refine AllReadyH.cons (o := ⟨_, _, _, _, _, _⟩) rfl (fun K hK => ?_) ?_
    · go_simp
      refine (named_any s W (HSg.out.call hB) HSm.out).mono ?_
      rintro e W2 ⟨rfl, hn, hb⟩
      go_wp2_with fail
      refine hK.out _ _ (hS.call hb) (fun hHeld => ?_)
      try simp only [Act.put, List.setIfInBounds_toArray, List.set_cons_zero, List.set_cons_succ]
      exact n2_ W2 P a b (W.heap.size + 1) M2 T5 T6 T7 (bthen hB hb) (hS.call hb) (hV.call hb) (Nat.le_trans hab hb.size) hn ⟨by have := hB.size; omega, by unfold Oth; omega⟩
    refine AllReadyH.cons (o := ⟨_, _, _, _, _, _⟩) rfl (fun K hK => ?_) ?_
    · go_simp
      have hb : Below W.heap.size W (W.alloc (.cells #[.pointer none] 63)) := ba (Below.refl _ _) _
      have hnew := Bk.new W 63 #[.pointer none]
      refine hK.out _ _ (hS.call hb) (fun hHeld => ?_)
      try simp only [Act.put, List.setIfInBounds_toArray, List.set_cons_zero, List.set_cons_succ]
      exact n1_6 _ P a b M M2 W.heap.size T6 T7 (bthen hB hb) (hS.call hb) (hV.call hb) (Nat.le_trans hab hb.size) hnew hB.size (by unfold Oth; omega)
    refine AllReadyH.cons (o := ⟨_, _, _, _, _, _⟩) rfl (fun K hK => ?_) ?_
    · go_simp
      have hb : Below W.heap.size W (W.alloc (.cells #[.map none] 69)) := ba (Below.refl _ _) _
      have hnew := Bk.new W 69 #[.map none]
      refine hK.out _ _ (hS.call hb) (fun hHeld => ?_)
      try simp only [Act.put, List.setIfInBounds_toArray, List.set_cons_zero, List.set_cons_succ]
      exact n1_7 _ P a b M M2 T5 W.heap.size T7 (bthen hB hb) (hS.call hb) (hV.call hb) (Nat.le_trans hab hb.size) hnew hB.size (by unfold Oth; omega)
    refine AllReadyH.cons (o := ⟨_, _, _, _, _, _⟩) rfl (fun K hK => ?_) AllReadyH.nil
    · go_simp
      have hb : Below W.heap.size W (W.alloc (.cells #[.map none] 71)) := ba (Below.refl _ _) _
      have hnew := Bk.new W 71 #[.map none]
      refine hK.out _ _ (hS.call hb) (fun hHeld => ?_)
      try simp only [Act.put, List.setIfInBounds_toArray, List.set_cons_zero, List.set_cons_succ]
      exact n1_8 _ P a b M M2 T5 T6 W.heap.size (bthen hB hb) (hS.call hb) (hV.call hb) (Nat.le_trans hab hb.size) hnew hB.size (by unfold Oth; omega)
  have n0_678 : ∀ (W : World) (P a b M M2 T5 T6 T7 : Nat), Below w.heap.size w W → Bk W B0 26 (snR s) → Bk W T5 63 #[.pointer none] → w.heap.size ≤ T5 → Bk W T6 69 #[.map none] → w.heap.size ≤ T6 → Bk W T7 71 #[.map none] → w.heap.size ≤ T7 → wpAnyH Tryd.prog .any unOps (NoPanic Q) (fun w' => Bk w' B0 26 (snR s)) 6 #[true, false, true, false, true, false, true, true, true, false, false, false] { tmps := #[snA s, .pointer (some ⟨B0, 0, none⟩), .int .i64 0, .int .i64 0, .bool false, .pointer (some ⟨T5, 0, none⟩), .pointer (some ⟨T6, 0, none⟩), .pointer (some ⟨T7, 0, none⟩), snA s, undef, snA s, undef, snA s, undef, undef, undef, undef, undef, undef, undef], defers := [] } W := by
    intro W P a b M M2 T5 T6 T7 hB hS hT5 gT5 hT6 gT6 hT7 gT7
    refine wpAnyH_ready (rs := [1]) (by kernel_rfl) (by simp) ?_
    refine AllReadyH.cons (o := ⟨_, _, _, _, _, _⟩) rfl (fun K hK => ?_) AllReadyH.nil
    · go_simp
      refine (wtLook_any s W w (fun y => y < W.heap.size) hB (fun x hx => hx)).mono ?_
      rintro e W2 ⟨rfl, hv, hb⟩
      go_wp2_with fail
      refine hK.out _ _ (hS.call hb) (fun hHeld => ?_)
      try simp only [Act.put, List.setIfInBounds_toArray, List.set_cons_zero, List.set_cons_succ]
      exact n1_678 W2 (W.heap.size + 2) W.heap.size W2.heap.size M M2 T5 T6 T7 (bthen hB hb) (hS.call hb) (hv.grow (Below.refl _ _) (fun y hy => by unfold Oth at hy; omega)) (Nat.le_refl _) (hT5.call hb) gT5 (by have := hT5.lt; unfold Oth; omega) (hT6.call hb) gT6 (by have := hT6.lt; unfold Oth; omega) (hT7.call hb) gT7 (by have := hT7.lt; unfold Oth; omega)
  have n0_67 : ∀ (W : World) (P a b M M2 T5 T6 T7 : Nat), Below w.heap.size w W → Bk W B0 26 (snR s) → Bk W T5 63 #[.pointer none] → w.heap.size ≤ T5 → Bk W T6 69 #[.map none] → w.heap.size ≤ T6 → wpAnyH Tryd.prog .any unOps (NoPanic Q) (fun w' => Bk w' B0 26 (snR s)) 7 #[true, false, true, false, true, false, true, true, false, false, false, false] { tmps := #[snA s, .pointer (some ⟨B0, 0, none⟩), .int .i64 0, .int .i64 0, .bool false, .pointer (some ⟨T5, 0, none⟩), .pointer (some ⟨T6, 0, none⟩), undef, snA s, undef, snA s, undef, snA s, undef, undef, undef, undef, undef, undef, undef], defers := [] } W := by
    intro W P a b M M2 T5 T6 T7 hB hS hT5 gT5 hT6 gT6
    refine wpAnyH_ready (rs := [1, 8]) (by kernel_rfl) (by simp) ?_
    refine AllReadyH.cons (o := ⟨_, _, _, _, _, _⟩) rfl (fun K hK => ?_) ?_
    · go_simp
      refine (wtLook_any s W w (fun y => y < W.heap.size) hB (fun x hx => hx)).mono ?_
      rintro e W2 ⟨rfl, hv, hb⟩
      go_wp2_with fail
      refine hK.out _ _ (hS.call hb) (fun hHeld => ?_)
      try simp only [Act.put, List.setIfInBounds_toArray, List.set_cons_zero, List.set_cons_succ]
      exact n1_67 W2 (W.heap.size + 2) W.heap.size W2.heap.size M M2 T5 T6 T7 (bthen hB hb) (hS.call hb) (hv.grow (Below.refl _ _) (fun y hy => by unfold Oth at hy; omega)) (Nat.le_refl _) (hT5.call hb) gT5 (by have := hT5.lt; unfold Oth; omega) (hT6.call hb) gT6 (by have := hT6.lt; unfold Oth; omega)
    refine AllReadyH.cons (o := ⟨_, _, _, _, _, _⟩) rfl (fun K hK => ?_) AllReadyH.nil
    · go_simp
      have hb : Below W.heap.size W (W.alloc (.cells #[.map none] 71)) := ba (Below.refl _ _) _
      have hnew := Bk.new W 71 #[.map none]
      refine hK.out _ _ (hS.call hb) (fun hHeld => ?_)
      try simp only [Act.put, List.setIfInBounds_toArray, List.set_cons_zero, List.set_cons_succ]
      exact n0_678 _ P a b M M2 T5 T6 W.heap.size (bthen hB hb) (hS.call hb) (hT5.call hb) gT5 (hT6.call hb) gT6 hnew hB.size
  have n0_68 : ∀ (W : World) (P a b M M2 T5 T6 T7 : Nat), Below w.heap.size w W → Bk W B0 26 (snR s) → Bk W T5 63 #[.pointer none] → w.heap.size ≤ T5 → Bk W T7 71 #[.map none] → w.heap.size ≤ T7 → wpAnyH Tryd.prog .any unOps (NoPanic Q) (fun w' => Bk w' B0 26 (snR s)) 7 #[true, false, true, false, true, false, true, false, true, false, false, false] { tmps := #[snA s, .pointer (some ⟨B0, 0, none⟩), .int .i64 0, .int .i64 0, .bool false, .pointer (some ⟨T5, 0, none⟩), undef, .pointer (some ⟨T7, 0, none⟩), snA s, undef, snA s, undef, snA s, undef, undef, undef, undef, undef, undef, undef], defers := [] } W := by
    intro W P a b M M2 T5 T6 T7 hB hS hT5 gT5 hT7 gT7
    refine wpAnyH_ready (rs := [1, 7]) (by kernel_rfl) (by simp) ?_
    refine AllReadyH.cons (o := ⟨_, _, _, _, _, _⟩) rfl (fun K hK => ?_) ?_
    · go_simp
      refine (wtLook_any s W w (fun y => y < W.heap.size) hB (fun x hx => hx)).mono ?_
      rintro e W2 ⟨rfl, hv, hb⟩
      go_wp2_with fail
      refine hK.out _ _ (hS.call hb) (fun hHeld => ?_)
      try simp only [Act.put, List.setIfInBounds_toArray, List.set_cons_zero, List.set_cons_succ]
      exact n1_68 W2 (W.heap.size + 2) W.heap.size W2.heap.size M M2 T5 T6 T7 (bthen hB hb) (hS.call hb) (hv.grow (Below.refl _ _) (fun y hy => by unfold Oth at hy; omega)) (Nat.le_refl _) (hT5.call hb) gT5 (by have := hT5.lt; unfold Oth; omega) (hT7.call hb) gT7 (by have := hT7.lt; unfold Oth; omega)
    refine AllReadyH.cons (o := ⟨_, _, _, _, _, _⟩) rfl (fun K hK => ?_) AllReadyH.nil
    · go_simp
      have hb : Below W.heap.size W (W.alloc (.cells #[.map none] 69)) := ba (Below.refl _ _) _
      have hnew := Bk.new W 69 #[.map none]
      refine hK.out _ _ (hS.call hb) (fun hHeld => ?_)
      try simp only [Act.put, List.setIfInBounds_toArray, List.set_cons_zero, List.set_cons_succ]
      exact n0_678 _ P a b M M2 T5 W.heap.size T7 (bthen hB hb) (hS.call hb) (hT5.call hb) gT5 hnew hB.size (hT7.call hb) gT7
  have n0_78 : ∀ (W : World) (P a b M M2 T5 T6 T7 : Nat), Below w.heap.size w W → Bk W B0 26 (snR s) → Bk W T6 69 #[.map none] → w.heap.size ≤ T6 → Bk W T7 71 #[.map none] → w.heap.size ≤ T7 → wpAnyH Tryd.prog .any unOps (NoPanic Q) (fun w' => Bk w' B0 26 (snR s)) 7 #[true, false, true, false, true, false, false, true, true, false, false, false] { tmps := #[snA s, .pointer (some ⟨B0, 0, none⟩), .int .i64 0, .int .i64 0, .bool false, undef, .pointer (some ⟨T6, 0, none⟩), .pointer (some ⟨T7, 0, none⟩), snA s, undef, snA s, undef, snA s, undef, undef, undef, undef, undef, undef, undef], defers := [] } W := by
    intro W P a b M M2 T5 T6 T7 hB hS hT6 gT6 hT7 gT7
    refine wpAnyH_ready (rs := [1, 6]) (by kernel_rfl) (by simp) ?_
    refine AllReadyH.cons (o := ⟨_, _, _, _, _, _⟩) rfl (fun K hK => ?_) ?_
    · go_simp
      refine (wtLook_any s W w (fun y => y < W.heap.size) hB (fun x hx => hx)).mono ?_
      rintro e W2 ⟨rfl, hv, hb⟩
      go_wp2_with fail
      refine hK.out _ _ (hS.call hb) (fun hHeld => ?_)
      try simp only [Act.put, List.setIfInBounds_toArray, List.set_cons_zero, List.set_cons_succ]
      exact n1_78 W2 (W.heap.size + 2) W.heap.size W2.heap.size M M2 T5 T6 T7 (bthen hB hb) (hS.call hb) (hv.grow (Below.refl _ _) (fun y hy => by unfold Oth at hy; omega)) (Nat.le_refl _) (hT6.call hb) gT6 (by have := hT6.lt; unfold Oth; omega) (hT7.call hb) gT7 (by have := hT7.lt; unfold Oth; omega)
    refine AllReadyH.cons (o := ⟨_, _, _, _, _, _⟩) rfl (fun K hK => ?_) AllReadyH.nil
    · go_simp
      have hb : Below W.heap.size W (W.alloc (.cells #[.pointer none] 63)) := ba (Below.refl _ _) _
      have hnew := Bk.new W 63 #[.pointer none]
      refine hK.out _ _ (hS.call hb) (fun hHeld => ?_)
      try simp only [Act.put, List.setIfInBounds_toArray, List.set_cons_zero, List.set_cons_succ]
      exact n0_678 _ P a b M M2 W.heap.size T6 T7 (bthen hB hb) (hS.call hb) hnew hB.size (hT6.call hb) gT6 (hT7.call hb) gT7
  have n0_6 : ∀ (W : World) (P a b M M2 T5 T6 T7 : Nat), Below w.heap.size w W → Bk W B0 26 (snR s) → Bk W T5 63 #[.pointer none] → w.heap.size ≤ T5 → wpAnyH Tryd.prog .any unOps (NoPanic Q) (fun w' => Bk w' B0 26 (snR s)) 8 #[true, false, true, false, true, false, true, false, false, false, false, false] { tmps := #[snA s, .pointer (some ⟨B0, 0, none⟩), .int .i64 0, .int .i64 0, .bool false, .pointer (some ⟨T5, 0, none⟩), undef, undef, snA s, undef, snA s, undef, snA s, undef, undef, undef, undef, undef, undef, undef], defers := [] } W := by
    intro W P a b M M2 T5 T6 T7 hB hS hT5 gT5
    refine wpAnyH_ready (rs := [1, 7, 8]) (by kernel_rfl) (by simp) ?_
    refine AllReadyH.cons (o := ⟨_, _, _, _, _, _⟩) rfl (fun K hK => ?_) ?_
    · go_simp
      refine (wtLook_any s W w (fun y => y < W.heap.size) hB (fun x hx => hx)).mono ?_
      rintro e W2 ⟨rfl, hv, hb⟩
      go_wp2_with fail
      refine hK.out _ _ (hS.call hb) (fun hHeld => ?_)
      try simp only [Act.put, List.setIfInBounds_toArray, List.set_cons_zero, List.set_cons_succ]
      exact n1_6 W2 (W.heap.size + 2) W.heap.size W2.heap.size M M2 T5 T6 T7 (bthen hB hb) (hS.call hb) (hv.grow (Below.refl _ _) (fun y hy => by unfold Oth at hy; omega)) (Nat.le_refl _) (hT5.call hb) gT5 (by have := hT5.lt; unfold Oth; omega)
    refine AllReadyH.cons (o := ⟨_, _, _, _, _, _⟩) rfl (fun K hK => ?_) ?_
    · go_simp
      have hb : Below W.heap.size W (W.alloc (.cells #[.map none] 69)) := ba (Below.refl _ _) _
      have hnew := Bk.new W 69 #[.map none]
      refine hK.out _ _ (hS.call hb) (fun hHeld => ?_)
      try simp only [Act.put, List.setIfInBounds_toArray, List.set_cons_zero, List.set_cons_succ]
      exact n0_67 _ P a b M M2 T5 W.heap.size T7 (bthen hB hb) (hS.call hb) (hT5.call hb) gT5 hnew hB.size
    refine AllReadyH.cons (o := ⟨_, _, _, _, _, _⟩) rfl (fun K hK => ?_) AllReadyH.nil
    · go_simp
      have hb : Below W.heap.size W (W.alloc (.cells #[.map none] 71)) := ba (Below.refl _ _) _
      have hnew := Bk.new W 71 #[.map none]
      refine hK.out _ _ (hS.call hb) (fun hHeld => ?_)
      try simp only [Act.put, List.setIfInBounds_toArray, List.set_cons_zero, List.set_cons_succ]
      exact n0_68 _ P a b M M2 T5 T6 W.heap.size (bthen hB hb) (hS.call hb) (hT5.call hb) gT5 hnew hB.size
  have n0_7 : ∀ (W : World) (P a b M M2 T5 T6 T7 : Nat), Below w.heap.size w W → Bk W B0 26 (snR s) → Bk W T6 69 #[.map none] → w.heap.size ≤ T6 → wpAnyH Tryd.prog .any unOps (NoPanic Q) (fun w' => Bk w' B0 26 (snR s)) 8 #[true, false, true, false, true, false, false, true, false, false, false, false] { tmps := #[snA s, .pointer (some ⟨B0, 0, none⟩), .int .i64 0, .int .i64 0, .bool false, undef, .pointer (some ⟨T6, 0, none⟩), undef, snA s, undef, snA s, undef, snA s, undef, undef, undef, undef, undef, undef, undef], defers := [] } W := by
    intro W P a b M M2 T5 T6 T7 hB hS hT6 gT6
    refine wpAnyH_ready (rs := [1, 6, 8]) (by kernel_rfl) (by simp) ?_
    refine AllReadyH.cons (o := ⟨_, _, _, _, _, _⟩) rfl (fun K hK => ?_) ?_
    · go_simp
      refine (wtLook_any s W w (fun y => y < W.heap.size) hB (fun x hx => hx)).mono ?_
      rintro e W2 ⟨rfl, hv, hb⟩
      go_wp2_with fail
      refine hK.out _ _ (hS.call hb) (fun hHeld => ?_)
      try simp only [Act.put, List.setIfInBounds_toArray, List.set_cons_zero, List.set_cons_succ]
      exact n1_7 W2 (W.heap.size + 2) W.heap.size W2.heap.size M M2 T5 T6 T7 (bthen hB hb) (hS.call hb) (hv.grow (Below.refl _ _) (fun y hy => by unfold Oth at hy; omega)) (Nat.le_refl _) (hT6.call hb) gT6 (by have := hT6.lt; unfold Oth; omega)
    refine AllReadyH.cons (o := ⟨_, _, _, _, _, _⟩) rfl (fun K hK => ?_) ?_
    · go_simp
      have hb : Below W.heap.size W (W.alloc (.cells #[.pointer none] 63)) := ba (Below.refl _ _) _
      have hnew := Bk.new W 63 #[.pointer none]
      refine hK.out _ _ (hS.call hb) (fun hHeld => ?_)
      try simp only [Act.put, List.setIfInBounds_toArray, List.set_cons_zero, List.set_cons_succ]
      exact n0_67 _ P a b M M2 W.heap.size T6 T7 (bthen hB hb) (hS.call hb) hnew hB.size (hT6.call hb) gT6
    refine AllReadyH.cons (o := ⟨_, _, _, _, _, _⟩) rfl (fun K hK => ?_) AllReadyH.nil
    · go_simp
      have hb : Below W.heap.size W (W.alloc (.cells #[.map none] 71)) := ba (Below.refl _ _) _
      have hnew := Bk.new W 71 #[.map none]
      refine hK.out _ _ (hS.call hb) (fun hHeld => ?_)
      try simp only [Act.put, List.setIfInBounds_toArray, List.set_cons_zero, List.set_cons_succ]
      exact n0_78 _ P a b M M2 T5 T6 W.heap.size (bthen hB hb) (hS.call hb) (hT6.call hb) gT6 hnew hB.size
  have n0_8 : ∀ (W : World) (P a b M M2 T5 T6 T7 : Nat), Below w.heap.size w W → Bk W B0 26 (snR s) → Bk W T7 71 #[.map none] → w.heap.size ≤ T7 → wpAnyH Tryd.prog .any unOps (NoPanic Q) (fun w' => Bk w' B0 26 (snR s)) 8 #[true, false, true, false, true, false, false, false, true, false, false, false] { tmps := #[snA s, .pointer (some ⟨B0, 0, none⟩), .int .i64 0, .int .i64 0, .bool false, undef, undef, .pointer (some ⟨T7, 0, none⟩), snA s, undef, snA s, undef, snA s, undef, undef, undef, undef, undef, undef, undef], defers := [] } W := by
    intro W P a b M M2 T5 T6 T7 hB hS hT7 gT7
    refine wpAnyH_ready (rs := [1, 6, 7]) (by kernel_rfl) (by simp) ?_
    refine AllReadyH.cons (o := ⟨_, _, _, _, _, _⟩) rfl (fun K hK => ?_) ?_
    · go_simp
      refine (wtLook_any s W w (fun y => y < W.heap.size) hB (fun x hx => hx)).mono ?_
      rintro e W2 ⟨rfl, hv, hb⟩
      go_wp2_with fail
      refine hK.out _ _ (hS.call hb) (fun hHeld => ?_)
      try simp only [Act.put, List.setIfInBounds_toArray, List.set_cons_zero, List.set_cons_succ]
      exact n1_8 W2 (W.heap.size + 2) W.heap.size W2.heap.size M M2 T5 T6 T7 (bthen hB hb) (hS.call hb) (hv.grow (Below.refl _ _) (fun y hy => by unfold Oth at hy; omega)) (Nat.le_refl _) (hT7.call hb) gT7 (by have := hT7.lt; unfold Oth; omega)
    refine AllReadyH.cons (o := ⟨_, _, _, _, _, _⟩) rfl (fun K hK => ?_) ?_
    · go_simp
      have hb : Below W.heap.size W (W.alloc (.cells #[.pointer none] 63)) := ba (Below.refl _ _) _
      have hnew := Bk.new W 63 #[.pointer none]
      refine hK.out _ _ (hS.call hb) (fun hHeld => ?_)
      try simp only [Act.put, List.setIfInBounds_toArray, List.set_cons_zero, List.set_cons_succ]
      exact n0_68 _ P a b M M2 W.heap.size T6 T7 (bthen hB hb) (hS.call hb) hnew hB.size (hT7.call hb) gT7
    refine AllReadyH.cons (o := ⟨_, _, _, _, _, _⟩) rfl (fun K hK => ?_) AllReadyH.nil
    · go_simp
      have hb : Below W.heap.size W (W.alloc (.cells #[.map none] 69)) := ba (Below.refl _ _) _
      have hnew := Bk.new W 69 #[.map none]
      refine hK.out _ _ (hS.call hb) (fun hHeld => ?_)
      try simp only [Act.put, List.setIfInBounds_toArray, List.set_cons_zero, List.set_cons_succ]
      exact n0_78 _ P a b M M2 T5 W.heap.size T7 (bthen hB hb) (hS.call hb) hnew hB.size (hT7.call hb) gT7
  have n0_ : ∀ (W : World) (P a b M M2 T5 T6 T7 : Nat), Below w.heap.size w W → Bk W B0 26 (snR s) → wpAnyH Tryd.prog .any unOps (NoPanic Q) (fun w' => Bk w' B0 26 (snR s)) 9 #[true, false, true, false, true, false, false, false, false, false, false, false] { tmps := #[snA s, .pointer (some ⟨B0, 0, none⟩), .int .i64 0, .int .i64 0, .bool false, undef, undef, undef, snA s, undef, snA s, undef, snA s, undef, undef, undef, undef, undef, undef, undef], defers := [] } W := by
    intro W P a b M M2 T5 T6 T7 hB hS
    refine wpAnyH_ready (rs := [1, 6, 7, 8]) (by kernel_rfl) (by simp) ?_
    refine AllReadyH.cons (o := ⟨_, _, _, _, _, _⟩) rfl (fun K hK => ?_) ?_
    · go_simp
      refine (wtLook_any s W w (fun y => y < W.heap.size) hB (fun x hx => hx)).mono ?_
      rintro e W2 ⟨rfl, hv, hb⟩
      go_wp2_with fail
      refine hK.out _ _ (hS.call hb) (fun hHeld => ?_)
      try simp only [Act.put, List.setIfInBounds_toArray, List.set_cons_zero, List.set_cons_succ]
      exact n1_ W2 (W.heap.size + 2) W.heap.size W2.heap.size M M2 T5 T6 T7 (bthen hB hb) (hS.call hb) (hv.grow (Below.refl _ _) (fun y hy => by unfold Oth at hy; omega)) (Nat.le_refl _)
    refine AllReadyH.cons (o := ⟨_, _, _, _, _, _⟩) rfl (fun K hK => ?_) ?_
    · go_simp
      have hb : Below W.heap.size W (W.alloc (.cells #[.pointer none] 63)) := ba (Below.refl _ _) _
      have hnew := Bk.new W 63 #[.pointer none]
      refine hK.out _ _ (hS.call hb) (fun hHeld => ?_)
      try simp only [Act.put, List.setIfInBounds_toArray, List.set_cons_zero, List.set_cons_succ]
      exact n0_6 _ P a b M M2 W.heap.size T6 T7 (bthen hB hb) (hS.call hb) hnew hB.size
    refine AllReadyH.cons (o := ⟨_, _, _, _, _, _⟩) rfl (fun K hK => ?_) ?_
    · go_simp
      have hb : Below W.heap.size W (W.alloc (.cells #[.map none] 69)) := ba (Below.refl _ _) _
      have hnew := Bk.new W 69 #[.map none]
      refine hK.out _ _ (hS.call hb) (fun hHeld => ?_)
      try simp only [Act.put, List.setIfInBounds_toArray, List.set_cons_zero, List.set_cons_succ]
      exact n0_7 _ P a b M M2 T5 W.heap.size T7 (bthen hB hb) (hS.call hb) hnew hB.size
    refine AllReadyH.cons (o := ⟨_, _, _, _, _, _⟩) rfl (fun K hK => ?_) AllReadyH.nil
    · go_simp
      have hb : Below W.heap.size W (W.alloc (.cells #[.map none] 71)) := ba (Below.refl _ _) _
      have hnew := Bk.new W 71 #[.map none]
      refine hK.out _ _ (hS.call hb) (fun hHeld => ?_)
      try simp only [Act.put, List.setIfInBounds_toArray, List.set_cons_zero, List.set_cons_succ]
      exact n0_8 _ P a b M M2 T5 T6 W.heap.size (bthen hB hb) (hS.call hb) hnew hB.size
  refine wp_region_held_drew (S := (fun w' => Bk w' B0 26 (snR s))) (by kernel_rfl) hS (fun hHeld => ?_)
  refine wpAnyH_take (i := 0) (oi := ⟨_, _, _, _, _, _⟩) (v := ?v0) rfl (by kernel_rfl) (by kernel_rfl) (by kernel_rfl) (fun _ _ _ h => h) (Or.inl ⟨by rfl, ?hy0⟩) hHeld ?rest0
  case hy0 => (intro w' hSw; have c0 := hSw.cell 0; have c1 := hSw.cell 1; have c2 := hSw.cell 2; simp only [List.getElem?_toArray, List.getElem?_cons_zero, List.getElem?_cons_succ] at c0 c1 c2; go_simp; try with_reducible rfl)
  try simp only [Act.put, List.setIfInBounds_toArray, List.set_cons_zero, List.set_cons_succ]
  refine wpAnyH_take (i := 2) (oi := ⟨_, _, _, _, _, _⟩) (v := ?v1) rfl (by kernel_rfl) (by kernel_rfl) (by kernel_rfl) (fun _ _ _ h => h) (Or.inl ⟨by rfl, ?hy1⟩) hHeld ?rest1
  case hy1 => (intro w' hSw; have c0 := hSw.cell 0; have c1 := hSw.cell 1; have c2 := hSw.cell 2; simp only [List.getElem?_toArray, List.getElem?_cons_zero, List.getElem?_cons_succ] at c0 c1 c2; go_simp; try with_reducible rfl)
  try simp only [Act.put, List.setIfInBounds_toArray, List.set_cons_zero, List.set_cons_succ]
  refine wpAnyH_take (i := 4) (oi := ⟨_, _, _, _, _, _⟩) (v := ?v2) rfl (by kernel_rfl) (by kernel_rfl) (by kernel_rfl) (fun _ _ _ h => h) (Or.inl ⟨by rfl, ?hy2⟩) hHeld ?rest2
  case hy2 => (intro w' hSw; have c0 := hSw.cell 0; have c1 := hSw.cell 1; have c2 := hSw.cell 2; simp only [List.getElem?_toArray, List.getElem?_cons_zero, List.getElem?_cons_succ] at c0 c1 c2; go_simp; try with_reducible rfl)
  try simp only [Act.put, List.setIfInBounds_toArray, List.set_cons_zero, List.set_cons_succ]
  exact n0_ W0.drew 0 0 0 0 0 0 0 0 (bd hB) hS
abbrev foOps : Array Oper := #[{ dst := some 7, op := Go.Op.load 26 (Go.Operand.tmp 1), type := 26, pos := "watch.go:135", after := #[], guard := none }, { dst := some 8, op := Go.Op.call { callee := Go.Callee.value (Go.Operand.func 14), args := #[Go.Operand.tmp 7], argTypes := #[26] }, type := 63, pos := "watch.go:135", after := #[{ on := 0, ground := Go.Ground.data }], guard := none }, { dst := some 9, op := Go.Op.load 26 (Go.Operand.tmp 1), type := 26, pos := "watch.go:135", after := #[], guard := none }, { dst := some 10, op := Go.Op.call { callee := Go.Callee.value (Go.Operand.func 17), args := #[Go.Operand.tmp 9], argTypes := #[26] }, type := 71, pos := "watch.go:135", after := #[{ on := 2, ground := Go.Ground.data }, { on := 1, ground := Go.Ground.chain }], guard := none }, { dst := some 5, op := Go.Op.alloc 63, type := 0, pos := "watch.go:135", after := #[], guard := none }, { dst := some 6, op := Go.Op.alloc 71, type := 0, pos := "watch.go:135", after := #[], guard := none }, { dst := none, op := Go.Op.store 63 (Go.Operand.tmp 5) (Go.Operand.tmp 8), type := 0, pos := "watch.go:135", after := #[{ on := 4, ground := Go.Ground.data }, { on := 1, ground := Go.Ground.data }, { on := 3, ground := Go.Ground.chain }, { on := 0, ground := Go.Ground.phase }, { on := 1, ground := Go.Ground.phase }, { on := 2, ground := Go.Ground.textOnly Go.Departure.lateStores }, { on := 3, ground := Go.Ground.textOnly Go.Departure.lateStoresUnsure }, { on := 4, ground := Go.Ground.phase }, { on := 5, ground := Go.Ground.phase }], guard := none }, { dst := none, op := Go.Op.store 71 (Go.Operand.tmp 6) (Go.Operand.tmp 10), type := 0, pos := "watch.go:135", after := #[{ on := 5, ground := Go.Ground.data }, { on := 3, ground := Go.Ground.data }, { on := 6, ground := Go.Ground.chain }, { on := 0, ground := Go.Ground.phase }, { on := 1, ground := Go.Ground.phase }, { on := 2, ground := Go.Ground.phase }, { on := 3, ground := Go.Ground.phase }, { on := 4, ground := Go.Ground.phase }, { on := 5, ground := Go.Ground.phase }, { on := 6, ground := Go.Ground.phase }], guard := none }]
set_option maxRecDepth 100000 in
set_option maxHeartbeats 4000000 in
theorem fo_region (Q : Exit → Go.Act → World → Prop) (s : Sn) (w W0 : World) (by' : Int → List Int) (B0 : Nat) (hs : s.Given w) (hm : Sml s) (hr : RootsDo s w by') (hB0 : w.heap.size ≤ B0) (hB : Below w.heap.size w W0) (hS : Bk W0 B0 26 (snR s))
    (hQ : ∀ (W : World) (P a b M M2 T5 T6 : Nat), Below w.heap.size w W → Bk W B0 26 (snR s) → Vx w (Oth a b) W P s .no → b ≤ W.heap.size → ByM (fun y => w.heap.size ≤ y ∧ Oth a b y) W M2 by' → Bk W T5 63 #[.pointer (some ⟨P, 0, none⟩)] → w.heap.size ≤ T5 → Oth a b T5 → Bk W T6 71 #[.map (some M2)] → w.heap.size ≤ T6 → Oth a b T6 → Q .normal { tmps := #[snA s, .pointer (some ⟨B0, 0, none⟩), .int .i64 0, .int .i64 0, .bool false, .pointer (some ⟨T5, 0, none⟩), .pointer (some ⟨T6, 0, none⟩), snA s, .pointer (some ⟨P, 0, none⟩), snA s, .map (some M2), undef, undef, undef, undef, undef, undef], defers := [] } W) :
    (Code.region 1 foOps true).wp Tryd.prog Q { tmps := #[snA s, .pointer (some ⟨B0, 0, none⟩), .int .i64 0, .int .i64 0, .bool false, undef, undef, undef, undef, undef, undef, undef, undef, undef, undef, undef, undef], defers := [] } W0 := by
  refine wp_region_noPanic ?_
  have HQ := Lib.hid hQ
  have HR := Lib.hid hr
  have HSg := Lib.hid hs
  have HSm := Lib.hid hm
  clear hQ hr hs hm
  have n2_45 : ∀ (W : World) (P a b M M2 T5 T6 : Nat), Below w.heap.size w W → Bk W B0 26 (snR s) → Vx w (Oth a b) W P s .no → b ≤ W.heap.size → ByM (fun y => w.heap.size ≤ y ∧ Oth a b y) W M2 by' → Bk W T5 63 #[.pointer none] → w.heap.size ≤ T5 → Oth a b T5 → Bk W T6 71 #[.map none] → w.heap.size ≤ T6 → Oth a b T6 → wpAnyH Tryd.prog .any foOps (NoPanic Q) (fun w' => Bk w' B0 26 (snR s)) 2 #[true, true, true, true, true, true, false, false] { tmps := #[snA s, .pointer (some ⟨B0, 0, none⟩), .int .i64 0, .int .i64 0, .bool false, .pointer (some ⟨T5, 0, none⟩), .pointer (some ⟨T6, 0, none⟩), snA s, .pointer (some ⟨P, 0, none⟩), snA s, .map (some M2), undef, undef, undef, undef, undef, undef], defers := [] } W := by
    intro W P a b M M2 T5 T6 hB hS hV hab hY hT5 gT5 eT5 hT6 gT6 eT6
    refine wpAnyH_ready (rs := [6]) (by kernel_rfl) (by simp) ?_
    refine AllReadyH.cons (o := ⟨_, _, _, _, _, _⟩) rfl (fun K hK => ?_) AllReadyH.nil
    have c0 := hT5.cell 0
    have f0 := hT5.frozen 0
    simp only [List.getElem?_toArray, List.getElem?_cons_zero] at c0
    go_simp
    have qT6 := hT6.far (p := ⟨T5, 0, none⟩) (bk_ne hT6 hT5 (by decide)) (.pointer (some ⟨P, 0, none⟩))
    have qk : Keeps (fun x => x = T5) W (W.setCell ⟨T5, 0, none⟩ (.pointer (some ⟨P, 0, none⟩))) := Keeps.setCell (F := fun x => x = T5) rfl _
    have qT5 := hT5.set 0 (.pointer (some ⟨P, 0, none⟩))
    replace hV := hV.keep qk (fun x e => by subst e; exact ⟨eT5, gT5⟩)
    replace hB := qk.below hB (fun x e => by subst e; exact gT5)
    replace hS := hS.far (p := ⟨T5, 0, none⟩) (bk_ne hS hT5 (by decide)) (.pointer (some ⟨P, 0, none⟩))
    replace hY := byM_far hY hT5 (by decide) qk
    replace hab := Nat.le_trans hab qk.size
    refine hK.out _ _ hS (fun hHeld => ?_)
    replace hT5 := qT5
    clear qT5
    replace hT6 := qT6
    clear qT6
    clear hK K qk c0 f0
    generalize W.setCell ⟨T5, 0, none⟩ (.pointer (some ⟨P, 0, none⟩)) = W at *
    try simp only [Act.put, List.setIfInBounds_toArray, List.set_cons_zero, List.set_cons_succ]
    refine wpAnyH_ready (rs := [7]) (by kernel_rfl) (by simp) ?_
    refine AllReadyH.cons (o := ⟨_, _, _, _, _, _⟩) rfl (fun K hK => ?_) AllReadyH.nil
    have c0 := hT6.cell 0
    have f0 := hT6.frozen 0
    simp only [List.getElem?_toArray, List.getElem?_cons_zero] at c0
    go_simp
    have qT5 := hT5.far (p := ⟨T6, 0, none⟩) (bk_ne hT5 hT6 (by decide)) (.map (some M2))
    have qk : Keeps (fun x => x = T6) W (W.setCell ⟨T6, 0, none⟩ (.map (some M2))) := Keeps.setCell (F := fun x => x = T6) rfl _
    have qT6 := hT6.set 0 (.map (some M2))
    replace hV := hV.keep qk (fun x e => by subst e; exact ⟨eT6, gT6⟩)
    replace hB := qk.below hB (fun x e => by subst e; exact gT6)
    replace hS := hS.far (p := ⟨T6, 0, none⟩) (bk_ne hS hT6 (by decide)) (.map (some M2))
    replace hY := byM_far hY hT6 (by decide) qk
    replace hab := Nat.le_trans hab qk.size
    refine hK.out _ _ hS (fun hHeld => ?_)
    replace hT5 := qT5
    clear qT5
    replace hT6 := qT6
    clear qT6
    clear hK K qk c0 f0
    generalize W.setCell ⟨T6, 0, none⟩ (.map (some M2)) = W at *
    try simp only [Act.put, List.setIfInBounds_toArray, List.set_cons_zero, List.set_cons_succ]
    refine wpAnyH_done (by kernel_rfl) ?_ _
    exact HQ.out W P a b M M2 T5 T6 hB hS hV hab hY hT5 gT5 eT5 hT6 gT6 eT6
  have n2_4 : ∀ (W : World) (P a b M M2 T5 T6 : Nat), Below w.heap.size w W → Bk W B0 26 (snR s) → Vx w (Oth a b) W P s .no → b ≤ W.heap.size → ByM (fun y => w.heap.size ≤ y ∧ Oth a b y) W M2 by' → Bk W T5 63 #[.pointer none] → w.heap.size ≤ T5 → Oth a b T5 → wpAnyH Tryd.prog .any foOps (NoPanic Q) (fun w' => Bk w' B0 26 (snR s)) 3 #[true, true, true, true, true, false, false, false] { tmps := #[snA s, .pointer (some ⟨B0, 0, none⟩), .int .i64 0, .int .i64 0, .bool false, .pointer (some ⟨T5, 0, none⟩), undef, snA s, .pointer (some ⟨P, 0, none⟩), snA s, .map (some M2), undef, undef, undef, undef, undef, undef], defers := [] } W := by
    intro W P a b M M2 T5 T6 hB hS hV hab hY hT5 gT5 eT5
    refine wpAnyH_ready (rs := [5]) (by kernel_rfl) (by simp) ?_
    refine AllReadyH.cons (o := ⟨_, _, _, _, _, _⟩) rfl (fun K hK => ?_) AllReadyH.nil
    · go_simp
      have hb : Below W.heap.size W (W.alloc (.cells #[.map none] 71)) := ba (Below.refl _ _) _
      have hnew := Bk.new W 71 #[.map none]
      refine hK.out _ _ (hS.call hb) (fun hHeld => ?_)
      try simp only [Act.put, List.setIfInBounds_toArray, List.set_cons_zero, List.set_cons_succ]
      exact n2_45 _ P a b M M2 T5 W.heap.size (bthen hB hb) (hS.call hb) (hV.call hb) (Nat.le_trans hab hb.size) (hY.within (fun b' _ hlt => hb.block b' hlt)) (hT5.call hb) gT5 eT5 hnew hB.size (by unfold Oth; omega)
  have n2_5 : ∀ (W : World) (P a b M M2 T5 T6 : Nat), Below w.heap.size w W → Bk W B0 26 (snR s) → Vx w (Oth a b) W P s .no → b ≤ W.heap.size → ByM (fun y => w.heap.size ≤ y ∧ Oth a b y) W M2 by' → Bk W T6 71 #[.map none] → w.heap.size ≤ T6 → Oth a b T6 → wpAnyH Tryd.prog .any foOps (NoPanic Q) (fun w' => Bk w' B0 26 (snR s)) 3 #[true, true, true, true, false, true, false, false] { tmps := #[snA s, .pointer (some ⟨B0, 0, none⟩), .int .i64 0, .int .i64 0, .bool false, undef, .pointer (some ⟨T6, 0, none⟩), snA s, .pointer (some ⟨P, 0, none⟩), snA s, .map (some M2), undef, undef, undef, undef, undef, undef], defers := [] } W := by
    intro W P a b M M2 T5 T6 hB hS hV hab hY hT6 gT6 eT6
    refine wpAnyH_ready (rs := [4]) (by kernel_rfl) (by simp) ?_
    refine AllReadyH.cons (o := ⟨_, _, _, _, _, _⟩) rfl (fun K hK => ?_) AllReadyH.nil
    · go_simp
      have hb : Below W.heap.size W (W.alloc (.cells #[.pointer none] 63)) := ba (Below.refl _ _) _
      have hnew := Bk.new W 63 #[.pointer none]
      refine hK.out _ _ (hS.call hb) (fun hHeld => ?_)
      try simp only [Act.put, List.setIfInBounds_toArray, List.set_cons_zero, List.set_cons_succ]
      exact n2_45 _ P a b M M2 W.heap.size T6 (bthen hB hb) (hS.call hb) (hV.call hb) (Nat.le_trans hab hb.size) (hY.within (fun b' _ hlt => hb.block b' hlt)) hnew hB.size (by unfold Oth; omega) (hT6.call hb) gT6 eT6
  have n2_ : ∀ (W : World) (P a b M M2 T5 T6 : Nat), Below w.heap.size w W → Bk W B0 26 (snR s) → Vx w (Oth a b) W P s .no → b ≤ W.heap.size → ByM (fun y => w.heap.size ≤ y ∧ Oth a b y) W M2 by' → wpAnyH Tryd.prog .any foOps (NoPanic Q) (fun w' => Bk w' B0 26 (snR s)) 4 #[true, true, true, true, false, false, false, false] { tmps := #[snA s, .pointer (some ⟨B0, 0, none⟩), .int .i64 0, .int .i64 0, .bool false, undef, undef, snA s, .pointer (some ⟨P, 0, none⟩), snA s, .map (some M2), undef, undef, undef, undef, undef, undef], defers := [] } W := by
    intro W P a b M M2 T5 T6 hB hS hV hab hY
    refine wpAnyH_ready (rs := [4, 5]) (by kernel_rfl) (by simp) ?_
    refine AllReadyH.cons (o := ⟨_, _, _, _, _, _⟩) rfl (fun K hK => ?_) ?_
    · go_simp
      have hb : Below W.heap.size W (W.alloc (.cells #[.pointer none] 63)) := ba (Below.refl _ _) _
      have hnew := Bk.new W 63 #[.pointer none]
      refine hK.out _ _ (hS.call hb) (fun hHeld => ?_)
      try simp only [Act.put, List.setIfInBounds_toArray, List.set_cons_zero, List.set_cons_succ]
      exact n2_4 _ P a b M M2 W.heap.size T6 (bthen hB hb) (hS.call hb) (hV.call hb) (Nat.le_trans hab hb.size) (hY.within (fun b' _ hlt => hb.block b' hlt)) hnew hB.size (by unfold Oth; omega)
    refine AllReadyH.cons (o := ⟨_, _, _, _, _, _⟩) rfl (fun K hK => ?_) AllReadyH.nil
    · go_simp
      have hb : Below W.heap.size W (W.alloc (.cells #[.map none] 71)) := ba (Below.refl _ _) _
      have hnew := Bk.new W 71 #[.map none]
      refine hK.out _ _ (hS.call hb) (fun hHeld => ?_)
      try simp only [Act.put, List.setIfInBounds_toArray, List.set_cons_zero, List.set_cons_succ]
      exact n2_5 _ P a b M M2 T5 W.heap.size (bthen hB hb) (hS.call hb) (hV.call hb) (Nat.le_trans hab hb.size) (hY.within (fun b' _ hlt => hb.block b' hlt)) hnew hB.size (by unfold Oth; omega)
  have n1_45 : ∀ (W : World) (P a b M M2 T5 T6 : Nat), Below w.heap.size w W → Bk W B0 26 (snR s) → Vx w (Oth a b) W P s .no → b ≤ W.heap.size → Bk W T5 63 #[.pointer none] → w.heap.size ≤ T5 → Oth a b T5 → Bk W T6 71 #[.map none] → w.heap.size ≤ T6 → Oth a b T6 → wpAnyH Tryd.prog .any foOps (NoPanic Q) (fun w' => Bk w' B0 26 (snR s)) 3 #[true, true, true, false, true, true, false, false] { tmps := #[snA s, .pointer (some ⟨B0, 0, none⟩), .int .i64 0, .int .i64 0, .bool false, .pointer (some ⟨T5, 0, none⟩), .pointer (some ⟨T6, 0, none⟩), snA s, .pointer (some ⟨P, 0, none⟩), snA s, undef, undef, undef, undef, undef, undef, undef], defers := [] } W := by
    intro W P a b M M2 T5 T6 hB hS hV hab hT5 gT5 eT5 hT6 gT6 eT6
    refine wpAnyH_ready (rs := [3]) (by kernel_rfl) (by simp) ?_
    refine AllReadyH.cons (o := ⟨_, _, _, _, _, _⟩) rfl (fun K hK => ?_) AllReadyH.nil
    · go_simp
      refine (HR.out W hB).mono ?_
      rintro e W2 ⟨M2', rfl, hy, hb⟩
      go_wp2_with fail
      refine hK.out _ _ (hS.call hb) (fun hHeld => ?_)
      try simp only [Act.put, List.setIfInBounds_toArray, List.set_cons_zero, List.set_cons_succ]
      exact n2_45 W2 P a b M M2' T5 T6 (bthen hB hb) (hS.call hb) (hV.call hb) (Nat.le_trans hab hb.size) (hy.mono (fun y hy => ⟨by have := hB.size; omega, by unfold Oth; omega⟩)) (hT5.call hb) gT5 eT5 (hT6.call hb) gT6 eT6
  have n1_4 : ∀ (W : World) (P a b M M2 T5 T6 : Nat), Below w.heap.size w W → Bk W B0 26 (snR s) → Vx w (Oth a b) W P s .no → b ≤ W.heap.size → Bk W T5 63 #[.pointer none] → w.heap.size ≤ T5 → Oth a b T5 → wpAnyH Tryd.prog .any foOps (NoPanic Q) (fun w' => Bk w' B0 26 (snR s)) 4 #[true, true, true, false, true, false, false, false] { tmps := #[snA s, .pointer (some ⟨B0, 0, none⟩), .int .i64 0, .int .i64 0, .bool false, .pointer (some ⟨T5, 0, none⟩), undef, snA s, .pointer (some ⟨P, 0, none⟩), snA s, undef, undef, undef, undef, undef, undef, undef], defers := [] } W := by
    intro W P a b M M2 T5 T6 hB hS hV hab hT5 gT5 eT5
    refine wpAnyH_ready (rs := [3, 5]) (by kernel_rfl) (by simp) ?_
    refine AllReadyH.cons (o := ⟨_, _, _, _, _, _⟩) rfl (fun K hK => ?_) ?_
    · go_simp
      refine (HR.out W hB).mono ?_
      rintro e W2 ⟨M2', rfl, hy, hb⟩
      go_wp2_with fail
      refine hK.out _ _ (hS.call hb) (fun hHeld => ?_)
      try simp only [Act.put, List.setIfInBounds_toArray, List.set_cons_zero, List.set_cons_succ]
      exact n2_4 W2 P a b M M2' T5 T6 (bthen hB hb) (hS.call hb) (hV.call hb) (Nat.le_trans hab hb.size) (hy.mono (fun y hy => ⟨by have := hB.size; omega, by unfold Oth; omega⟩)) (hT5.call hb) gT5 eT5
    refine AllReadyH.cons (o := ⟨_, _, _, _, _, _⟩) rfl (fun K hK => ?_) AllReadyH.nil
    · go_simp
      have hb : Below W.heap.size W (W.alloc (.cells #[.map none] 71)) := ba (Below.refl _ _) _
      have hnew := Bk.new W 71 #[.map none]
      refine hK.out _ _ (hS.call hb) (fun hHeld => ?_)
      try simp only [Act.put, List.setIfInBounds_toArray, List.set_cons_zero, List.set_cons_succ]
      exact n1_45 _ P a b M M2 T5 W.heap.size (bthen hB hb) (hS.call hb) (hV.call hb) (Nat.le_trans hab hb.size) (hT5.call hb) gT5 eT5 hnew hB.size (by unfold Oth; omega)
  have n1_5 : ∀ (W : World) (P a b M M2 T5 T6 : Nat), Below w.heap.size w W → Bk W B0 26 (snR s) → Vx w (Oth a b) W P s .no → b ≤ W.heap.size → Bk W T6 71 #[.map none] → w.heap.size ≤ T6 → Oth a b T6 → wpAnyH Tryd.prog .any foOps (NoPanic Q) (fun w' => Bk w' B0 26 (snR s)) 4 #[true, true, true, false, false, true, false, false] { tmps := #[snA s, .pointer (some ⟨B0, 0, none⟩), .int .i64 0, .int .i64 0, .bool false, undef, .pointer (some ⟨T6, 0, none⟩), snA s, .pointer (some ⟨P, 0, none⟩), snA s, undef, undef, undef, undef, undef, undef, undef], defers := [] } W := by
    intro W P a b M M2 T5 T6 hB hS hV hab hT6 gT6 eT6
    refine wpAnyH_ready (rs := [3, 4]) (by kernel_rfl) (by simp) ?_
    refine AllReadyH.cons (o := ⟨_, _, _, _, _, _⟩) rfl (fun K hK => ?_) ?_
    · go_simp
      refine (HR.out W hB).mono ?_
      rintro e W2 ⟨M2', rfl, hy, hb⟩
      go_wp2_with fail
      refine hK.out _ _ (hS.call hb) (fun hHeld => ?_)
      try simp only [Act.put, List.setIfInBounds_toArray, List.set_cons_zero, List.set_cons_succ]
      exact n2_5 W2 P a b M M2' T5 T6 (bthen hB hb) (hS.call hb) (hV.call hb) (Nat.le_trans hab hb.size) (hy.mono (fun y hy => ⟨by have := hB.size; omega, by unfold Oth; omega⟩)) (hT6.call hb) gT6 eT6
    refine AllReadyH.cons (o := ⟨_, _, _, _, _, _⟩) rfl (fun K hK => ?_) AllReadyH.nil
    · go_simp
      have hb : Below W.heap.size W (W.alloc (.cells #[.pointer none] 63)) := ba (Below.refl _ _) _
      have hnew := Bk.new W 63 #[.pointer none]
      refine hK.out _ _ (hS.call hb) (fun hHeld => ?_)
      try simp only [Act.put, List.setIfInBounds_toArray, List.set_cons_zero, List.set_cons_succ]
      exact n1_45 _ P a b M M2 W.heap.size T6 (bthen hB hb) (hS.call hb) (hV.call hb) (Nat.le_trans hab hb.size) hnew hB.size (by unfold Oth; omega) (hT6.call hb) gT6 eT6
  have n1_ : ∀ (W : World) (P a b M M2 T5 T6 : Nat), Below w.heap.size w W → Bk W B0 26 (snR s) → Vx w (Oth a b) W P s .no → b ≤ W.heap.size → wpAnyH Tryd.prog .any foOps (NoPanic Q) (fun w' => Bk w' B0 26 (snR s)) 5 #[true, true, true, false, false, false, false, false] { tmps := #[snA s, .pointer (some ⟨B0, 0, none⟩), .int .i64 0, .int .i64 0, .bool false, undef, undef, snA s, .pointer (some ⟨P, 0, none⟩), snA s, undef, undef, undef, undef, undef, undef, undef], defers := [] } W := by
    intro W P a b M M2 T5 T6 hB hS hV hab
    refine wpAnyH_ready (rs := [3, 4, 5]) (by kernel_rfl) (by simp) ?_
    refine AllReadyH.cons (o := ⟨_, _, _, _, _, _⟩) rfl (fun K hK => ?_) ?_
    · go_simp
      refine (HR.out W hB).mono ?_
      rintro e W2 ⟨M2', rfl, hy, hb⟩
      go_wp2_with fail
      refine hK.out _ _ (hS.call hb) (fun hHeld => ?_)
      try simp only [Act.put, List.setIfInBounds_toArray, List.set_cons_zero, List.set_cons_succ]
      exact n2_ W2 P a b M M2' T5 T6 (bthen hB hb) (hS.call hb) (hV.call hb) (Nat.le_trans hab hb.size) (hy.mono (fun y hy => ⟨by have := hB.size; omega, by unfold Oth; omega⟩))
    refine AllReadyH.cons (o := ⟨_, _, _, _, _, _⟩) rfl (fun K hK => ?_) ?_
    · go_simp
      have hb : Below W.heap.size W (W.alloc (.cells #[.pointer none] 63)) := ba (Below.refl _ _) _
      have hnew := Bk.new W 63 #[.pointer none]
      refine hK.out _ _ (hS.call hb) (fun hHeld => ?_)
      try simp only [Act.put, List.setIfInBounds_toArray, List.set_cons_zero, List.set_cons_succ]
      exact n1_4 _ P a b M M2 W.heap.size T6 (bthen hB hb) (hS.call hb) (hV.call hb) (Nat.le_trans hab hb.size) hnew hB.size (by unfold Oth; omega)
    refine AllReadyH.cons (o := ⟨_, _, _, _, _, _⟩) rfl (fun K hK => ?_) AllReadyH.nil
    · go_simp
      have hb : Below W.heap.size W (W.alloc (.cells #[.map none] 71)) := ba (Below.refl _ _) _
      have hnew := Bk.new W 71 #[.map none]
      refine hK.out _ _ (hS.call hb) (fun hHeld => ?_)
      try simp only [Act.put, List.setIfInBounds_toArray, List.set_cons_zero, List.set_cons_succ]
      exact n1_5 _ P a b M M2 T5 W.heap.size (bthen hB hb) (hS.call hb) (hV.call hb) (Nat.le_trans hab hb.size) hnew hB.size (by unfold Oth; omega)
  have n0_45 : ∀ (W : World) (P a b M M2 T5 T6 : Nat), Below w.heap.size w W → Bk W B0 26 (snR s) → Bk W T5 63 #[.pointer none] → w.heap.size ≤ T5 → Bk W T6 71 #[.map none] → w.heap.size ≤ T6 → wpAnyH Tryd.prog .any foOps (NoPanic Q) (fun w' => Bk w' B0 26 (snR s)) 4 #[true, false, true, false, true, true, false, false] { tmps := #[snA s, .pointer (some ⟨B0, 0, none⟩), .int .i64 0, .int .i64 0, .bool false, .pointer (some ⟨T5, 0, none⟩), .pointer (some ⟨T6, 0, none⟩), snA s, undef, snA s, undef, undef, undef, undef, undef, undef, undef], defers := [] } W := by
    intro W P a b M M2 T5 T6 hB hS hT5 gT5 hT6 gT6
    refine wpAnyH_ready (rs := [1]) (by kernel_rfl) (by simp) ?_
    refine AllReadyH.cons (o := ⟨_, _, _, _, _, _⟩) rfl (fun K hK => ?_) AllReadyH.nil
    · go_simp
      refine (wtLook_any s W w (fun y => y < W.heap.size) hB (fun x hx => hx)).mono ?_
      rintro e W2 ⟨rfl, hv, hb⟩
      go_wp2_with fail
      refine hK.out _ _ (hS.call hb) (fun hHeld => ?_)
      try simp only [Act.put, List.setIfInBounds_toArray, List.set_cons_zero, List.set_cons_succ]
      exact n1_45 W2 (W.heap.size + 2) W.heap.size W2.heap.size M M2 T5 T6 (bthen hB hb) (hS.call hb) (hv.grow (Below.refl _ _) (fun y hy => by unfold Oth at hy; omega)) (Nat.le_refl _) (hT5.call hb) gT5 (by have := hT5.lt; unfold Oth; omega) (hT6.call hb) gT6 (by have := hT6.lt; unfold Oth; omega)
  have n0_4 : ∀ (W : World) (P a b M M2 T5 T6 : Nat), Below w.heap.size w W → Bk W B0 26 (snR s) → Bk W T5 63 #[.pointer none] → w.heap.size ≤ T5 → wpAnyH Tryd.prog .any foOps (NoPanic Q) (fun w' => Bk w' B0 26 (snR s)) 5 #[true, false, true, false, true, false, false, false] { tmps := #[snA s, .pointer (some ⟨B0, 0, none⟩), .int .i64 0, .int .i64 0, .bool false, .pointer (some ⟨T5, 0, none⟩), undef, snA s, undef, snA s, undef, undef, undef, undef, undef, undef, undef], defers := [] } W := by
    intro W P a b M M2 T5 T6 hB hS hT5 gT5
    refine wpAnyH_ready (rs := [1, 5]) (by kernel_rfl) (by simp) ?_
    refine AllReadyH.cons (o := ⟨_, _, _, _, _, _⟩) rfl (fun K hK => ?_) ?_
    · go_simp
      refine (wtLook_any s W w (fun y => y < W.heap.size) hB (fun x hx => hx)).mono ?_
      rintro e W2 ⟨rfl, hv, hb⟩
      go_wp2_with fail
      refine hK.out _ _ (hS.call hb) (fun hHeld => ?_)
      try simp only [Act.put, List.setIfInBounds_toArray, List.set_cons_zero, List.set_cons_succ]
      exact n1_4 W2 (W.heap.size + 2) W.heap.size W2.heap.size M M2 T5 T6 (bthen hB hb) (hS.call hb) (hv.grow (Below.refl _ _) (fun y hy => by unfold Oth at hy; omega)) (Nat.le_refl _) (hT5.call hb) gT5 (by have := hT5.lt; unfold Oth; omega)
    refine AllReadyH.cons (o := ⟨_, _, _, _, _, _⟩) rfl (fun K hK => ?_) AllReadyH.nil
    · go_simp
      have hb : Below W.heap.size W (W.alloc (.cells #[.map none] 71)) := ba (Below.refl _ _) _
      have hnew := Bk.new W 71 #[.map none]
      refine hK.out _ _ (hS.call hb) (fun hHeld => ?_)
      try simp only [Act.put, List.setIfInBounds_toArray, List.set_cons_zero, List.set_cons_succ]
      exact n0_45 _ P a b M M2 T5 W.heap.size (bthen hB hb) (hS.call hb) (hT5.call hb) gT5 hnew hB.size
  have n0_5 : ∀ (W : World) (P a b M M2 T5 T6 : Nat), Below w.heap.size w W → Bk W B0 26 (snR s) → Bk W T6 71 #[.map none] → w.heap.size ≤ T6 → wpAnyH Tryd.prog .any foOps (NoPanic Q) (fun w' => Bk w' B0 26 (snR s)) 5 #[true, false, true, false, false, true, false, false] { tmps := #[snA s, .pointer (some ⟨B0, 0, none⟩), .int .i64 0, .int .i64 0, .bool false, undef, .pointer (some ⟨T6, 0, none⟩), snA s, undef, snA s, undef, undef, undef, undef, undef, undef, undef], defers := [] } W := by
    intro W P a b M M2 T5 T6 hB hS hT6 gT6
    refine wpAnyH_ready (rs := [1, 4]) (by kernel_rfl) (by simp) ?_
    refine AllReadyH.cons (o := ⟨_, _, _, _, _, _⟩) rfl (fun K hK => ?_) ?_
    · go_simp
      refine (wtLook_any s W w (fun y => y < W.heap.size) hB (fun x hx => hx)).mono ?_
      rintro e W2 ⟨rfl, hv, hb⟩
      go_wp2_with fail
      refine hK.out _ _ (hS.call hb) (fun hHeld => ?_)
      try simp only [Act.put, List.setIfInBounds_toArray, List.set_cons_zero, List.set_cons_succ]
      exact n1_5 W2 (W.heap.size + 2) W.heap.size W2.heap.size M M2 T5 T6 (bthen hB hb) (hS.call hb) (hv.grow (Below.refl _ _) (fun y hy => by unfold Oth at hy; omega)) (Nat.le_refl _) (hT6.call hb) gT6 (by have := hT6.lt; unfold Oth; omega)
    refine AllReadyH.cons (o := ⟨_, _, _, _, _, _⟩) rfl (fun K hK => ?_) AllReadyH.nil
    · go_simp
      have hb : Below W.heap.size W (W.alloc (.cells #[.pointer none] 63)) := ba (Below.refl _ _) _
      have hnew := Bk.new W 63 #[.pointer none]
      refine hK.out _ _ (hS.call hb) (fun hHeld => ?_)
      try simp only [Act.put, List.setIfInBounds_toArray, List.set_cons_zero, List.set_cons_succ]
      exact n0_45 _ P a b M M2 W.heap.size T6 (bthen hB hb) (hS.call hb) hnew hB.size (hT6.call hb) gT6
  have n0_ : ∀ (W : World) (P a b M M2 T5 T6 : Nat), Below w.heap.size w W → Bk W B0 26 (snR s) → wpAnyH Tryd.prog .any foOps (NoPanic Q) (fun w' => Bk w' B0 26 (snR s)) 6 #[true, false, true, false, false, false, false, false] { tmps := #[snA s, .pointer (some ⟨B0, 0, none⟩), .int .i64 0, .int .i64 0, .bool false, undef, undef, snA s, undef, snA s, undef, undef, undef, undef, undef, undef, undef], defers := [] } W := by
    intro W P a b M M2 T5 T6 hB hS
    refine wpAnyH_ready (rs := [1, 4, 5]) (by kernel_rfl) (by simp) ?_
    refine AllReadyH.cons (o := ⟨_, _, _, _, _, _⟩) rfl (fun K hK => ?_) ?_
    · go_simp
      refine (wtLook_any s W w (fun y => y < W.heap.size) hB (fun x hx => hx)).mono ?_
      rintro e W2 ⟨rfl, hv, hb⟩
      go_wp2_with fail
      refine hK.out _ _ (hS.call hb) (fun hHeld => ?_)
      try simp only [Act.put, List.setIfInBounds_toArray, List.set_cons_zero, List.set_cons_succ]
      exact n1_ W2 (W.heap.size + 2) W.heap.size W2.heap.size M M2 T5 T6 (bthen hB hb) (hS.call hb) (hv.grow (Below.refl _ _) (fun y hy => by unfold Oth at hy; omega)) (Nat.le_refl _)
    refine AllReadyH.cons (o := ⟨_, _, _, _, _, _⟩) rfl (fun K hK => ?_) ?_
    · go_simp
      have hb : Below W.heap.size W (W.alloc (.cells #[.pointer none] 63)) := ba (Below.refl _ _) _
      have hnew := Bk.new W 63 #[.pointer none]
      refine hK.out _ _ (hS.call hb) (fun hHeld => ?_)
      try simp only [Act.put, List.setIfInBounds_toArray, List.set_cons_zero, List.set_cons_succ]
      exact n0_4 _ P a b M M2 W.heap.size T6 (bthen hB hb) (hS.call hb) hnew hB.size
    refine AllReadyH.cons (o := ⟨_, _, _, _, _, _⟩) rfl (fun K hK => ?_) AllReadyH.nil
    · go_simp
      have hb : Below W.heap.size W (W.alloc (.cells #[.map none] 71)) := ba (Below.refl _ _) _
      have hnew := Bk.new W 71 #[.map none]
      refine hK.out _ _ (hS.call hb) (fun hHeld => ?_)
      try simp only [Act.put, List.setIfInBounds_toArray, List.set_cons_zero, List.set_cons_succ]
      exact n0_5 _ P a b M M2 T5 W.heap.size (bthen hB hb) (hS.call hb) hnew hB.size
  refine wp_region_held_drew (S := (fun w' => Bk w' B0 26 (snR s))) (by kernel_rfl) hS (fun hHeld => ?_)
  refine wpAnyH_take (i := 0) (oi := ⟨_, _, _, _, _, _⟩) (v := ?v0) rfl (by kernel_rfl) (by kernel_rfl) (by kernel_rfl) (fun _ _ _ h => h) (Or.inl ⟨by rfl, ?hy0⟩) hHeld ?rest0
  case hy0 => (intro w' hSw; have c0 := hSw.cell 0; have c1 := hSw.cell 1; have c2 := hSw.cell 2; simp only [List.getElem?_toArray, List.getElem?_cons_zero, List.getElem?_cons_succ] at c0 c1 c2; go_simp; try with_reducible rfl)
  try simp only [Act.put, List.setIfInBounds_toArray, List.set_cons_zero, List.set_cons_succ]
  refine wpAnyH_take (i := 2) (oi := ⟨_, _, _, _, _, _⟩) (v := ?v1) rfl (by kernel_rfl) (by kernel_rfl) (by kernel_rfl) (fun _ _ _ h => h) (Or.inl ⟨by rfl, ?hy1⟩) hHeld ?rest1
  case hy1 => (intro w' hSw; have c0 := hSw.cell 0; have c1 := hSw.cell 1; have c2 := hSw.cell 2; simp only [List.getElem?_toArray, List.getElem?_cons_zero, List.getElem?_cons_succ] at c0 c1 c2; go_simp; try with_reducible rfl)
  try simp only [Act.put, List.setIfInBounds_toArray, List.set_cons_zero, List.set_cons_succ]
  exact n0_ W0.drew 0 0 0 0 0 0 0 (bd hB) hS
end Go.Proofs.YtappjiljmpgjcaaDoor
