/-
  Layer 29: wakes.
-/
import Derived.Test.YtappjiljmpgjcaaDoorWtSound
import Derived.Test.YtappjiljmpgjcaaDoorWtRoots0
namespace Go.Proofs.YtappjiljmpgjcaaDoor
open Go.RowKit Go.Maps Go.Shelf
set_option linter.unusedVariables false
set_option linter.unusedSimpArgs false
theorem RK.of_bk {α : Type} {enc : α → List Value} {k : Nat} {w : World} {g : Nat} {t : TypeId} {xs : List α} (hk : ∀ x, (enc x).length = k) (h : Bk w g t (flat enc xs).toArray) : RK enc k w (some ⟨g, 0, none⟩) xs := fun h0 => by
  refine ⟨g, 0, rfl, fun i x hi j u hu => ?_⟩
  rw [Nat.zero_add]
  exact (h.cell _).trans (by rw [List.getElem?_toArray]; exact flat_at hk xs i x hi j u hu)
/-- The three snapshots. -/
def coT (g : Nat) (x : Tl) : Co := { Co.z with tO := some ⟨g, 0, none⟩, tl := [x], tc := 1 }
def snTwo (bf b1 b2 bc : Nat) : Sn := { Sn.z with cO := some ⟨bc, 0, none⟩, cl := [Co.z, coT b1 ⟨1, 5, 2, false⟩, coT b2 ⟨1, 5, 3, false⟩], cc := 3, fO := some ⟨bf, 0, none⟩, fl := [{ Fr.z with n := 1 }, Fr.z, { Fr.z with n := 1 }, { Fr.z with n := 1 }], fc := 4 }
def snFree (bf b1 bc : Nat) : Sn := { snTwo bf 0 0 0 with cO := some ⟨bc, 0, none⟩, cl := [Co.z, coT b1 ⟨1, 0, 1, false⟩], cc := 2 }
theorem i64s : I64 0 ∧ I64 1 ∧ I64 2 ∧ I64 3 ∧ U64 0 ∧ U64 5 := ⟨⟨by omega, by omega⟩, ⟨by omega, by omega⟩, ⟨by omega, by omega⟩, ⟨by omega, by omega⟩, ⟨by omega, by omega⟩, ⟨by omega, by omega⟩⟩
theorem rk_none {α : Type} {enc : α → List Value} {k : Nat} {w : World} : RK enc k w none [] := fun h => absurd h (Nat.lt_irrefl 0)
theorem noMem {α : Type} {p : α → Prop} : ∀ y ∈ ([] : List α), p y := fun _ h => (by cases h)
theorem co_z_given (w : World) : Co.z.Given w := by
  obtain ⟨z, _, _, _, u, _⟩ := i64s
  exact ⟨z, z, z, ⟨⟨u⟩, z, u, rk_none, Nat.le_refl _, Nat.zero_le _, noMem⟩, z, rk_none, Nat.le_refl _, Nat.zero_le _, noMem, rk_none, Nat.le_refl _, Nat.zero_le _, noMem, ⟨z, u, z⟩, ⟨u⟩, rk_none, Nat.le_refl _, Nat.zero_le _, noMem, u⟩
theorem coT_given {w : World} {g : Nat} {x : Tl} (hx : x.Given w) (h : Bk w g 62 (tlC x).toArray) : (coT g x).Given w := by
  obtain ⟨z, _, _, _, u, _⟩ := i64s
  refine ⟨z, z, z, ⟨⟨u⟩, z, u, rk_none, Nat.le_refl _, Nat.zero_le _, noMem⟩, z, ?_, Nat.le_refl _, (Nat.le_of_ble_eq_true rfl), ?_, rk_none, Nat.le_refl _, Nat.zero_le _, noMem, ⟨z, u, z⟩, ⟨u⟩, rk_none, Nat.le_refl _, Nat.zero_le _, noMem, u⟩
  · exact RK.of_bk (enc := tlC) tlC_len (by have e : flat tlC [x] = tlC x := by { simp [flat] }; show Bk w g 62 (flat tlC [x]).toArray; rw [e]; exact h)
  · intro y hy
    have : y = x := by simpa [coT] using hy
    rw [this]; exact hx
theorem fr_given (w : World) {n : Int} (h : I64 n) : ({ Fr.z with n := n } : Fr).Given w := ⟨h, rk_none, Nat.le_refl _, Nat.zero_le _, noMem⟩
theorem sn_z_given (w : World) : Sn.z.Given w := ⟨rk_none, Nat.le_refl _, Nat.zero_le _, noMem, rk_none, Nat.le_refl _, Nat.zero_le _, noMem, rk_none, Nat.le_refl _, Nat.zero_le _, noMem⟩
def frs4 : List Fr := [{ Fr.z with n := 1 }, Fr.z, { Fr.z with n := 1 }, { Fr.z with n := 1 }]
def cos3 (b1 b2 : Nat) : List Co := [Co.z, coT b1 ⟨1, 5, 2, false⟩, coT b2 ⟨1, 5, 3, false⟩]
def cos2 (b1 : Nat) : List Co := [Co.z, coT b1 ⟨1, 0, 1, false⟩]
theorem two_given {w : World} {bf b1 b2 bc : Nat} (hf : Bk w bf 51 (flat frC frs4).toArray) (h1 : Bk w b1 62 (tlC ⟨1, 5, 2, false⟩).toArray) (h2 : Bk w b2 62 (tlC ⟨1, 5, 3, false⟩).toArray) (hc : Bk w bc 44 (flat coC (cos3 b1 b2)).toArray) : (snTwo bf b1 b2 bc).Given w := by
  obtain ⟨z, o, t, r, u, u5⟩ := i64s
  refine ⟨RK.of_bk (enc := coC) coC_len hc, Nat.le_refl _, (Nat.le_of_ble_eq_true rfl), ?_, rk_none, Nat.le_refl _, Nat.zero_le _, noMem, RK.of_bk (enc := frC) frC_len hf, Nat.le_refl _, (Nat.le_of_ble_eq_true rfl), ?_⟩
  · intro y hy
    simp only [snTwo, List.mem_cons, List.not_mem_nil, or_false] at hy
    rcases hy with rfl | rfl | rfl
    · exact co_z_given w
    · exact coT_given ⟨o, u5, t⟩ h1
    · exact coT_given ⟨o, u5, r⟩ h2
  · intro y hy
    simp only [snTwo, List.mem_cons, List.not_mem_nil, or_false] at hy
    rcases hy with rfl | rfl | rfl | rfl
    · exact fr_given w o
    · exact fr_given w z
    · exact fr_given w o
    · exact fr_given w o
theorem free_given {w : World} {bf b1 bc : Nat} (hf : Bk w bf 51 (flat frC frs4).toArray) (h1 : Bk w b1 62 (tlC ⟨1, 0, 1, false⟩).toArray) (hc : Bk w bc 44 (flat coC (cos2 b1)).toArray) : (snFree bf b1 bc).Given w := by
  obtain ⟨z, o, t, r, u, u5⟩ := i64s
  refine ⟨RK.of_bk (enc := coC) coC_len hc, Nat.le_refl _, (Nat.le_of_ble_eq_true rfl), ?_, rk_none, Nat.le_refl _, Nat.zero_le _, noMem, RK.of_bk (enc := frC) frC_len hf, Nat.le_refl _, (Nat.le_of_ble_eq_true rfl), ?_⟩
  · intro y hy
    simp only [snFree, List.mem_cons, List.not_mem_nil, or_false] at hy
    rcases hy with rfl | rfl
    · exact co_z_given w
    · exact coT_given ⟨o, u, o⟩ h1
  · intro y hy
    simp only [snFree, snTwo, List.mem_cons, List.not_mem_nil, or_false] at hy
    rcases hy with rfl | rfl | rfl | rfl
    · exact fr_given w o
    · exact fr_given w z
    · exact fr_given w o
    · exact fr_given w o
theorem sml_z : Sml Sn.z := ⟨by decide, by decide, by decide, noMem, noMem⟩
theorem sml_two (bf b1 b2 bc : Nat) : Sml (snTwo bf b1 b2 bc) := by
  refine ⟨by simp [snTwo], by simp [snTwo, Sn.z], by simp [snTwo], fun x hx => ?_, fun x hx => ?_⟩
  · simp only [snTwo, List.mem_cons, List.not_mem_nil, or_false] at hx
    rcases hx with rfl | rfl | rfl | rfl <;> simp [Fr.z]
  · simp only [snTwo, List.mem_cons, List.not_mem_nil, or_false] at hx
    rcases hx with rfl | rfl | rfl <;> simp [Co.z, coT, Wo.z]
theorem sml_free (bf b1 bc : Nat) : Sml (snFree bf b1 bc) := by
  refine ⟨by simp [snFree], by simp [snFree, snTwo, Sn.z], by simp [snFree, snTwo], fun x hx => ?_, fun x hx => ?_⟩
  · simp only [snFree, snTwo, List.mem_cons, List.not_mem_nil, or_false] at hx
    rcases hx with rfl | rfl | rfl | rfl <;> simp [Fr.z]
  · simp only [snFree, List.mem_cons, List.not_mem_nil, or_false] at hx
    rcases hx with rfl | rfl <;> simp [Co.z, coT, Wo.z]
theorem idle_z : Idle Sn.z.cl := fun k x _ h => by simp [Sn.z] at h
theorem idle_all {cl : List Co} (h : ∀ c ∈ cl, c.rt = 0) : Idle cl := fun k x _ hx => h x (List.mem_of_getElem? hx)
theorem idle_two (bf b1 b2 bc : Nat) : Idle (snTwo bf b1 b2 bc).cl := idle_all (fun c hc => by
  simp only [snTwo, List.mem_cons, List.not_mem_nil, or_false] at hc
  rcases hc with rfl | rfl | rfl <;> rfl)
theorem idle_free (bf b1 bc : Nat) : Idle (snFree bf b1 bc).cl := idle_all (fun c hc => by
  simp only [snFree, List.mem_cons, List.not_mem_nil, or_false] at hc
  rcases hc with rfl | rfl <;> rfl)
theorem idle_roots {s : Sn} {w : World} (hs : s.Given w) (hm : Sml s) (hi : Idle s.cl) : RootsDo s w (fun _ => []) := fun w' hb => roots_idle s w' (hs.call hb) hm hi
theorem un_two (bf b1 b2 bc : Nat) : findC (unl1 (ents (snTwo bf b1 b2 bc).cl) (fun _ => []) (snTwo bf b1 b2 bc)) (snTwo bf b1 b2 bc).cl 0 = some (1, 0) := rfl
theorem so_z : soundP Sn.z (fun _ => []) = true := rfl
theorem so_two (bf b1 b2 bc : Nat) : soundP (snTwo bf b1 b2 bc) (fun _ => []) = false := rfl
theorem re_free (bf b1 bc : Nat) : findR (reachC (gone (snFree bf b1 bc))) (snFree bf b1 bc).cl 0 = some 1 := rfl
theorem so_free (bf b1 bc : Nat) : soundP (snFree bf b1 bc) (fun _ => []) = false := by
  unfold soundP
  rw [re_free]
  simp
set_option maxRecDepth 100000 in
set_option maxHeartbeats 8000000 in
theorem wakes29_any (w : World) (hG : G w) : Calls Tryd.prog 8 #[] w fun e w' => e = .returned (.bool true) ∧ Below w.heap.size w w' := by
  have HG := Lib.hid hG
  clear hG
  go_enter Tryd.func8, Tryd.ntmps8
  go_upto_region 4 with fail
  have k0 := Bk.new w 26 #[.slice none 0 0, .slice none 0 0, .slice none 0 0]
  have k1 := Bk.new (w.alloc (.cells #[.slice none 0 0, .slice none 0 0, .slice none 0 0] 26)) 26 #[.slice none 0 0, .slice none 0 0, .slice (some ⟨w.heap.size + 1 + 1, 0, none⟩) 4 4]
  have kf := Bk.new ((w.alloc (.cells #[.slice none 0 0, .slice none 0 0, .slice none 0 0] 26)).alloc (.cells #[.slice none 0 0, .slice none 0 0, .slice (some ⟨w.heap.size + 1 + 1, 0, none⟩) 4 4] 26)) 51 (flat frC frs4).toArray
  simp only [World.size_alloc] at k1 kf
  refine (show ∀ W1 : World, Below w.heap.size w W1 → Bk W1 w.heap.size 26 #[.slice none 0 0, .slice none 0 0, .slice none 0 0] → Bk W1 (w.heap.size + 1) 26 #[.slice none 0 0, .slice none 0 0, .slice (some ⟨w.heap.size + 1 + 1, 0, none⟩) 4 4] →
    Bk W1 (w.heap.size + 1 + 1) 51 (flat frC frs4).toArray → Code.wp _ _ _ _ W1 from fun W1 hb1 h0 h1 hf => ?_) _ (ba (ba (ba (Below.refl _ _) _) _) _) ((k0.call (ba (Below.refl _ _) _)).call (ba (Below.refl _ _) _)) (k1.call (ba (Below.refl _ _) _)) kf
  clear k0 k1 kf
  have HB1 := Lib.hid hb1
  have H0 := Lib.hid h0
  have HF1 := Lib.hid hf
  have H1 := Lib.hid h1
  have hS0 := h0.lt
  clear hb1 h0 h1 hf
  obtain ⟨S0, hS0e⟩ : ∃ S0, S0 = w.heap.size := ⟨_, rfl⟩
  obtain ⟨S1, hS1e⟩ : ∃ S1, S1 = w.heap.size + 1 := ⟨_, rfl⟩
  obtain ⟨bf, hbfe⟩ : ∃ bf, bf = w.heap.size + 1 + 1 := ⟨_, rfl⟩
  have HS0e := Lib.hid hS0e
  have HS1e := Lib.hid hS1e
  have HBf := Lib.hid hbfe
  rw [← hbfe, ← hS1e, ← hS0e]
  rw [← hbfe] at HF1
  rw [← hbfe, ← hS1e] at H1
  rw [← hS0e] at H0
  clear hS0e hS1e hbfe hS0
  have c0 : W1.cell? ⟨S1, 0, none⟩ = some (.slice none 0 0) := H1.out.cell 0
  have f0 : W1.frozen? ⟨S1, 0, none⟩ = false := H1.out.frozen 0
  have hl1 : S1 < W1.heap.size := H1.out.lt
  have hl2 : S1 < W1.heap.size + 1 := by omega
  have hl3 : S1 < W1.heap.size + 1 + 1 := by omega
  go_upto_region 5 with fail
  have HL1 := Lib.hid hl1
  refine (show ∀ W2 : World, Below w.heap.size w W2 → Bk W2 S0 26 #[.slice none 0 0, .slice none 0 0, .slice none 0 0] → Bk W2 S1 26 #[.slice (some ⟨W1.heap.size + 1 + 1, 0, none⟩) 3 3, .slice none 0 0, .slice (some ⟨bf, 0, none⟩) 4 4] → Bk W2 bf 51 (flat frC frs4).toArray →
    Bk W2 W1.heap.size 62 (tlC ⟨1, 5, 2, false⟩).toArray → Bk W2 (W1.heap.size + 1) 62 (tlC ⟨1, 5, 3, false⟩).toArray → Bk W2 (W1.heap.size + 1 + 1) 44 (flat coC (cos3 W1.heap.size (W1.heap.size + 1))).toArray → Code.wp _ _ _ _ W2 from fun W2 hb2 h0 h1 hf hx1 hx2 hxc => ?_) _
    (ba (ba (ba (bs HB1.out (by show w.heap.size ≤ S1; have := HS1e.out; omega) _) _) _) _)
    ((((H0.out.far (by show S0 ≠ S1; have := HS0e.out; have := HS1e.out; omega) _).call (ba (Below.refl _ _) _)).call (ba (Below.refl _ _) _)).call (ba (Below.refl _ _) _))
    ((((H1.out.set 0 (.slice (some ⟨W1.heap.size + 1 + 1, 0, none⟩) 3 3)).call (ba (Below.refl _ _) _)).call (ba (Below.refl _ _) _)).call (ba (Below.refl _ _) _))
    ((((HF1.out.far (by show bf ≠ S1; have := HBf.out; have := HS1e.out; omega) _).call (ba (Below.refl _ _) _)).call (ba (Below.refl _ _) _)).call (ba (Below.refl _ _) _))
    (((by have := Bk.new (W1.setCell ⟨S1, 0, none⟩ (.slice (some ⟨W1.heap.size + 1 + 1, 0, none⟩) 3 3)) 62 (tlC ⟨1, 5, 2, false⟩).toArray; rwa [World.size_setCell] at this : Bk _ W1.heap.size 62 (tlC ⟨1, 5, 2, false⟩).toArray).call (ba (Below.refl _ _) _)).call (ba (Below.refl _ _) _))
    ((by have := Bk.new ((W1.setCell ⟨S1, 0, none⟩ (.slice (some ⟨W1.heap.size + 1 + 1, 0, none⟩) 3 3)).alloc (.cells (tlC ⟨1, 5, 2, false⟩).toArray 62)) 62 (tlC ⟨1, 5, 3, false⟩).toArray; rwa [World.size_alloc, World.size_setCell] at this : Bk _ (W1.heap.size + 1) 62 (tlC ⟨1, 5, 3, false⟩).toArray).call (ba (Below.refl _ _) _))
    (by have := Bk.new (((W1.setCell ⟨S1, 0, none⟩ (.slice (some ⟨W1.heap.size + 1 + 1, 0, none⟩) 3 3)).alloc (.cells (tlC ⟨1, 5, 2, false⟩).toArray 62)).alloc (.cells (tlC ⟨1, 5, 3, false⟩).toArray 62)) 44 (flat coC (cos3 W1.heap.size (W1.heap.size + 1))).toArray; rwa [World.size_alloc, World.size_alloc, World.size_setCell] at this)
  clear c0 f0 hl1 hl2 hl3 H0 H1 HF1 HL1
  generalize W1.heap.size = b1 at *
  have HB2 := Lib.hid hb2
  have H0 := Lib.hid h0
  have H1 := Lib.hid h1
  have HF := Lib.hid hf
  have hgiv := two_given hf hx1 hx2 hxc
  have HG2 := Lib.hid hgiv
  have y0 : W2.cell? ⟨S1, 0, none⟩ = some (.slice (some ⟨b1 + 1 + 1, 0, none⟩) 3 3) := h1.cell 0
  have y1 : W2.cell? ⟨S1, 1, none⟩ = some (.slice none 0 0) := h1.cell 1
  have y2 : W2.cell? ⟨S1, 2, none⟩ = some (.slice (some ⟨bf, 0, none⟩) 4 4) := h1.cell 2
  clear hb2 h0 h1 hf hx1 hx2 hxc hgiv
  generalize b1 + 1 + 1 = bc at *
  generalize b1 + 1 = b2 at *
  go_wp2_with fail
  refine (unlike_any (snTwo bf b1 b2 bc) W2 (fun _ => []) HG2.out (sml_two _ _ _ _) (HG.out.call HB2.out) (idle_roots HG2.out (sml_two _ _ _ _) (idle_two _ _ _ _))).mono ?_
  rintro e W3 ⟨rfl, hb3⟩
  rw [un_two]
  simp only [entV]
  have HB3 := Lib.hid (bthen HB2.out hb3)
  have H03 := Lib.hid (H0.out.call hb3)
  have H13 := Lib.hid (H1.out.call hb3)
  have HF3 := Lib.hid (HF.out.call hb3)
  have HG3 := Lib.hid (HG2.out.call hb3)
  clear hb3 H0 H1 HF HG2 HB2 y0 y1 y2
  have y0 : W3.cell? ⟨S1, 0, none⟩ = some (.slice (some ⟨bc, 0, none⟩) 3 3) := H13.out.cell 0
  have y1 : W3.cell? ⟨S1, 1, none⟩ = some (.slice none 0 0) := H13.out.cell 1
  have y2 : W3.cell? ⟨S1, 2, none⟩ = some (.slice (some ⟨bf, 0, none⟩) 4 4) := H13.out.cell 2
  go_upto_region 7 with fail
  have hk := Bk.new W3 26 #[.slice (some ⟨bc, 0, none⟩) 3 3, .slice none 0 0, .slice (some ⟨bf, 0, none⟩) 4 4]
  refine (show ∀ W4 : World, Below W3.heap.size W3 W4 → Bk W4 W3.heap.size 26 #[.slice (some ⟨bc, 0, none⟩) 3 3, .slice none 0 0, .slice (some ⟨bf, 0, none⟩) 4 4] → Code.wp _ _ _ _ W4 from fun W4 hb4 h4 => ?_) _ (ba (Below.refl _ _) _) hk
  have HB4 := Lib.hid (bthen HB3.out hb4)
  have H04 := Lib.hid (H03.out.call hb4)
  have H14 := Lib.hid (H13.out.call hb4)
  have HF4 := Lib.hid (HF3.out.call hb4)
  have HB34 := Lib.hid hb4
  have H4 := Lib.hid h4
  have hS2 : w.heap.size ≤ W3.heap.size := HB3.out.size
  have hlt0 : S0 < W3.heap.size := H03.out.lt
  have hlt1 : S1 < W3.heap.size := H13.out.lt
  have hltf : bf < W3.heap.size := HF3.out.lt
  clear hb4 h4 hk H03 H13 HF3 y0 y1 y2
  obtain ⟨S2, hS2e⟩ : ∃ S2, S2 = W3.heap.size := ⟨_, rfl⟩
  rw [← hS2e] at H4 hS2 ⊢
  have HSe := Lib.hid hS2e
  have HS2 := Lib.hid (show S0 < S2 ∧ S1 < S2 ∧ bf < S2 from ⟨by omega, by omega, by omega⟩)
  clear hS2e hlt0 hlt1 hltf
  have c0 : W4.cell? ⟨S2, 0, none⟩ = some (.slice (some ⟨bc, 0, none⟩) 3 3) := H4.out.cell 0
  have f0 : W4.frozen? ⟨S2, 0, none⟩ = false := H4.out.frozen 0
  have hl1 : S2 < W4.heap.size := H4.out.lt
  have hl2 : S2 < W4.heap.size + 1 := by omega
  go_upto_region 8 with fail
  refine (show ∀ W5 : World, Below w.heap.size w W5 → Bk W5 S0 26 #[.slice none 0 0, .slice none 0 0, .slice none 0 0] → Bk W5 S1 26 #[.slice (some ⟨bc, 0, none⟩) 3 3, .slice none 0 0, .slice (some ⟨bf, 0, none⟩) 4 4] → (snTwo bf b1 b2 bc).Given W5 →
    Bk W5 S2 26 #[.slice (some ⟨W4.heap.size + 1, 0, none⟩) 2 2, .slice none 0 0, .slice (some ⟨bf, 0, none⟩) 4 4] → (snFree bf W4.heap.size (W4.heap.size + 1)).Given W5 → Code.wp _ _ _ _ W5 from fun W5 hb5 h0 h1 hg2 h2 hg3 => ?_) _ ?q1 ?q2 ?q3 ?q4 ?q5 ?q6
  case q1 => exact ba (ba (bs HB4.out (by show w.heap.size ≤ S2; exact hS2) _) _) _
  case q2 => exact ((H04.out.far (by show S0 ≠ S2; have := HS2.out.1; omega) _).call (ba (Below.refl _ _) _)).call (ba (Below.refl _ _) _)
  case q3 => exact ((H14.out.far (by show S1 ≠ S2; have := HS2.out.2.1; omega) _).call (ba (Below.refl _ _) _)).call (ba (Below.refl _ _) _)
  case q4 => exact HG3.out.call (ba (ba (bs HB34.out (by show W3.heap.size ≤ S2; have := HSe.out; omega) _) _) _)
  case q5 => exact ((H4.out.set 0 (.slice (some ⟨W4.heap.size + 1, 0, none⟩) 2 2)).call (ba (Below.refl _ _) _)).call (ba (Below.refl _ _) _)
  case q6 =>
    refine free_given ?_ ?_ ?_
    · exact ((HF4.out.far (by show bf ≠ S2; have := HS2.out.2.2; omega) _).call (ba (Below.refl _ _) _)).call (ba (Below.refl _ _) _)
    · exact (by have := Bk.new (W4.setCell ⟨S2, 0, none⟩ (.slice (some ⟨W4.heap.size + 1, 0, none⟩) 2 2)) 62 (tlC ⟨1, 0, 1, false⟩).toArray; rwa [World.size_setCell] at this : Bk _ W4.heap.size 62 (tlC ⟨1, 0, 1, false⟩).toArray).call (ba (Below.refl _ _) _)
    · have := Bk.new ((W4.setCell ⟨S2, 0, none⟩ (.slice (some ⟨W4.heap.size + 1, 0, none⟩) 2 2)).alloc (.cells (tlC ⟨1, 0, 1, false⟩).toArray 62)) 44 (flat coC (cos2 W4.heap.size)).toArray
      rwa [World.size_alloc, World.size_setCell] at this
  clear c0 f0 hl1 hl2 H04 H14 HF4 HG3 H4 HB4 HB34 HSe
  generalize W4.heap.size + 1 = bd at *
  generalize W4.heap.size = b4 at *
  have HB5 := Lib.hid hb5
  have H0 := Lib.hid h0
  have H1 := Lib.hid h1
  have H2 := Lib.hid h2
  have HG2 := Lib.hid hg2
  have HG3 := Lib.hid hg3
  have z0 : W5.cell? ⟨S2, 0, none⟩ = some (.slice (some ⟨bd, 0, none⟩) 2 2) := h2.cell 0
  have z1 : W5.cell? ⟨S2, 1, none⟩ = some (.slice none 0 0) := h2.cell 1
  have z2 : W5.cell? ⟨S2, 2, none⟩ = some (.slice (some ⟨bf, 0, none⟩) 4 4) := h2.cell 2
  clear hb5 h0 h1 h2 hg2 hg3 hS2
  go_wp2_with fail
  refine (reaching_any (snFree bf b4 bd) W5 HG3.out (sml_free _ _ _)).mono ?_
  rintro e W6 ⟨rfl, hb6⟩
  rw [re_free]
  simp only [reaV]
  have HB6 := Lib.hid (bthen HB5.out hb6)
  have HK6 := Lib.hid hb6
  clear hb6 z0 z1 z2
  have y0 : W6.cell? ⟨S0, 0, none⟩ = some (.slice none 0 0) := (H0.out.call HK6.out).cell 0
  have y1 : W6.cell? ⟨S0, 1, none⟩ = some (.slice none 0 0) := (H0.out.call HK6.out).cell 1
  have y2 : W6.cell? ⟨S0, 2, none⟩ = some (.slice none 0 0) := (H0.out.call HK6.out).cell 2
  go_wp2_with fail
  refine (sound_any Sn.z W6 (fun _ => []) (sn_z_given _) sml_z (HG.out.call HB6.out) (idle_roots (sn_z_given _) sml_z idle_z) (.inl (fun _ => rfl))).mono ?_
  rintro e W7 ⟨rfl, hb7⟩
  rw [so_z]
  have HB7 := Lib.hid (bthen HB6.out hb7)
  have HK7 := Lib.hid (bthen HK6.out hb7)
  clear hb7 y0 y1 y2 HB6 HK6
  have y0 : W7.cell? ⟨S1, 0, none⟩ = some (.slice (some ⟨bc, 0, none⟩) 3 3) := (H1.out.call HK7.out).cell 0
  have y1 : W7.cell? ⟨S1, 1, none⟩ = some (.slice none 0 0) := (H1.out.call HK7.out).cell 1
  have y2 : W7.cell? ⟨S1, 2, none⟩ = some (.slice (some ⟨bf, 0, none⟩) 4 4) := (H1.out.call HK7.out).cell 2
  go_wp2_with fail
  refine (sound_any (snTwo bf b1 b2 bc) W7 (fun _ => []) (HG2.out.call HK7.out) (sml_two _ _ _ _) (HG.out.call HB7.out) (idle_roots (HG2.out.call HK7.out) (sml_two _ _ _ _) (idle_two _ _ _ _)) (.inl (fun _ => rfl))).mono ?_
  rintro e W8 ⟨rfl, hb8⟩
  rw [so_two]
  have HB8 := Lib.hid (bthen HB7.out hb8)
  have HK8 := Lib.hid (bthen HK7.out hb8)
  clear hb8 y0 y1 y2 HB7 HK7
  have y0 : W8.cell? ⟨S2, 0, none⟩ = some (.slice (some ⟨bd, 0, none⟩) 2 2) := (H2.out.call HK8.out).cell 0
  have y1 : W8.cell? ⟨S2, 1, none⟩ = some (.slice none 0 0) := (H2.out.call HK8.out).cell 1
  have y2 : W8.cell? ⟨S2, 2, none⟩ = some (.slice (some ⟨bf, 0, none⟩) 4 4) := (H2.out.call HK8.out).cell 2
  go_wp2_with fail
  refine (sound_any (snFree bf b4 bd) W8 (fun _ => []) (HG3.out.call HK8.out) (sml_free _ _ _) (HG.out.call HB8.out) (idle_roots (HG3.out.call HK8.out) (sml_free _ _ _) (idle_free _ _ _)) (.inl (fun _ => rfl))).mono ?_
  rintro e W9 ⟨rfl, hb9⟩
  rw [so_free]
  have HB9 := Lib.hid (bthen HB8.out hb9)
  clear hb9 y0 y1 y2 HB8 HK8
  go_wp2_with fail
  go_ret
  exact ⟨rfl, HB9.out⟩
end Go.Proofs.YtappjiljmpgjcaaDoor
