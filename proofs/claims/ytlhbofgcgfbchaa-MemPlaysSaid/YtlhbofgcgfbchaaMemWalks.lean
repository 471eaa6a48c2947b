/-
  The walks of package mem: at, own, Read, Write, Add.
-/
import Derived.Test.YtlhbofgcgfbchaaMemBase
namespace Go.Proofs.Ytlhbofgcgfbchaa
open Go.RowKit Go.Maps
set_option linter.unusedVariables false
set_option linter.unusedSimpArgs false

theorem Bk.far {w : World} {g : Nat} {t : TypeId} {cs : Array Value} (h : Bk w g t cs) {p : Addr} (hp : g ≠ p.block) (u : Value) : Bk (w.setCell p u) g t cs :=
  (RowKit.Below.heap_setCell _ _ _ _ hp).trans h
theorem not_both {D : DataW Unit} {f b : Nat} (h : Maps.has D (fk f) = false) (ha : ∀ z, D.atKey (fk f) z = .lit (.int .i64 b)) : False := by
  have h1 := (Maps.atKey_of_not_has h .nil).symm.trans (ha .nil)
  cases h1
/-- A word is written into a frame that is there. -/
theorem Mm.put {w : World} {p n k m : Nat} {c : Nat → Nat → Int} {F : Nat → Prop} {D : DataW Unit} (h : Mm w p n c F k m D) {f b : Nat} (ha : ∀ z, D.atKey (fk f) z = .lit (.int .i64 b)) (hb : Bk w b 83 (rowOf (c f))) (i : Nat) (v : Int) :
    Mm (w.setCell ⟨b, i, none⟩ (.int .u64 v)) p n (upd2 c f i v) F k m D where
  str := h.str.far (bk_ne h.str hb (by decide)) _
  map := h.map.setCell (fun e => bk_map_ne hb h.map e.symm) _
  pF := h.pF
  mF := h.mF
  lt := fun x hx => by simpa using h.lt x hx
  row := fun g => by
    by_cases e : g = f
    · subst e
      rcases h.row g with ⟨h1, _⟩ | ⟨b', h1, h2, h3, h4⟩
      · exact (not_both h1 ha).elim
      · have eb : b' = b := by
          have := (h2 .nil).symm.trans (ha .nil)
          simp at this
          omega
        subst eb
        refine .inr ⟨b', h1, h2, ?_, h4⟩
        have := hb.set i (.int .u64 v)
        rw [rowOf_set] at this
        simpa [upd2] using this
    · have ec : upd2 c f i v g = c g := by simp [upd2, e]
      rw [ec]
      refine (h.row g).imp id fun ⟨b', h1, h2, h3, h4⟩ => ⟨b', h1, h2, h3.far (fun eb => e (h.inj g f b' h2 ?_)) _, h4⟩
      intro z
      have eb' : b' = b := eb
      rw [eb']
      exact ha z
  inj := h.inj
  keys := h.keys
/-- A frame that is not there yet comes to be, all 0. -/
theorem Mm.add {w w' : World} {p n k m : Nat} {c : Nat → Nat → Int} {F : Nat → Prop} {D : DataW Unit} (h : Mm w p n c F k m D) {f : Nat} (hf64 : f < 64) (hh : Maps.has D (fk f) = false)
    (hm : w'.ownsMap Try.prog 3 ptrElem m (k + 1) (D.put (fk f) (.lit (.int .i64 w.heap.size)))) (hg : (w.alloc (.cells (rowOf fun _ => 0) 83)).mapTurned w' m) :
    Mm w' p n c (fun b => F b ∨ b = w.heap.size) (k + 1) m (D.put (fk f) (.lit (.int .i64 w.heap.size))) ∧ Bk w' w.heap.size 83 (rowOf (c f)) ∧ Keeps (fun y => y = m) w w' := by
  have hk1 := Keeps.grown (F := fun y => y = m) hg.grown rfl
  have h1 := h.alloc (.cells (rowOf fun _ => 0) 83)
  have hkeep : Keeps (fun y => y = m) w w' := ((Keeps.refl _ w).alloc _).trans hk1 (fun x hx => .inl hx)
  have hz : rowOf (c f) = rowOf fun _ => 0 := by
    rcases h.row f with ⟨_, h2⟩ | ⟨b, h2, _⟩
    · exact rowOf_congr h2
    · rw [hh] at h2; cases h2
  have hnF : ¬ F w.heap.size := fun hf => by have := h.lt _ hf; omega
  have hnew : Bk w' w.heap.size 83 (rowOf (c f)) := by
    rw [hz]
    refine (hg.grown.block _ (by simp) (fun e => ?_)).trans (Bk.new w 83 (rowOf fun _ => 0))
    injection e with e
    exact hnF (by rw [e]; exact h.mF)
  have hM := h.map.isMap
  refine ⟨⟨?_, hm, .inl h.pF, .inl h.mF, ?_, ?_, ?_, fun l hl => ?_⟩, hnew, hkeep⟩
  · refine (hg.grown.block _ (by have := h.str.lt; simp; omega) (fun e => ?_)).trans (h1.str)
    injection e with e
    exact h.ne e
  · intro b hb
    have hs := hkeep.size
    have hs2 := hnew.lt
    rcases hb with hb | rfl
    · have := h.lt b hb; omega
    · exact hs2
  · intro g
    by_cases e : g = f
    · subst e
      exact .inr ⟨w.heap.size, Maps.has_put_same hM (isKey g) _, fun z => Maps.atKey_put_same hM (isKey g) _ z, hnew, .inr rfl⟩
    · have e' := fk_ne e
      refine (h.row g).imp (fun ⟨a1, a2⟩ => ⟨by rw [Maps.has_put_other e']; exact a1, a2⟩) fun ⟨b', a1, a2, a3, a4⟩ => ⟨b', by rw [Maps.has_put_other e']; exact a1, fun z => by rw [Maps.atKey_put_other e']; exact a2 z, ?_, .inl a4⟩
      refine (hg.grown.block _ (by have := a3.lt; simp; omega) (fun e => ?_)).trans (a3.call (ba (Below.refl _ _) _))
      injection e with e
      exact bk_map_ne a3 h.map e
  · intro g g' b e1 e2
    by_cases x1 : g = f <;> by_cases x2 : g' = f
    · rw [x1, x2]
    · subst x1
      have := (e1 .nil).symm.trans (Maps.atKey_put_same hM (isKey g) _ .nil)
      simp at this
      have hb : b = w.heap.size := by omega
      replace e2 := fun z => (Maps.atKey_put_other (D := D) (fk_ne x2) _ z).symm.trans (e2 z)
      rcases h.row g' with ⟨y, _⟩ | ⟨b', y1, y2, y3, y4⟩
      · have := (Maps.atKey_of_not_has y .nil).symm.trans (e2 .nil); cases this
      · have hb' := (y2 .nil).symm.trans (e2 .nil)
        simp at hb'
        have := y3.lt
        omega
    · subst x2
      have := (e2 .nil).symm.trans (Maps.atKey_put_same hM (isKey g') _ .nil)
      simp at this
      have hb : b = w.heap.size := by omega
      replace e1 := fun z => (Maps.atKey_put_other (D := D) (fk_ne x1) _ z).symm.trans (e1 z)
      rcases h.row g with ⟨y, _⟩ | ⟨b', y1, y2, y3, y4⟩
      · have := (Maps.atKey_of_not_has y .nil).symm.trans (e1 .nil); cases this
      · have hb' := (y2 .nil).symm.trans (e1 .nil)
        simp at hb'
        have := y3.lt
        omega
    · refine h.inj g g' b (fun z => ?_) (fun z => ?_)
      · rw [← e1 z, Maps.atKey_put_other (fk_ne x1)]
      · rw [← e2 z, Maps.atKey_put_other (fk_ne x2)]
  · by_cases e : l = fk f
    · exact ⟨f, hf64, e⟩
    · rw [Maps.has_put_other e] at hl
      exact h.keys l hl
/-- A frame is struck. -/
theorem Mm.del {w w' : World} {p n k m : Nat} {c : Nat → Nat → Int} {F : Nat → Prop} {D : DataW Unit} (h : Mm w p n c F k m D) {f : Nat}
    (hm : w'.ownsMap Try.prog 3 ptrElem m k (D.del (fk f))) (hg : w.mapTurned w' m) : Mm w' p n (fun g => if g = f then fun _ => 0 else c g) F k m (D.del (fk f)) ∧ Keeps F w w' := by
  have hkeep := Keeps.grown (F := F) hg.grown h.mF
  refine ⟨⟨?_, hm, h.pF, h.mF, fun b hb => Nat.lt_of_lt_of_le (h.lt b hb) hkeep.size, ?_, ?_, fun l hl => ?_⟩, hkeep⟩
  · refine (hg.grown.block _ h.str.lt (fun e => ?_)).trans h.str
    injection e with e
    exact h.ne e
  · intro g
    by_cases e : g = f
    · subst e
      exact .inl ⟨Maps.has_del_same, fun i _ => by simp⟩
    · have e' := fk_ne e
      rw [if_neg e]
      refine (h.row g).imp (fun ⟨a1, a2⟩ => ⟨by rw [Maps.has_del_other e']; exact a1, a2⟩) fun ⟨b', a1, a2, a3, a4⟩ => ⟨b', by rw [Maps.has_del_other e']; exact a1, fun z => by rw [Maps.atKey_del_other e']; exact a2 z, ?_, a4⟩
      refine (hg.grown.block _ a3.lt (fun e => ?_)).trans a3
      injection e with e
      exact bk_map_ne a3 h.map e
  · intro g g' b e1 e2
    have k1 : g ≠ f := by
      rintro rfl
      have := (Maps.atKey_del_same (D := D) (k := fk g) .nil).symm.trans (e1 .nil)
      cases this
    have k2 : g' ≠ f := by
      rintro rfl
      have := (Maps.atKey_del_same (D := D) (k := fk g') .nil).symm.trans (e2 .nil)
      cases this
    exact h.inj g g' b (fun z => by rw [← e1 z, Maps.atKey_del_other (fk_ne k1)]) (fun z => by rw [← e2 z, Maps.atKey_del_other (fk_ne k2)])
  · by_cases e : l = fk f
    · subst e; rw [Maps.has_del_same] at hl; cases hl
    · rw [Maps.has_del_other e] at hl
      exact h.keys l hl
/-- A memory that was just made. -/
theorem Mm.made (w : World) (n : Nat) : Mm ((w.alloc (.map #[] 0)).alloc (.cells #[.int .i64 n, .map (some w.heap.size)] 70)) (w.heap.size + 1) n (fun _ _ => 0) (fun b => b = w.heap.size ∨ b = w.heap.size + 1) 0 w.heap.size (.map []) where
  str := by
    have := Bk.new (w.alloc (.map #[] 0)) 70 #[.int .i64 n, .map (some w.heap.size)]
    rwa [World.size_alloc] at this
  map := (World.ownsMap_made w Try.prog 3 ptrElem).alloc _
  pF := .inr rfl
  mF := .inl rfl
  lt := fun b hb => by simp only [World.size_alloc]; omega
  row := fun f => .inl ⟨rfl, fun _ _ => rfl⟩
  inj := fun f g b h1 _ => by have := h1 .nil; cases this
  keys := fun l hl => by cases hl

set_option maxHeartbeats 400000 in
theorem at_yes (p n : Nat) (x : Int) (w : World) (hx : U64 x) (hc : w.cell? ⟨p, 0, none⟩ = some (.int .i64 n)) (hn : n ≤ 64) (h : x / 512 < n) :
    Calls Try.prog 38 #[.pointer (some ⟨p, 0, none⟩), .int .u64 x] w fun e w' => e = .returned (.tuple #[.int .i64 (x / 512), .int .i64 (x % 512), .int .i64 0]) ∧ w = w' := by
  have h0 := hx.1
  have h1 := hx.2
  clear hx
  go_enter Try.func38, Try.ntmps38
  go_wp2
  go_ret3
  exact ⟨rfl, rfl⟩
set_option maxHeartbeats 400000 in
theorem at_no (p n : Nat) (x : Int) (w : World) (hx : U64 x) (hc : w.cell? ⟨p, 0, none⟩ = some (.int .i64 n)) (hn : n ≤ 64) (h' : (n : Int) ≤ x / 512) :
    Calls Try.prog 38 #[.pointer (some ⟨p, 0, none⟩), .int .u64 x] w fun e w' => e = .returned (.tuple #[.int .i64 0, .int .i64 0, .int .i64 80]) ∧ w = w' := by
  have h0 := hx.1
  have h1 := hx.2
  clear hx
  go_enter Try.func38, Try.ntmps38
  go_wp2
  go_ret3
  exact ⟨rfl, rfl⟩
theorem at_nil (x : Int) (w : World) :
    Calls Try.prog 38 #[.pointer none, .int .u64 x] w fun e w' => e = .returned (.tuple #[.int .i64 0, .int .i64 0, .int .i64 1]) ∧ w = w' := by
  go_enter Try.func38, Try.ntmps38
  go_wp2
  go_ret3
  exact ⟨rfl, rfl⟩
theorem zeroRow : ∀ W : World, (zeroValue 83).run Try.prog W = .ok (.agg (rowOf fun _ => 0)) W := fun _ => by kernel_rfl
/-- What own leaves. -/
def Owned (w : World) (p n k m f : Nat) (c : Nat → Nat → Int) (F : Nat → Prop) (e : Ending) (w' : World) : Prop :=
  ∃ (b k' : Nat) (F' : Nat → Prop) (D' : DataW Unit), e = .returned (.pointer (some ⟨b, 0, none⟩)) ∧ Mm w' p n c F' k' m D' ∧ k' ≤ k + 1 ∧ (∀ z, D'.atKey (fk f) z = .lit (.int .i64 b)) ∧ Bk w' b 83 (rowOf (c f)) ∧ F' b ∧
    Keeps (fun y => y = m) w w' ∧ (∀ x, F' x → F x ∨ w.heap.size ≤ x) ∧ ∀ x, F x → F' x
set_option maxHeartbeats 400000 in
theorem own_any (p n k m f : Nat) (c : Nat → Nat → Int) (F : Nat → Prop) (D : DataW Unit) (w : World) (hM : Mm w p n c F k m D) (hk : k < 1000000) (hf : f < 64) :
    Calls Try.prog 39 #[.pointer (some ⟨p, 0, none⟩), .int .i64 f] w (Owned w p n k m f c F) := by
  obtain ⟨v, ps, hrun, hv⟩ := hM.map.look_ok (t := 68) (e := 74) keyed Try.underlying68 (z := .pointer none) (by kernel_rfl) (zd := .lit (.int .i64 (-1))) (zp := []) rfl (keyLit f (by omega))
  have c1 : w.cell? ⟨p, 1, none⟩ = some (.map (some m)) := hM.str.cell 1
  rcases hM.row f with ⟨h1, h2⟩ | ⟨b, h1, h2, h3, h4⟩
  · rw [h1] at hrun
    have hM1 := hM.alloc (.cells (rowOf fun _ => 0) 83)
    obtain ⟨w2, hst, hm2, ht2⟩ := hM1.map.store (t := 68) (e := 74) keyed Try.underlying68 (by unfold maxLen; omega) (keyLit f (by omega)) (ptrElem_mk w.heap.size)
    have R := Lib.hid (hM.add hf h1 hm2 ht2)
    have hz := zeroRow
    have hp := hM.str.lt
    have H1 := Lib.hid h1
    have hM' := Lib.hid hM
    clear h1 h2 hv hM hM1 hm2 ht2
    go_enter Try.func39, Try.ntmps39
    go_wp2_with fail
    go_ret
    exact ⟨w.heap.size, k + 1, _, _, rfl, R.out.1, Nat.le_refl _, fun z => Maps.atKey_put_same hM'.out.map.isMap (isKey f) _ z, R.out.2.1, .inr rfl, R.out.2.2, fun x hx => hx.imp id (fun e => by omega), fun x hx => .inl hx⟩
  · rw [h1] at hrun
    rw [h2] at hv
    obtain rfl := ptrElem_inv hv
    have R := Lib.hid hM
    have H2 := Lib.hid h2
    have H3 := Lib.hid h3
    clear hM hv h1 h2 h3
    go_enter Try.func39, Try.ntmps39
    go_wp2_with fail
    go_ret
    exact ⟨b, k, F, D, rfl, R.out, by omega, H2.out, H3.out, h4, Keeps.refl _ _, fun x hx => .inl hx, fun x hx => hx⟩
end Go.Proofs.Ytlhbofgcgfbchaa
