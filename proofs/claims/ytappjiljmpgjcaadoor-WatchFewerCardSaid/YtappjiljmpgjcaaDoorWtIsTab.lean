/-
  Layer 29: isTable: is a frame a table of some space?
-/
import Derived.Test.YtappjiljmpgjcaaDoorWtTabs
import Derived.RangeFuncBound
import Derived.RangeFuncCalls
namespace Go.Proofs.YtappjiljmpgjcaaDoor
open Go.RowKit Go.Maps Go.Shelf
set_option linter.unusedVariables false
set_option linter.unusedSimpArgs false
attribute [local go_sem] Oper.semAt_some
/-- The map that counts the frames that are tables. -/
def RM (w : World) (R : Nat) (sn : Int → Int → Bool) : Prop := ∃ K on, Mp 3 w R K on ∧ K ≤ cntN (fun i => sn ((i / 70 : Nat) : Int) ((i % 70 : Nat) : Int)) 280 ∧ ∀ f, I64 f → (on (.int .i64 f)).getD (.int .i64 0) = .int .i64 (cnt4 sn f)
section
variable {w w' : World} {R : Nat} {sn : Int → Int → Bool} {F : Nat → Prop}
theorem RM.keep (h : RM w R sn) (hk : Keeps F w w') (hR : ¬ F R) : RM w' R sn := let ⟨K, on, h1, h2, h3⟩ := h; ⟨K, on, h1.keep hk hR, h2, h3⟩
theorem RM.call (h : RM w R sn) (hb : Below w.heap.size w w') : RM w' R sn := let ⟨K, on, h1, h2, h3⟩ := h; ⟨K, on, h1.call hb, h2, h3⟩
theorem RM.lt (h : RM w R sn) : R < w.heap.size := let ⟨K, on, h1, h2, h3⟩ := h; h1.lt
theorem RM.ne_bk {g : Nat} {t : TypeId} {cs : Array Value} (h : RM w R sn) (hb : Bk w g t cs) : g ≠ R := let ⟨K, on, h1, h2, h3⟩ := h; h1.ne_bk hb
theorem RM.made (w : World) : RM (w.alloc (.map #[] 0)) w.heap.size (fun _ _ => false) := ⟨0, _, Mp.made _ w, Nat.zero_le _, fun _ _ => rfl⟩
theorem RM.look (h : RM w R sn) {f : Int} (hf : I64 f) : (Instr.lookup 87 (.map (some R)) (.int .i64 f) false).run Tryd.prog w = .ok (.int .i64 (cnt4 sn f)) w := by
  obtain ⟨K, on, h1, h2, h3⟩ := h
  have := h1.look kInt Tryd.underlying87 (z := .int .i64 0) (by kernel_rfl) (ik_key hf)
  rw [h3 f hf] at this
  exact this
theorem cnt4_ins {sn : Int → Int → Bool} {lv f : Int} (hl : 0 ≤ lv ∧ lv ≤ 3) (hno : sn lv f = false) (g : Int) : cnt4 (insS sn lv f) g = if g = f then cnt4 sn g + 1 else cnt4 sn g := by
  by_cases e : g = f
  · subst e
    rw [if_pos rfl]
    have hc : lv = 0 ∨ lv = 1 ∨ lv = 2 ∨ lv = 3 := by omega
    unfold cnt4
    rcases hc with rfl | rfl | rfl | rfl
    · rw [insS_same, insS_other _ (by omega), insS_other _ (by omega), insS_other _ (by omega), hno]; simp; omega
    · rw [insS_same, insS_other _ (by omega), insS_other _ (by omega), insS_other _ (by omega), hno]; simp; omega
    · rw [insS_same, insS_other _ (by omega), insS_other _ (by omega), insS_other _ (by omega), hno]; simp; omega
    · rw [insS_same, insS_other _ (by omega), insS_other _ (by omega), insS_other _ (by omega), hno]; simp
  · rw [if_neg e]
    unfold cnt4
    rw [insS_other _ (fun h => e h.2), insS_other _ (fun h => e h.2), insS_other _ (fun h => e h.2), insS_other _ (fun h => e h.2)]
theorem cnt4_le (sn : Int → Int → Bool) (f : Int) : cnt4 sn f ≤ 4 := by
  unfold cnt4
  have : ∀ b : Bool, b.toNat ≤ 1 := by decide
  have h0 := this (sn 0 f)
  have h1 := this (sn 1 f)
  have h2 := this (sn 2 f)
  have h3 := this (sn 3 f)
  omega
theorem RM.put (h : RM w R sn) {l g : Int} (hl : 0 ≤ l ∧ l ≤ 3) (hg : 0 ≤ g ∧ g < 70) (hno : sn l g = false) :
    ∃ w', (Instr.mapUpdate 87 (.map (some R)) (.int .i64 g) (.int .i64 ((cnt4 sn g : Int) + 1))).run Tryd.prog w = .ok () w' ∧ RM w' R (insS sn l g) ∧ Keeps (fun y => y = R) w w' := by
  obtain ⟨K, on, h1, h2, h3⟩ := h
  have h4 := cntN_le (fun i => sn ((i / 70 : Nat) : Int) ((i % 70 : Nat) : Int)) 280
  obtain ⟨w', hst, hm, hkk⟩ := h1.put kInt Tryd.underlying87 (ik_key (show I64 g from ⟨by omega, by omega⟩)) (.int .i64 ((cnt4 sn g : Int) + 1)) (by omega)
  refine ⟨w', hst, ⟨_, _, hm, ?_, fun f hf => ?_⟩, hkk⟩
  · obtain ⟨ln, rfl⟩ := Int.eq_ofNat_of_zero_le hl.1
    obtain ⟨gn, rfl⟩ := Int.eq_ofNat_of_zero_le hg.1
    have ha := cntN_add (g := fun i => sn ((i / 70 : Nat) : Int) ((i % 70 : Nat) : Int)) (g' := fun i => insS sn ln gn ((i / 70 : Nat) : Int) ((i % 70 : Nat) : Int)) (f := ln * 70 + gn)
      (by simp only [show (ln * 70 + gn) / 70 = ln by omega, show (ln * 70 + gn) % 70 = gn by omega]; exact hno)
      (by simp only [show (ln * 70 + gn) / 70 = ln by omega, show (ln * 70 + gn) % 70 = gn by omega]; exact insS_same _ _ _)
      (fun i hi => insS_other _ (fun ⟨e1, e2⟩ => hi (by omega))) 280 (by omega)
    omega
  · rw [cnt4_ins hl hno]
    by_cases e : f = g
    · subst e
      rw [if_pos rfl, updV_same]
      simp
    · rw [if_neg e, updV_other _ _ (fun e' => e (by injection e' with _ e')), h3 f hf]
end
section
variable {w0 w w' : World} {E E' : Nat → Prop} {P R : Nat} {s : Sn} {rt : Rt}
theorem Vx.none_at (h : Vx w0 E w P s .no) : w.cell? ⟨P, 4, none⟩ = some (.map none) := by
  obtain ⟨F, m, K, on, r, h1, h2, h3⟩ := h
  have hr : r = .map none := h1.rts
  have := h1.str.cell 4
  rw [hr] at this
  exact this
theorem Vx.out_at (h : Vx w0 E w P s (.out R)) : w.cell? ⟨P, 4, none⟩ = some (.map (some R)) := by
  obtain ⟨F, m, K, on, r, h1, h2, h3⟩ := h
  have hr : r = .map (some R) := h1.rts
  have := h1.str.cell 4
  rw [hr] at this
  exact this
theorem Vx.cnt_at {g : Int → Nat} (h : Vx w0 E w P s (.cnt g)) : ∃ (R K : Nat) (on : Value → Option Value), w.cell? ⟨P, 4, none⟩ = some (.map (some R)) ∧ Mp 3 w R K on ∧ (∀ f : Int, I64 f → (on (.int .i64 f)).getD (.int .i64 0) = .int .i64 (g f)) := by
  obtain ⟨F, m, K, on, r, h1, h2, h3⟩ := h
  obtain ⟨R, K', on', hr, _, hm, _, _, hf⟩ := h1.rts
  have := h1.str.cell 4
  rw [hr] at this
  exact ⟨R, K', on', this, hm, hf⟩
/-- The view's map of tables is put in. -/
theorem Vx.put_out (h : Vx w0 E w P s .no) : Vx w0 E (w.setCell ⟨P, 4, none⟩ (.map (some R))) P s (.out R) := by
  obtain ⟨F, m, K, on, r, h1, h2, h3⟩ := h
  have hk : Keeps (fun x => x = P) w (w.setCell ⟨P, 4, none⟩ (.map (some R))) := Keeps.setCell (F := fun x => x = P) (p := ⟨P, 4, none⟩) rfl _
  refine ⟨F, m, K, on, _, ⟨h1.str.set 4 _, h1.map.keep hk (fun e => h1.map.ne_bk h1.str e.symm), h1.cnt, h1.pF, h1.mF, fun x hx => Nat.lt_of_lt_of_le (h1.lt x hx) hk.size, fun f hf => ?_, rfl⟩, h2, hk.below h3 (fun x e => by subst e; exact (h2 _ h1.pF).1)⟩
  rcases h1.row f hf with h | ⟨b, e1, e2, e3⟩
  · exact .inl h
  · exact .inr ⟨b, e1, e2.keep hk (bk_ne e2 h1.str (by decide)), e3⟩
theorem Vx.no_kp (h : Vx w0 E w P s .no) : Kp E w (w.setCell ⟨P, 4, none⟩ (.map (some R))) := by
  obtain ⟨F, m, K, on, r, h1, h2, h3⟩ := h
  have hk : Keeps (fun x => x = P) w (w.setCell ⟨P, 4, none⟩ (.map (some R))) := Keeps.setCell (F := fun x => x = P) (p := ⟨P, 4, none⟩) rfl _
  exact ⟨hk.mono (fun x e => by subst e; exact (h2 _ h1.pF).2), fun b cs hb => hb.keep hk (bk_ne hb h1.str (by decide))⟩
/-- The counts become the view's own. -/
theorem Vx.to_cnt {sn : Int → Int → Bool} (h : Vx w0 E w P s (.out R)) (hR : RM w R sn) (hE : E R) (hw : w0.heap.size ≤ R) (hE' : ∀ y, E' y → E y ∧ y ≠ R) : Vx w0 E' w P s (.cnt (cnt4 sn)) := by
  obtain ⟨F, m, K, on, r, h1, h2, h3⟩ := h
  have hr : r = .map (some R) := h1.rts
  obtain ⟨K', on', hm, hK, hf⟩ := hR
  have hlt := hm.lt
  refine ⟨fun y => F y ∨ y = R, m, K, on, r, ⟨h1.str, h1.map, h1.cnt, .inl h1.pF, .inl h1.mF, fun x hx => ?_, fun f hf => ?_, ?_⟩, fun x hx => ?_, h3⟩
  · rcases hx with hx | rfl
    · exact h1.lt x hx
    · exact hlt
  · rcases h1.row f hf with h | ⟨b, e1, e2, e3⟩
    · exact .inl h
    · exact .inr ⟨b, e1, e2, .inl e3⟩
  · exact ⟨R, K', on', hr, fun e => (h2 m h1.mF).2 (e ▸ hE), hm, .inr rfl, Nat.le_trans hK (Nat.le_trans (cntN_le _ _) (by omega)), hf⟩
  · rcases hx with hx | rfl
    · exact ⟨(h2 x hx).1, fun he => (h2 x hx).2 (hE' x he).1⟩
    · exact ⟨hw, fun he => (hE' _ he).2 rfl⟩
end
def spRoots (s : Sn) (k : Nat) : List Int := ((s.sl.take k).drop 1).map (·.rt)
theorem spRoots_succ {s : Sn} {k : Nat} {x : Ss} (hx : s.sl[k]? = some x) : spRoots s (k + 1) = if k = 0 then spRoots s k else spRoots s k ++ [x.rt] := by
  unfold spRoots
  have hk : k < s.sl.length := (List.getElem?_eq_some_iff.1 hx).1
  rw [List.take_add_one, hx, Option.toList_some]
  by_cases e : k = 0
  · subst e; simp
  · rw [if_neg e, List.drop_append_of_le_length (by rw [List.length_take]; omega), List.map_append]; rfl
theorem spRoots_len (s : Sn) (k : Nat) : (spRoots s k).length ≤ s.sl.length := by
  unfold spRoots
  rw [List.length_map, List.length_drop, List.length_take]; omega
end Go.Proofs.YtappjiljmpgjcaaDoor
namespace Go.Proofs.YtappjiljmpgjcaaDoor
open Go.RowKit Go.Maps Go.Shelf
set_option linter.unusedVariables false
set_option linter.unusedSimpArgs false
attribute [local go_sem] Oper.semAt_some
theorem nil_map (w : World) : (binOp .eql 87 (.map none) (.map none)).run Tryd.prog w = .ok (.bool true) w := by kernel_rfl
theorem some_map (R : Nat) (w : World) : (binOp .eql 87 (.map (some R)) (.map none)).run Tryd.prog w = .ok (.bool false) w := by kernel_rfl
theorem keeps_putObj (W : World) (k : Nat) (o : Obj) : Keeps (fun x => x = k) W (W.putObj k o) := ⟨rfl, rfl, rfl, by simp [World.putObj], fun j _ hn => World.putObj_heap_other hn⟩
def TabPost (w0 : World) (s : Sn) (E : Nat → Prop) (W : World) (P : Nat) (f : Int) (e : Ending) (W' : World) : Prop := e = .returned (.bool (decide (0 < cnt4 (tabSeen s) f))) ∧ ∃ rt', RtF s rt' ∧ Vx w0 E W' P s rt' ∧ Kp E W W'
set_option maxRecDepth 100000 in
set_option maxHeartbeats 2000000 in
theorem isTable_cnt {w0 : World} {s : Sn} (E : Nat → Prop) (W : World) (P : Nat) (f : Int) (hf : I64 f) (hV : Vx w0 E W P s (.cnt (cnt4 (tabSeen s)))) :
    Calls Tryd.prog 32 #[.pointer (some ⟨P, 0, none⟩), .int .i64 f] W (TabPost w0 s E W P f) := by
  obtain ⟨R, K, on, hr, hmp, hfs⟩ := hV.cnt_at
  have hb := ba (Below.refl W.heap.size W) (.cells #[.pointer (some ⟨P, 0, none⟩)] 63)
  have hlk := (hmp.call hb).look kInt Tryd.underlying87 (z := .int .i64 0) (by kernel_rfl) (ik_key hf)
  rw [hfs f hf] at hlk
  have HV := Lib.hid (hV.call hb)
  have HB := Lib.hid hb
  have h0 := Bk.new W 63 #[.pointer (some ⟨P, 0, none⟩)]
  have hc := (hb.cell (p := ⟨P, 4, none⟩) hV.lt).trans hr
  clear hV hb hmp hfs hr
  go_enter Tryd.func32, Tryd.ntmps32
  go_upto_region 1 with fail
  refine (show ∀ W1 : World, Below W.heap.size W W1 → Bk W1 W.heap.size 63 #[.pointer (some ⟨P, 0, none⟩)] → W1.cell? ⟨P, 4, none⟩ = some (.map (some R)) → Vx w0 E W1 P s (.cnt (cnt4 (tabSeen s))) → (Instr.lookup 87 (.map (some R)) (.int .i64 f) false).run Tryd.prog W1 = .ok (.int .i64 (cnt4 (tabSeen s) f)) W1 → Code.wp _ _ _ _ W1 from fun W1 h1 h2 h3 h4 h5 => ?_) _ HB.out h0 hc HV.out hlk
  have c0 : W1.cell? ⟨W.heap.size, 0, none⟩ = some (.pointer (some ⟨P, 0, none⟩)) := h2.cell 0
  have HB1 := Lib.hid h1
  have HV1 := Lib.hid h4
  clear h0 hc HV hlk HB h1 h2 h4
  have hsm := some_map R
  obtain ⟨c, hc⟩ : ∃ c, c = cnt4 (tabSeen s) f := ⟨_, rfl⟩
  rw [← hc] at h5
  have HC := Lib.hid hc
  clear hc
  go_wp2_with fail
  go_ret
  exact ⟨by rw [← HC.out]; simp, _, .inr rfl, HV1.out, Kp.of_below HB1.out⟩
set_option maxRecDepth 100000 in
set_option maxHeartbeats 4000000 in
theorem isTable_no {w0 : World} {s : Sn} (hs : s.Given w0) (hm : Sml s) (hG : G w0) (E : Nat → Prop) (W : World) (P : Nat) (f : Int) (hf : I64 f) (hV : Vx w0 E W P s .no) (hE : ∀ y, E y → y < W.heap.size) :
    Calls Tryd.prog 32 #[.pointer (some ⟨P, 0, none⟩), .int .i64 f] W (TabPost w0 s E W P f) := by
  have HS := Lib.hid hs
  have HM := Lib.hid hm
  have HG := Lib.hid hG
  have HF := Lib.hid hf
  have HE := Lib.hid hE
  have hmm := @run_makeMap Tryd.prog
  obtain ⟨i0, hi, hz0, hz1, hz2⟩ := info_parts infoInt
  have hb := ba (Below.refl W.heap.size W) (.cells #[.pointer (some ⟨P, 0, none⟩)] 63)
  have hV1 := hV.grow (E' := fun y => E y ∨ W.heap.size ≤ y) hb (fun y hy => hy)
  have h0 := Bk.new W 63 #[.pointer (some ⟨P, 0, none⟩)]
  clear hs hm hG hf hE hV
  refine callsIn_wide (n := 20).1 ?_
  refine callsIn_of_wp_marks Tryd.func32 rfl trivial ?_ rfl
  refine wpIn_wide.2 ?_
  simp only [Tryd.ntmps32, List.size_toArray, List.length_cons, List.length_nil, Nat.reduceAdd, Nat.reduceSub, Array.replicate_succ, Array.replicate_zero, List.push_toArray, List.append_toArray, List.nil_append, List.cons_append]
  go_upto_region 1 with fail
  refine (show ∀ W1 : World, Below W.heap.size W W1 → Bk W1 W.heap.size 63 #[.pointer (some ⟨P, 0, none⟩)] → Vx w0 (fun y => E y ∨ W.heap.size ≤ y) W1 P s .no → Code.wp _ _ _ _ W1 from fun W1 h1 h2 h4 => ?_) _ hb h0 hV1
  obtain ⟨T, hT⟩ : ∃ T, T = W.heap.size := ⟨_, rfl⟩
  rw [← hT] at h2 h4 ⊢
  have c0 : W1.cell? ⟨T, 0, none⟩ = some (.pointer (some ⟨P, 0, none⟩)) := h2.cell 0
  have p4 : W1.cell? ⟨P, 4, none⟩ = some (.map none) := h4.none_at
  have HB1 := Lib.hid h1
  have HV1 := Lib.hid h4
  have H1 := Lib.hid h2
  have HTW := Lib.hid hT
  clear h0 hb hV1 h1 h2 h4 hT
  have hPl := HV1.out.lt
  have hnm := nil_map
  obtain ⟨mm0, r0, hPb0⟩ := HV1.out.str
  have hfz : W1.frozen? ⟨P, 4, none⟩ = false := hPb0.frozen 4
  go_upto_region 3 with fail
  have hks : Keeps (fun x => x = P) W1 (W1.setCell ⟨P, 4, none⟩ (.map (some W1.heap.size))) := Keeps.setCell (F := fun x => x = P) (p := ⟨P, 4, none⟩) rfl _
  have hPT : P ≠ T := fun e => by
    subst e
    exact absurd rfl (bk_ne hPb0 H1.out (by decide))
  have hb2 : Below (W1.setCell ⟨P, 4, none⟩ (.map (some W1.heap.size))).heap.size (W1.setCell ⟨P, 4, none⟩ (.map (some W1.heap.size))) ((W1.setCell ⟨P, 4, none⟩ (.map (some W1.heap.size))).alloc (.map #[] 0)) := ba (Below.refl _ _) _
  have hv3 := (HV1.out.put_out (R := W1.heap.size)).call hb2
  have hr3 := RM.made (W1.setCell ⟨P, 4, none⟩ (.map (some W1.heap.size)))
  rw [World.size_setCell] at hr3
  refine (show ∀ W3 : World, Vx w0 (fun y => E y ∨ T ≤ y) W3 P s (.out W1.heap.size) → Kp E W W3 → RM W3 W1.heap.size (fun _ _ => false) → Bk W3 T 63 #[.pointer (some ⟨P, 0, none⟩)] → W3.heap.size = W1.heap.size + 1 → Code.wp _ _ _ _ W3 from fun W3 h1 h2 h3 h4 h5 => ?_) _ hv3
    ((Kp.of_below HB1.out).trans ((HV1.out.no_kp.mono (fun x hx => .inl hx)).trans (Kp.of_below hb2))) hr3 ((H1.out.keep hks (fun e => hPT e.symm)).call hb2) (by simp)
  have HV3 := Lib.hid h1
  have HK3 := Lib.hid h2
  have HR3 := Lib.hid h3
  have H3 := Lib.hid h4
  have HZ3 := Lib.hid h5
  have HT3 := Lib.hid (show T < W3.heap.size from h4.lt)
  obtain ⟨mm3, r3, hPb3⟩ := h1.str
  have c0 : W3.cell? ⟨T, 0, none⟩ = some (.pointer (some ⟨P, 0, none⟩)) := h4.cell 0
  have p1 : W3.cell? ⟨P, 1, none⟩ = some (.slice s.sO s.sl.length s.sc) := hPb3.cell 1
  have HW1 := Lib.hid HV1.out.below.size
  generalize W1.heap.size = R at *
  clear hnm hks hPT hb2 hv3 hr3 p4 h1 h2 h3 h4 h5 hPb3 HV1 H1 hPb0 hfz hmm hPl
  go_wp2_with fail
  clear c0 p1
  have hHS3 := HS.out.call HV3.out.below
  have HS3 := Lib.hid hHS3
  have hsl5 : s.sl.length ≤ 5 := HM.out.nsl
  clear hHS3
  go_loopw [5, 25] (fun v i wr => ∃ k : Nat, k ≤ s.sl.length ∧ i = .int .i64 k ∧ Ow encI 1 3 wr W3.heap.size v (spRoots s k) ∧ Below W3.heap.size W3 wr) (fun _ i _ => s.sl.length - (intOf i).toNat)
  case atStart => exact ⟨0, by omega, rfl, Ow.nil _ _ _, Below.refl _ _⟩
  case round =>
    obtain ⟨k, hk, rfl, hO, hB⟩ := hrel
    have HO := Lib.hid hO
    have HB := Lib.hid hB
    clear hO hB
    by_cases hlt : k < s.sl.length
    · obtain ⟨x, hx⟩ : ∃ x, s.sl[k]? = some x := ⟨_, List.getElem?_eq_getElem hlt⟩
      obtain ⟨b, off, hO2, hrg⟩ := rk_range HS3.out.gs HB.out hx
      have HSU := Lib.hid (spRoots_succ hx)
      have HLN := Lib.hid (show (spRoots s k).length ≤ 100000 from Nat.le_trans (spRoots_len s k) (by omega))
      have HR := Lib.hid hrg
      have HKz := Lib.hid (Bk.new wr 68 zSs)
      clear hrg hx
      rw [hO2]
      go_upto_region 7 with (first | refine get_Ss rfl _ rfl b (off + k * 4) x rfl HR.out ?_ | refine box_Ss rfl _ _ rfl wr.heap.size x _ rfl rfl HKz.out rfl ?_)
      refine (show ∀ W8 : World, Below wr.heap.size wr W8 → Bk W8 wr.heap.size 68 (ssC x).toArray → Code.wp _ _ _ _ W8 from fun W8 hb8 hk8 => ?_) _ (brow (ba (Below.refl _ _) _) (Nat.le_refl _) _) (HKz.out.row _)
      have HB8 := Lib.hid (bthen HB.out hb8)
      have HO8 := Lib.hid (HO.out.call hb8)
      have q1 : W8.cell? ⟨wr.heap.size, 1, none⟩ = some (.int .i64 x.rt) := hk8.cell 1
      clear hb8 hk8 HKz HR HB HO
      by_cases k0 : k = 0
      · subst k0
        have HSk := Lib.hid (show spRoots s (0 + 1) = spRoots s 0 by rw [HSU.out]; simp)
        go_wp2_with fail
        go_roundw
        case rel => exact ⟨1, by omega, by go_num, by rw [HSk.out]; exact HO8.out, HB8.out⟩
        case measure => simp [intOf]; omega
      · have HSk := Lib.hid (show spRoots s (k + 1) = spRoots s k ++ [x.rt] by rw [HSU.out, if_neg k0])
        have kb : decide ((0 : Int) < k) = true := by simp; omega
        have HOA := Lib.hid (HO8.out.call (ba (Below.refl _ _) (.cells #[.int .i64 x.rt] 3)))
        have HBA := Lib.hid (ba HB8.out (.cells #[.int .i64 x.rt] 3))
        have HN := Lib.hid (show ∀ (j : Nat) (u : Value), (encI x.rt)[j]? = some u → (W8.alloc (.cells #[.int .i64 x.rt] 3)).cell? ⟨W8.heap.size, j, none⟩ = some u from fun j u hu => (Arr.new W8 #[.int .i64 x.rt] 3).cell j u hu)
        go_wp2_with (at_builtin; refine wp_snoc (enc := encI) rfl _ _ 59 rfl W3.heap.size 3 i0 _ 8 Tryd.underlying59 hi hz0 hz1 hz2 rfl (by decide) encI_len _ _ rfl HOA.out x.rt W8.heap.size rfl HN.out (encI_one _) HLN.out (by decide) W3 HBA.out (Nat.le_refl _) ?_; intro v' w' o1 o2; have HO1 := Lib.hid o1; have HB1 := Lib.hid o2; clear o1 o2)
        go_roundw
        case rel => exact ⟨k + 1, by omega, by go_num, by rw [HSk.out]; exact HO1.out, HB1.out⟩
        case measure => simp [intOf]; have := HM.out.nsl; omega
    · obtain rfl : k = s.sl.length := by omega
      obtain ⟨O, cap, rfl, -, -, hRK⟩ := HO.out.form encI_len
      have hOlt := HO.out.lt
      have HRL := Lib.hid (show spRoots s s.sl.length = (s.sl.drop 1).map (·.rt) by unfold spRoots; rw [List.take_length])
      have HRI := Lib.hid (show ∀ r ∈ spRoots s s.sl.length, I64 r from fun r hr => by
        rw [HRL.out] at hr
        obtain ⟨x, hx, rfl⟩ := List.mem_map.1 hr
        exact (HS3.out.gsall x (List.mem_of_mem_drop hx)).grt)
      have HRN := Lib.hid (show (spRoots s s.sl.length).length ≤ 1000 from Nat.le_trans (spRoots_len s _) (by omega))
      have HTS := Lib.hid (show tabsL s (spRoots s s.sl.length) (fun _ _ => false) = tabSeen s by rw [HRL.out]; rfl)
      have HRK := Lib.hid hRK
      have HOL := Lib.hid hOlt
      have c0 : wr.cell? ⟨T, 0, none⟩ = some (.pointer (some ⟨P, 0, none⟩)) := (H3.out.call HB.out).cell 0
      clear hRK hOlt HO
      generalize spRoots s s.sl.length = rl at *
      go_wp2_with fail
      refine (tables_any P O rl.length cap wr).mono ?_
      rintro e W5 ⟨rfl, hb5, hk5, hl5⟩
      have HB5 := Lib.hid (bthen HB.out hb5)
      have HO5 := Lib.hid (HRK.out.call hb5)
      have HK5 := Lib.hid hk5
      have HL5 := Lib.hid hl5
      clear hb5 hk5 hl5 c0
      go_wp2_with fail
      have HT5 := Lib.hid (H3.out.call HB5.out)
      have HR5 := Lib.hid (HR3.out.call HB5.out)
      have HV5 := Lib.hid (HV3.out.call HB5.out)
      have HK0 := Lib.hid (HK3.out.trans (Kp.of_below HB5.out))
      have HZ5 := Lib.hid (show R < W5.heap.size by have := HB5.out.size; have := HZ3.out; omega)
      have HTR := Lib.hid (show T ≤ R by have := HT3.out; have := HZ3.out; omega)
      refine (show ∀ a : Go.Act, a = _ → Code.wp _ _ _ a W5 from fun a ha => ?_) _ rfl
      refine (wpIn_wide (n := 20)).1 ?_
      obtain ⟨Z, hZ⟩ : ∃ Z, Z = W5.heap.size := ⟨_, rfl⟩
      obtain ⟨E0, hE0⟩ : ∃ E0 : Nat → Prop, E0 = fun y => E y ∨ (T ≤ y ∧ y < Z + 3) := ⟨_, rfl⟩
      obtain ⟨E1, hE1⟩ : ∃ E1 : Nat → Prop, E1 = fun y => E y ∨ (T ≤ y ∧ y < Z + 2) := ⟨_, rfl⟩
      have HZZ := Lib.hid hZ
      have HE0 := Lib.hid hE0
      have HE1 := Lib.hid hE1
      obtain ⟨J, hJ⟩ : ∃ J : (Int → Int → Bool) → World → Prop, J = fun sn X => Vx w0 E0 X P s (.out R) ∧ Bk X T 63 #[.pointer (some ⟨P, 0, none⟩)] ∧ RM X R sn := ⟨_, rfl⟩
      have HJ := Lib.hid hJ
      have HVE0 := Lib.hid (HV5.out.grow (E' := E0) (Below.refl _ _) (fun y hy => by rw [hE0] at hy; exact .inl (hy.imp id (fun h => h.1))))
      clear hZ hE0 hE1 hJ
      refine range_all (σ := Int → Int → Bool) (α := Int × Int) (gf := 40) (lb := #[.pointer (some ⟨wr.heap.size + 1, 0, none⟩), .pointer (some ⟨wr.heap.size, 0, none⟩)]) (by rw [ha]; rfl) (enters_of Tryd.func40 (by kernel_rfl) rfl) (fun x => #[.int .i64 x.1, .int .i64 x.2]) (fun _ => rfl)
        J (fun y => y = R) (fun x h => .inl (by have := HZ5.out; omega)) (fun sn x => sn x.1 x.2 = false ∧ 0 ≤ x.1 ∧ x.1 ≤ 3 ∧ thr s x.2 = true) (fun sn x => insS sn x.1 x.2) (fun _ _ => false)
        (fun X => Vx w0 E1 X P s (.out R) ∧ Bk X T 63 #[.pointer (some ⟨P, 0, none⟩)] ∧ RM X R (tabSeen s) ∧ Kp E W X) ?put1 ?put ?j0 ?round ?it ?done
      case put1 =>
        rintro X k o ⟨hv, ht, hr, hk⟩ h1 h2
        have hkk := keeps_putObj X k o
        have := HZ5.out
        have := HTR.out
        have := HTW.out
        have := HW1.out
        have := HZ3.out
        have := HZZ.out
        refine ⟨hv.keep hkk (fun x e => ?_), ht.keep hkk (fun e => by omega), hr.keep hkk (fun e => by omega), hk.1.trans hkk (fun x e => .inr (by omega)), fun b cs hb => (hk.2 b cs hb).keep hkk (fun e => by have := hb.lt; omega)⟩
        rw [HE1.out]
        exact ⟨.inr (by omega), by omega⟩
      case put =>
        intro sn X k o hj h1 h2
        rw [HJ.out] at hj ⊢
        obtain ⟨hv, ht, hr⟩ := hj
        have hkk := keeps_putObj X k o
        have := HZ5.out
        have := HTR.out
        have := HTW.out
        have := HW1.out
        have := HZ3.out
        have := HZZ.out
        refine ⟨hv.keep hkk (fun x e => ?_), ht.keep hkk (fun e => by omega), hr.keep hkk (fun e => by omega)⟩
        rw [HE0.out]
        exact ⟨.inr (by omega), by omega⟩
      case j0 =>
        intro o
        rw [HJ.out]
        have hb := ba (ba (Below.refl W5.heap.size W5) (.deferred (some []))) o
        exact ⟨HVE0.out.call hb, HT5.out.call hb, HR5.out.call hb⟩
      case round =>
        rintro m l sn ⟨x1, x2⟩ X hl ⟨hok1, hok2, hok3, hok4⟩ hj hz
        have Hok1 := Lib.hid hok1
        have Hok2 := Lib.hid (And.intro hok2 hok3)
        have Hok4 := Lib.hid ((thr_iff s x2).1 hok4)
        have Hj := Lib.hid hj
        clear hok1 hok2 hok3 hok4 hj
        generalize hfa : Array.foldl _ _ _ = fa
        rw [ha] at hfa
        simp at hfa
        subst hfa
        gi_wp2
        refine ⟨Hj.out, Keeps.refl _ _, fun X2 hj2 hk2 => ?_⟩
        rw [HJ.out] at hj2
        obtain ⟨hv, ht, hr⟩ := hj2
        have hI : I64 x2 := by have := Hok4.out; have := HM.out.nfl; exact ⟨by omega, by omega⟩
        have hlk := hr.look hI
        have hle := cnt4_le sn x2
        obtain ⟨X3, hst, hr3, hk3⟩ := hr.put Hok2.out (by have := Hok4.out; have := HM.out.nfl; omega) Hok1.out
        have c0 : X2.cell? ⟨T, 0, none⟩ = some (.pointer (some ⟨P, 0, none⟩)) := ht.cell 0
        have c1 : X2.cell? ⟨P, 4, none⟩ = some (.map (some R)) := hv.out_at
        gi_wp2
        rw [HJ.out]
        have := HZ5.out
        have := HTR.out
        have := HW1.out
        have := HZ3.out
        have := HZZ.out
        refine ⟨hv.keep hk3 (fun y e => ?_), ht.keep hk3 (hr.ne_bk ht), hr3⟩
        rw [HE0.out]
        exact ⟨.inr (by omega), by omega⟩
      case it =>
        intro l Rec W1 hl hb1 hz1 hj1 hrec hRk hlp hy
        have hl' : l = Z + 1 := by rw [hl, HZZ.out]
        subst hl'
        have h1 := HZ5.out
        have h2 := HTR.out
        have h3 := HTW.out
        have h4 := HW1.out
        have h5 := HZ3.out
        have h6 := HZZ.out
        have h7 := HB5.out.size
        have h8 := HB.out.size
        rw [← h6] at hRk hlp hy hz1 h1
        have e0 : ∀ y, E0 y ↔ E y ∨ (T ≤ y ∧ y < Z + 3) := fun y => by rw [HE0.out]
        have e1 : ∀ y, E1 y ↔ E y ∨ (T ≤ y ∧ y < Z + 2) := fun y => by rw [HE1.out]
        have hEl : ∀ y, E y → y < T := fun y hy => by rw [h3]; exact HE.out y hy
        have hj : ∀ sn X, J sn X ↔ (Vx w0 E0 X P s (.out R) ∧ Bk X T 63 #[.pointer (some ⟨P, 0, none⟩)] ∧ RM X R sn) := fun sn X => by rw [HJ.out]
        obtain ⟨hv1, ht1, hr1⟩ := (hj _ _).1 hj1
        have hq4 := HB5.out
        have hbz := HK5.out.lt
        refine callsIn_wide.2 ((tables1_any (w0 := w0) (s := s) (P := P) (S := Z + 2) (R := R) (l := Z + 1) (Rb := wr.heap.size + 1) (Vb := wr.heap.size) (E0 := E0) (E := E1) (J := fun sn X => Bk X T 63 #[.pointer (some ⟨P, 0, none⟩)] ∧ RM X R sn ∧ Rec X ∧ Z + 2 ≤ X.heap.size) (rl := rl) (O := O) (cap := cap)
          HS.out HG.out (by have := HM.out.nfl; omega) ⟨?_, ?_, ?_, ?_, ?_, ?_, ?_, ?_, ?_, ?_, ?_⟩ HRI.out HRN.out hz1.symm ?_ ?_ (hv1.mono ?_) ⟨ht1, hr1, hrec, by omega⟩ (HL5.out.call (h6 ▸ hb1)) (HK5.out.call (h6 ▸ hb1)) ?_ (HO5.out.call (h6 ▸ hb1)) ?_).mono ?_)
        · rintro sn X X' ⟨q1, q2, q3, q5⟩ hk
          refine ⟨q1.keep hk (fun h => ?_), q2.keep hk (fun h => ?_), hRk _ _ _ q3 hk (fun h => ?_) (fun h => ?_), Nat.le_trans q5 hk.size⟩
          · rcases h with h | h
            · exact h ((e0 _).2 (.inr (by omega)))
            · omega
          · rcases h with h | h
            · exact h ((e0 _).2 (.inr (by omega)))
            · omega
          · rcases h with h | h
            · exact h ((e0 _).2 (.inr (by omega)))
            · omega
          · rcases h with h | h
            · exact h ((e0 _).2 (.inr (by omega)))
            · omega
        · rintro sn X b t cs ⟨q1, q2, q3, q5⟩ hb
          refine ⟨q2.ne_bk hb, fun e => ?_⟩
          obtain ⟨lp, hlp⟩ := hlp X q3
          rw [← e] at hlp
          unfold Bk at hb
          rw [hb] at hlp
          cases hlp
        · exact (e0 _).2 (.inr (by omega))
        · exact (e0 _).2 (.inr (by omega))
        · exact (e0 _).2 (.inr (by omega))
        · omega
        · omega
        · omega
        · omega
        · omega
        · rintro m sn lv g X q1 q2 q3 q4 ⟨r1, r2, r3, r4⟩ hvx
          refine YieldAt.mono (hy m sn (lv, g) X ⟨q1, q2, q3, q4⟩ ((hj _ _).2 ⟨hvx, r1, r2⟩) r3 r4) ?_
          rintro e X' ⟨g1, g2, g3, g4⟩
          obtain ⟨f1, f2, f3⟩ := (hj _ _).1 g2
          exact ⟨g1, ⟨f2, f3, g3, Nat.le_trans r4 g4.size⟩, g4⟩
        · intro y hy
          rw [e1]
          rcases (e0 y).1 hy with h | h
          · exact .inl (.inl h)
          · by_cases e : y = Z + 2
            · exact .inr e
            · exact .inl (.inr (by omega))
        · intro y hy
          rcases (e1 y).1 hy with h | h
          · have := hEl y h; omega
          · omega
        · intro y hy
          rcases (e1 y).1 hy with h | h
          · exact (e0 y).2 (.inl h)
          · exact (e0 y).2 (.inr (by omega))
        · exact (e1 _).2 (.inr (by omega))
        · rintro g o rfl
          have := HOL.out g rfl
          exact ⟨(e1 _).2 (.inr (by omega)), by omega, by omega⟩
        · rintro e X ⟨g1, g2, ⟨f1, f2, f3, f4⟩, g3⟩
          refine ⟨g1, ⟨g2, f1, HTS.out ▸ f2, HK0.out.trans ((Kp.of_below (h6 ▸ hb1)).trans ⟨g3.1.mono (fun y hy => ?_), g3.2⟩)⟩, f3⟩
          intro hE
          have hlt := hEl y hE
          rcases hy with h | h | h | h
          · exact h ((e1 y).2 (.inl hE))
          · omega
          · omega
          · omega
      case done =>
        rintro X ⟨hv, ht, hr, hk⟩ hdf
        have c0 : X.cell? ⟨T, 0, none⟩ = some (.pointer (some ⟨P, 0, none⟩)) := ht.cell 0
        have c1 : X.cell? ⟨P, 4, none⟩ = some (.map (some R)) := hv.out_at
        have hlk := hr.look HF.out
        obtain ⟨c, hc⟩ : ∃ c, c = cnt4 (tabSeen s) f := ⟨_, rfl⟩
        rw [← hc] at hlk
        have HC := Lib.hid hc
        have HVD := Lib.hid hv
        have HRD := Lib.hid hr
        have HKD := Lib.hid hk
        have HDF := Lib.hid hdf
        clear hc hv hr hk ht hdf
        rw [ha]
        gi_wp2
        go_wp2_with fail
        refine ⟨by simp, .inl ⟨_, _, rfl, run_takeDeferred HDF.out, ?_⟩⟩
        have h1 := HZ5.out
        have h2 := HTR.out
        have h3 := HTW.out
        have h4 := HW1.out
        have h5 := HZ3.out
        have h6 := HZZ.out
        have e1 : ∀ y, E1 y ↔ E y ∨ (T ≤ y ∧ y < Z + 2) := fun y => by rw [HE1.out]
        have hEl : ∀ y, E y → y < T := fun y hy => by rw [h3]; exact HE.out y hy
        have hkk := keeps_putObj X W5.heap.size (.deferred none)
        refine ⟨_, results_tmp rfl _ _ _, by rw [← HC.out]; rfl, .cnt (cnt4 (tabSeen s)), .inr rfl, ?_, ?_⟩
        · refine Vx.to_cnt (E := E1) (R := R) (HVD.out.keep hkk (fun y e => ⟨(e1 y).2 (.inr (by omega)), by omega⟩)) (HRD.out.keep hkk (fun e => by omega)) ((e1 _).2 (.inr (by omega))) h4 (fun y hy => ⟨(e1 y).2 (.inl hy), fun e => by have := hEl y hy; omega⟩)
        · exact ⟨HKD.out.1.trans hkk (fun x e => .inr (by omega)), fun b cs hb => (HKD.out.2 b cs hb).keep hkk (fun e => by have := hb.lt; omega)⟩
end Go.Proofs.YtappjiljmpgjcaaDoor
