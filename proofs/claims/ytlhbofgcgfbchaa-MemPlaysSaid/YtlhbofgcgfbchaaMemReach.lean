/-
  The walks of package mem: has, zero, take, store, bar, Reach.
-/
import Derived.Test.YtlhbofgcgfbchaaMemRW
import Derived.RegionTactic
import Derived.Deep.QuietTactic
import Derived.BigQuiet
import Derived.Deep.RegionHeld
import Derived.Deep.RegionLaw
namespace Go.Proofs.Ytlhbofgcgfbchaa
open Go.RowKit Go.Maps
set_option linter.unusedVariables false
set_option linter.unusedSimpArgs false

theorem Mm.congr {w : World} {p n k m : Nat} {c c' : Nat → Nat → Int} {F : Nat → Prop} {D : DataW Unit} (h : Mm w p n c F k m D) (e : ∀ f i, i < 512 → c f i = c' f i) : Mm w p n c' F k m D where
  str := h.str
  map := h.map
  pF := h.pF
  mF := h.mF
  lt := h.lt
  row := fun f => (h.row f).imp (fun ⟨a, b⟩ => ⟨a, fun i hi => (e f i hi).symm.trans (b i hi)⟩) fun ⟨b, a1, a2, a3, a4⟩ => ⟨b, a1, a2, by rw [← rowOf_congr (e f)]; exact a3, a4⟩
  inj := h.inj
  keys := h.keys
theorem MemS.congr {w : World} {p n k : Nat} {c c' : Nat → Nat → Int} {F : Nat → Prop} (h : MemS w p n c F k) (e : ∀ f i, i < 512 → c f i = c' f i) : MemS w p n c' F k := let ⟨m, D, hM⟩ := h; ⟨m, D, hM.congr e⟩
/-- A frame all 0. -/
def clr (c : Nat → Nat → Int) (f : Nat) : Nat → Nat → Int := fun g => if g = f then fun _ => 0 else c g
/-- A frame as another one is. -/
def cpy (c : Nat → Nat → Int) (from_ to : Nat) : Nat → Nat → Int := fun g => if g = to then c from_ else c g
theorem has_yes (p n : Nat) (f : Int) (w : World) (hc : w.cell? ⟨p, 0, none⟩ = some (.int .i64 n)) (hn : n ≤ 64) (h0 : 0 ≤ f) (h : f < n) :
    Calls Try.prog 45 #[.pointer (some ⟨p, 0, none⟩), .int .i64 f] w fun e w' => e = .returned (.bool true) ∧ w = w' := by
  go_enter Try.func45, Try.ntmps45
  go_wp2
  go_ret
  exact ⟨rfl, rfl⟩
theorem has_no (p n : Nat) (f : Int) (w : World) (hc : w.cell? ⟨p, 0, none⟩ = some (.int .i64 n)) (hn : n ≤ 64) (h : f < 0 ∨ (n : Int) ≤ f) :
    Calls Try.prog 45 #[.pointer (some ⟨p, 0, none⟩), .int .i64 f] w fun e w' => e = .returned (.bool false) ∧ w = w' := by
  by_cases h0 : f < 0
  · clear h
    go_enter Try.func45, Try.ntmps45
    go_wp2
    go_ret
    exact ⟨rfl, rfl⟩
  · have h1 : (n : Int) ≤ f := by omega
    have h2 : 0 ≤ f := by omega
    have h3 : decide (f < (n : Int)) = false := by simpa using h1
    clear h h0
    go_enter Try.func45, Try.ntmps45
    go_wp2
    go_ret
    exact ⟨rfl, rfl⟩
/-- An entry's cells. -/
abbrev entC (kd x v fr to : Int) : Array Value := #[.int .i8 kd, .int .u64 x, .int .u64 v, .int .i64 fr, .int .i64 to]
set_option maxHeartbeats 1000000 in
theorem zero_yes (p n k t : Nat) (kd x v fr : Int) (c : Nat → Nat → Int) (F : Nat → Prop) (w : World) (hM : MemS w p n c F k) (hn : n ≤ 64) (ht : t < n) :
    Calls Try.prog 36 #[.pointer (some ⟨p, 0, none⟩), .agg #[.int .i8 kd, .int .u64 x, .int .u64 v, .int .i64 fr, .int .i64 t]] w (Went w p n (clr c t) F k (.int .i64 0)) := by
  obtain ⟨m, D, hM⟩ := hM
  have hM1 := (hM.alloc (.cells #[.int .i8 kd, .int .u64 x, .int .u64 v, .int .i64 fr, .int .i64 t] 29)).drew
  obtain ⟨w2, hrun, hm2, ht2⟩ := hM1.map.drop (t := 68) (e := 74) keyed Try.underlying68 (keyLit t (by omega)) 0
  have R := Lib.hid (hM1.del hm2 ht2)
  have c0 : w.cell? ⟨p, 0, none⟩ = some (.int .i64 n) := hM.str.cell 0
  have c1 : w.cell? ⟨p, 1, none⟩ = some (.map (some m)) := hM.str.cell 1
  have hp := hM.str.lt
  have hM' := Lib.hid hM
  clear hM hM1 hm2 ht2
  go_enter Try.func36, Try.ntmps36
  go_wp2_with fail
  refine (has_yes p n t _ (by simp [World.cell?_alloc_lt, hp, c0]) hn (by omega) (by omega)).mono ?_
  rintro e w1 ⟨rfl, rfl⟩
  go_wp2_with fail
  go_region
  go_wp2_with fail
  go_ret
  exact ⟨rfl, F, k, ⟨m, _, R.out.1⟩, by omega, (((Keeps.refl F w).alloc _).drew).trans R.out.2 (fun x hx => .inl hx), fun x hx => .inl hx, fun x hx => hx⟩
theorem zero_no (p n k : Nat) (kd x v fr t : Int) (c : Nat → Nat → Int) (F : Nat → Prop) (w : World) (hM : MemS w p n c F k) (hn : n ≤ 64) (h : t < 0 ∨ (n : Int) ≤ t) :
    Calls Try.prog 36 #[.pointer (some ⟨p, 0, none⟩), .agg #[.int .i8 kd, .int .u64 x, .int .u64 v, .int .i64 fr, .int .i64 t]] w fun e w' => e = .returned (.int .i64 80) ∧ Below w.heap.size w w' := by
  have c0 := hM.cell
  have hp := hM.lt
  have H := Lib.hid h
  clear hM h
  go_enter Try.func36, Try.ntmps36
  go_wp2_with fail
  refine (has_no p n t _ (by simp [World.cell?_alloc_lt, hp, c0]) hn H.out).mono ?_
  rintro e w1 ⟨rfl, rfl⟩
  go_wp2_with fail
  go_ret
  exact ⟨rfl, ba (Below.refl _ _) _⟩
/-- What a block is behind cells stored into it one by one. -/
def putAll (cs : Array Value) : Nat → List Value → Array Value
  | _, [] => cs
  | o, v :: r => putAll (cs.setIfInBounds o v) (o + 1) r
theorem putAll_size : ∀ (vs : List Value) (o : Nat) (cs : Array Value), (putAll cs o vs).size = cs.size
  | [], _, _ => rfl
  | v :: r, o, cs => by rw [putAll, putAll_size r]; simp
theorem putAll_get : ∀ (vs : List Value) (o : Nat) (cs : Array Value) (j : Nat), j < cs.size → (putAll cs o vs)[j]? = if o ≤ j ∧ j < o + vs.length then vs[j - o]? else cs[j]?
  | [], o, cs, j, hj => by rw [if_neg (by simp only [List.length_nil]; omega)]; rfl
  | v :: r, o, cs, j, hj => by
    rw [putAll, putAll_get r (o + 1) _ j (by simpa using hj)]
    simp only [List.length_cons]
    by_cases e : j = o
    · subst e
      rw [if_neg (by omega), if_pos (by omega)]
      simp [hj]
    · by_cases h : o + 1 ≤ j ∧ j < o + 1 + r.length
      · rw [if_pos h, if_pos (by omega), show j - o = (j - (o + 1)) + 1 by omega]
        simp
      · rw [if_neg h, if_neg (by omega), Array.getElem?_setIfInBounds_ne (by omega)]
theorem putAll_row (cs : Array Value) (g : Nat → Int) (hs : cs.size = 512) : putAll cs 0 (rowOf g).toList = rowOf g := by
  apply Array.ext_getElem?
  intro j
  by_cases hj : j < 512
  · rw [putAll_get _ _ _ _ (by omega), if_pos (by simp [rowOf_size, hj])]
    simp
  · rw [Array.getElem?_eq_none (by rw [putAll_size]; omega), Array.getElem?_eq_none (by rw [rowOf_size]; omega)]
theorem Bk.setAll {b : Nat} {t : TypeId} : ∀ (vs : List Value) (o : Nat) (w : World) (cs : Array Value), Bk w b t cs → Bk (w.setCells b o vs) b t (putAll cs o vs)
  | [], _, _, _, h => h
  | v :: r, o, w, cs, h => Bk.setAll r (o + 1) _ _ (h.set o v)
theorem Bk.farAll {b g : Nat} {t : TypeId} {cs : Array Value} (hne : g ≠ b) : ∀ (vs : List Value) (o : Nat) (w : World), Bk w g t cs → Bk (w.setCells b o vs) g t cs
  | [], _, _, h => h
  | v :: r, o, w, h => Bk.farAll hne r (o + 1) _ (h.far (p := ⟨b, o, none⟩) hne v)
theorem Keeps.setAll {F : Nat → Prop} {b : Nat} (hb : F b) : ∀ (vs : List Value) (o : Nat) (w : World), Keeps F w (w.setCells b o vs)
  | [], _, w => Keeps.refl F w
  | v :: r, o, w => (Keeps.setCell (F := F) (p := ⟨b, o, none⟩) hb v).trans (Keeps.setAll hb r (o + 1) _) (fun x hx => .inl hx)
theorem map_setAll {b m k : Nat} {D : DataW Unit} (hne : m ≠ b) : ∀ (vs : List Value) (o : Nat) (w : World), w.ownsMap Try.prog 3 ptrElem m k D → (w.setCells b o vs).ownsMap Try.prog 3 ptrElem m k D
  | [], _, _, h => h
  | v :: r, o, w, h => map_setAll hne r (o + 1) _ (h.setCell (a := ⟨b, o, none⟩) hne v)
/-- A whole frame is written. -/
theorem Mm.putRow {w : World} {p n k m : Nat} {c : Nat → Nat → Int} {F : Nat → Prop} {D : DataW Unit} (h : Mm w p n c F k m D) {f b : Nat} (ha : ∀ z, D.atKey (fk f) z = .lit (.int .i64 b)) (hb : Bk w b 83 (rowOf (c f))) (g : Nat) :
    Mm (w.setCells b 0 (rowOf (c g)).toList) p n (cpy c g f) F k m D where
  str := Bk.farAll (bk_ne h.str hb (by decide)) _ _ _ h.str
  map := map_setAll (fun e => bk_map_ne hb h.map e.symm) _ _ _ h.map
  pF := h.pF
  mF := h.mF
  lt := fun x hx => Nat.lt_of_lt_of_le (h.lt x hx) (Keeps.setAll (F := fun y => y = b) rfl _ _ _).size
  row := fun y => by
    by_cases e : y = f
    · subst e
      rcases h.row y with ⟨h1, _⟩ | ⟨b', h1, h2, h3, h4⟩
      · exact (not_both h1 ha).elim
      · have eb : b' = b := by
          have := (h2 .nil).symm.trans (ha .nil)
          simp at this
          omega
        subst eb
        refine .inr ⟨b', h1, h2, ?_, h4⟩
        have := Bk.setAll (rowOf (c g)).toList 0 w _ hb
        rw [putAll_row _ _ (rowOf_size _)] at this
        simpa [cpy] using this
    · have ec : cpy c g f y = c y := by simp [cpy, e]
      rw [ec]
      refine (h.row y).imp id fun ⟨b', h1, h2, h3, h4⟩ => ⟨b', h1, h2, Bk.farAll (fun eb => e (h.inj y f b' h2 ?_)) _ _ _ h3, h4⟩
      intro z
      rw [eb]
      exact ha z
  inj := h.inj
  keys := h.keys
theorem row_range {w : World} {b : Nat} {g : Nat → Int} (h : Bk w b 83 (rowOf g)) : w.rangeAt b 0 (rowOf g).toList := fun j v hv => by
  rw [Nat.zero_add, h.cell j]
  simpa using hv
theorem row_there {w : World} {b : Nat} {g : Nat → Int} (h : Bk w b 83 (rowOf g)) (g' : Nat → Int) : w.there b 0 (rowOf g').size := fun j hj => by
  rw [rowOf_size] at hj
  rw [Nat.zero_add]
  exact ⟨by rw [h.cell j, rowOf_at _ _ hj]; rfl, h.frozen j⟩
theorem words_info (g : Nat → Int) : (Try.prog.info? 83).map (·.size) = some (rowOf g).toList.length := by
  rw [Array.length_toList, rowOf_size]; kernel_rfl
theorem row_one (g : Nat → Int) : (rowOf g).all (·.oneCell') = true := by
  rw [Array.all_eq_true_iff_forall_mem]
  intro v hv
  simp only [rowOf, Array.mem_ofFn] at hv
  obtain ⟨i, rfl⟩ := hv
  rfl
theorem yields_row {ops : Array Oper} {S : World → Prop} {op : Oper} {a : Act} {x : Operand} {b : Nat} {g : Nat → Int} (hw : Region.wanted op (yielded ops a.tmps) = true) (ho : op.op = .load 83 x) (hx : a.eval x = .pointer (some ⟨b, 0, none⟩))
    (hS : ∀ w, S w → Bk w b 83 (rowOf g)) : YieldsIf Try.prog ops S op (.agg (rowOf g)) a := by
  have h := yieldsIf_load_mid (P := Try.prog) (S := S) hw 83 x ho b 0 hx (rowOf g).toList _ (fun w' hSw => row_range (hS w' hSw)) Try.underlying83 rfl (words_info g)
  rwa [Array.toArray_toList] at h
theorem store_row {op : Oper} {a : Act} {w : World} {K : Act → World → Prop} {Q : Exit → Act → World → Prop} {x y : Operand} {b : Nat} {g g' : Nat → Int} (ho : op.op = .store 83 x y) (hx : a.eval x = .pointer (some ⟨b, 0, none⟩)) (hy : a.eval y = .agg (rowOf g))
    (hb : Bk w b 83 (rowOf g')) (h : K (a.put op.dst undef) (w.setCells b 0 (rowOf g).toList)) : op.wp Try.prog a w K Q :=
  wp_store_mid 83 x y ho b 0 (rowOf g) hx hy (row_there hb g) (by rw [rowOf_size]; kernel_rfl) (row_one g) h
set_option maxHeartbeats 2000000 in
theorem take_there (p n k m t g b : Nat) (kd x v : Int) (c : Nat → Nat → Int) (F : Nat → Prop) (D : DataW Unit) (w : World) (hM : Mm w p n c F k m D) (hk : k < 1000000) (hn : n ≤ 64) (ht : t < n) (hg : g < n)
    (a1 : Maps.has D (fk g) = true) (a2 : ∀ z, D.atKey (fk g) z = .lit (.int .i64 b)) (a3 : Bk w b 83 (rowOf (c g))) (a4 : F b) :
    Calls Try.prog 37 #[.pointer (some ⟨p, 0, none⟩), .agg #[.int .i8 kd, .int .u64 x, .int .u64 v, .int .i64 g, .int .i64 t]] w (Went w p n (cpy c g t) F k (.int .i64 0)) := by
  have hM1 := (hM.alloc (.cells #[.int .i8 kd, .int .u64 x, .int .u64 v, .int .i64 g, .int .i64 t] 29)).drew
  have hE := Bk.new w 29 #[.int .i8 kd, .int .u64 x, .int .u64 v, .int .i64 g, .int .i64 t]
  obtain ⟨vv, ps, hrun, hv⟩ := hM1.map.look_ok (t := 68) (e := 74) keyed Try.underlying68 (z := .pointer none) (by kernel_rfl) (zd := .lit (.int .i64 (-1))) (zp := []) rfl (keyLit g (by omega))
  rw [a1] at hrun
  rw [a2] at hv
  obtain rfl := ptrElem_inv hv
  have c0 : w.cell? ⟨p, 0, none⟩ = some (.int .i64 n) := hM.str.cell 0
  have c1 : w.cell? ⟨p, 1, none⟩ = some (.map (some m)) := hM.str.cell 1
  have hp := hM.str.lt
  have hF : ∀ y, F y → y < w.heap.size := hM.lt
  have A3 := Lib.hid (a3.call (ba (Below.refl w.heap.size w) (.cells #[.int .i8 kd, .int .u64 x, .int .u64 v, .int .i64 g, .int .i64 t] 29)))
  have HE := Lib.hid hE
  have HM := Lib.hid (hM.alloc (.cells #[.int .i8 kd, .int .u64 x, .int .u64 v, .int .i64 g, .int .i64 t] 29))
  have nE : ¬ F w.heap.size := fun h => by have := hF _ h; omega
  have HF := Lib.hid hF
  clear hM hM1 a1 a2 a3 hv hE hF
  go_enter Try.func37, Try.ntmps37
  go_wp2_with fail
  refine (has_yes p n t _ (by simp [World.cell?_alloc_lt, hp, c0]) hn (by omega) (by omega)).mono ?_
  rintro e w1 ⟨rfl, rfl⟩
  go_wp2_with fail
  refine (has_yes p n g _ (by simp [World.cell?_alloc_lt, hp, c0]) hn (by omega) (by omega)).mono ?_
  rintro e w1 ⟨rfl, rfl⟩
  go_wp2_with fail
  go_region
  clear hrun
  go_wp2_with fail
  have hs0 : (w.alloc (.cells #[.int .i8 kd, .int .u64 x, .int .u64 v, .int .i64 g, .int .i64 t] 29)).heap.size = w.heap.size + 1 := World.size_alloc _ _
  have HS0 := Lib.hid hs0
  have ce : (w.alloc (.cells #[.int .i8 kd, .int .u64 x, .int .u64 v, .int .i64 g, .int .i64 t] 29)).cell? ⟨w.heap.size, 4, none⟩ = some (.int .i64 t) := HE.out.cell 4
  have CE := Lib.hid ce
  have KW := Lib.hid ((Keeps.refl F w).alloc (.cells #[.int .i8 kd, .int .u64 x, .int .u64 v, .int .i64 g, .int .i64 t] 29))
  clear ce hs0 hp c0 c1
  generalize w.alloc (.cells #[.int .i8 kd, .int .u64 x, .int .u64 v, .int .i64 g, .int .i64 t] 29) = W at *
  refine wp_region_held_drew (S := fun w' => Keeps F W w' ∧ Bk w' b 83 (rowOf (c g))) (by kernel_rfl) ⟨(Keeps.refl F W).drew.drew, A3.out⟩ (fun hHeld => ?_)
  refine wpAnyH_take (i := 0) (oi := ⟨_, _, _, _, _, _⟩) (v := ?v0) rfl (by kernel_rfl) (by kernel_rfl) (by kernel_rfl) (fun _ _ _ h => h) (Or.inl ⟨by rfl, ?hy0⟩) hHeld ?rest0
  case hy0 => (intro w' hSw; go_simp; try with_reducible rfl)
  try simp only [Act.put, List.setIfInBounds_toArray, List.set_cons_zero, List.set_cons_succ]
  refine wpAnyH_take (i := 1) (oi := ⟨_, _, _, _, _, _⟩) (v := ?v1) rfl (by kernel_rfl) (by kernel_rfl) (by kernel_rfl) (fun _ _ _ h => h) (Or.inl ⟨by rfl, ?hy1⟩) hHeld ?rest1
  case hy1 => (intro w' hSw; go_simp; try with_reducible rfl)
  try simp only [Act.put, List.setIfInBounds_toArray, List.set_cons_zero, List.set_cons_succ]
  refine wpAnyH_take (i := 2) (oi := ⟨_, _, _, _, _, _⟩) (v := ?v2) rfl (by kernel_rfl) (by kernel_rfl) (by kernel_rfl) (fun _ _ _ h => h) (Or.inl ⟨by rfl, ?hy2⟩) hHeld ?rest2
  case hy2 => (intro w' hSw; have hcc : w'.cell? ⟨w.heap.size, 4, none⟩ = some (.int .i64 t) := (hSw.1.cell (by rw [HS0.out]; omega) nE 4).trans CE.out; go_simp; try with_reducible rfl)
  try simp only [Act.put, List.setIfInBounds_toArray, List.set_cons_zero, List.set_cons_succ]
  refine wpAnyH_take (i := 4) (oi := ⟨_, _, _, _, _, _⟩) (v := ?v4) rfl (by kernel_rfl) (by kernel_rfl) (by kernel_rfl) (fun _ _ _ h => h) (Or.inl ⟨by rfl, ?hy4⟩) hHeld ?rest4
  case hy4 => (intro w' hSw; go_simp; try with_reducible rfl)
  try simp only [Act.put, List.setIfInBounds_toArray, List.set_cons_zero, List.set_cons_succ]
  refine wpAnyH_take (i := 5) (oi := ⟨_, _, _, _, _, _⟩) (v := ?v5) rfl (by kernel_rfl) (by kernel_rfl) (by kernel_rfl) (fun _ _ _ h => h) (Or.inl ⟨by rfl, ?hy5⟩) hHeld ?rest5
  case hy5 => (intro w' hSw; go_simp; try with_reducible rfl)
  try simp only [Act.put, List.setIfInBounds_toArray, List.set_cons_zero, List.set_cons_succ]
  refine wpAnyH_take (i := 6) (oi := ⟨_, _, _, _, _, _⟩) (v := .agg (rowOf (c g))) rfl (by kernel_rfl) (by kernel_rfl) (by kernel_rfl) (fun _ _ _ h => h) (yields_row (by rfl) rfl rfl (fun w' hSw => hSw.2)) hHeld ?_
  try simp only [Act.put, List.setIfInBounds_toArray, List.set_cons_zero, List.set_cons_succ]
  refine wpAnyH_ready (rs := [3]) (by kernel_rfl) (by simp) ?_
  refine AllReadyH.cons (o := ⟨_, _, _, _, _, _⟩) rfl (fun K hK => ?_) AllReadyH.nil
  go_simp
  refine (own_any p n k m t c F D _ HM.out.drew.drew hk (by omega)).mono ?_
  rintro e w1 ⟨b2, k', F', D', rfl, m1, m2, m3, m4, m5, m6, m7, m8⟩
  have hbm : b ≠ m := bk_map_ne A3.out HM.out.map
  have x1 : Bk w1 b 83 (rowOf (c g)) := Bk.keep (w := W.drew.drew) A3.out m6 hbm
  have x2 : Keeps F W w1 := ((Keeps.refl F W).drew.drew).trans m6 (fun y e => .inl (by rw [e]; exact HM.out.mF))
  have R := Lib.hid (m1.putRow m3 m4 g)
  have M3 := Lib.hid m3
  have M4 := Lib.hid m4
  have M7 := Lib.hid m7
  have M8 := Lib.hid m8
  have X1 := Lib.hid x1
  have X2 := Lib.hid x2
  clear m1 m3 m4 m6 m7 m8 hHeld x1 x2
  go_wp2_with fail
  refine hK.out _ _ ⟨X2.out, X1.out⟩ (fun hHeld => ?_)
  clear hK K
  try simp only [Act.put, List.setIfInBounds_toArray, List.set_cons_zero, List.set_cons_succ]
  refine wpAnyH_take (i := 7) (oi := ⟨_, _, _, _, _, _⟩) (v := ?v7) rfl (by kernel_rfl) (by kernel_rfl) (by kernel_rfl) (fun _ _ _ h => h) (Or.inl ⟨by rfl, ?hy7⟩) hHeld ?rest7
  case hy7 => (intro w' hSw; go_simp; try with_reducible rfl)
  try simp only [Act.put, List.setIfInBounds_toArray, List.set_cons_zero, List.set_cons_succ]
  refine wpAnyH_ready (rs := [8]) (by kernel_rfl) (by simp) ?_
  refine AllReadyH.cons (o := ⟨_, _, _, _, _, _⟩) rfl (fun K hK => ?_) AllReadyH.nil
  rw [if_pos (by rfl)]
  have h5 := fun (K : Act → World → Prop) (Q : Exit → Act → World → Prop) (op : Oper) (a : Act) (h1 : op.op = .store 83 (.tmp 41) (.tmp 40)) (h2 : a.eval (.tmp 41) = .pointer (some ⟨b2, 0, none⟩)) (h3 : a.eval (.tmp 40) = .agg (rowOf (c g))) => store_row (K := K) (Q := Q) h1 h2 h3 M4.out
  refine h5 _ _ _ _ ?a1 ?a2 ?a3 ?a4
  case a1 => rfl
  case a2 => rfl
  case a3 => rfl
  clear h5
  have y1 : Bk (w1.setCells b2 0 (rowOf (c g)).toList) b 83 (rowOf (c g)) := by
    by_cases e : b = b2
    · subst e
      have := Bk.setAll (rowOf (c g)).toList 0 w1 _ X1.out
      rwa [putAll_row _ _ (rowOf_size _)] at this
    · exact Bk.farAll e _ _ _ X1.out
  have hb2 : F b2 ∨ W.heap.size ≤ b2 := M7.out b2 m5
  have y2 : Keeps F W (w1.setCells b2 0 (rowOf (c g)).toList) := X2.out.trans (Keeps.setAll (F := fun y => y = b2) rfl _ _ _) (fun y e => by rw [e]; exact hb2)
  have R2 := R.out
  have Y := Lib.hid y2
  clear y2
  generalize w1.setCells b2 0 (rowOf (c g)).toList = W2 at *
  refine hK.out _ _ ⟨Y.out, y1⟩ (fun hHeld => ?_)
  clear hK K
  try simp only [Act.put, List.setIfInBounds_toArray, List.set_cons_zero, List.set_cons_succ]
  refine wpAnyH_done (by kernel_rfl) ?_ _
  have R3 := Lib.hid R2
  clear R2 y1 hHeld R
  go_wp2_with fail
  go_ret
  have h1 := HS0.out
  exact ⟨rfl, F', k', ⟨m, D', R3.out⟩, m2, KW.out.trans Y.out (fun y hy => .inl hy), fun y hy => (M7.out y hy).imp id (fun hle => by have e1 : W.drew.drew.heap.size = W.heap.size := rfl; omega), M8.out⟩
set_option maxHeartbeats 1000000 in
theorem take_zero (p n k m t g : Nat) (kd x v : Int) (c : Nat → Nat → Int) (F : Nat → Prop) (D : DataW Unit) (w : World) (hM : Mm w p n c F k m D) (hn : n ≤ 64) (ht : t < n) (hg : g < n)
    (a1 : Maps.has D (fk g) = false) (a2 : ∀ i, i < 512 → c g i = 0) :
    Calls Try.prog 37 #[.pointer (some ⟨p, 0, none⟩), .agg #[.int .i8 kd, .int .u64 x, .int .u64 v, .int .i64 g, .int .i64 t]] w (Went w p n (cpy c g t) F k (.int .i64 0)) := by
  have hM1 := (hM.alloc (.cells #[.int .i8 kd, .int .u64 x, .int .u64 v, .int .i64 g, .int .i64 t] 29)).drew
  have hE := Bk.new w 29 #[.int .i8 kd, .int .u64 x, .int .u64 v, .int .i64 g, .int .i64 t]
  obtain ⟨vv, ps, hrun, hv⟩ := hM1.map.look_ok (t := 68) (e := 74) keyed Try.underlying68 (z := .pointer none) (by kernel_rfl) (zd := .lit (.int .i64 (-1))) (zp := []) rfl (keyLit g (by omega))
  rw [a1] at hrun
  have c0 : w.cell? ⟨p, 0, none⟩ = some (.int .i64 n) := hM.str.cell 0
  have c1 : w.cell? ⟨p, 1, none⟩ = some (.map (some m)) := hM.str.cell 1
  have hp := hM.str.lt
  have HM := Lib.hid hM1
  have A2 := Lib.hid a2
  clear hM hM1 a1 a2 hv hE
  go_enter Try.func37, Try.ntmps37
  go_wp2_with fail
  refine (has_yes p n t _ (by simp [World.cell?_alloc_lt, hp, c0]) hn (by omega) (by omega)).mono ?_
  rintro e w1 ⟨rfl, rfl⟩
  go_wp2_with fail
  refine (has_yes p n g _ (by simp [World.cell?_alloc_lt, hp, c0]) hn (by omega) (by omega)).mono ?_
  rintro e w1 ⟨rfl, rfl⟩
  go_wp2_with fail
  go_region
  clear hrun
  go_wp2_with fail
  refine (zero_yes p n k t kd x v g c F _ ⟨m, D, HM.out⟩ hn ht).mono ?_
  rintro e w1 ⟨rfl, F', k', m1, m2, m3, m4, m5⟩
  have M1 := Lib.hid m1
  have M3 := Lib.hid m3
  have M4 := Lib.hid m4
  have M5 := Lib.hid m5
  clear m1 m3 m4 m5
  go_wp2_with fail
  go_ret
  refine ⟨rfl, F', k', M1.out.congr (fun f i hi => ?_), m2, (((Keeps.refl F w).alloc _).drew).trans M3.out (fun y hy => .inl hy), fun y hy => (M4.out y hy).imp id (fun hle => ?_), M5.out⟩
  · unfold clr cpy
    split
    · exact (A2.out i hi).symm
    · rfl
  · have e1 : ∀ o : Obj, (w.alloc o).drew.heap.size = w.heap.size + 1 := fun o => World.size_alloc w o
    rw [e1] at hle
    omega
theorem take_yes (p n k t g : Nat) (kd x v : Int) (c : Nat → Nat → Int) (F : Nat → Prop) (w : World) (hM : MemS w p n c F k) (hk : k < 1000000) (hn : n ≤ 64) (ht : t < n) (hg : g < n) :
    Calls Try.prog 37 #[.pointer (some ⟨p, 0, none⟩), .agg #[.int .i8 kd, .int .u64 x, .int .u64 v, .int .i64 g, .int .i64 t]] w (Went w p n (cpy c g t) F k (.int .i64 0)) := by
  obtain ⟨m, D, hM⟩ := hM
  rcases hM.row g with ⟨a1, a2⟩ | ⟨b, a1, a2, a3, a4⟩
  · exact take_zero p n k m t g kd x v c F D w hM hn ht hg a1 a2
  · exact take_there p n k m t g b kd x v c F D w hM hk hn ht hg a1 a2 a3 a4
end Go.Proofs.Ytlhbofgcgfbchaa
