/-
  The walks of package mem: Read, Write, Add, New, store, bar.
  The walks of package mem: has, zero, take, store, bar, Reach.
  The walks of package mem: store, bar, Reach.
  The laws MemOrder and MemNil of layer 8: the walks.
-/
import Derived.Test.YtgdkkhdhomehdaaDoorMwL
import Derived.RegionTactic
import Derived.Deep.QuietTactic
import Derived.BigQuiet
import Derived.Deep.RegionHeld
import Derived.Deep.RegionLaw
import Derived.Laws.EntriesVeiled
namespace Go.Proofs.YtgdkkhdhomehdaaDoor
section
open Go.RowKit Go.Maps
set_option linter.unusedVariables false
set_option linter.unusedSimpArgs false

/-- A memory lies in w. -/
def MemS (w : World) (p n : Nat) (c : Nat → Nat → Int) (F : Nat → Prop) (k : Nat) : Prop := ∃ m D, Mm w p n c F k m D
section
variable {w w' : World} {p n k : Nat} {c : Nat → Nat → Int} {F G : Nat → Prop}
theorem MemS.keep (h : MemS w p n c F k) (hk : Keeps G w w') (hFG : ∀ b, F b → ¬ G b) : MemS w' p n c F k := let ⟨m, D, hM⟩ := h; ⟨m, D, hM.keep hk hFG⟩
theorem MemS.call (h : MemS w p n c F k) (hb : Below w.heap.size w w') : MemS w' p n c F k := let ⟨m, D, hM⟩ := h; ⟨m, D, hM.call hb⟩
theorem MemS.alloc (h : MemS w p n c F k) (o : Obj) : MemS (w.alloc o) p n c F k := let ⟨m, D, hM⟩ := h; ⟨m, D, hM.alloc o⟩
theorem MemS.drew (h : MemS w p n c F k) : MemS w.drew p n c F k := let ⟨m, D, hM⟩ := h; ⟨m, D, hM.drew⟩
theorem MemS.cell (h : MemS w p n c F k) : w.cell? ⟨p, 0, none⟩ = some (.int .i64 n) := let ⟨m, D, hM⟩ := h; hM.str.cell 0
theorem MemS.lt (h : MemS w p n c F k) : p < w.heap.size := let ⟨m, D, hM⟩ := h; hM.str.lt
theorem MemS.own (h : MemS w p n c F k) : F p := let ⟨m, D, hM⟩ := h; hM.pF
theorem MemS.all (h : MemS w p n c F k) : ∀ b, F b → b < w.heap.size := let ⟨m, D, hM⟩ := h; hM.lt
end
/-- The call has answered v, and the memory's words are c'. -/
def Went (w : World) (p n : Nat) (c' : Nat → Nat → Int) (F : Nat → Prop) (k : Nat) (v : Value) (e : Ending) (w' : World) : Prop :=
  e = .returned v ∧ ∃ (F' : Nat → Prop) (k' : Nat), MemS w' p n c' F' k' ∧ k' ≤ k + 1 ∧ Keeps F w w' ∧ (∀ x, F' x → F x ∨ w.heap.size ≤ x) ∧ ∀ x, F x → F' x
theorem Went.same {w w' : World} {p n k : Nat} {c : Nat → Nat → Int} {F : Nat → Prop} {v : Value} (h : MemS w p n c F k) (hb : Below w.heap.size w w') : Went w p n c F k v (.returned v) w' :=
  ⟨rfl, F, k, h.call hb, by omega, Keeps.of_below hb, fun x hx => .inl hx, fun x hx => hx⟩
theorem word_nat {x : Int} (hx : U64 x) : ∃ f i : Nat, x / 512 = f ∧ x % 512 = i ∧ i < 512 := ⟨(x / 512).toNat, (x % 512).toNat, by have := hx.1; omega, by omega, by omega⟩
set_option maxHeartbeats 400000 in
theorem read_yes (p n k f i : Nat) (x : Int) (c : Nat → Nat → Int) (F : Nat → Prop) (w : World) (hM : MemS w p n c F k) (hn : n ≤ 64) (hx : U64 x) (h1 : x / 512 = f) (h2 : x % 512 = i) (hf : f < n) :
    Calls Tryd.prog 23 #[.pointer (some ⟨p, 0, none⟩), .int .u64 x] w fun e w' => e = .returned (.tuple #[.int .u64 (c f i), .int .i64 0]) ∧ w = w' := by
  obtain ⟨m, D, hM⟩ := hM
  have hi : i < 512 := by omega
  have H1 := Lib.hid h1
  have H2 := Lib.hid h2
  have hlt : x / 512 < (n : Int) := by omega
  clear h1 h2
  obtain ⟨v, ps, hrun, hv⟩ := hM.map.look_ok (t := 116) (e := 114) keyed Tryd.underlying116 (z := .pointer none) (by kernel_rfl) (zd := .lit (.int .i64 (-1))) (zp := []) rfl (keyLit f (by omega))
  have c0 : w.cell? ⟨p, 0, none⟩ = some (.int .i64 n) := hM.str.cell 0
  have c1 : w.cell? ⟨p, 1, none⟩ = some (.map (some m)) := hM.str.cell 1
  rcases hM.row f with ⟨a1, a2⟩ | ⟨b, a1, a2, a3, a4⟩
  · rw [a1] at hrun
    have R := Lib.hid (a2 i hi)
    clear a1 a2 hv hM
    go_enter Tryd.func23, Tryd.ntmps23
    go_wp2_with fail
    refine (at_yes p n x _ hx c0 hn hlt).mono ?_
    rintro e w1 ⟨rfl, rfl⟩
    rw [H1.out, H2.out]
    go_wp2_with fail
    go_ret2
    exact ⟨by rw [R.out]; rfl, rfl⟩
  · rw [a1] at hrun
    rw [a2] at hv
    obtain rfl := ptrElem_inv hv
    have hc : w.cell? ⟨b, i, none⟩ = some (.int .u64 (c f i)) := (a3.cell i).trans (rowOf_at _ _ hi)
    clear a1 a2 a3 hv hM
    go_enter Tryd.func23, Tryd.ntmps23
    go_wp2_with fail
    refine (at_yes p n x _ hx c0 hn hlt).mono ?_
    rintro e w1 ⟨rfl, rfl⟩
    rw [H1.out, H2.out]
    go_wp2_with fail
    go_ret2
    exact ⟨rfl, rfl⟩
set_option maxHeartbeats 400000 in
theorem read_no (p n k : Nat) (x : Int) (c : Nat → Nat → Int) (F : Nat → Prop) (w : World) (hM : MemS w p n c F k) (hn : n ≤ 64) (hx : U64 x) (h : (n : Int) ≤ x / 512) :
    Calls Tryd.prog 23 #[.pointer (some ⟨p, 0, none⟩), .int .u64 x] w fun e w' => e = .returned (.tuple #[.int .u64 0, .int .i64 80]) ∧ w = w' := by
  have c0 := hM.cell
  clear hM
  go_enter Tryd.func23, Tryd.ntmps23
  go_wp2_with fail
  refine (at_no p n x _ hx c0 hn h).mono ?_
  rintro e w1 ⟨rfl, rfl⟩
  go_wp2_with fail
  go_ret2
  exact ⟨rfl, rfl⟩
theorem read_nil (x : Int) (w : World) :
    Calls Tryd.prog 23 #[.pointer none, .int .u64 x] w fun e w' => e = .returned (.tuple #[.int .u64 0, .int .i64 1]) ∧ w = w' := by
  go_enter Tryd.func23, Tryd.ntmps23
  go_wp2_with fail
  refine (at_nil x _).mono ?_
  rintro e w1 ⟨rfl, rfl⟩
  go_wp2_with fail
  go_ret2
  exact ⟨rfl, rfl⟩
set_option maxHeartbeats 400000 in
theorem write_yes (p n k f i : Nat) (x v : Int) (c : Nat → Nat → Int) (F : Nat → Prop) (w : World) (hM : MemS w p n c F k) (hk : k < 1000000) (hn : n ≤ 64) (hx : U64 x) (h1 : x / 512 = f) (h2 : x % 512 = i) (hf : f < n) :
    Calls Tryd.prog 24 #[.pointer (some ⟨p, 0, none⟩), .int .u64 x, .int .u64 v] w (Went w p n (upd2 c f i v) F k (.int .i64 0)) := by
  obtain ⟨m, D, hM⟩ := hM
  have hi : i < 512 := by omega
  have H1 := Lib.hid h1
  have H2 := Lib.hid h2
  have hlt : x / 512 < (n : Int) := by omega
  clear h1 h2
  have c0 : w.cell? ⟨p, 0, none⟩ = some (.int .i64 n) := hM.str.cell 0
  go_enter Tryd.func24, Tryd.ntmps24
  go_wp2_with fail
  refine (at_yes p n x _ hx c0 hn hlt).mono ?_
  rintro e w1 ⟨rfl, rfl⟩
  rw [H1.out, H2.out]
  go_wp2_with fail
  refine (own_any p n k m f c F D _ hM hk (by omega)).mono ?_
  rintro e w1 ⟨b, k', F', D', rfl, m1, m2, m3, m4, m5, m6, m7, m8⟩
  have hc : w1.cell? ⟨b, i, none⟩ = some (.int .u64 (c f i)) := (m4.cell i).trans (rowOf_at _ _ hi)
  have hfz : w1.frozen? ⟨b, i, none⟩ = false := m4.frozen i
  have R := Lib.hid (m1.put m3 m4 i v)
  have M6 := Lib.hid (m6.mono (G := F) (fun x e => by rw [e]; exact hM.mF))
  have M7 := Lib.hid m7
  have M8 := Lib.hid m8
  have M3 := Lib.hid m3
  clear m1 m3 m4 m6 m7 m8 hM c0
  go_wp2_with fail
  go_ret
  exact ⟨rfl, F', k', ⟨m, D', R.out⟩, m2, M6.out.trans (Keeps.setCell (F := F') m5 _) M7.out, M7.out, M8.out⟩
set_option maxHeartbeats 400000 in
theorem write_no (p n k : Nat) (x v : Int) (c : Nat → Nat → Int) (F : Nat → Prop) (w : World) (hM : MemS w p n c F k) (hn : n ≤ 64) (hx : U64 x) (h : (n : Int) ≤ x / 512) :
    Calls Tryd.prog 24 #[.pointer (some ⟨p, 0, none⟩), .int .u64 x, .int .u64 v] w fun e w' => e = .returned (.int .i64 80) ∧ w = w' := by
  have c0 := hM.cell
  clear hM
  go_enter Tryd.func24, Tryd.ntmps24
  go_wp2_with fail
  refine (at_no p n x _ hx c0 hn h).mono ?_
  rintro e w1 ⟨rfl, rfl⟩
  go_wp2_with fail
  go_ret
  exact ⟨rfl, rfl⟩
theorem write_nil (x v : Int) (w : World) :
    Calls Tryd.prog 24 #[.pointer none, .int .u64 x, .int .u64 v] w fun e w' => e = .returned (.int .i64 1) ∧ w = w' := by
  go_enter Tryd.func24, Tryd.ntmps24
  go_wp2_with fail
  refine (at_nil x _).mono ?_
  rintro e w1 ⟨rfl, rfl⟩
  go_wp2_with fail
  go_ret
  exact ⟨rfl, rfl⟩
/-- What New leaves: a memory of its own. -/
def Made (w : World) (n : Nat) (e : Ending) (w' : World) : Prop :=
  ∃ p F, e = .returned (.tuple #[.pointer (some ⟨p, 0, none⟩), .int .i64 0]) ∧ MemS w' p n (fun _ _ => 0) F 0 ∧ Below w.heap.size w w' ∧ ∀ x, F x → w.heap.size ≤ x
set_option maxHeartbeats 400000 in
theorem new_yes (n : Nat) (w : World) (h1 : 1 ≤ n) (h2 : n ≤ 64) : Calls Tryd.prog 44 #[.int .i64 n] w (Made w n) := by
  have hmm := @run_makeMap Tryd.prog
  have R := Lib.hid (Mm.made w n)
  go_enter Tryd.func44, Tryd.ntmps44
  go_wp2_with fail
  go_ret2
  exact ⟨w.heap.size + 1, _, rfl, ⟨_, _, R.out⟩, ba (ba (Below.refl _ _) _) _, fun x hx => by omega⟩
theorem new_no (n : Int) (w : World) (h : n < 1 ∨ 64 < n) : Calls Tryd.prog 44 #[.int .i64 n] w fun e w' => e = .returned (.tuple #[.pointer none, .int .i64 2]) ∧ w = w' := by
  rcases h with h | h
  · go_enter Tryd.func44, Tryd.ntmps44
    go_wp2_with fail
    go_ret2
    exact ⟨rfl, rfl⟩
  · have h' : ¬ n < 1 := by omega
    go_enter Tryd.func44, Tryd.ntmps44
    go_wp2_with fail
    go_ret2
    exact ⟨rfl, rfl⟩
end
section
open Go.RowKit Go.Maps
set_option linter.unusedVariables false
set_option linter.unusedSimpArgs false

theorem Mm.congr {w : World} {p n k m : Nat} {c c' : Nat → Nat → Int} {F : Nat → Prop} {D : DataW Unit} (h : Mm w p n c F k m D) (e : ∀ f i, i < 512 → c f i = c' f i) : Mm w p n c' F k m D where
  str := h.str
  map := h.map
  pF := h.pF
  mF := h.mF
  lt := h.lt
  row := fun f => (h.row f).imp (fun ⟨a, b⟩ => ⟨a, fun i hi => (e f i hi).symm.trans (b i hi)⟩) fun ⟨b, a1, a2, a3, a4⟩ => ⟨b, a1, a2, by rw [← rowOf_congr (e f)]; exact a3, a4⟩
  inj := h.inj
theorem MemS.congr {w : World} {p n k : Nat} {c c' : Nat → Nat → Int} {F : Nat → Prop} (h : MemS w p n c F k) (e : ∀ f i, i < 512 → c f i = c' f i) : MemS w p n c' F k := let ⟨m, D, hM⟩ := h; ⟨m, D, hM.congr e⟩
/-- A frame all 0. -/
def clr (c : Nat → Nat → Int) (f : Nat) : Nat → Nat → Int := fun g => if g = f then fun _ => 0 else c g
/-- A frame as another one is. -/
def cpy (c : Nat → Nat → Int) (from_ to : Nat) : Nat → Nat → Int := fun g => if g = to then c from_ else c g
/-- An entry's cells. -/
abbrev entC (kd x v fr to : Int) : Array Value := #[.int .i8 kd, .int .u64 x, .int .u64 v, .int .i64 fr, .int .i64 to]
/-- What a block is behind cells stored into it one by one. -/
def putAll (cs : Array Value) : Nat → List Value → Array Value
  | _, [] => cs
  | o, v :: r => putAll (cs.setIfInBounds o v) (o + 1) r
theorem putAll_size : ∀ (vs : List Value) (o : Nat) (cs : Array Value), (putAll cs o vs).size = cs.size
  | [], _, _ => rfl
  | v :: r, o, cs => by rw [putAll, putAll_size r]; simp
theorem putAll_get : ∀ (vs : List Value) (o : Nat) (cs : Array Value) (j : Nat), j < cs.size → (putAll cs o vs)[j]? = if o ≤ j ∧ j < o + vs.length then vs[j - o]? else cs[j]?
  | [], o, cs, j, hj => by rw [if_neg (by simp only [List.length_nil]; omega)]; rfl
  | v :: r, o, cs, j, hj => by
    rw [putAll, putAll_get r (o + 1) _ j (by simpa using hj)]
    simp only [List.length_cons]
    by_cases e : j = o
    · subst e
      rw [if_neg (by omega), if_pos (by omega)]
      simp [hj]
    · by_cases h : o + 1 ≤ j ∧ j < o + 1 + r.length
      · rw [if_pos h, if_pos (by omega), show j - o = (j - (o + 1)) + 1 by omega]
        simp
      · rw [if_neg h, if_neg (by omega), Array.getElem?_setIfInBounds_ne (by omega)]
theorem putAll_row (cs : Array Value) (g : Nat → Int) (hs : cs.size = 512) : putAll cs 0 (rowOf g).toList = rowOf g := by
  apply Array.ext_getElem?
  intro j
  by_cases hj : j < 512
  · rw [putAll_get _ _ _ _ (by omega), if_pos (by simp [rowOf_size, hj])]
    simp
  · rw [Array.getElem?_eq_none (by rw [putAll_size]; omega), Array.getElem?_eq_none (by rw [rowOf_size]; omega)]
theorem Bk.setAll {b : Nat} {t : TypeId} : ∀ (vs : List Value) (o : Nat) (w : World) (cs : Array Value), Bk w b t cs → Bk (w.setCells b o vs) b t (putAll cs o vs)
  | [], _, _, _, h => h
  | v :: r, o, w, cs, h => Bk.setAll r (o + 1) _ _ (h.set o v)
theorem Bk.farAll {b g : Nat} {t : TypeId} {cs : Array Value} (hne : g ≠ b) : ∀ (vs : List Value) (o : Nat) (w : World), Bk w g t cs → Bk (w.setCells b o vs) g t cs
  | [], _, _, h => h
  | v :: r, o, w, h => Bk.farAll hne r (o + 1) _ (h.far (p := ⟨b, o, none⟩) hne v)
theorem Keeps.setAll {F : Nat → Prop} {b : Nat} (hb : F b) : ∀ (vs : List Value) (o : Nat) (w : World), Keeps F w (w.setCells b o vs)
  | [], _, w => Keeps.refl F w
  | v :: r, o, w => (Keeps.setCell (F := F) (p := ⟨b, o, none⟩) hb v).trans (Keeps.setAll hb r (o + 1) _) (fun x hx => .inl hx)
theorem map_setAll {b m k : Nat} {D : DataW Unit} (hne : m ≠ b) : ∀ (vs : List Value) (o : Nat) (w : World), w.ownsMap Tryd.prog 3 ptrElem m k D → (w.setCells b o vs).ownsMap Tryd.prog 3 ptrElem m k D
  | [], _, _, h => h
  | v :: r, o, w, h => map_setAll hne r (o + 1) _ (h.setCell (a := ⟨b, o, none⟩) hne v)
/-- A whole frame is written. -/
theorem Mm.putRow {w : World} {p n k m : Nat} {c : Nat → Nat → Int} {F : Nat → Prop} {D : DataW Unit} (h : Mm w p n c F k m D) {f b : Nat} (ha : ∀ z, D.atKey (fk f) z = .lit (.int .i64 b)) (hb : Bk w b 156 (rowOf (c f))) (g : Nat) :
    Mm (w.setCells b 0 (rowOf (c g)).toList) p n (cpy c g f) F k m D where
  str := Bk.farAll (bk_ne h.str hb (by decide)) _ _ _ h.str
  map := map_setAll (fun e => bk_map_ne hb h.map e.symm) _ _ _ h.map
  pF := h.pF
  mF := h.mF
  lt := fun x hx => Nat.lt_of_lt_of_le (h.lt x hx) (Keeps.setAll (F := fun y => y = b) rfl _ _ _).size
  row := fun y => by
    by_cases e : y = f
    · subst e
      rcases h.row y with ⟨h1, _⟩ | ⟨b', h1, h2, h3, h4⟩
      · exact (not_both h1 ha).elim
      · have eb : b' = b := by
          have := (h2 .nil).symm.trans (ha .nil)
          simp at this
          omega
        subst eb
        refine .inr ⟨b', h1, h2, ?_, h4⟩
        have := Bk.setAll (rowOf (c g)).toList 0 w _ hb
        rw [putAll_row _ _ (rowOf_size _)] at this
        simpa [cpy] using this
    · have ec : cpy c g f y = c y := by simp [cpy, e]
      rw [ec]
      refine (h.row y).imp id fun ⟨b', h1, h2, h3, h4⟩ => ⟨b', h1, h2, Bk.farAll (fun eb => e (h.inj y f b' h2 ?_)) _ _ _ h3, h4⟩
      intro z
      rw [eb]
      exact ha z
  inj := h.inj
theorem row_range {w : World} {b : Nat} {g : Nat → Int} (h : Bk w b 156 (rowOf g)) : w.rangeAt b 0 (rowOf g).toList := fun j v hv => by
  rw [Nat.zero_add, h.cell j]
  simpa using hv
theorem row_there {w : World} {b : Nat} {g : Nat → Int} (h : Bk w b 156 (rowOf g)) (g' : Nat → Int) : w.there b 0 (rowOf g').size := fun j hj => by
  rw [rowOf_size] at hj
  rw [Nat.zero_add]
  exact ⟨by rw [h.cell j, rowOf_at _ _ hj]; rfl, h.frozen j⟩
theorem words_info (g : Nat → Int) : (Tryd.prog.info? 156).map (·.size) = some (rowOf g).toList.length := by
  rw [Array.length_toList, rowOf_size]; kernel_rfl
theorem row_one (g : Nat → Int) : (rowOf g).all (·.oneCell') = true := by
  rw [Array.all_eq_true_iff_forall_mem]
  intro v hv
  simp only [rowOf, Array.mem_ofFn] at hv
  obtain ⟨i, rfl⟩ := hv
  rfl
theorem yields_row {ops : Array Oper} {S : World → Prop} {op : Oper} {a : Act} {x : Operand} {b : Nat} {g : Nat → Int} (hw : Region.wanted op (yielded ops a.tmps) = true) (ho : op.op = .load 156 x) (hx : a.eval x = .pointer (some ⟨b, 0, none⟩))
    (hS : ∀ w, S w → Bk w b 156 (rowOf g)) : YieldsIf Tryd.prog ops S op (.agg (rowOf g)) a := by
  have h := yieldsIf_load_mid (P := Tryd.prog) (S := S) hw 156 x ho b 0 hx (rowOf g).toList _ (fun w' hSw => row_range (hS w' hSw)) Tryd.underlying156 rfl (words_info g)
  rwa [Array.toArray_toList] at h
theorem store_row {op : Oper} {a : Act} {w : World} {K : Act → World → Prop} {Q : Exit → Act → World → Prop} {x y : Operand} {b : Nat} {g g' : Nat → Int} (ho : op.op = .store 156 x y) (hx : a.eval x = .pointer (some ⟨b, 0, none⟩)) (hy : a.eval y = .agg (rowOf g))
    (hb : Bk w b 156 (rowOf g')) (h : K (a.put op.dst undef) (w.setCells b 0 (rowOf g).toList)) : op.wp Tryd.prog a w K Q :=
  wp_store_mid 156 x y ho b 0 (rowOf g) hx hy (row_there hb g) (by rw [rowOf_size]; kernel_rfl) (row_one g) h
end
section
open Go.RowKit Go.Maps
set_option linter.unusedVariables false
set_option linter.unusedSimpArgs false

theorem Went.from {w w0 w' : World} {p n k : Nat} {c' : Nat → Nat → Int} {F : Nat → Prop} {v : Value} {e : Ending} (h : Went w p n c' F k v e w') (hb : Below w0.heap.size w0 w) : Went w0 p n c' F k v e w' := by
  obtain ⟨he, F', k', m1, m2, m3, m4, m5⟩ := h
  exact ⟨he, F', k', m1, m2, (Keeps.of_below hb).trans m3 (fun y hy => .inl hy), fun y hy => (m4 y hy).imp id (fun hle => Nat.le_trans hb.size hle), m5⟩
/-- An entry's argument. -/
abbrev entA (kd x v fr t : Int) : Value := .agg #[.int .i8 kd, .int .u64 x, .int .u64 v, .int .i64 fr, .int .i64 t]
end
section
open Go.RowKit Go.Maps
set_option linter.unusedVariables false
set_option linter.unusedSimpArgs false

theorem upd2_same (c : Nat → Nat → Int) (f i : Nat) (v : Int) : upd2 c f i v f i = v := by simp [upd2, upd]
theorem upd2_other (c : Nat → Nat → Int) {f i f' i' : Nat} (v : Int) (h : ¬ (f' = f ∧ i' = i)) : upd2 c f i v f' i' = c f' i' := by
  unfold upd2
  split
  · rename_i e
    subst e
    exact upd_other _ _ (fun e => h ⟨rfl, e⟩)
  · rfl
theorem sep {F F' G : Nat → Prop} {w : World} (hd : ∀ y, F y → G y → False) (hG : ∀ y, G y → y < w.heap.size) (h : ∀ x, F' x → F x ∨ w.heap.size ≤ x) : ∀ y, F' y → G y → False :=
  fun y hy hg => (h y hy).elim (fun hf => hd y hf hg) (fun hle => by have := hG y hg; omega)
theorem grow {F F' : Nat → Prop} {w0 w : World} (hF : ∀ x, F x → w0.heap.size ≤ x) (hB : Below w0.heap.size w0 w) (h : ∀ x, F' x → F x ∨ w.heap.size ≤ x) : ∀ x, F' x → w0.heap.size ≤ x :=
  fun x hx => (h x hx).elim (hF x) (fun hle => Nat.le_trans hB.size hle)
theorem order_words {a : Int} (ha : U64 a) : ∃ f i : Nat, (a % 32768) / 512 = f ∧ (a % 32768) % 512 = i ∧ f < 64 ∧ U64 (a % 32768) :=
  ⟨((a % 32768) / 512).toNat, ((a % 32768) % 512).toNat, by omega, by omega, by omega, ⟨by omega, by omega⟩⟩
end
end Go.Proofs.YtgdkkhdhomehdaaDoor
