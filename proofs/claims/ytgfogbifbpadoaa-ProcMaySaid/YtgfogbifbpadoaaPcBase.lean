/-
  A house (package proc) in the world: its struct's block, its map's block; and what keeps it.
-/
import Derived.Test.YtgfogbifbpadoaaSpPgs
import Derived.Test.YtgfogbifbpadoaaKeep
import Derived.Maps.OwnSet
import Derived.Deep.MidRow
namespace Go.Proofs.Ytgfogbifbpadoaa
open Go.RowKit Go.Maps
set_option linter.unusedVariables false
set_option linter.unusedSimpArgs false
/-- A whole number. -/
def I64 (x : Int) : Prop := -9223372036854775808 ≤ x ∧ x < 9223372036854775808
/-- A thread. -/
structure Th where
  sp : Int
  r0 : Int
  r1 : Int
  r2 : Int
  r3 : Int
  r4 : Int
  r5 : Int
  r6 : Int
  r7 : Int
  pc : Int
  core : Int
  dead : Bool
def Th.z : Th := ⟨0, 0, 0, 0, 0, 0, 0, 0, 0, 0, 0, false⟩
def thC (t : Th) : List Value := [.int .i64 t.sp, .int .u64 t.r0, .int .u64 t.r1, .int .u64 t.r2, .int .u64 t.r3, .int .u64 t.r4, .int .u64 t.r5, .int .u64 t.r6, .int .u64 t.r7, .int .i64 t.pc, .int .i64 t.core, .bool t.dead]
theorem thC_len (t : Th) : (thC t).length = 12 := rfl
theorem thC_one (t : Th) : ∀ v ∈ thC t, v.oneCell' = true := by intro v hv; simp [thC] at hv; rcases hv with h | h | h | h | h | h | h | h | h | h | h | h <;> subst h <;> rfl
/-- A space. -/
structure Spc where
  O : Option Addr
  cap : Nat
  l : List Reg
  thr : Int
  img : Int
  asid : Int
  age : Int
def Spc.z : Spc := ⟨none, 0, [], 0, 0, 0, 0⟩
def spC (s : Spc) : List Value := [.slice s.O s.l.length s.cap, .int .i64 s.thr, .int .i64 s.img, .int .i64 s.asid, .int .i64 s.age]
theorem spC_len (s : Spc) : (spC s).length = 5 := rfl
theorem spC_one (s : Spc) : ∀ v ∈ spC s, v.oneCell' = true := by intro v hv; simp [spC] at hv; rcases hv with h | h | h | h | h <;> subst h <;> rfl
/-- A house. -/
structure Hs where
  cores : Int
  th : Nat → Th
  sp : Nat → Spc
  on : Int → Option Int
def Hs.setTh (H : Hs) (n : Nat) (t : Th) : Hs := { H with th := fun j => if j = n then t else H.th j }
def Hs.setSp (H : Hs) (n : Nat) (s : Spc) : Hs := { H with sp := fun j => if j = n then s else H.sp j }
def Hs.setOn (H : Hs) (on : Int → Option Int) : Hs := { H with on := on }
def updI (on : Int → Option Int) (c : Int) (t : Option Int) : Int → Option Int := fun j => if j = c then t else on j
theorem setTh_same (H : Hs) (n : Nat) (t : Th) : (H.setTh n t).th n = t := by simp [Hs.setTh]
theorem setTh_other (H : Hs) {n j : Nat} (t : Th) (h : j ≠ n) : (H.setTh n t).th j = H.th j := by simp [Hs.setTh, h]
theorem setSp_same (H : Hs) (n : Nat) (s : Spc) : (H.setSp n s).sp n = s := by simp [Hs.setSp]
theorem setSp_other (H : Hs) {n j : Nat} (s : Spc) (h : j ≠ n) : (H.setSp n s).sp j = H.sp j := by simp [Hs.setSp, h]
/-- The key of a core. -/
def ik (c : Int) : Lit := .int .i64 c
theorem ik_ne {c d : Int} (h : c ≠ d) : ik c ≠ ik d := by
  intro e
  unfold ik at e
  injection e with _ e
  exact h e
theorem ik_key {c : Int} (h : I64 c) : keyOf Try.prog 3 (.int .i64 c) = some (ik c) := keyOf_int_mk Try.underlying3 (WalkArith.wf_i64 ⟨h.1, by have := h.2; omega⟩)
theorem ik_is (c : Int) : WideAt.IsKeyLit (ik c) := by trivial
theorem int_wf {c : Int} (h : I64 c) : (Lit.int .i64 c).wf = true := WalkArith.wf_i64 ⟨h.1, by have := h.2; omega⟩
theorem pkeyed : Keyed Try.prog 3 := int_keyed Try.underlying3
/-- A map of whole numbers reads as on, of at most K entries. -/
def OnM (w : World) (M K : Nat) (on : Int → Option Int) : Prop :=
  ∃ D : DataW Unit, w.ownsMap Try.prog 3 (plainElem Try.prog 3) M K D ∧ ∀ c, Maps.has D (ik c) = (on c).isSome ∧ ∀ t, on c = some t → ∀ z, D.atKey (ik c) z = .lit (.int .i64 t)
theorem OnM.more {w : World} {M K L : Nat} {on : Int → Option Int} (h : OnM w M K on) (hk : K ≤ L) : OnM w M L on := by
  obtain ⟨D, ⟨es, clock, hb, F, hs, r⟩, h2⟩ := h
  exact ⟨D, ⟨es, clock, hb, F, Nat.le_trans hs hk, r⟩, h2⟩
theorem OnM.block {w w' : World} {M K : Nat} {on : Int → Option Int} (h : OnM w M K on) (hb : w'.heap[M]? = w.heap[M]?) : OnM w' M K on := by
  obtain ⟨D, ⟨es, clock, hb', r⟩, h2⟩ := h
  exact ⟨D, ⟨es, clock, hb.trans hb', r⟩, h2⟩
theorem OnM.lt {w : World} {M K : Nat} {on : Int → Option Int} (h : OnM w M K on) : M < w.heap.size := by
  obtain ⟨D, ⟨es, clock, hb', r⟩, h2⟩ := h
  exact (Array.getElem?_eq_some_iff.1 hb').1
theorem OnM.look {w : World} {M K : Nat} {on : Int → Option Int} (h : OnM w M K on) {c : Int} (hc : I64 c) :
    (Instr.lookup 68 (.map (some M)) (.int .i64 c) true).run Try.prog w = .ok (.tuple #[.int .i64 ((on c).getD 0), .bool (on c).isSome]) w := by
  obtain ⟨D, hD, h2⟩ := h
  obtain ⟨v, ps, hrun, hv⟩ := hD.look_ok (t := 68) (e := 3) pkeyed Try.underlying68 (z := .int .i64 0) (by kernel_rfl) (zd := .lit (.int .i64 0)) (zp := []) (plainElem_int Try.underlying3 (by decide)) (ik_key hc)
  obtain ⟨a, rfl, ha, -⟩ := plainElem_int_inv Try.underlying3 hv
  have ha := congrArg Prod.fst ha
  simp only at ha
  rw [hrun, (h2 c).1]
  cases e : on c with
  | none =>
    have h0 : Maps.has D (ik c) = false := by rw [(h2 c).1, e]; rfl
    rw [Maps.atKey_of_not_has h0] at ha
    simp at ha
    rw [← ha]
    rfl
  | some t =>
    rw [(h2 c).2 t e] at ha
    simp at ha
    rw [← ha]
    rfl
theorem OnM.put {w : World} {M K : Nat} {on : Int → Option Int} (h : OnM w M K on) {c t : Int} (hc : I64 c) (ht : I64 t) (hK : K < 100000) :
    ∃ w', (Instr.mapUpdate 68 (.map (some M)) (.int .i64 c) (.int .i64 t)).run Try.prog w = .ok () w' ∧ OnM w' M (K + 1) (updI on c (some t)) ∧ Keeps (fun x => x = M) w w' := by
  obtain ⟨D, hD, h2⟩ := h
  have hM := hD.isMap
  obtain ⟨w', hrun, hD', hg⟩ := hD.store (t := 68) (e := 3) pkeyed Try.underlying68 (by unfold maxLen; omega) (ik_key hc) (plainElem_int Try.underlying3 (int_wf ht))
  refine ⟨w', hrun, ⟨_, hD', fun d => ?_⟩, Keeps.grown hg.grown rfl⟩
  unfold updI
  by_cases e : d = c
  · subst e
    rw [if_pos rfl]
    refine ⟨Maps.has_put_same hM (ik_is d) _, fun u hu z => ?_⟩
    cases hu
    exact Maps.atKey_put_same hM (ik_is d) _ z
  · rw [if_neg e]
    have e' := ik_ne e
    refine ⟨by rw [Maps.has_put_other e']; exact (h2 d).1, fun u hu z => by rw [Maps.atKey_put_other e']; exact (h2 d).2 u hu z⟩
theorem OnM.del {w : World} {M K : Nat} {on : Int → Option Int} (h : OnM w M K on) {c : Int} (hc : I64 c) (ty : TypeId) :
    ∃ w', (Builtin.delete_ #[68, 3] ty #[.map (some M), .int .i64 c]).run Try.prog w = .ok (.tuple #[]) w' ∧ OnM w' M K (updI on c none) ∧ Keeps (fun x => x = M) w w' := by
  obtain ⟨D, hD, h2⟩ := h
  obtain ⟨w', hrun, hD', hg⟩ := hD.drop (t := 68) (e := 3) pkeyed Try.underlying68 (ik_key hc) ty
  refine ⟨w', hrun, ⟨_, hD', fun d => ?_⟩, Keeps.grown hg.grown rfl⟩
  unfold updI
  by_cases e : d = c
  · subst e
    rw [if_pos rfl]
    exact ⟨Maps.has_del_same, fun u hu => by cases hu⟩
  · rw [if_neg e]
    have e' := ik_ne e
    exact ⟨by rw [Maps.has_del_other e']; exact (h2 d).1, fun u hu z => by rw [Maps.atKey_del_other e']; exact (h2 d).2 u hu z⟩
theorem OnM.made (w : World) : OnM (w.alloc (.map #[] 0)) w.heap.size 0 fun _ => none := ⟨_, World.ownsMap_made w Try.prog 3 _, fun c => ⟨rfl, fun t h => by cases h⟩⟩
/-- A row of regions that no writable block holds. -/
def Rf (W : Nat → Prop) (w : World) (O : Option Addr) (l : List Reg) : Prop := RegsK w O l ∧ (0 < l.length → ∀ b off, O = some ⟨b, off, none⟩ → ¬ W b)
theorem Rf.keep {W G : Nat → Prop} {w w' : World} {O : Option Addr} {l : List Reg} (h : Rf W w O l) (hk : Keeps G w w') (hG : ∀ x, G x → W x) : Rf W w' O l := by
  refine ⟨fun h0 => ?_, h.2⟩
  obtain ⟨b, off, e, hc⟩ := h.1 h0
  have hn := h.2 h0 b off e
  refine ⟨b, off, e, fun i hi => ?_⟩
  obtain ⟨c0, c1, c2⟩ := hc i hi
  have hb : b < w.heap.size := World.block_lt_of_cell? w ⟨b, off + i * 3, none⟩ c0
  have hc := fun o => World.cell?_of_block (a := ⟨b, o, none⟩) (hk.block b hb (fun hg => hn (hG b hg)))
  exact ⟨(hc _).trans c0, (hc _).trans c1, (hc _).trans c2⟩
/-- A house lies in w: struct at block P, map at block M; W has all blocks that are ever written. -/
structure Hm (w : World) (W : Nat → Prop) (P M K : Nat) (H : Hs) : Prop where
  room : w.there P 0 145
  c0 : w.cell? ⟨P, 0, none⟩ = some (.int .i64 H.cores)
  th : ∀ n, n < 9 → w.rangeAt P (1 + n * 12) (thC (H.th n))
  sp : ∀ n, n < 7 → w.rangeAt P (109 + n * 5) (spC (H.sp n))
  c1 : w.cell? ⟨P, 144, none⟩ = some (.map (some M))
  map : OnM w M K H.on
  rf : ∀ n, n < 7 → Rf W w (H.sp n).O (H.sp n).l ∧ (H.sp n).l.length ≤ (H.sp n).cap ∧ chk (H.sp n).l = true
  WP : W P
  WM : W M
  ne : P ≠ M
  lt : ∀ x, W x → x < w.heap.size
variable {w w' : World} {W G : Nat → Prop} {P M K : Nat} {H : Hs}
theorem there_keep (h : w.there P 0 145) (hk : w'.heap[P]? = w.heap[P]?) : w'.there P 0 145 := fun j hj =>
  ⟨by rw [World.cell?_of_block (a := ⟨P, 0 + j, none⟩) hk]; exact (h j hj).1, by rw [World.frozen?_of_block (a := ⟨P, 0 + j, none⟩) hk]; exact (h j hj).2⟩
theorem range_keep {o : Nat} {cs : List Value} (h : w.rangeAt P o cs) (hk : w'.heap[P]? = w.heap[P]?) : w'.rangeAt P o cs := fun j v hv =>
  (World.cell?_of_block (a := ⟨P, o + j, none⟩) hk).trans (h j v hv)
theorem Hm.keep (h : Hm w W P M K H) (hk : Keeps G w w') (hG : ∀ x, G x → W x ∧ x ≠ P ∧ x ≠ M) : Hm w' W P M K H := by
  have hP := hk.block P (h.lt P h.WP) (fun hg => (hG P hg).2.1 rfl)
  have hM := hk.block M (h.lt M h.WM) (fun hg => (hG M hg).2.2 rfl)
  exact ⟨there_keep h.room hP, (World.cell?_of_block (a := ⟨P, 0, none⟩) hP).trans h.c0, fun n hn => range_keep (h.th n hn) hP, fun n hn => range_keep (h.sp n hn) hP, (World.cell?_of_block (a := ⟨P, 144, none⟩) hP).trans h.c1, h.map.block hM,
    fun n hn => ⟨(h.rf n hn).1.keep hk (fun x hx => (hG x hx).1), (h.rf n hn).2⟩, h.WP, h.WM, h.ne, fun x hx => Nat.lt_of_lt_of_le (h.lt x hx) hk.size⟩
theorem Hm.call (h : Hm w W P M K H) (hb : Below w.heap.size w w') : Hm w' W P M K H := h.keep (Keeps.of_below (F := fun _ => False) hb) (fun _ hf => hf.elim)
theorem Hm.more {L : Nat} (h : Hm w W P M K H) (hk : K ≤ L) : Hm w W P M L H := ⟨h.room, h.c0, h.th, h.sp, h.c1, h.map.more hk, h.rf, h.WP, h.WM, h.ne, h.lt⟩
theorem setCells_block {b o : Nat} {k : Nat} : ∀ (vs : List Value) (o : Nat) (w : World), k ≠ b → (w.setCells b o vs).heap[k]? = w.heap[k]?
  | [], _, _, _ => rfl
  | v :: r, o, w, h => by
    rw [World.setCells, setCells_block (b := b) (o := o) r _ _ h]
    exact RowKit.Below.heap_setCell _ _ _ _ h
theorem setCells_size {b : Nat} : ∀ (vs : List Value) (o : Nat) (w : World), (w.setCells b o vs).heap.size = w.heap.size
  | [], _, _ => rfl
  | v :: r, o, w => by
    rw [World.setCells, setCells_size r _ _]
    simp
theorem setCells_os {b : Nat} : ∀ (vs : List Value) (o : Nat) (w : World), (w.setCells b o vs).os = w.os ∧ (w.setCells b o vs).tape = w.tape ∧ (w.setCells b o vs).output = w.output
  | [], _, _ => ⟨rfl, rfl, rfl⟩
  | v :: r, o, w => by
    rw [World.setCells]
    exact setCells_os r _ _
theorem Keeps.setCells {F : Nat → Prop} {b : Nat} (hb : F b) (vs : List Value) (o : Nat) (w : World) : Keeps F w (w.setCells b o vs) :=
  ⟨(setCells_os vs o w).1, (setCells_os vs o w).2.1, (setCells_os vs o w).2.2, by rw [setCells_size]; exact Nat.le_refl _, fun k _ hn => setCells_block (b := b) (o := o) vs o w (fun e => hn (by rw [e]; exact hb))⟩
/-- Cells of a house are written: what is left of the others. -/
theorem Hm.cells (h : Hm w W P M K H) (o : Nat) (vs : List Value) (H' : Hs) (hc : H'.cores = H.cores) (ho : 1 ≤ o) (hon : H'.on = H.on) (hle : o + vs.length ≤ 144)
    (hth : ∀ n, n < 9 → (w.setCells P o vs).rangeAt P (1 + n * 12) (thC (H'.th n))) (hsp : ∀ n, n < 7 → (w.setCells P o vs).rangeAt P (109 + n * 5) (spC (H'.sp n)))
    (hrf : ∀ n, n < 7 → Rf W w (H'.sp n).O (H'.sp n).l ∧ (H'.sp n).l.length ≤ (H'.sp n).cap ∧ chk (H'.sp n).l = true) : Hm (w.setCells P o vs) W P M K H' := by
  have hk := Keeps.setCells (F := fun x => x = P) rfl vs o w
  refine ⟨World.there_setCells h.room P o vs, ?_, hth, hsp, ?_, ?_, fun n hn => ⟨(hrf n hn).1.keep hk (fun x hx => by rw [hx]; exact h.WP), (hrf n hn).2⟩, h.WP, h.WM, h.ne, fun x hx => by rw [setCells_size]; exact h.lt x hx⟩
  · rw [World.cell?_setCells_out P vs o w ⟨P, 0, none⟩ (fun _ _ => .inl (by show 0 < o; omega)), hc]
    exact h.c0
  · rw [World.cell?_setCells_out P vs o w ⟨P, 144, none⟩ (fun _ _ => .inr (by show o + vs.length ≤ 144; omega))]
    exact h.c1
  · rw [hon]
    exact h.map.block (setCells_block (b := P) (o := o) vs o w (fun e => h.ne e.symm))
theorem there_sub {o n : Nat} (h : w.there P 0 145) (ho : o + n ≤ 145) : w.there P o n := fun j hj => by
  have := h (o + j) (by omega)
  simpa using this
/-- A thread is written whole. -/
theorem Hm.putTh (h : Hm w W P M K H) {n : Nat} (hn : n < 9) (t : Th) : Hm (w.setCells P (1 + n * 12) (thC t)) W P M K (H.setTh n t) := by
  refine h.cells _ _ _ rfl (by omega) rfl (by rw [thC_len]; omega) (fun j hj => ?_) (fun j hj => ?_) h.rf
  · by_cases e : j = n
    · subst e
      rw [setTh_same]
      exact World.rangeAt_setCells_same _ _ _ _ (there_sub h.room (by rw [thC_len]; omega))
    · rw [setTh_other _ _ e]
      exact World.rangeAt_setCells_apart (h.th j hj) _ _ _ (by rw [thC_len, thC_len]; omega)
  · exact World.rangeAt_setCells_apart (h.sp j hj) _ _ _ (by rw [thC_len]; omega)
/-- A space is written whole. -/
theorem Hm.putSp (h : Hm w W P M K H) {n : Nat} (hn : n < 7) (s : Spc) (hs : Rf W w s.O s.l ∧ s.l.length ≤ s.cap ∧ chk s.l = true) : Hm (w.setCells P (109 + n * 5) (spC s)) W P M K (H.setSp n s) := by
  refine h.cells _ _ _ rfl (by omega) rfl (by rw [spC_len]; omega) (fun j hj => ?_) (fun j hj => ?_) (fun j hj => ?_)
  · exact World.rangeAt_setCells_apart (h.th j hj) _ _ _ (by rw [thC_len]; omega)
  · by_cases e : j = n
    · subst e
      rw [setSp_same]
      exact World.rangeAt_setCells_same _ _ _ _ (there_sub h.room (by rw [spC_len]; omega))
    · rw [setSp_other _ _ e]
      exact World.rangeAt_setCells_apart (h.sp j hj) _ _ _ (by rw [spC_len, spC_len]; omega)
  · by_cases e : j = n
    · subst e; rw [setSp_same]; exact hs
    · rw [setSp_other _ _ e]; exact h.rf j hj
/-- A cell in a range is written. -/
theorem range_set {o k : Nat} {cs : List Value} (h : w.rangeAt P o cs) (hk : k < cs.length) (v : Value) : (w.setCells P (o + k) [v]).rangeAt P o (cs.set k v) := by
  intro j u hj
  by_cases e : j = k
  · subst e
    rw [List.getElem?_set_self hk] at hj
    cases hj
    exact World.cell?_setCell_same _ _ _ (h j _ (List.getElem?_eq_getElem hk))
  · rw [List.getElem?_set_ne (by omega)] at hj
    rw [World.cell?_setCells_out P [v] (o + k) w ⟨P, o + j, none⟩ (fun _ _ => by show o + j < o + k ∨ o + k + 1 ≤ o + j; omega)]
    exact h j u hj
theorem Hm.setTh1 (h : Hm w W P M K H) {n k : Nat} (hn : n < 9) (hk : k < 12) (v : Value) (t : Th) (ht : (thC (H.th n)).set k v = thC t) : Hm (w.setCells P (1 + n * 12 + k) [v]) W P M K (H.setTh n t) := by
  refine h.cells _ _ _ rfl (by omega) rfl (by simp only [List.length_cons, List.length_nil]; omega) (fun j hj => ?_) (fun j hj => ?_) h.rf
  · by_cases e : j = n
    · subst e
      rw [setTh_same, ← ht]
      exact range_set (h.th j hj) hk v
    · rw [setTh_other _ _ e]
      exact World.rangeAt_setCells_apart (h.th j hj) _ _ _ (by rw [thC_len]; simp only [List.length_cons, List.length_nil]; omega)
  · exact World.rangeAt_setCells_apart (h.sp j hj) _ _ _ (by simp only [List.length_cons, List.length_nil]; omega)
theorem Hm.setSp1 (h : Hm w W P M K H) {n k : Nat} (hn : n < 7) (hk : k < 5) (v : Value) (s : Spc) (hs : (spC (H.sp n)).set k v = spC s) (hr : Rf W w s.O s.l ∧ s.l.length ≤ s.cap ∧ chk s.l = true) : Hm (w.setCells P (109 + n * 5 + k) [v]) W P M K (H.setSp n s) := by
  refine h.cells _ _ _ rfl (by omega) rfl (by simp only [List.length_cons, List.length_nil]; omega) (fun j hj => ?_) (fun j hj => ?_) (fun j hj => ?_)
  · exact World.rangeAt_setCells_apart (h.th j hj) _ _ _ (by rw [thC_len]; omega)
  · by_cases e : j = n
    · subst e
      rw [setSp_same, ← hs]
      exact range_set (h.sp j hj) hk v
    · rw [setSp_other _ _ e]
      exact World.rangeAt_setCells_apart (h.sp j hj) _ _ _ (by rw [spC_len]; simp only [List.length_cons, List.length_nil]; omega)
  · by_cases e : j = n
    · subst e; rw [setSp_same]; exact hr
    · rw [setSp_other _ _ e]; exact h.rf j hj
/-- The map is written. -/
theorem Hm.putOn (h : Hm w W P M K H) (hk : Keeps (fun x => x = M) w w') {L : Nat} {on : Int → Option Int} (ho : OnM w' M L on) : Hm w' W P M L (H.setOn on) := by
  have hP := hk.block P (h.lt P h.WP) h.ne
  exact ⟨there_keep h.room hP, (World.cell?_of_block (a := ⟨P, 0, none⟩) hP).trans h.c0, fun n hn => range_keep (h.th n hn) hP, fun n hn => range_keep (h.sp n hn) hP, (World.cell?_of_block (a := ⟨P, 144, none⟩) hP).trans h.c1, ho,
    fun n hn => ⟨(h.rf n hn).1.keep hk (fun x hx => by rw [hx]; exact h.WM), (h.rf n hn).2⟩, h.WP, h.WM, h.ne, fun x hx => Nat.lt_of_lt_of_le (h.lt x hx) hk.size⟩
/-- Reading. -/
theorem Hm.thAt (h : Hm w W P M K H) {n : Nat} (hn : n < 9) (j : Nat) (v : Value) (hj : (thC (H.th n))[j]? = some v) : w.cell? ⟨P, 1 + n * 12 + j, none⟩ = some v := h.th n hn j v hj
theorem Hm.spAt (h : Hm w W P M K H) {n : Nat} (hn : n < 7) (j : Nat) (v : Value) (hj : (spC (H.sp n))[j]? = some v) : w.cell? ⟨P, 109 + n * 5 + j, none⟩ = some v := h.sp n hn j v hj
theorem Hm.cellFree (h : Hm w W P M K H) {o : Nat} (ho : o < 145) : w.frozen? ⟨P, o, none⟩ = false := by simpa using (h.room o ho).2
theorem thInfo : (Try.prog.info? 36).map (·.size) = some 12 := by kernel_rfl
theorem spInfo : (Try.prog.info? 38).map (·.size) = some 5 := by kernel_rfl
theorem Hm.getTh (h : Hm w W P M K H) {n : Nat} (hn : n < 9) : (Instr.loadAt 36 (.pointer (some ⟨P, 1 + n * 12, none⟩))).run Try.prog w = .ok (.agg (thC (H.th n)).toArray) w :=
  run_loadAt_mid w P _ 36 _ _ (h.th n hn) Try.underlying36 rfl thInfo
theorem Hm.getSp (h : Hm w W P M K H) {n : Nat} (hn : n < 7) : (Instr.loadAt 38 (.pointer (some ⟨P, 109 + n * 5, none⟩))).run Try.prog w = .ok (.agg (spC (H.sp n)).toArray) w :=
  run_loadAt_mid w P _ 38 _ _ (h.sp n hn) Try.underlying38 rfl spInfo
theorem Hm.storeTh (h : Hm w W P M K H) {n : Nat} (hn : n < 9) (t : Th) : (Instr.storeAt 36 (.pointer (some ⟨P, 1 + n * 12, none⟩)) (.agg (thC t).toArray)).run Try.prog w = .ok () (w.setCells P (1 + n * 12) (thC t)) := by
  have := run_storeAt_mid (P := Try.prog) w P (1 + n * 12) 36 (thC t).toArray (there_sub h.room (by simp [thC_len]; omega)) thInfo (all_oneCell_toArray (thC_one t))
  simpa using this
theorem Hm.storeSp (h : Hm w W P M K H) {n : Nat} (hn : n < 7) (s : Spc) : (Instr.storeAt 38 (.pointer (some ⟨P, 109 + n * 5, none⟩)) (.agg (spC s).toArray)).run Try.prog w = .ok () (w.setCells P (109 + n * 5) (spC s)) := by
  have := run_storeAt_mid (P := Try.prog) w P (109 + n * 5) 38 (spC s).toArray (there_sub h.room (by simp [spC_len]; omega)) spInfo (all_oneCell_toArray (spC_one s))
  simpa using this
end Go.Proofs.Ytgfogbifbpadoaa
