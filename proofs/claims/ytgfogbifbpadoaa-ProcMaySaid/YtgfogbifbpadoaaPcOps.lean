/-
  A house's readers: core, On, Thread, Space.
-/
import Derived.Test.YtgfogbifbpadoaaPcWalks
namespace Go.Proofs.Ytgfogbifbpadoaa
open Go.RowKit Go.Maps
set_option linter.unusedVariables false
set_option linter.unusedSimpArgs false
variable {w : World} {W : Nat → Prop} {P M K : Nat} {H : Hs}
def coreB (H : Hs) (c : Int) : Bool := decide (1 ≤ c) && decide (c ≤ H.cores)
theorem pcCore_any (c : Int) (hc : I64 c) (h : Hm w W P M K H) :
    Calls Try.prog 42 #[.pointer (some ⟨P, 0, none⟩), .int .i64 c] w fun e w' => e = .returned (.bool (coreB H c)) ∧ w = w' := by
  have c0 := h.c0
  obtain ⟨n0, n1⟩ := hc
  by_cases a1 : 1 ≤ c
  · go_enter Try.func42, Try.ntmps42
    go_wp2_with fail
    go_ret
    exact ⟨ret_bool (by simp [coreB, a1]), rfl⟩
  · have a1' : c < 1 := by omega
    go_enter Try.func42, Try.ntmps42
    go_wp2_with fail
    go_ret
    exact ⟨ret_bool (by simp [coreB]; intros; omega), rfl⟩
theorem pcOn_any (c : Int) (hc : I64 c) (h : Hm w W P M K H) :
    Calls Try.prog 16 #[.pointer (some ⟨P, 0, none⟩), .int .i64 c] w fun e w' => e = .returned (.tuple #[.int .i64 ((H.on c).getD 0), .bool (H.on c).isSome]) ∧ w = w' := by
  have c1 := h.c1
  have hl := h.map.look hc
  generalize (H.on c).getD 0 = t at *
  generalize (H.on c).isSome = b at *
  go_enter Try.func16, Try.ntmps16
  go_wp2_with fail
  refine bodyPost_ret (results_tmp2 rfl _ _ _) rfl ?_
  exact ⟨rfl, rfl⟩
theorem pcOn_nil (c : Int) (w : World) : Calls Try.prog 16 #[.pointer none, .int .i64 c] w fun e w' => e = .returned (.tuple #[.int .i64 0, .bool false]) ∧ w = w' := by
  go_enter Try.func16, Try.ntmps16
  go_wp2_with fail
  refine bodyPost_ret (results_tmp2 rfl _ _ _) rfl ?_
  exact ⟨rfl, rfl⟩
def thV (t : Th) (e : Int) : Value := .tuple #[.agg (thC t).toArray, .int .i64 e]
def spV (s : Spc) (e : Int) : Value := .tuple #[.agg (spC s).toArray, .int .i64 e]
/-- A thread, and an errno. -/
theorem res_th {fn : Func} {p q : Tmp} (h : fn.results = #[.cell p 36, .tmp q]) (tmps : Array Value) (w : World) (g : Nat) (cs : Array Value) (u : Value) (hp : tmps.getD p undef = .pointer (some ⟨g, 0, none⟩)) (hq : tmps.getD q undef = u) (hb : Bk w g 36 cs) (hs : cs.size = 12) :
    (results fn tmps).run Try.prog w = .ok (.tuple #[.agg cs, u]) w := by
  have hp' : tmps[p]?.getD undef = .pointer (some ⟨g, 0, none⟩) := by simpa using hp
  have hq' : tmps[q]?.getD undef = u := by simpa using hq
  have hl := run_loadVar_row (P := Try.prog) w g 36 36 cs (0, 0) _ hb Try.underlying36 rfl (by rw [hs]; exact thInfo)
  simp [results, h, hp', hq', asAddr, hl]
theorem res_sp {fn : Func} {p q : Tmp} (h : fn.results = #[.cell p 38, .tmp q]) (tmps : Array Value) (w : World) (g : Nat) (cs : Array Value) (u : Value) (hp : tmps.getD p undef = .pointer (some ⟨g, 0, none⟩)) (hq : tmps.getD q undef = u) (hb : Bk w g 38 cs) (hs : cs.size = 5) :
    (results fn tmps).run Try.prog w = .ok (.tuple #[.agg cs, u]) w := by
  have hp' : tmps[p]?.getD undef = .pointer (some ⟨g, 0, none⟩) := by simpa using hp
  have hq' : tmps[q]?.getD undef = u := by simpa using hq
  have hl := run_loadVar_row (P := Try.prog) w g 38 38 cs (0, 0) _ hb Try.underlying38 rfl (by rw [hs]; exact spInfo)
  simp [results, h, hp', hq', asAddr, hl]
section
variable {ops : Array Oper} {rest : List Oper} {o : Oper} {a : Go.Act} {Q : Exit → Go.Act → World → Prop}
/-- A thread of the house is loaded. -/
theorem get_th (hgd : o.guard = none) (x : Operand) (ho : o.op = .load 36 x) (hm : Hm w W P M K H) {n : Nat} (hn : n < 9) (hx : a.eval x = .pointer (some ⟨P, 1 + n * 12, none⟩))
    (h : wpList Try.prog ops Q rest (a.put o.dst (.agg (thC (H.th n)).toArray)) w) : wpList Try.prog ops Q (o :: rest) a w :=
  wpList_load_mid hgd 36 x ho P _ hx _ _ (hm.th n hn) Try.underlying36 rfl thInfo h
theorem get_sp (hgd : o.guard = none) (x : Operand) (ho : o.op = .load 38 x) (hm : Hm w W P M K H) {n : Nat} (hn : n < 7) (hx : a.eval x = .pointer (some ⟨P, 109 + n * 5, none⟩))
    (h : wpList Try.prog ops Q rest (a.put o.dst (.agg (spC (H.sp n)).toArray)) w) : wpList Try.prog ops Q (o :: rest) a w :=
  wpList_load_mid hgd 38 x ho P _ hx _ _ (hm.sp n hn) Try.underlying38 rfl spInfo h
/-- A thread is stored into a box. -/
theorem box_th (hgd : o.guard = none) (x y : Operand) (ho : o.op = .store 36 x y) (g : Nat) (t : Th) (old : Array Value) (hx : a.eval x = .pointer (some ⟨g, 0, none⟩)) (hy : a.eval y = .agg (thC t).toArray) (hb : Bk w g 36 old) (hs : old.size = 12)
    (h : wpList Try.prog ops Q rest (a.put o.dst undef) (w.setRow g (thC t).toArray)) : wpList Try.prog ops Q (o :: rest) a w :=
  wpList_store_row hgd 36 x y ho g _ hx hy 36 old hb thInfo hs (all_oneCell_toArray (thC_one t)) h
theorem box_sp (hgd : o.guard = none) (x y : Operand) (ho : o.op = .store 38 x y) (g : Nat) (s : Spc) (old : Array Value) (hx : a.eval x = .pointer (some ⟨g, 0, none⟩)) (hy : a.eval y = .agg (spC s).toArray) (hb : Bk w g 38 old) (hs : old.size = 5)
    (h : wpList Try.prog ops Q rest (a.put o.dst undef) (w.setRow g (spC s).toArray)) : wpList Try.prog ops Q (o :: rest) a w :=
  wpList_store_row hgd 38 x y ho g _ hx hy 38 old hb spInfo hs (all_oneCell_toArray (spC_one s)) h
/-- A thread is loaded out of a box. -/
theorem unbox_th (hgd : o.guard = none) (x : Operand) (ho : o.op = .load 36 x) (g : Nat) (cs : Array Value) (hx : a.eval x = .pointer (some ⟨g, 0, none⟩)) (hb : Bk w g 36 cs) (hs : cs.size = 12)
    (h : wpList Try.prog ops Q rest (a.put o.dst (.agg cs)) w) : wpList Try.prog ops Q (o :: rest) a w :=
  wpList_load_row hgd 36 x ho g hx 36 cs (0, 0) _ hb Try.underlying36 rfl (by rw [hs]; exact thInfo) h
theorem unbox_sp (hgd : o.guard = none) (x : Operand) (ho : o.op = .load 38 x) (g : Nat) (cs : Array Value) (hx : a.eval x = .pointer (some ⟨g, 0, none⟩)) (hb : Bk w g 38 cs) (hs : cs.size = 5)
    (h : wpList Try.prog ops Q rest (a.put o.dst (.agg cs)) w) : wpList Try.prog ops Q (o :: rest) a w :=
  wpList_load_row hgd 38 x ho g hx 38 cs (0, 0) _ hb Try.underlying38 rfl (by rw [hs]; exact spInfo) h
/-- A thread of the house is written. -/
theorem put_th (hgd : o.guard = none) (x y : Operand) (ho : o.op = .store 36 x y) (hm : Hm w W P M K H) {n : Nat} (hn : n < 9) (t : Th) (hx : a.eval x = .pointer (some ⟨P, 1 + n * 12, none⟩)) (hy : a.eval y = .agg (thC t).toArray)
    (h : wpList Try.prog ops Q rest (a.put o.dst undef) (w.setCells P (1 + n * 12) (thC t))) : wpList Try.prog ops Q (o :: rest) a w :=
  wpList_store_mid hgd 36 x y ho P _ _ hx hy (there_sub hm.room (by simp [thC_len]; omega)) thInfo (all_oneCell_toArray (thC_one t)) (by simpa using h)
theorem put_sp (hgd : o.guard = none) (x y : Operand) (ho : o.op = .store 38 x y) (hm : Hm w W P M K H) {n : Nat} (hn : n < 7) (s : Spc) (hx : a.eval x = .pointer (some ⟨P, 109 + n * 5, none⟩)) (hy : a.eval y = .agg (spC s).toArray)
    (h : wpList Try.prog ops Q rest (a.put o.dst undef) (w.setCells P (109 + n * 5) (spC s))) : wpList Try.prog ops Q (o :: rest) a w :=
  wpList_store_mid hgd 38 x y ho P _ _ hx hy (there_sub hm.room (by simp [spC_len]; omega)) spInfo (all_oneCell_toArray (spC_one s)) (by simpa using h)
end
theorem pcThread_nil (n : Int) (w : World) : Calls Try.prog 11 #[.pointer none, .int .i64 n] w fun e w' => e = .returned (thV Th.z 1) ∧ Below w.heap.size w w' := by
  have HK := Lib.hid (Bk.new w 36 (thC Th.z).toArray)
  go_enter Try.func11, Try.ntmps11
  go_wp2_with (refine box_th rfl _ _ rfl w.heap.size Th.z _ rfl rfl HK.out rfl ?_)
  refine bodyPost_ret (res_th (g := w.heap.size) rfl _ _ (thC Th.z).toArray _ rfl rfl (HK.out.row _) rfl) rfl ?_
  exact ⟨rfl, brow (ba (Below.refl _ _) _) (Nat.le_refl _) _⟩
theorem pcThread_any (n : Int) (hn : I64 n) (h : Hm w W P M K H) :
    Calls Try.prog 11 #[.pointer (some ⟨P, 0, none⟩), .int .i64 n] w fun e w' => e = .returned (if thereB H n then thV (H.th n.toNat) 0 else thV Th.z 4) ∧ Below w.heap.size w w' := by
  have HK := Lib.hid (Bk.new w 36 (thC Th.z).toArray)
  have HB := Lib.hid (ba (Below.refl w.heap.size w) (.cells (thC Th.z).toArray 36))
  have HH := Lib.hid (h.call HB.out)
  have HN := Lib.hid hn
  clear h hn
  rcases ht : thereB H n with _ | _
  · have HT := Lib.hid ht
    clear ht
    go_enter Try.func11, Try.ntmps11
    go_wp2_with fail
    refine (pcThere_any n HN.out HH.out).mono ?_
    rintro e w1 ⟨rfl, rfl⟩
    rw [HT.out]
    go_wp2_with (refine box_th rfl _ _ rfl w.heap.size Th.z _ rfl rfl HK.out rfl ?_)
    refine bodyPost_ret (res_th (g := w.heap.size) rfl _ _ (thC Th.z).toArray _ rfl rfl (HK.out.row _) rfl) rfl ?_
    exact ⟨rfl, brow HB.out (Nat.le_refl _) _⟩
  · obtain ⟨k, rfl, k1, k8, -⟩ := thereB_some ht
    have HT := Lib.hid ht
    clear ht
    go_enter Try.func11, Try.ntmps11
    go_wp2_with fail
    refine (pcThere_any k HN.out HH.out).mono ?_
    rintro e w1 ⟨rfl, rfl⟩
    rw [HT.out]
    go_wp2_with (first | refine get_th rfl _ rfl HH.out (n := k) (by omega) rfl ?_ | refine box_th rfl _ _ rfl w.heap.size (H.th k) _ rfl rfl HK.out rfl ?_)
    refine bodyPost_ret (res_th (g := w.heap.size) rfl _ _ (thC (H.th k)).toArray _ rfl rfl (HK.out.row _) rfl) rfl ?_
    exact ⟨rfl, brow HB.out (Nat.le_refl _) _⟩
theorem pcSpace_nil (n : Int) (w : World) : Calls Try.prog 12 #[.pointer none, .int .i64 n] w fun e w' => e = .returned (spV Spc.z 1) ∧ Below w.heap.size w w' := by
  have HK := Lib.hid (Bk.new w 38 (spC Spc.z).toArray)
  go_enter Try.func12, Try.ntmps12
  go_wp2_with (refine box_sp rfl _ _ rfl w.heap.size Spc.z _ rfl rfl HK.out rfl ?_)
  refine bodyPost_ret (res_sp (g := w.heap.size) rfl _ _ (spC Spc.z).toArray _ rfl rfl (HK.out.row _) rfl) rfl ?_
  exact ⟨rfl, brow (ba (Below.refl _ _) _) (Nat.le_refl _) _⟩
end Go.Proofs.Ytgfogbifbpadoaa
