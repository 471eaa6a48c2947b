/-
  slices.Insert of one region into a row of the call's own.
-/
import Derived.Test.YtaikkdlphfmgiaaSpCut5
import Derived.Lib.Overlaps
import Derived.Lib.AppendZerosOnto
import Derived.Deep.RegionLaw
import Derived.Laws.IdiomCopy
import Derived.Laws.NewBlocks
namespace Go.Proofs.Ytaikkdlphfmgiaa
open Go.RowKit
set_option linter.unusedVariables false
set_option linter.unusedSimpArgs false
/-- A copy of items that take k cells each: all is read before anything is written. -/
theorem run_copy_k {P : Program} (k n : Nat) (w : World) (dT sT ty elem : TypeId) (b o dLen dCap : Nat) (a : Addr) (sLen sCap : Nat) (cs : List Value)
    (hu : P.underlying dT = some (.slice elem)) (hs : (P.info? elem).map (·.size) = some k) (hn : n = Nat.min sLen dLen) (hcs : cs.length = n * k)
    (hsrc : ∀ j v, cs[j]? = some v → w.cell? (a.add j) = some v) (hc : ∀ j, j < cs.length → (w.cell? ⟨b, o + j, none⟩).isSome = true) (hf : ∀ j, j < cs.length → w.frozen? ⟨b, o + j, none⟩ = false) (h1 : ∀ v ∈ cs, v.oneCell' = true) :
    (Builtin.copy_ #[dT, sT] ty #[.slice (some ⟨b, o, none⟩) dLen dCap, .slice (some a) sLen sCap]).run P w = .ok (goInt n) (w.setCells b o cs) := by
  have hl := run_loadCells_list (P := P) w a cs hsrc
  have hst := run_storeCells_cells (P := P) b o cs 0 w (by simpa using hc) (by simpa using hf) h1
  cases hq : P.info? elem with
  | none => simp [hq] at hs
  | some i =>
    have hi : i.size = k := by simpa [hq] using hs
    simp [Builtin.copy_, run_underlying hu, Builtin.lenOf, Builtin.firstCells, sizeOf, typeInfo, hq, hi, ← hn, ← hcs, hl, hst]
theorem step_copy_r {P : Program} {ops : Array Oper} {o : Oper} {a : Go.Act} {w : World} {K : Go.Act → World → Prop} {Q : Exit → Go.Act → World → Prop} {E : Prop}
    (hg : o.guard = none) (d x : Operand) (dT sT : TypeId) (hop : o.op = Op.call { callee := Callee.builtin Builtin.copy, args := #[d, x], argTypes := #[dT, sT] })
    (v u : Value) (hd : a.eval d = v) (hx : a.eval x = u) {v' : Value} {w' : World} (hr : (Builtin.copy_ #[dT, sT] o.type #[v, u]).run P w = .ok v' w') (hK : K (a.put o.dst v') w') :
    if Region.wanted o (yielded ops a.tmps) = true then Oper.wp P o a w K Q else E := by
  have hw : Region.wanted o (yielded ops a.tmps) = true := by simp [Region.wanted, hg]
  rw [if_pos hw]
  unfold Oper.wp
  simp [execOp, hop, resolve, invoke, builtin, hd, hx, hr, Result.andThen]
  exact hK
theorem wpList_copy_r {P : Program} (w : World) {ops : Array Oper} {rest : List Oper} {o : Oper} {a : Go.Act} {Q : Exit → Go.Act → World → Prop} (hgd : o.guard = none) (d s : Operand) (t t' : TypeId)
    (ho : o.op = .call { callee := .builtin .copy, args := #[d, s], argTypes := #[t, t'] }) (v u : Value) (hd : a.eval d = v) (hs : a.eval s = u) {v' : Value} {w' : World}
    (hr : (Builtin.copy_ #[t, t'] o.type #[v, u]).run P w = .ok v' w') (h : wpList P ops Q rest (a.put o.dst v') w') : wpList P ops Q (o :: rest) a w :=
  wpList_plain hgd fun _ hK => by
    unfold Oper.wp execOp
    simp only [ho, resolve, invoke, builtin, Sem.run_bind, Sem.run_pure, Result.andThen_ok, List.map_toArray, List.map_cons, List.map_nil, hd, hs, hr]
    exact hK _ _ h
theorem infoReg5 : (Try.prog.info? 25).map (fun i => (i.zero, i.size, i.bytes)) = some (some (.agg #[.int .u64 0, .int .i64 0, .bool false]), 3, 24) := by kernel_rfl
theorem flat_drop3 (l : List Reg) (i j : Nat) : (flat encG (l.drop i))[j]? = (flat encG l)[i * 3 + j]? := by
  by_cases h : i ≤ l.length
  · have e : flat encG l = flat encG (l.take i) ++ flat encG (l.drop i) := by rw [← flat_app, List.take_append_drop]
    have hl : (flat encG (l.take i)).length = i * 3 := by rw [flat_len encG_len, List.length_take]; congr 1; omega
    rw [e, List.getElem?_append_right (by omega), hl, Nat.add_sub_cancel_left]
  · rw [List.drop_eq_nil_of_le (by omega)]
    rw [List.getElem?_eq_none (by simp [flat]), List.getElem?_eq_none (by rw [flat_len encG_len]; omega)]
theorem over_no (w : World) (g gr x lb cb : Nat) (cur csr : Array Value) (hb : Bk w g 25 cur) (hr : Bk w gr 25 csr) (hne : gr ≠ g) (h0 : cur.size ≠ 0) :
    (callFunc 40 #[.slice (some ⟨gr, 0, none⟩) 1 1, .slice (some ⟨g, x, none⟩) lb cb]).run Try.prog w = .ok (.value (.bool false)) w := by
  have hz : ∀ w, (Go.sizeOf 25).run Try.prog w = .ok 3 w := by
    obtain ⟨i0, hi, hz0, hz1, hz2⟩ := info_parts infoReg5
    intro w
    simp [sizeOf, typeInfo, hi, hz1]
  have s1 : w.shape? gr = some (25, csr.size) := by unfold World.shape?; unfold Bk at hr; rw [hr]
  have s2 : w.shape? g = some (25, cur.size) := by unfold World.shape?; unfold Bk at hb; rw [hb]
  rw [run_callFunc_extern (fn := Try.f40) (by kernel_rfl) (by kernel_rfl) (by kernel_rfl) (by kernel_rfl) (e := Extern.SlicesOverlaps.overlaps #[22, 22] #[4]) (by kernel_rfl),
    Lib.run_overlaps_apart w 22 4 25 Try.underlying22 3 hz ⟨gr, 0, none⟩ ⟨g, x, none⟩ 1 1 lb cb hne 25 25 csr.size cur.size s1 s2 h0 (hr.frozen 0) (hr.frozen _)]
  rfl
set_option maxHeartbeats 4000000 in
set_option maxRecDepth 100000 in
theorem insert_shift (g c gr i : Nat) (l : List Reg) (r : Reg) (cur : Array Value) (w : World) (hb : Bk w g 25 cur) (hcs : cur.size = c * 3) (hfl : ∀ j u, (flat encG l)[j]? = some u → w.cell? ⟨g, j, none⟩ = some u)
    (hi : i < l.length) (hroom : l.length + 1 ≤ c) (hm : c ≤ maxLen) (hr : Bk w gr 25 #[.int .u64 r.f, .int .i64 r.c, .bool r.w]) (hne : gr ≠ g) :
    Calls Try.prog 28 #[.slice (some ⟨g, 0, none⟩) l.length c, .int .i64 i, .slice (some ⟨gr, 0, none⟩) 1 1] w fun e w' =>
      e = .returned (.slice (some ⟨g, 0, none⟩) (l.length + 1) c) ∧ w' = (w.drew.setCells g ((i + 1) * 3) (flat encG (l.drop i))).setCells g (i * 3) (encG r) := by
  have hov := fun x lb cb => over_no w g gr x lb cb cur _ hb hr hne (by omega)
  obtain ⟨n, hn⟩ : ∃ n, n = l.length := ⟨_, rfl⟩
  rw [← hn] at hi hroom ⊢
  have HN := Lib.hid hn
  clear hn
  have hz2 : ¬ ((i : Int) = (n : Int)) := by omega
  unfold maxLen at hm
  have hw1 : IntKind.i64.wrap ((i : Int) + 1) = (i : Int) + 1 := by rw [IntKind.wrap_i64]; omega
  have hb1 : (0 : Int) ≤ (i : Int) + 1 := by omega
  have hin : i ≤ n := by omega
  have htn : ((i : Int) + 1).toNat = i + 1 := by omega
  have hb2 : ¬ (c = i + 1) := by omega
  have hb3 : (i : Int) ≤ (n : Int) + 1 := by omega
  have hb4 : ¬ (c = i) := by omega
  have hsz : (Try.prog.info? 25).map (·.size) = some 3 := by
    obtain ⟨i0, hi0, -, h1, -⟩ := info_parts infoReg5
    rw [hi0]; simp [h1]
  have hdl : (flat encG (l.drop i)).length = (n - i) * 3 := by rw [flat_len encG_len, List.length_drop, ← HN.out]
  have ad : ∀ (b o j : Nat), (⟨b, o, none⟩ : Addr).add j = ⟨b, o + j, none⟩ := fun b o j => by unfold Addr.add; split <;> simp_all
  have hcp1 : ∀ ty dc sc, (Builtin.copy_ #[22, 22] ty #[.slice (some ⟨g, (i + 1) * 3, none⟩) (n - i) dc, .slice (some ⟨g, i * 3, none⟩) (n + 1 - i) sc]).run Try.prog w.drew = .ok (goInt (n - i : Nat)) (w.drew.setCells g ((i + 1) * 3) (flat encG (l.drop i))) := fun ty dc sc =>
    run_copy_k 3 (n - i) w.drew _ _ ty 25 g ((i + 1) * 3) (n - i) dc ⟨g, i * 3, none⟩ (n + 1 - i) sc (flat encG (l.drop i)) Try.underlying22 hsz (by simp only [Nat.min_def]; split <;> omega) hdl
      (fun j v hj => by rw [ad]; rw [flat_drop3] at hj; exact hfl _ v hj)
      (fun j hj => by
        show (w.cell? _).isSome = true
        rw [hb.cell, Array.getElem?_eq_getElem (by rw [hcs]; have : (n + 1) * 3 ≤ c * 3 := Nat.mul_le_mul_right _ hroom; omega)]; rfl) (fun j hj => hb.frozen _) (flat_one encG_one _)
  obtain ⟨W1, hW1⟩ : ∃ W1, W1 = w.drew.setCells g ((i + 1) * 3) (flat encG (l.drop i)) := ⟨_, rfl⟩
  have hb1' : Bk W1 g 25 (putAll cur ((i + 1) * 3) (flat encG (l.drop i))) := by rw [hW1]; exact Bk.setAll _ _ _ _ (show Bk w.drew g 25 cur from hb)
  have hr1 : Bk W1 gr 25 #[.int .u64 r.f, .int .i64 r.c, .bool r.w] := by rw [hW1]; exact Bk.farAll hne _ _ _ (show Bk w.drew gr 25 _ from hr)
  have hcp2 : ∀ ty dc, (Builtin.copy_ #[22, 22] ty #[.slice (some ⟨g, i * 3, none⟩) (n + 1 - i) dc, .slice (some ⟨gr, 0, none⟩) 1 1]).run Try.prog W1 = .ok (goInt (1 : Nat)) (W1.setCells g (i * 3) (encG r)) := fun ty dc =>
    run_copy_k 3 1 W1 _ _ ty 25 g (i * 3) (n + 1 - i) dc ⟨gr, 0, none⟩ 1 1 (encG r) Try.underlying22 hsz (by simp only [Nat.min_def]; split <;> omega) rfl
      (fun j v hj => by rw [ad, hr1.cell]; simpa [encG] using hj)
      (fun j hj => by
        rw [encG_len] at hj
        rw [hb1'.cell, Array.getElem?_eq_getElem (by rw [putAll_size, hcs]; have : (n + 1) * 3 ≤ c * 3 := Nat.mul_le_mul_right _ hroom; omega)]; rfl) (fun j hj => hb1'.frozen _) (encG_one r)
  rw [← hW1] at hcp1 ⊢
  have HC1 := Lib.hid hcp1
  have HC2 := Lib.hid hcp2
  have HW1 := Lib.hid hW1
  clear hcp1 hcp2 hb1' hr1 ad hdl hfl hb hr hW1
  go_enter Try.func28, Try.ntmps28
  go_wp2_with (simp only [hov])
  go_region_law (refine step_copy_r rfl _ _ 22 22 rfl (.slice (some ⟨g, (i + 1) * 3, none⟩) (n - i) (c - (i + 1))) (.slice (some ⟨g, i * 3, none⟩) (n + 1 - i) (c - i)) (by simp [Act.eval, Act.put]) (by simp [Act.eval, Act.put]) (HC1.out _ _ _) ?_)
  go_wp2_with fail
  rw [HC2.out, Result.andThen_ok, Oper.upon_value]
  go_wp2_with fail
  go_ret
  exact ⟨rfl, by rw [HW1.out]⟩
theorem zeroCells_size (m : Nat) : (Builtin.zeroCells zG.cells m).size = m * 3 := by
  have := zG_len m
  simpa using this
set_option maxHeartbeats 4000000 in
set_option maxRecDepth 100000 in
theorem insert_grow (g c gr i : Nat) (l : List Reg) (r : Reg) (w : World) (hgw : g < w.heap.size) (hfl : ∀ j u, (flat encG l)[j]? = some u → w.cell? ⟨g, j, none⟩ = some u)
    (hi : i < l.length) (hle : l.length ≤ c) (hroom : c < l.length + 1) (h8 : l.length ≤ 100) (hr : Bk w gr 25 #[.int .u64 r.f, .int .i64 r.c, .bool r.w]) :
    Calls Try.prog 28 #[.slice (some ⟨g, 0, none⟩) l.length c, .int .i64 i, .slice (some ⟨gr, 0, none⟩) 1 1] w fun e w' =>
      ∃ (G : Nat) (ROW : Array Value), e = .returned (.slice (some ⟨w.heap.size, 0, none⟩) (l.length + 1) G) ∧ l.length + 1 ≤ G ∧ G ≤ maxLen ∧ ROW.size = G * 3 ∧ (∀ j, j < i * 3 → ROW[j]? = (flat encG l)[j]?) ∧
        w' = (((w.drew.alloc (.cells ROW 25)).setCells w.heap.size (i * 3) (encG r)).drew).setCells w.heap.size ((i + 1) * 3) (flat encG (l.drop i)) := by
  obtain ⟨i0, hi0, hz0, hz1, hz2⟩ := info_parts infoReg5
  obtain ⟨n, hn⟩ : ∃ n, n = l.length := ⟨_, rfl⟩
  rw [← hn] at hi hroom hle h8 ⊢
  have HN := Lib.hid hn
  clear hn
  obtain rfl : n = c := by omega
  have ad : ∀ (b o j : Nat), (⟨b, o, none⟩ : Addr).add j = ⟨b, o + j, none⟩ := fun b o j => by unfold Addr.add; split <;> simp_all
  have htl : (flat encG (l.take i)).length = i * 3 := by rw [flat_len encG_len, List.length_take, ← HN.out]; congr 1; omega
  have hdl : (flat encG (l.drop i)).length = (n - i) * 3 := by rw [flat_len encG_len, List.length_drop, ← HN.out]
  have hsplit : flat encG l = flat encG (l.take i) ++ flat encG (l.drop i) := by rw [← flat_app, List.take_append_drop]
  have hold : (Builtin.firstCells i0.size i (.slice (some ⟨g, 0, none⟩) i n)).run Try.prog w.drew = .ok (flat encG (l.take i)).toArray w.drew := by
    rw [hz1]
    exact run_firstCells_some w.drew 3 i ⟨g, 0, none⟩ i n (flat encG (l.take i)) htl (fun j v hj => by
      rw [ad, Nat.zero_add]
      refine hfl j v ?_
      rw [hsplit, List.getElem?_append_left (List.getElem?_eq_some_iff.1 hj).1]
      exact hj)
  have hik : i + (n + 1 - i) = n + 1 := by omega
  obtain ⟨G, hG⟩ : ∃ G, G = grownCap w (n + 1) n 25 := ⟨_, rfl⟩
  have hGn : n + 1 ≤ G := by rw [hG]; exact grownCap_ge w _ _ _
  have hGm : G ≤ maxLen := by rw [hG]; exact grownCap_le_maxLen w _ _ _ (by unfold maxLen; omega)
  obtain ⟨ROW, hROW⟩ : ∃ ROW : Array Value, ROW = (flat encG (l.take i)).toArray ++ Builtin.zeroCells zG.cells (n + 1 - i) ++ Builtin.zeroCells zG.cells (G - (n + 1)) := ⟨_, rfl⟩
  have hrz : ∀ ty, (Builtin.append_ #[22, 3] ty #[.slice (some ⟨g, 0, none⟩) i n, .int .i64 ((n : Int) + 1 - (i : Int))]).run Try.prog w = .ok (.slice (some ⟨w.heap.size, 0, none⟩) (n + 1) G) (w.drew.alloc (.cells ROW 25)) := fun ty => by
    have h := Lib.run_append_grow_zeros w 22 3 ty 25 i0 zG .i64 .i64 Try.underlying22 Try.underlying3 hi0 hz0 (some ⟨g, 0, none⟩) i n (flat encG (l.take i)) hold (n + 1 - i) (by omega) (by rw [hz1]; omega) (by omega) (by omega) (by rw [hz2]; omega) (by rw [hz2, hik]; exact growslice_fits (by omega) (by omega))
    rw [hik, ← hG, ← hROW] at h
    rw [show (n : Int) + 1 - (i : Int) = ((n + 1 - i : Nat) : Int) by omega]
    exact h
  have hRs : ROW.size = G * 3 := by
    rw [hROW, Array.size_append, Array.size_append, zeroCells_size, zeroCells_size, List.size_toArray, htl, ← Nat.add_mul, ← Nat.add_mul]
    congr 1
    omega
  have hRl : ∀ j, j < i * 3 → ROW[j]? = (flat encG l)[j]? := fun j hj => by
    rw [hROW, hsplit, List.getElem?_append_left (by omega), Array.getElem?_append_left (by rw [Array.size_append, List.size_toArray]; omega), Array.getElem?_append_left (by rw [List.size_toArray]; omega)]
    simp
  have hsz : (Try.prog.info? 25).map (·.size) = some 3 := by rw [hi0]; simp [hz1]
  obtain ⟨W1, hW1⟩ : ∃ W1, W1 = w.drew.alloc (.cells ROW 25) := ⟨_, rfl⟩
  have hb1 : Bk W1 w.heap.size 25 ROW := by rw [hW1]; exact Bk.new w.drew 25 ROW
  have hr1 : Bk W1 gr 25 #[.int .u64 r.f, .int .i64 r.c, .bool r.w] := by rw [hW1]; exact (show Bk w.drew gr 25 _ from hr).call (ba (Below.refl _ _) _)
  have hgn : g ≠ w.heap.size := by omega
  have hfl1 : ∀ j u, (flat encG l)[j]? = some u → W1.cell? ⟨g, j, none⟩ = some u := fun j u hj => by
    rw [hW1]
    exact (ba (Below.refl w.drew.heap.size w.drew) (.cells ROW 25)).cell (p := ⟨g, j, none⟩) hgw |>.trans (hfl j u hj)
  have hcp1 : ∀ ty dc, (Builtin.copy_ #[22, 22] ty #[.slice (some ⟨w.heap.size, i * 3, none⟩) (n + 1 - i) dc, .slice (some ⟨gr, 0, none⟩) 1 1]).run Try.prog W1 = .ok (goInt (1 : Nat)) (W1.setCells w.heap.size (i * 3) (encG r)) := fun ty dc =>
    run_copy_k 3 1 W1 _ _ ty 25 w.heap.size (i * 3) (n + 1 - i) dc ⟨gr, 0, none⟩ 1 1 (encG r) Try.underlying22 hsz (by simp only [Nat.min_def]; split <;> omega) rfl
      (fun j v hj => by rw [ad, hr1.cell]; simpa [encG] using hj)
      (fun j hj => by
        rw [encG_len] at hj
        rw [hb1.cell, Array.getElem?_eq_getElem (by rw [hRs]; omega)]; rfl) (fun j hj => hb1.frozen _) (encG_one r)
  obtain ⟨W2, hW2⟩ : ∃ W2, W2 = W1.setCells w.heap.size (i * 3) (encG r) := ⟨_, rfl⟩
  have hb2 : Bk W2.drew w.heap.size 25 (putAll ROW (i * 3) (encG r)) := by rw [hW2]; exact Bk.setAll _ _ _ _ hb1
  have hfl2 : ∀ j u, (flat encG l)[j]? = some u → W2.drew.cell? ⟨g, j, none⟩ = some u := fun j u hj => by
    rw [hW2]
    exact (World.cell?_setCells_out _ _ _ _ _ (fun h _ => absurd h hgn)).trans (hfl1 j u hj)
  have hcp2 : ∀ ty dc sc, (Builtin.copy_ #[22, 22] ty #[.slice (some ⟨w.heap.size, (i + 1) * 3, none⟩) (n - i) dc, .slice (some ⟨g, i * 3, none⟩) (n - i) sc]).run Try.prog W2.drew = .ok (goInt (n - i : Nat)) (W2.drew.setCells w.heap.size ((i + 1) * 3) (flat encG (l.drop i))) := fun ty dc sc =>
    run_copy_k 3 (n - i) W2.drew _ _ ty 25 w.heap.size ((i + 1) * 3) (n - i) dc ⟨g, i * 3, none⟩ (n - i) sc (flat encG (l.drop i)) Try.underlying22 hsz (by simp only [Nat.min_def]; split <;> omega) hdl
      (fun j v hj => by rw [ad]; rw [flat_drop3] at hj; exact hfl2 _ v hj)
      (fun j hj => by rw [hb2.cell, Array.getElem?_eq_getElem (by rw [putAll_size, hRs]; omega)]; rfl) (fun j hj => hb2.frozen _) (flat_one encG_one _)
  have hz2' : ¬ ((i : Int) = (n : Int)) := by omega
  have hw1 : IntKind.i64.wrap ((i : Int) + 1) = (i : Int) + 1 := by rw [IntKind.wrap_i64]; omega
  have hb1' : (0 : Int) ≤ (i : Int) + 1 := by omega
  have hin : i ≤ n := by omega
  have htn : ((i : Int) + 1).toNat = i + 1 := by omega
  have hq1 : ¬ (G = i + 1) := by omega
  have hq2 : ¬ (G = i) := by omega
  have hq3 : (i : Int) ≤ (n : Int) + 1 := by omega
  have hq4 : ¬ (n = i) := by omega
  have hG63 : G ≤ 9223372036854775807 := by unfold maxLen at hGm; omega
  rw [← hW1] at hrz
  rw [← hW2] at hcp1
  have HRZ := Lib.hid hrz
  have HC1 := Lib.hid hcp1
  have HC2 := Lib.hid hcp2
  have HW1 := Lib.hid hW1
  have HW2 := Lib.hid hW2
  have HRS := Lib.hid hRs
  have HRL := Lib.hid hRl
  have HGM := Lib.hid hGm
  clear hrz hcp1 hcp2 hW1 hW2 hRs hRl hGm hb1 hr1 hfl1 hb2 hfl2 hROW hG hold hsplit htl hdl hfl hr hik ad hsz hgw hgn hi0 hz0 hz1 hz2
  go_enter Try.func28, Try.ntmps28
  go_wp2_with (at_builtin; refine Lib.wpList_append_run _ rfl _ _ _ _ rfl _ _ rfl rfl _ _ (HRZ.out _) ?_)
  rw [HC1.out, Result.andThen_ok, Oper.upon_value]
  go_wp2_with fail
  go_region_law (refine step_copy_r rfl _ _ 22 22 rfl (.slice (some ⟨w.heap.size, (i + 1) * 3, none⟩) (n - i) (G - (i + 1))) (.slice (some ⟨g, i * 3, none⟩) (n - i) (n - i)) (by simp [Act.eval, Act.put]) (by simp [Act.eval, Act.put]) (HC2.out _ _ _) ?_)
  go_wp2_with fail
  go_ret
  exact ⟨G, ROW, rfl, hGn, HGM.out, HRS.out, HRL.out, by rw [HW2.out, HW1.out]⟩
end Go.Proofs.Ytaikkdlphfmgiaa
