/-
  A pool's copy, and what Share, Drop and Count answer in error.
-/
import Derived.Test.YtokmcelmodoeoaaDoorFrPool
import Derived.Deep.MidRow
import Derived.Deep.RegionHeld
namespace Go.Proofs.YtokmcelmodoeoaaDoor
open Go.RowKit
set_option linter.unusedVariables false
set_option linter.unusedSimpArgs false
theorem pool_range {w : World} {b : Nat} {n : Int} {ct : Nat → Int} {fr : Int} (h : Bk w b 47 (poolC n ct fr)) : w.rangeAt b 0 (poolC n ct fr).toList := fun j v hv => by
  rw [Nat.zero_add, h.cell j]
  simpa using hv
theorem pool_there {w : World} {b : Nat} {n n' : Int} {ct ct' : Nat → Int} {fr fr' : Int} (h : Bk w b 47 (poolC n ct fr)) : w.there b 0 (poolC n' ct' fr').size := fun j hj => by
  rw [poolC_size] at hj
  rw [Nat.zero_add]
  refine ⟨?_, h.frozen j⟩
  rw [h.cell j, poolC_get, if_pos hj]
  rfl
theorem pool_info (n : Int) (ct : Nat → Int) (fr : Int) : (Tryd.prog.info? 47).map (·.size) = some (poolC n ct fr).toList.length := by
  rw [Array.length_toList, poolC_size]; kernel_rfl
theorem pool_one (n : Int) (ct : Nat → Int) (fr : Int) : (poolC n ct fr).all (·.oneCell') = true := by
  rw [Array.all_eq_true_iff_forall_mem]
  intro v hv
  obtain ⟨j, hj⟩ := Array.mem_iff_getElem?.1 hv
  rw [poolC_get] at hj
  split at hj
  · injection hj with hj
    subst hj
    split
    · rfl
    · split <;> rfl
  · cases hj
theorem yields_pool {ops : Array Oper} {S : World → Prop} {op : Oper} {a : Act} {x : Operand} {b : Nat} {n : Int} {ct : Nat → Int} {fr : Int} (hw : Region.wanted op (yielded ops a.tmps) = true) (ho : op.op = .load 47 x) (hx : a.eval x = .pointer (some ⟨b, 0, none⟩))
    (hS : ∀ w, S w → Bk w b 47 (poolC n ct fr)) : YieldsIf Tryd.prog ops S op (.agg (poolC n ct fr)) a := by
  have h := yieldsIf_load_mid (P := Tryd.prog) (S := S) hw 47 x ho b 0 hx (poolC n ct fr).toList _ (fun w' hSw => pool_range (hS w' hSw)) Tryd.underlying47 rfl (pool_info n ct fr)
  rwa [Array.toArray_toList] at h
theorem store_pool {op : Oper} {a : Act} {w : World} {K : Act → World → Prop} {Q : Exit → Act → World → Prop} {x y : Operand} {b : Nat} {n n' : Int} {ct ct' : Nat → Int} {fr fr' : Int} (ho : op.op = .store 47 x y) (hx : a.eval x = .pointer (some ⟨b, 0, none⟩)) (hy : a.eval y = .agg (poolC n ct fr))
    (hb : Bk w b 47 (poolC n' ct' fr')) (h : K (a.put op.dst undef) (w.setCells b 0 (poolC n ct fr).toList)) : op.wp Tryd.prog a w K Q :=
  wp_store_mid 47 x y ho b 0 (poolC n ct fr) hx hy (pool_there hb) (by rw [poolC_size]; kernel_rfl) (pool_one n ct fr) h
def putAll (cs : Array Value) : Nat → List Value → Array Value
  | _, [] => cs
  | o, v :: r => putAll (cs.setIfInBounds o v) (o + 1) r
theorem putAll_size : ∀ (vs : List Value) (o : Nat) (cs : Array Value), (putAll cs o vs).size = cs.size
  | [], _, _ => rfl
  | v :: r, o, cs => by rw [putAll, putAll_size r]; simp
theorem putAll_get : ∀ (vs : List Value) (o : Nat) (cs : Array Value) (j : Nat), j < cs.size → (putAll cs o vs)[j]? = if o ≤ j ∧ j < o + vs.length then vs[j - o]? else cs[j]?
  | [], o, cs, j, hj => by rw [if_neg (by simp only [List.length_nil]; omega)]; rfl
  | v :: r, o, cs, j, hj => by
    rw [putAll, putAll_get r (o + 1) _ j (by simpa using hj)]
    simp only [List.length_cons]
    by_cases e : j = o
    · subst e
      rw [if_neg (by omega), if_pos (by omega)]
      simp [hj]
    · by_cases h : o + 1 ≤ j ∧ j < o + 1 + r.length
      · rw [if_pos h, if_pos (by omega), show j - o = (j - (o + 1)) + 1 by omega]
        simp
      · rw [if_neg h, if_neg (by omega), Array.getElem?_setIfInBounds_ne (by omega)]
theorem putAll_pool (cs : Array Value) (n : Int) (ct : Nat → Int) (fr : Int) (hs : cs.size = 66) : putAll cs 0 (poolC n ct fr).toList = poolC n ct fr := by
  apply Array.ext_getElem?
  intro j
  by_cases hj : j < 66
  · rw [putAll_get _ _ _ _ (by omega), if_pos (by simp [poolC_size, hj])]
    simp
  · rw [Array.getElem?_eq_none (by rw [putAll_size]; omega), Array.getElem?_eq_none (by rw [poolC_size]; omega)]
theorem Bk.setAll {b : Nat} {t : TypeId} : ∀ (vs : List Value) (o : Nat) (w : World) (cs : Array Value), Bk w b t cs → Bk (w.setCells b o vs) b t (putAll cs o vs)
  | [], _, _, _, h => h
  | v :: r, o, w, cs, h => Bk.setAll r (o + 1) _ _ (h.set o v)
theorem Bk.farAll {b g : Nat} {t : TypeId} {cs : Array Value} (hne : g ≠ b) : ∀ (vs : List Value) (o : Nat) (w : World), Bk w g t cs → Bk (w.setCells b o vs) g t cs
  | [], _, _, h => h
  | v :: r, o, w, h => Bk.farAll hne r (o + 1) _ (h.far (p := ⟨b, o, none⟩) hne v)
theorem Keeps.setAll {F : Nat → Prop} {b : Nat} (hb : F b) : ∀ (vs : List Value) (o : Nat) (w : World), Keeps F w (w.setCells b o vs)
  | [], _, w => Keeps.refl F w
  | v :: r, o, w => (Keeps.setCell (F := F) (p := ⟨b, o, none⟩) hb v).trans (Keeps.setAll hb r (o + 1) _) (fun x hx => .inl hx)
set_option maxRecDepth 100000 in
set_option maxHeartbeats 1000000 in
theorem pcopy_any (p n : Nat) (ct : Nat → Int) (fr : Int) (w : World) (hP : Pl w p n ct fr) : Calls Tryd.prog 18 #[.pointer (some ⟨p, 0, none⟩)] w fun e w' => e = .returned (.pointer (some ⟨w.heap.size, 0, none⟩)) ∧ Pl w' w.heap.size n ct fr ∧ Below w.heap.size w w' := by
  have hz := zeroPool
  have HP := Lib.hid hP
  clear hP
  go_enter Tryd.func18, Tryd.ntmps18
  go_upto_region 3 with fail
  refine wp_region_lit ?_
  refine wpList_plain rfl fun _ hK => ?_
  go_simp
  refine hK _ _ ?_
  clear hK
  try simp only [Act.put, List.setIfInBounds_toArray, List.set_cons_zero, List.set_cons_succ]
  refine wpList_plain rfl fun _ hK => ?_
  go_simp
  refine hK _ _ ?_
  clear hK
  try simp only [Act.put, List.setIfInBounds_toArray, List.set_cons_zero, List.set_cons_succ]
  refine wpList_load_mid rfl 47 (.tmp 7) rfl p 0 rfl (poolC n ct fr).toList _ (pool_range HP.out) Tryd.underlying47 rfl (pool_info n ct fr) ?_
  try simp only [Array.toArray_toList, Act.put, List.setIfInBounds_toArray, List.set_cons_zero, List.set_cons_succ]
  refine wpList_plain rfl fun _ hK => ?_
  go_simp
  refine hK _ _ ?_
  clear hK
  try simp only [Act.put, List.setIfInBounds_toArray, List.set_cons_zero, List.set_cons_succ]
  have hN := Lib.hid (Bk.new w 47 (poolC 0 (fun _ => 0) 0))
  have hB := Lib.hid (ba (Below.refl w.heap.size w) (.cells (poolC 0 (fun _ => 0) 0) 47))
  generalize w.alloc (.cells (poolC 0 (fun _ => 0) 0) 47) = W at *
  refine wpList_store_mid rfl 47 (.tmp 3) (.tmp 8) rfl w.heap.size 0 (poolC n ct fr) rfl rfl (pool_there hN.out) (by rw [poolC_size]; kernel_rfl) (pool_one n ct fr) ?_
  have hN2 := Lib.hid (Bk.setAll (poolC n ct fr).toList 0 W _ hN.out)
  rw [putAll_pool _ _ _ _ (poolC_size _ _ _)] at hN2
  have hB2 := Lib.hid (Keeps.below (Keeps.setAll (F := fun y => y = w.heap.size) (b := w.heap.size) rfl (poolC n ct fr).toList 0 W) hB.out (fun x hx => by omega))
  generalize W.setCells w.heap.size 0 (poolC n ct fr).toList = W2 at *
  refine wpList_nil ?_
  go_wp2_with fail
  go_ret
  exact ⟨rfl, hN2.out, hB2.out⟩
end Go.Proofs.YtokmcelmodoeoaaDoor
