/-
  The walk of Send.
-/
import Derived.Test.YtokmcelmodoeoaaCsAck
import Derived.Test.YtokmcelmodoeoaaInvalWalks2
import Derived.Deep.RegionLaw
import Derived.Deep.DeepCutAuto
import Derived.LoopTactic
namespace Go.Proofs.Ytokmcelmodoeoaa
open Go.RowKit
set_option linter.unusedVariables false
set_option linter.unusedSimpArgs false
section
variable {α : Type} {enc : α → List Value} {k : Nat}
/-- One item more, in a region that draws; where the row lies then. -/
theorem step_app_at {P : Program} {w : World} {ops : Array Oper} {o : Oper} {a : Go.Act} {K : Go.Act → World → Prop} {Q : Exit → Go.Act → World → Prop} {E : Prop} (hgd : o.guard = none) (s x : Operand) (t : TypeId)
    (ho : o.op = .call { callee := .builtin .append, args := #[s, x], argTypes := #[t, t] })
    (e : TypeId) (i : TypeInfo) (z : Value) (bytes : Nat) (ht : P.underlying t = some (.slice e)) (hi : P.info? e = some i) (hz : i.zero = some z)
    (hsize : i.size = k) (hby : i.bytes = bytes) (hzs : z.cells.size = k) (hsz : 0 < k) (hk : ∀ x, (enc x).length = k) (h1 : ∀ x, ∀ u ∈ enc x, u.oneCell' = true)
    (v : Value) (xs : List α) (hs : a.eval s = v) (hO : Ow enc k e w 0 v xs) (y : α) (g : Nat) (hx : a.eval x = .slice (some ⟨g, 0, none⟩) 1 1)
    (hN : ∀ (j : Nat) (u : Value), (enc y)[j]? = some u → w.cell? ⟨g, j, none⟩ = some u) (hlen : xs.length ≤ 100000) (hb8 : bytes ≤ 100)
    (h : ∀ v' w', Ow enc k e w' 0 v' (xs ++ [y]) → w.grownBy w' v.ownBlock → (∀ g, v'.ownBlock = some g → v.ownBlock = some g ∨ w.heap.size ≤ g) → K (a.put o.dst v') w') : if Region.wanted o (yielded ops a.tmps) = true then Oper.wp P o a w K Q else E := by
  have hw : Region.wanted o (yielded ops a.tmps) = true := by simp [Region.wanted, hgd]
  rw [if_pos hw]
  have hbt : (xs.length + 1) * bytes ≤ 140737488355328 := by
    have : (xs.length + 1) * bytes ≤ 100001 * 100 := Nat.mul_le_mul (by omega) hb8
    omega
  obtain ⟨v', w', hr, h2, h3, h4⟩ := run_append_own_at (P := P) (w := w) t o.type e i z k bytes ht hi hz hsize hby hzs hsz v xs.length (flat enc xs) hO ⟨g, 0, none⟩ 1 1 (enc y) (by rw [hk]; omega) (fun j u hu => by
    have e : (⟨g, 0, none⟩ : Addr).add j = ⟨g, j, none⟩ := by unfold Addr.add; split <;> simp_all
    rw [e]; exact hN j u hu) (h1 y) (by unfold maxLen; omega) hbt
  unfold Oper.wp execOp
  simp only [ho, resolve, invoke, builtin, Sem.run_bind, Sem.run_pure, Result.andThen_ok, List.map_toArray, List.map_cons, List.map_nil, hs, hx, hr]
  exact h v' w' (by unfold Ow; rw [flat_snoc]; simpa using h2) h3 h4
end
theorem Keeps.grownV {w w' : World} {v : Value} (h : w.grownBy w' v.ownBlock) : Keeps (fun g => v.ownBlock = some g) w w' :=
  ⟨h.os, h.tape, h.output, h.size, fun k hk hn => h.block k hk (fun e => hn e.symm)⟩
/-- Is one of the others full? -/
def fullB (n : Nat) (rows : Nat → List Pr) (c : Int) : Bool := (List.range n).any fun k => decide ((k : Int) + 1 ≠ c ∧ 16 ≤ (rows k).length)
theorem fullB_iff (n : Nat) (rows : Nat → List Pr) (c : Int) : fullB n rows c = true ↔ ∃ k, k < n ∧ (k : Int) + 1 ≠ c ∧ 16 ≤ (rows k).length := by
  simp [fullB]
/-- The rows when the first k cores have had it. -/
def sndK (rows : Nat → List Pr) (c : Int) (x : Pr) (k : Nat) : Nat → List Pr := fun j => if j < k ∧ (j : Int) + 1 ≠ c then rows j ++ [x] else rows j
theorem sndK_zero (rows : Nat → List Pr) (c : Int) (x : Pr) : sndK rows c x 0 = rows := by funext j; simp [sndK]
theorem sndK_skip (rows : Nat → List Pr) (c : Int) (x : Pr) (k : Nat) (h : (k : Int) + 1 = c) : sndK rows c x (k + 1) = sndK rows c x k := by
  funext j
  simp only [sndK]
  by_cases h1 : j < k ∧ (j : Int) + 1 ≠ c
  · rw [if_pos h1, if_pos ⟨by omega, h1.2⟩]
  · rw [if_neg h1, if_neg (fun h2 => h1 ⟨by omega, h2.2⟩)]
theorem sndK_at (rows : Nat → List Pr) (c : Int) (x : Pr) (k : Nat) : sndK rows c x k k = rows k := by simp [sndK]
theorem sndK_step (rows : Nat → List Pr) (c : Int) (x : Pr) (k : Nat) (h : (k : Int) + 1 ≠ c) : upR (sndK rows c x k) k (rows k ++ [x]) = sndK rows c x (k + 1) := by
  funext j
  simp only [sndK, upR]
  by_cases e : j = k
  · subst e
    rw [if_pos rfl, if_pos ⟨by omega, h⟩]
  · rw [if_neg e]
    by_cases h1 : j < k ∧ (j : Int) + 1 ≠ c
    · rw [if_pos h1, if_pos ⟨by omega, h1.2⟩]
    · rw [if_neg h1, if_neg (fun h2 => h1 ⟨by omega, h2.2⟩)]
def flE (n : Nat) (rows : Nat → List Pr) (s : Int) : Int := if fullB n rows s then 20 else 0
def flR (n : Nat) (rows : Nat → List Pr) (x : Pr) : Nat → List Pr := if fullB n rows x.s then rows else sndK rows x.s x n
theorem flE_yes {n : Nat} {rows : Nat → List Pr} {s : Int} (h : fullB n rows s = true) : flE n rows s = 20 := by simp [flE, h]
theorem flE_no {n : Nat} {rows : Nat → List Pr} {s : Int} (h : fullB n rows s = false) : flE n rows s = 0 := by simp [flE, h]
theorem flR_yes {n : Nat} {rows : Nat → List Pr} {x : Pr} (h : fullB n rows x.s = true) : flR n rows x = rows := by simp [flR, h]
theorem flR_no {n : Nat} {rows : Nat → List Pr} {x : Pr} (h : fullB n rows x.s = false) : flR n rows x = sndK rows x.s x n := by simp [flR, h]
def sndE (n : Nat) (rows : Nat → List Pr) (x : Pr) : Int := if hasB n x.s && mayB x.k x.a x.p then (if fullB n rows x.s then 20 else 0) else 2
def sndR (n : Nat) (rows : Nat → List Pr) (x : Pr) : Nat → List Pr := if sndE n rows x = 0 then sndK rows x.s x n else rows
set_option maxHeartbeats 1000000 in
theorem csend_bad (b n : Nat) (rows : Nat → List Pr) (vs : Nat → Value) (F : Nat → Prop) (x : Pr) (w : World) (h : Cs w b n rows vs F) (hx : (hasB n x.s && mayB x.k x.a x.p) = false) : Calls Try.prog 8 #[.pointer (some ⟨b, 0, none⟩), .int .i64 x.s, .agg #[.int .i8 x.k, .int .i64 x.a, .int .u64 x.p]] w fun e w' => e = .returned (.int .i64 2) ∧ Below w.heap.size w w' := by
  obtain ⟨s, k, a, p⟩ := x
  simp only at hx ⊢
  have h' := h.alloc (.cells #[.int .i8 k, .int .i64 a, .int .u64 p] 35)
  have h0 := h'.cell0
  rcases hh : hasB n s with _ | _
  · have HH := Lib.hid hh
    clear hh hx
    go_enter Try.func8, Try.ntmps8
    go_wp2_with (go_at_call 21; refine (chas_any b n _ _ h0).mono ?_; rintro e w1 ⟨rfl, rfl⟩; rw [HH.out])
    go_ret
    exact ⟨rfl, ba (Below.refl _ _) _⟩
  · have HM := Lib.hid (show mayB k a p = false by simpa [hh] using hx)
    have HH := Lib.hid hh
    clear hh hx
    go_enter Try.func8, Try.ntmps8
    go_wp2_with (first
      | (go_at_call 21; refine (chas_any b n _ _ h0).mono ?_; rintro e w1 ⟨rfl, rfl⟩; rw [HH.out])
      | (go_at_call 22; refine (encode_no _ _ _ _ HM.out).mono ?_; rintro e w1 ⟨rfl, hb1⟩)
      | go_in)
    go_ret
    exact ⟨rfl, bthen (ba (Below.refl _ _) _) hb1⟩
set_option maxHeartbeats 4000000 in
set_option maxRecDepth 100000 in
theorem csend_good (b n : Nat) (rows : Nat → List Pr) (vs : Nat → Value) (F : Nat → Prop) (x : Pr) (w : World) (h : Cs w b n rows vs F) (hh : hasB n x.s = true) (hm : mayB x.k x.a x.p = true) (hp : 0 ≤ x.p) (hlen : ∀ k, k < 8 → (rows k).length ≤ 100) :
    Calls Try.prog 8 #[.pointer (some ⟨b, 0, none⟩), .int .i64 x.s, .agg #[.int .i8 x.k, .int .i64 x.a, .int .u64 x.p]] w fun e w' => ∃ vs' F', e = .returned (.int .i64 (flE n rows x.s)) ∧ Cs w' b n (flR n rows x) vs' F' ∧ Keeps F w w' ∧ ∀ g, F' g → F g ∨ w.heap.size ≤ g := by
  obtain ⟨s, k0, a, p⟩ := x
  simp only at hh hm hp ⊢
  have h' := h.alloc (.cells #[.int .i8 k0, .int .i64 a, .int .u64 p] 35)
  have h0 := h'.cell0
  have hA := Arr.new w #[.int .i8 k0, .int .i64 a, .int .u64 p] 35
  have HH := Lib.hid hh
  have HM := Lib.hid hm
  have HL := Lib.hid hlen
  have hn8 := h.n8
  have hs := (hasB_iff _ _).1 hh
  have HLT := Lib.hid h.lt
  clear hh hm hlen
  obtain ⟨i0, hi, hz0, hz1, hz2⟩ := info_parts pairInfo
  go_enter Try.func8, Try.ntmps8
  go_upto_region 8 with (first
    | (go_at_call 21; refine (chas_any b n _ _ h0).mono ?_; rintro e w1 ⟨rfl, rfl⟩; rw [HH.out])
    | (go_at_call 22; refine (encode_yes _ _ _ _ hp HM.out).mono ?_; rintro e w1 ⟨rfl, hb1⟩)
    | go_in)
  refine (show ∀ W : World, Cs W b n rows vs F → Arr W w.heap.size [.int .i8 k0, .int .i64 a, .int .u64 p] → Below w.heap.size w W → Code.wp _ _ _ _ W from fun W hC hA hB => ?_) _ (h'.call hb1) (hA.call hb1) (bthen (ba (Below.refl _ _) _) hb1)
  clear h'
  generalize hT : w.heap.size = T at *
  have hT0 : T < W.heap.size := hA.lt
  have c0 := hC.cell0
  have HC := Lib.hid hC
  have HA := Lib.hid hA
  have HB := Lib.hid hB
  clear hC hA hB h0 h
  go_wp2_with fail
  go_loop [28] (fun i => ∃ k : Nat, i = .int .i64 k ∧ k ≤ n ∧ ∀ j, j < k → ¬ ((j : Int) + 1 ≠ s ∧ 16 ≤ (rows j).length)) (fun i => n - (intOf i).toNat)
  case atStart => exact ⟨0, rfl, by omega, fun j hj => by omega⟩
  case round =>
    obtain ⟨k, rfl, hk, hq⟩ := hrel
    have HQ := Lib.hid hq
    clear hq
    by_cases hlt : k < n
    · obtain ⟨O, cap, hv, hl, hmx, hR⟩ := HC.out.form (show k < 8 by omega)
      have hc := HC.out.cellk (show k < 8 by omega)
      rw [hv] at hc
      clear hv hR
      by_cases hs2 : (k : Int) + 1 = s
      · go_wp2_with fail
        go_round
        case rel => exact ⟨k + 1, by go_num, by omega, fun j hj => by
            by_cases e : j < k
            · exact HQ.out j e
            · obtain rfl : j = k := by omega
              exact fun h => h.1 hs2⟩
        case measure => simp [intOf]; omega
      · by_cases hf : 16 ≤ (rows k).length
        · have HF := Lib.hid (show fullB n rows s = true from (fullB_iff _ _ _).2 ⟨k, hlt, hs2, hf⟩)
          have hn1 : ((k : Int) + 1 != s) = true := by simpa using hs2
          have hn2 : (16 : Int) ≤ ((rows k).length : Int) := by omega
          go_wp2_with (go_at_call 23; refine (cwaiting_any _ _ _ _).mono ?_; rintro e w1 ⟨rfl, rfl⟩)
          go_ret
          rw [flE_yes HF.out, flR_yes (x := ⟨s, k0, a, p⟩) HF.out]
          exact ⟨vs, F, rfl, HC.out, Keeps.of_below (F := F) (hT ▸ HB.out), fun g hg => Or.inl hg⟩
        · go_wp2_with (go_at_call 23; refine (cwaiting_any _ _ _ _).mono ?_; rintro e w1 ⟨rfl, rfl⟩)
          go_round
          case rel => exact ⟨k + 1, by go_num, by omega, fun j hj => by
              by_cases e : j < k
              · exact HQ.out j e
              · obtain rfl : j = k := by omega
                exact fun h => hf h.2⟩
          case measure => simp [intOf]; omega
    · obtain rfl : n = k := by omega
      go_wp2_with fail
      have HF := Lib.hid (show fullB n rows s = false by
        rw [Bool.eq_false_iff]
        intro h
        obtain ⟨j, h1, h2, h3⟩ := (fullB_iff _ _ _).1 h
        exact HQ.out j h1 ⟨h2, h3⟩)
      go_loopw [50] (fun i wr => ∃ (k : Nat) (vs' : Nat → Value) (F' : Nat → Prop), i = .int .i64 k ∧ k ≤ n ∧ Cs wr b n (sndK rows s ⟨s, k0, a, p⟩ k) vs' F' ∧ Keeps F W wr ∧ (∀ g, F' g → F g ∨ W.heap.size ≤ g)) (fun i _ => n - (intOf i).toNat)
      case atStart => exact ⟨0, vs, F, rfl, by omega, by rw [sndK_zero]; exact HC.out, Keeps.refl _ _, fun g hg => Or.inl hg⟩
      case round =>
        obtain ⟨k, vs', F', rfl, hk, hc, hkp, hF'⟩ := hrel
        have HC2 := Lib.hid hc
        have HK2 := Lib.hid hkp
        have HF2 := Lib.hid hF'
        clear hc hkp hF'
        by_cases hlt : k < n
        · by_cases hs2 : (k : Int) + 1 = s
          · go_wp2_with fail
            go_roundw
            case rel => exact ⟨k + 1, vs', F', by go_num, by omega, by rw [sndK_skip _ _ _ _ hs2]; exact HC2.out, HK2.out, HF2.out⟩
            case measure => simp [intOf]; omega
          · have hn1 : ((k : Int) + 1 != s) = true := by simpa using hs2
            go_wp2_with fail
            have hk8 : k < 8 := by omega
            obtain ⟨O, cap, hv, hl, hmx, -⟩ := HC2.out.form hk8
            rw [sndK_at] at hv hl
            have c1 := HC2.out.cellk hk8
            rw [hv] at c1
            have hbT : ¬ F T := fun hf => by have := HLT.out T hf; omega
            have d5 := HA.out.keep HK2.out hbT
            have q0 := d5.cell 0 _ rfl
            have q1 := d5.cell 1 _ rfl
            have q2 := d5.cell 2 _ rfl
            have hTr : T < wr.heap.size := d5.lt
            have HCD := Lib.hid (HC2.out.drew.alloc (.cells #[.int .i64 s, .int .i8 k0, .int .i64 a, .int .u64 p] 66))
            have HAN := Lib.hid (Arr.new wr.drew #[.int .i64 s, .int .i8 k0, .int .i64 a, .int .u64 p] 66)
            have hOW := HCD.out.row k hk8
            rw [hv, sndK_at] at hOW
            have HOW := Lib.hid hOW
            have HN := Lib.hid (show ∀ (j : Nat) (u : Value), (encP ⟨s, k0, a, p⟩)[j]? = some u → (wr.drew.alloc (.cells #[.int .i64 s, .int .i8 k0, .int .i64 a, .int .u64 p] 66)).cell? ⟨wr.heap.size, j, none⟩ = some u from fun j u hu => HAN.out.cell j u hu)
            have HV := Lib.hid hv
            have hl100 := HL.out k hk8
            have hbr : b < wr.heap.size := HC2.out.blt
            have hki : (k : Int) < 8 := by omega
            have hki0 : (0 : Int) ≤ k := by omega
            have HP := Lib.hid (show b < (wr.drew.alloc (.cells #[.int .i64 s, .int .i8 k0, .int .i64 a, .int .u64 p] 66)).heap.size ∧ (¬ (Value.slice O (rows k).length cap).ownBlock = some b) ∧ (wr.drew.alloc (.cells #[.int .i64 s, .int .i8 k0, .int .i64 a, .int .u64 p] 66)).cell? ⟨b, 1 + k, none⟩ = some (.slice O (rows k).length cap) ∧ (wr.drew.alloc (.cells #[.int .i64 s, .int .i8 k0, .int .i64 a, .int .u64 p] 66)).frozen? ⟨b, 1 + k, none⟩ = false from ⟨HCD.out.blt, by rw [← hv]; exact HCD.out.off k hk8, by rw [HCD.out.cellk hk8, hv], HCD.out.fr _⟩)
            clear hOW hv d5
            go_region_law ((refine step_app_at (enc := encP) (k := 4) (by rfl) _ _ 58 (by rfl) 66 i0 _ 32 Try.underlying58 hi hz0 hz1 hz2 (by rfl) (by omega) encP_len encP_one (.slice O (rows k).length cap) (rows k) (by rfl) (by exact HOW.out) ⟨s, k0, a, p⟩ wr.heap.size (by rfl) (by exact HN.out) (by omega) (by omega) ?_; intro v' w' o1 o2 o3; obtain ⟨g', cap', rfl, -, -, -, -⟩ := o1.head (by simp); have o1b : Ow encP 4 66 w' 0 (.slice (some ⟨g', 0, none⟩) ((rows k).length + 1) cap') (rows k ++ [⟨s, k0, a, p⟩]) := (by rw [List.length_append] at o1; exact o1); have HO1 := Lib.hid o1b; have HO2 := Lib.hid (Keeps.grownV o2); have HO3 := Lib.hid o3; clear o1 o1b o2 o3; have c2 : w'.cell? ⟨b, 1 + k, none⟩ = some (.slice O (rows k).length cap) := (HO2.out.cell HP.out.1 HP.out.2.1 _).trans HP.out.2.2.1; have f2 : w'.frozen? ⟨b, 1 + k, none⟩ = false := (World.frozen?_of_block (a := ⟨b, 1 + k, none⟩) (HO2.out.block b HP.out.1 HP.out.2.1)).trans HP.out.2.2.2))
            all_goals
              have hT3 := HCD.out.turned hk8 HO1.out (HO2.out.mono (fun y hy => by rw [HV.out]; exact hy)) (fun y hy => by rw [HV.out]; exact HO3.out y hy)
              rw [sndK_step _ _ _ _ hs2] at hT3
              have HT1 := Lib.hid hT3.1
              have HT2 := Lib.hid (show Keeps F W _ from ((HK2.out.drew.alloc (.cells #[.int .i64 s, .int .i8 k0, .int .i64 a, .int .u64 p] 66)).trans hT3.2 (fun y hy => HF2.out y hy)))
              have hsz : W.heap.size ≤ wr.heap.size := HK2.out.size
              have HSZ := Lib.hid hsz
              clear hT3 c2 f2 HO1 HO2 HO3 HP HN HOW HAN HCD hsz
              go_wp2_with fail
              go_roundw
              case rel => exact ⟨k + 1, _, _, by go_num, by omega, HT1.out, HT2.out, fun g hg => by
                have hsz := HSZ.out
                rcases hg with hg | ⟨hg, -⟩
                · exact HF2.out g hg
                · rw [World.size_alloc] at hg
                  have : wr.heap.size + 1 ≤ g := hg
                  exact Or.inr (by omega)⟩
              case measure => simp [intOf]; omega
        · obtain rfl : n = k := by omega
          go_wp2_with fail
          go_ret
          rw [flE_no HF.out, flR_no (x := ⟨s, k0, a, p⟩) HF.out]
          exact ⟨vs', F', rfl, HC2.out, (Keeps.of_below (F := F) (hT ▸ HB.out)).trans HK2.out (fun x hx => Or.inl hx), fun g hg => (HF2.out g hg).imp id (fun h => by omega)⟩
theorem csend_any (b n : Nat) (rows : Nat → List Pr) (vs : Nat → Value) (F : Nat → Prop) (x : Pr) (w : World) (h : Cs w b n rows vs F) (hp : 0 ≤ x.p) (hlen : ∀ k, k < 8 → (rows k).length ≤ 100) :
    Calls Try.prog 8 #[.pointer (some ⟨b, 0, none⟩), .int .i64 x.s, .agg #[.int .i8 x.k, .int .i64 x.a, .int .u64 x.p]] w fun e w' => ∃ vs' F', e = .returned (.int .i64 (sndE n rows x)) ∧ Cs w' b n (sndR n rows x) vs' F' ∧ Keeps F w w' ∧ ∀ g, F' g → F g ∨ w.heap.size ≤ g := by
  rcases hx : (hasB n x.s && mayB x.k x.a x.p) with _ | _
  · refine (csend_bad b n rows vs F x w h hx).mono ?_
    rintro e w' ⟨rfl, hb⟩
    have e1 : sndE n rows x = 2 := by simp [sndE, hx]
    have e2 : sndR n rows x = rows := by simp [sndR, e1]
    rw [e1, e2]
    exact ⟨vs, F, rfl, h.call hb, Keeps.of_below hb, fun g hg => Or.inl hg⟩
  · have hx' := hx
    rw [Bool.and_eq_true] at hx'
    refine (csend_good b n rows vs F x w h hx'.1 hx'.2 hp hlen).mono ?_
    rintro e w' ⟨vs', F', rfl, h1, h2, h3⟩
    have e1 : sndE n rows x = flE n rows x.s := by simp [sndE, hx, flE]
    have e2 : sndR n rows x = flR n rows x := by
      unfold sndR
      rw [e1]
      rcases hf : fullB n rows x.s with _ | _
      · rw [flE_no hf, flR_no hf]; rfl
      · rw [flE_yes hf, flR_yes hf]; rfl
    rw [e1, e2]
    exact ⟨vs', F', rfl, h1, h2, h3⟩
/-- The rows keep short. -/
theorem sndR_short {n : Nat} {rows : Nat → List Pr} {x : Pr} (h : ∀ k, k < 8 → (rows k).length ≤ 16) : ∀ k, k < 8 → (sndR n rows x k).length ≤ 16 := by
  intro k hk
  unfold sndR
  by_cases e : sndE n rows x = 0
  · rw [if_pos e]
    unfold sndE at e
    by_cases h1 : (hasB n x.s && mayB x.k x.a x.p) = true
    · rw [if_pos h1] at e
      by_cases h2 : fullB n rows x.s = true
      · rw [if_pos h2] at e; omega
      · unfold sndK
        by_cases h3 : k < n ∧ (k : Int) + 1 ≠ x.s
        · rw [if_pos h3]
          have : ¬ 16 ≤ (rows k).length := fun h4 => h2 ((fullB_iff _ _ _).2 ⟨k, h3.1, h3.2, h4⟩)
          simp; omega
        · rw [if_neg h3]; exact h k hk
    · rw [if_neg h1] at e; omega
  · rw [if_neg e]; exact h k hk
end Go.Proofs.Ytokmcelmodoeoaa
