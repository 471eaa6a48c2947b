/-
  The document's cast: First and Send.
-/
import Derived.Test.YtokmcelmodoeoaaCsRef
import Derived.RegionTactic
import Derived.Deep.RegionLaw
import Derived.Deep.DeepCutAuto
import Derived.ChangeAlike
namespace Go.Proofs.Ytokmcelmodoeoaa
open Go.RowKit
set_option linter.unusedVariables false
set_option linter.unusedSimpArgs false
def zR : Rp := ⟨0, 0, 0, 0, 0⟩
def rfE (n : Nat) (L : List Rp) (c : Int) : Int := if hasB n c then (if atL L c < L.length then 0 else 4) else 2
def rfP (n : Nat) (L : List Rp) (c : Int) : Rp := if hasB n c then (if atL L c < L.length then L.getD (atL L c) zR else zR) else zR
theorem hasB_no {n : Nat} {c : Int} (h : hasB n c = false) : c < 1 ∨ (1 ≤ c ∧ (n : Int) < c) := by
  rw [Bool.eq_false_iff] at h
  by_cases h1 : c < 1
  · exact Or.inl h1
  · refine Or.inr ⟨by omega, ?_⟩
    by_cases h2 : (n : Int) < c
    · exact h2
    · exact absurd ((hasB_iff n c).2 ⟨by omega, by omega⟩) h
theorem rfirst_out (q n : Nat) (L : List Rp) (v : Value) (F : Nat → Prop) (c : Int) (w : World) (h : Rc w q n L v F) (hh : hasB n c = false) : Calls Try.prog 16 #[.pointer (some ⟨q, 0, none⟩), .int .i64 c] w fun e w' => e = .returned (.tuple #[.int .i64 0, .agg #[.int .i8 0, .int .i64 0, .int .u64 0], .int .i64 2]) ∧ Below w.heap.size w w' := by
  have h0' : (w.alloc (.cells #[.int .i8 0, .int .i64 0, .int .u64 0] 35)).cell? ⟨q, 0, none⟩ = some (.int .i64 n) := (h.alloc _).cell0
  rcases hasB_no hh with h1 | ⟨h1, h2⟩
  · clear hh
    go_enter Try.func16, Try.ntmps16
    go_wp2_with fail
    refine bodyPost_ret (v := .tuple #[.int .i64 0, .agg #[.int .i8 0, .int .i64 0, .int .u64 0], .int .i64 2]) (by simp [results, Try.results16, go_sem]) rfl ⟨rfl, ?_⟩
    exact ba (Below.refl _ _) _
  · clear hh
    have h1' : ¬ c < 1 := by omega
    go_enter Try.func16, Try.ntmps16
    go_wp2_with fail
    refine bodyPost_ret (v := .tuple #[.int .i64 0, .agg #[.int .i8 0, .int .i64 0, .int .u64 0], .int .i64 2]) (by simp [results, Try.results16, go_sem]) rfl ⟨rfl, ?_⟩
    exact ba (Below.refl _ _) _
theorem rfirst_none (q n : Nat) (L : List Rp) (v : Value) (F : Nat → Prop) (c : Int) (w : World) (h : Rc w q n L v F) (hh : hasB n c = true) (ha : ¬ atL L c < L.length) : Calls Try.prog 16 #[.pointer (some ⟨q, 0, none⟩), .int .i64 c] w fun e w' => e = .returned (.tuple #[.int .i64 0, .agg #[.int .i8 0, .int .i64 0, .int .u64 0], .int .i64 4]) ∧ Below w.heap.size w w' := by
  have h' := h.alloc (.cells #[.int .i8 0, .int .i64 0, .int .u64 0] 35)
  have h0' := h'.cell0
  have HA := Lib.hid (show atI L c = -1 by unfold atI; rw [if_neg ha])
  obtain ⟨h1, h2⟩ := (hasB_iff _ _).1 hh
  clear hh ha
  go_enter Try.func16, Try.ntmps16
  go_wp2_with (go_at_call 26; refine (rat_any q n _ _ _ _ _ h').mono ?_; rintro e w1 ⟨rfl, rfl⟩; rw [HA.out])
  refine bodyPost_ret (v := .tuple #[.int .i64 0, .agg #[.int .i8 0, .int .i64 0, .int .u64 0], .int .i64 4]) (by simp [results, Try.results16, go_sem]) rfl ⟨rfl, ?_⟩
  exact ba (Below.refl _ _) _
theorem rfirst_some (q n : Nat) (L : List Rp) (v : Value) (F : Nat → Prop) (c : Int) (w : World) (h : Rc w q n L v F) (hh : hasB n c = true) (x : Rp) (ha : atL L c < L.length) (hx : L[atL L c]? = some x) : Calls Try.prog 16 #[.pointer (some ⟨q, 0, none⟩), .int .i64 c] w fun e w' => e = .returned (.tuple #[.int .i64 x.s, .agg #[.int .i8 x.k, .int .i64 x.a, .int .u64 x.p], .int .i64 0]) ∧ Below w.heap.size w w' := by
  have h' := h.alloc (.cells #[.int .i8 0, .int .i64 0, .int .u64 0] 35)
  have h0' := h'.cell0
  have HA := Lib.hid (show atI L c = (atL L c : Nat) by unfold atI; rw [if_pos ha])
  obtain ⟨h1, h2⟩ := (hasB_iff _ _).1 hh
  obtain ⟨O, cap, hv, hl, hm, hR⟩ := h'.form
  have c1 := h'.cell1
  rw [hv] at c1
  have hln := h.len
  have hqb := h.blt
  obtain ⟨g, cap2, hv2, -, hg, -, -⟩ := h.row.head (by omega)
  generalize atL L c = m at *
  obtain ⟨b, off, hO, hcell⟩ := hR (by omega)
  subst hO
  rw [hv] at hv2
  simp only [Value.slice.injEq, Option.some.injEq, Addr.mk.injEq, and_true] at hv2
  obtain ⟨⟨rfl, rfl⟩, -, rfl⟩ := hv2
  have q1 := hcell m x hx 1 _ rfl
  have q2 := hcell m x hx 2 _ rfl
  have q3 := hcell m x hx 3 _ rfl
  have q4 := hcell m x hx 4 _ rfl
  have hml : (m : Int) < L.length := by omega
  have hm0 : ¬ (m : Int) < 0 := by omega
  simp only [Nat.zero_add] at q1 q2 q3 q4
  clear hh hcell hx hR hv
  go_enter Try.func16, Try.ntmps16
  go_wp2_with (go_at_call 26; refine (rat_any q n _ _ _ _ _ h').mono ?_; rintro e w1 ⟨rfl, rfl⟩; rw [HA.out])
  go_region
  go_wp2_with fail
  refine bodyPost_ret (v := .tuple #[.int .i64 x.s, .agg #[.int .i8 x.k, .int .i64 x.a, .int .u64 x.p], .int .i64 0]) (by simp [results, Try.results16, go_sem]) rfl ⟨rfl, ?_⟩
  exact bd (ba (Below.refl _ _) _)
theorem rfirst_any (q n : Nat) (L : List Rp) (v : Value) (F : Nat → Prop) (c : Int) (w : World) (h : Rc w q n L v F) : Calls Try.prog 16 #[.pointer (some ⟨q, 0, none⟩), .int .i64 c] w fun e w' => e = .returned (.tuple #[.int .i64 (rfP n L c).s, .agg #[.int .i8 (rfP n L c).k, .int .i64 (rfP n L c).a, .int .u64 (rfP n L c).p], .int .i64 (rfE n L c)]) ∧ Below w.heap.size w w' := by
  rcases hh : hasB n c with _ | _
  · have := rfirst_out q n L v F c w h hh
    simpa [rfP, rfE, hh, zR] using this
  · by_cases ha : atL L c < L.length
    · have hx : L[atL L c]? = some (L.getD (atL L c) zR) := by
        rw [List.getD_eq_getElem?_getD, List.getElem?_eq_getElem ha]; rfl
      have := rfirst_some q n L v F c w h hh _ ha hx
      have e1 : rfP n L c = L.getD (atL L c) zR := by simp only [rfP, hh, if_true, if_pos ha]
      have e2 : rfE n L c = 0 := by simp only [rfE, hh, if_true, if_pos ha]
      rw [e1, e2]
      exact this
    · have := rfirst_none q n L v F c w h hh ha
      have e1 : rfP n L c = zR := by simp only [rfP, hh, if_true, if_neg ha]
      have e2 : rfE n L c = 4 := by simp only [rfE, hh, if_true, if_neg ha]
      rw [e1, e2]
      exact this
/-- Is one of the others full? -/
def fullL (n : Nat) (L : List Rp) (c : Int) : Bool := (List.range n).any fun k => decide ((k : Int) + 1 ≠ c ∧ 16 ≤ cntL L ((k : Int) + 1))
theorem fullL_iff (n : Nat) (L : List Rp) (c : Int) : fullL n L c = true ↔ ∃ k, k < n ∧ (k : Int) + 1 ≠ c ∧ 16 ≤ cntL L ((k : Int) + 1) := by
  simp [fullL]
/-- The pairs when the first m cores have had it. -/
def addK (L : List Rp) (x : Pr) : Nat → List Rp
  | 0 => L
  | m + 1 => if (m : Int) + 1 = x.s then addK L x m else addK L x m ++ [⟨(m : Int) + 1, x.s, x.k, x.a, x.p⟩]
theorem addK_len (L : List Rp) (x : Pr) : ∀ m, (addK L x m).length ≤ L.length + m
  | 0 => by simp [addK]
  | m + 1 => by
    have := addK_len L x m
    unfold addK
    split
    · omega
    · simp; omega
def rlE (n : Nat) (L : List Rp) (s : Int) : Int := if fullL n L s then 20 else 0
def rlL (n : Nat) (L : List Rp) (x : Pr) : List Rp := if fullL n L x.s then L else addK L x n
theorem rlE_yes {n : Nat} {L : List Rp} {s : Int} (h : fullL n L s = true) : rlE n L s = 20 := by simp [rlE, h]
theorem rlE_no {n : Nat} {L : List Rp} {s : Int} (h : fullL n L s = false) : rlE n L s = 0 := by simp [rlE, h]
theorem rlL_yes {n : Nat} {L : List Rp} {x : Pr} (h : fullL n L x.s = true) : rlL n L x = L := by simp [rlL, h]
theorem rlL_no {n : Nat} {L : List Rp} {x : Pr} (h : fullL n L x.s = false) : rlL n L x = addK L x n := by simp [rlL, h]
def rsE (n : Nat) (L : List Rp) (x : Pr) : Int := if hasB n x.s && mayB x.k x.a x.p then rlE n L x.s else 2
def rsL (n : Nat) (L : List Rp) (x : Pr) : List Rp := if hasB n x.s && mayB x.k x.a x.p then rlL n L x else L
theorem rPairInfo : (Try.prog.info? 57).map (fun i => (i.zero, i.size, i.bytes)) = some (some (.agg #[.int .i64 0, .int .i64 0, .int .i8 0, .int .i64 0, .int .u64 0]), 5, 40) := by kernel_rfl
set_option maxHeartbeats 1000000 in
theorem rsend_bad (q n : Nat) (L : List Rp) (v : Value) (F : Nat → Prop) (x : Pr) (w : World) (h : Rc w q n L v F) (hx : (hasB n x.s && mayB x.k x.a x.p) = false) : Calls Try.prog 14 #[.pointer (some ⟨q, 0, none⟩), .int .i64 x.s, .agg #[.int .i8 x.k, .int .i64 x.a, .int .u64 x.p]] w fun e w' => e = .returned (.int .i64 2) ∧ Below w.heap.size w w' := by
  obtain ⟨s, k, a, p⟩ := x
  simp only at hx ⊢
  have h0 := (h.alloc (.cells #[.int .i8 k, .int .i64 a, .int .u64 p] 35)).cell0
  rcases hh : hasB n s with _ | _
  · rcases hasB_no hh with h1 | ⟨h1, h2⟩
    · clear hh hx
      go_enter Try.func14, Try.ntmps14
      go_wp2_with fail
      go_ret
      exact ⟨rfl, ba (Below.refl _ _) _⟩
    · clear hh hx
      have h1' : ¬ s < 1 := by omega
      go_enter Try.func14, Try.ntmps14
      go_wp2_with fail
      go_ret
      exact ⟨rfl, ba (Below.refl _ _) _⟩
  · have HM := Lib.hid (show mayB k a p = false by simpa [hh] using hx)
    obtain ⟨h1, h2⟩ := (hasB_iff _ _).1 hh
    clear hh hx
    go_enter Try.func14, Try.ntmps14
    go_wp2_with (go_at_call 25; refine (rmay_any _ _ _ _).mono ?_; rintro e w1 ⟨rfl, hb1⟩; rw [HM.out])
    go_ret
    exact ⟨rfl, bthen (ba (Below.refl _ _) _) hb1⟩
set_option maxHeartbeats 4000000 in
set_option maxRecDepth 100000 in
theorem rsend_good (q n : Nat) (L : List Rp) (v : Value) (F : Nat → Prop) (x : Pr) (w : World) (h : Rc w q n L v F) (hh : hasB n x.s = true) (hm : mayB x.k x.a x.p = true) (hlen : L.length ≤ 900) :
    Calls Try.prog 14 #[.pointer (some ⟨q, 0, none⟩), .int .i64 x.s, .agg #[.int .i8 x.k, .int .i64 x.a, .int .u64 x.p]] w fun e w' => ∃ v' F', e = .returned (.int .i64 (rlE n L x.s)) ∧ Rc w' q n (rlL n L x) v' F' ∧ Keeps F w w' ∧ ∀ g, F' g → F g ∨ w.heap.size ≤ g := by
  obtain ⟨s, k0, a, p⟩ := x
  simp only at hh hm ⊢
  have h' := h.alloc (.cells #[.int .i8 k0, .int .i64 a, .int .u64 p] 35)
  have h0 := h'.cell0
  have hA := Arr.new w #[.int .i8 k0, .int .i64 a, .int .u64 p] 35
  have HM := Lib.hid hm
  have hn8 := h.n8
  obtain ⟨hs1, hs2⟩ := (hasB_iff _ _).1 hh
  have HLT := Lib.hid h.lt
  obtain ⟨i0, hi, hz0, hz1, hz2⟩ := info_parts rPairInfo
  clear hh hm
  go_enter Try.func14, Try.ntmps14
  go_upto_region 3 with (go_at_call 25; refine (rmay_any _ _ _ _).mono ?_; rintro e w1 ⟨rfl, hb1⟩; rw [HM.out])
  refine (show ∀ W : World, Rc W q n L v F → Arr W w.heap.size [.int .i8 k0, .int .i64 a, .int .u64 p] → Below w.heap.size w W → Code.wp _ _ _ _ W from fun W hC hA hB => ?_) _ (h'.call hb1) (hA.call hb1) (bthen (ba (Below.refl _ _) _) hb1)
  clear h' hb1
  generalize hT : w.heap.size = T at *
  have hT0 : T < W.heap.size := hA.lt
  have c0 := hC.cell0
  have HC := Lib.hid hC
  have HA := Lib.hid hA
  have HB := Lib.hid hB
  clear hC hA hB h0 h
  go_wp2_with fail
  go_loop [7] (fun i => ∃ k : Nat, i = .int .i64 ((k : Int) + 1) ∧ k ≤ n ∧ ∀ j, j < k → ¬ ((j : Int) + 1 ≠ s ∧ 16 ≤ cntL L ((j : Int) + 1))) (fun i => n + 1 - (intOf i).toNat)
  case atStart => exact ⟨0, rfl, by omega, fun j hj => by omega⟩
  case round =>
    obtain ⟨k, rfl, hk, hq⟩ := hrel
    have HQ := Lib.hid hq
    clear hq
    by_cases hlt : k < n
    · by_cases hs3 : (k : Int) + 1 = s
      · go_wp2_with fail
        go_round
        case rel => exact ⟨k + 1, by go_num, by omega, fun j hj => by
            by_cases e : j < k
            · exact HQ.out j e
            · obtain rfl : j = k := by omega
              exact fun h => h.1 hs3⟩
        case measure => simp [intOf]; omega
      · have hn1 : ((k : Int) + 1 != s) = true := by simpa using hs3
        have hcl := cntL_le L ((k : Int) + 1)
        by_cases hf : 16 ≤ cntL L ((k : Int) + 1)
        · have HF := Lib.hid (show fullL n L s = true from (fullL_iff _ _ _).2 ⟨k, hlt, hs3, hf⟩)
          have hn2 : (16 : Int) ≤ (cntL L ((k : Int) + 1) : Int) := by omega
          go_wp2_with (go_at_call 18; refine (rwaits_any q n _ _ _ _ _ HC.out).mono ?_; rintro e w1 ⟨rfl, rfl⟩)
          go_ret
          rw [rlE_yes HF.out, rlL_yes (x := ⟨s, k0, a, p⟩) HF.out]
          exact ⟨v, F, rfl, HC.out, Keeps.of_below (F := F) (hT ▸ HB.out), fun g hg => Or.inl hg⟩
        · have hn2 : ¬ (16 : Int) ≤ (cntL L ((k : Int) + 1) : Int) := by omega
          go_wp2_with (go_at_call 18; refine (rwaits_any q n _ _ _ _ _ HC.out).mono ?_; rintro e w1 ⟨rfl, rfl⟩)
          go_round
          case rel => exact ⟨k + 1, by go_num, by omega, fun j hj => by
              by_cases e : j < k
              · exact HQ.out j e
              · obtain rfl : j = k := by omega
                exact fun h => hf h.2⟩
          case measure => simp [intOf]; omega
    · obtain rfl : n = k := by omega
      go_wp2_with fail
      have HF := Lib.hid (show fullL n L s = false by
        rw [Bool.eq_false_iff]
        intro h
        obtain ⟨j, h1, h2, h3⟩ := (fullL_iff _ _ _).1 h
        exact HQ.out j h1 ⟨h2, h3⟩)
      clear HQ
      go_loopw [8] (fun i wr => ∃ (k : Nat) (v' : Value) (F' : Nat → Prop), i = .int .i64 ((k : Int) + 1) ∧ k ≤ n ∧ Rc wr q n (addK L ⟨s, k0, a, p⟩ k) v' F' ∧ Keeps F W wr ∧ (∀ g, F' g → F g ∨ W.heap.size ≤ g)) (fun i _ => n + 1 - (intOf i).toNat)
      case atStart => exact ⟨0, v, F, rfl, by omega, HC.out, Keeps.refl _ _, fun g hg => Or.inl hg⟩
      case round =>
        obtain ⟨k, v', F', rfl, hk, hc, hkp, hF'⟩ := hrel
        have hq0 := hc.cell0
        have HC2 := Lib.hid hc
        have HK2 := Lib.hid hkp
        have HF2 := Lib.hid hF'
        clear hc hkp hF' c0
        by_cases hlt : k < n
        · by_cases hs3 : (k : Int) + 1 = s
          · have HAK := Lib.hid (show addK L ⟨s, k0, a, p⟩ (k + 1) = addK L ⟨s, k0, a, p⟩ k by simp [addK, hs3])
            go_wp2_with fail
            go_roundw
            case rel => exact ⟨k + 1, v', F', by go_num, by omega, by rw [HAK.out]; exact HC2.out, HK2.out, HF2.out⟩
            case measure => simp [intOf]; omega
          · have hn1 : ((k : Int) + 1 != s) = true := by simpa using hs3
            have HAK := Lib.hid (show addK L ⟨s, k0, a, p⟩ (k + 1) = addK L ⟨s, k0, a, p⟩ k ++ [⟨(k : Int) + 1, s, k0, a, p⟩] by simp [addK, hs3])
            obtain ⟨O, cap, hv, hl, hmx, -⟩ := HC2.out.form
            have c1 := HC2.out.cell1
            rw [hv] at c1
            have f1 := HC2.out.fr 1
            have hbT : ¬ F T := fun hf => by have := HLT.out T hf; omega
            have d5 := HA.out.keep HK2.out hbT
            have z0 := d5.cell 0 _ rfl
            have z1 := d5.cell 1 _ rfl
            have z2 := d5.cell 2 _ rfl
            have hTr : T < wr.heap.size := d5.lt
            have hqr : q < wr.heap.size := HC2.out.blt
            have hlk := addK_len L ⟨s, k0, a, p⟩ k
            generalize addK L ⟨s, k0, a, p⟩ k = LK at *
            have hB2 : Below wr.heap.size wr (wr.drew.alloc (.cells #[.int .i64 ((k : Int) + 1), .int .i64 s, .int .i8 k0, .int .i64 a, .int .u64 p] 57)) := (Below.refl _ wr).drew.alloc (Nat.le_refl _) _
            have HCD := Lib.hid (HC2.out.call hB2)
            have hOW := HCD.out.row
            rw [hv] at hOW
            have HOW := Lib.hid hOW
            have HN := Lib.hid (show ∀ (j : Nat) (u : Value), (encR ⟨(k : Int) + 1, s, k0, a, p⟩)[j]? = some u → (wr.drew.alloc (.cells #[.int .i64 ((k : Int) + 1), .int .i64 s, .int .i8 k0, .int .i64 a, .int .u64 p] 57)).cell? ⟨wr.heap.size, j, none⟩ = some u from fun j u hu => (Arr.new wr.drew #[.int .i64 ((k : Int) + 1), .int .i64 s, .int .i8 k0, .int .i64 a, .int .u64 p] 57).cell j u hu)
            have HP := Lib.hid (show q < (wr.drew.alloc (.cells #[.int .i64 ((k : Int) + 1), .int .i64 s, .int .i8 k0, .int .i64 a, .int .u64 p] 57)).heap.size ∧ (¬ (Value.slice O LK.length cap).ownBlock = some q) ∧ (wr.drew.alloc (.cells #[.int .i64 ((k : Int) + 1), .int .i64 s, .int .i8 k0, .int .i64 a, .int .u64 p] 57)).cell? ⟨q, 1, none⟩ = some (.slice O LK.length cap) ∧ (wr.drew.alloc (.cells #[.int .i64 ((k : Int) + 1), .int .i64 s, .int .i8 k0, .int .i64 a, .int .u64 p] 57)).frozen? ⟨q, 1, none⟩ = false from ⟨HCD.out.blt, by rw [← hv]; exact HCD.out.off, by rw [HCD.out.cell1, hv], HCD.out.fr _⟩)
            have HV := Lib.hid hv
            have hlk2 : LK.length ≤ 100000 := by omega
            clear hOW hv d5 hB2 f1
            go_wp2_with fail
            go_region_law ((refine step_app_at (enc := encR) (k := 5) (by rfl) _ _ 51 (by rfl) 57 i0 _ 40 Try.underlying51 hi hz0 hz1 hz2 (by rfl) (by omega) encR_len encR_one (.slice O LK.length cap) LK (by rfl) (by exact HOW.out) ⟨(k : Int) + 1, s, k0, a, p⟩ wr.heap.size (by rfl) (by exact HN.out) (by omega) (by omega) ?_; intro v' w' o1 o2 o3; obtain ⟨g', cap', rfl, -, -, -, -⟩ := o1.head (by simp); have o1b : Ow encR 5 57 w' 0 (.slice (some ⟨g', 0, none⟩) (LK.length + 1) cap') (LK ++ [⟨(k : Int) + 1, s, k0, a, p⟩]) := (by rw [List.length_append] at o1; exact o1); have HO1 := Lib.hid o1b; have HO2 := Lib.hid (Keeps.grownV o2); have HO3 := Lib.hid o3; clear o1 o1b o2 o3; have c2 : w'.cell? ⟨q, 1, none⟩ = some (.slice O LK.length cap) := (HO2.out.cell HP.out.1 HP.out.2.1 _).trans HP.out.2.2.1; have f2 : w'.frozen? ⟨q, 1, none⟩ = false := (World.frozen?_of_block (a := ⟨q, 1, none⟩) (HO2.out.block q HP.out.1 HP.out.2.1)).trans HP.out.2.2.2))
            all_goals
              have hT3 := HCD.out.turned HO1.out (HO2.out.mono (fun y hy => by rw [HV.out]; exact hy)) (by simp; omega) (fun y hy => by rw [HV.out]; exact HO3.out y hy)
              have HT1 := Lib.hid hT3.1
              have HT2 := Lib.hid (show Keeps F W _ from ((HK2.out.drew.alloc (.cells #[.int .i64 ((k : Int) + 1), .int .i64 s, .int .i8 k0, .int .i64 a, .int .u64 p] 57)).trans hT3.2 (fun y hy => HF2.out y hy)))
              have HSZ := Lib.hid HK2.out.size
              clear hT3 c2 f2 HO1 HO2 HO3 HP HN HOW HCD
              go_wp2_with fail
              go_roundw
              case rel => exact ⟨k + 1, _, _, by go_num, by omega, by rw [HAK.out]; exact HT1.out, HT2.out, fun g hg => by
                have hsz := HSZ.out
                rcases hg with hg | ⟨hg, -⟩
                · exact HF2.out g hg
                · rw [World.size_alloc] at hg
                  have : wr.heap.size + 1 ≤ g := hg
                  exact Or.inr (by omega)⟩
              case measure => simp [intOf]; omega
        · obtain rfl : n = k := by omega
          go_wp2_with fail
          go_ret
          rw [rlE_no HF.out, rlL_no (x := ⟨s, k0, a, p⟩) HF.out]
          exact ⟨v', F', rfl, HC2.out, (Keeps.of_below (F := F) (hT ▸ HB.out)).trans HK2.out (fun x hx => Or.inl hx), fun g hg => (HF2.out g hg).imp id (fun h => by omega)⟩
end Go.Proofs.Ytokmcelmodoeoaa
