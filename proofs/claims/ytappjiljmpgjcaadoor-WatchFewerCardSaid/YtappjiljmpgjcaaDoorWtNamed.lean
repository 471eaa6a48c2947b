/-
  Layer 29: named: the frames that all TLBs name.
-/
import Derived.Test.YtappjiljmpgjcaaDoorWtGreat
namespace Go.Proofs.YtappjiljmpgjcaaDoor
open Go.RowKit Go.Maps
set_option linter.unusedVariables false
set_option linter.unusedSimpArgs false
/-- What one more entry makes of them. -/
def nmStep (on : Int → Int → Option (Int × Int)) (x : Tl) : Int → Int → Option (Int × Int) := fun a p =>
  if a = x.a ∧ p = x.p then
    match on a p with
    | none => some (x.f, 0)
    | some (f, o) => if f = x.f then some (f, o) else some (f, o + 1)
  else on a p
def nmL (l : List Tl) : Int → Int → Option (Int × Int) := l.foldl nmStep fun _ _ => none
theorem nmL_snoc (l : List Tl) (x : Tl) : nmL (l ++ [x]) = nmStep (nmL l) x := by simp [nmL]
theorem snoc_ind {α : Type} {P : List α → Prop} (h0 : P []) (h1 : ∀ l x, P l → P (l ++ [x])) : ∀ l, P l := fun l => by
  rw [← List.reverse_reverse l]
  induction l.reverse with
  | nil => exact h0
  | cons x t ih => rw [List.reverse_cons]; exact h1 _ _ ih
theorem nmL_bound (l : List Tl) : ∀ a p f o, nmL l a p = some (f, o) → 0 ≤ o ∧ o ≤ l.length := by
  revert l
  refine snoc_ind ?_ ?_
  · intro a p f o h; simp [nmL] at h
  · intro l x ih a p f o h
    rw [nmL_snoc] at h
    simp only [nmStep] at h
    simp only [List.length_append, List.length_cons, List.length_nil]
    split at h
    · split at h
      · simp only [Option.some.injEq, Prod.mk.injEq] at h; omega
      · rename_i f' o' e
        have := ih a p f' o' e
        split at h <;> simp only [Option.some.injEq, Prod.mk.injEq] at h <;> omega
    · have := ih a p f o h; omega
def fcV (q : Int × Int) : Value := .agg #[.int .i64 q.1, .int .i64 q.2]
def NmM (w : World) (M : Nat) (l : List Tl) : Prop := ∃ on, Mp 77 w M l.length on ∧ ∀ a p, I64 a → U64 p → on (.agg #[.int .i64 a, .int .u64 p]) = (nmL l a p).map fcV
theorem NmM.call {w w' : World} {M : Nat} {l : List Tl} (h : NmM w M l) (hb : Below w.heap.size w w') : NmM w' M l := let ⟨on, h1, h2⟩ := h; ⟨on, h1.call hb, h2⟩
theorem NmM.keep {w w' : World} {M : Nat} {l : List Tl} {F : Nat → Prop} (h : NmM w M l) (hk : Keeps F w w') (hM : ¬ F M) : NmM w' M l := let ⟨on, h1, h2⟩ := h; ⟨on, h1.keep hk hM, h2⟩
theorem zFrames (w : World) : (zeroValue 75).run Tryd.prog w = .ok (.agg #[.int .i64 0, .int .i64 0]) w := by kernel_rfl
theorem NmM.look_ok {w : World} {M : Nat} {l : List Tl} (h : NmM w M l) {a p : Int} (ha : I64 a) (hp : U64 p) :
    (Instr.lookup 69 (.map (some M)) (.agg #[.int .i64 a, .int .u64 p]) true).run Tryd.prog w = .ok (.tuple #[fcV ((nmL l a p).getD (0, 0)), .bool (nmL l a p).isSome]) w := by
  obtain ⟨on, h1, h2⟩ := h
  obtain ⟨k, hk⟩ := key_where ha hp
  rw [h1.look_ok kWhere Tryd.underlying69 (zFrames w) hk, h2 a p ha hp]
  cases nmL l a p <;> rfl
theorem NmM.look {w : World} {M : Nat} {l : List Tl} (h : NmM w M l) {a p : Int} (ha : I64 a) (hp : U64 p) :
    (Instr.lookup 69 (.map (some M)) (.agg #[.int .i64 a, .int .u64 p]) false).run Tryd.prog w = .ok (fcV ((nmL l a p).getD (0, 0))) w := by
  obtain ⟨on, h1, h2⟩ := h
  obtain ⟨k, hk⟩ := key_where ha hp
  rw [h1.look kWhere Tryd.underlying69 (zFrames w) hk, h2 a p ha hp]
  cases nmL l a p <;> rfl
theorem NmM.put {w : World} {M : Nat} {l : List Tl} (h : NmM w M l) (x : Tl) (ha : I64 x.a) (hp : U64 x.p) (hl : l.length < 100000) (q : Int × Int) (hq : nmStep (nmL l) x x.a x.p = some q) :
    ∃ w', (Instr.mapUpdate 69 (.map (some M)) (.agg #[.int .i64 x.a, .int .u64 x.p]) (fcV q)).run Tryd.prog w = .ok () w' ∧ NmM w' M (l ++ [x]) ∧ Keeps (fun y => y = M) w w' := by
  obtain ⟨on, h1, h2⟩ := h
  obtain ⟨k, hk⟩ := key_where ha hp
  obtain ⟨w', hst, hm, hkk⟩ := h1.put kWhere Tryd.underlying69 hk (fcV q) hl
  refine ⟨w', hst, ⟨_, by rw [List.length_append]; exact hm, fun a p ha' hp' => ?_⟩, hkk⟩
  rw [nmL_snoc]
  by_cases e : a = x.a ∧ p = x.p
  · obtain ⟨rfl, rfl⟩ := e
    rw [updV_same, hq]
    rfl
  · rw [updV_other _ _ (fun e' => e (by injection e' with e'; simp at e'; exact e')), h2 a p ha' hp']
    simp only [nmStep, if_neg e]
theorem NmM.skip {w : World} {M : Nat} {l : List Tl} (h : NmM w M l) (x : Tl) (hq : nmStep (nmL l) x x.a x.p = nmL l x.a x.p) : NmM w M (l ++ [x]) := by
  obtain ⟨on, h1, h2⟩ := h
  refine ⟨on, h1.more (by simp), fun a p ha hp => ?_⟩
  rw [h2 a p ha hp, nmL_snoc]
  by_cases e : a = x.a ∧ p = x.p
  · obtain ⟨rfl, rfl⟩ := e
    rw [hq]
  · simp only [nmStep, if_neg e]
/-- The entries of the first k cores. -/
def entsK (cl : List Co) (k : Nat) : List Tl := ((cl.take k).drop 1).flatMap (·.tl)
def ents (cl : List Co) : List Tl := (cl.drop 1).flatMap (·.tl)
theorem entsK_all (cl : List Co) : entsK cl cl.length = ents cl := by simp [entsK, ents]
theorem entsK_one (cl : List Co) : entsK cl 1 = [] := by cases cl <;> simp [entsK]
theorem entsK_succ {cl : List Co} {k : Nat} {x : Co} (hx : cl[k]? = some x) (hk : 0 < k) : entsK cl (k + 1) = entsK cl k ++ x.tl := by
  unfold entsK
  rw [List.take_add_one, hx, List.drop_append_of_le_length (by have := (List.getElem?_eq_some_iff.1 hx).1; simp; omega)]
  simp
theorem ents_given {w : World} {cl : List Co} (h : ∀ c ∈ cl, c.Given w) (k : Nat) : ∀ x ∈ entsK cl k, x.Given w := by
  intro x hx
  simp only [entsK, List.mem_flatMap] at hx
  obtain ⟨c, hc, hx⟩ := hx
  exact (h c (List.mem_of_mem_take (List.mem_of_mem_drop hc))).gtall x hx
theorem entsK_len {cl : List Co} (h : ∀ c ∈ cl, c.tl.length ≤ 10) : ∀ k, (entsK cl k).length ≤ 10 * k := by
  intro k
  induction k with
  | zero => simp [entsK]
  | succ k ih =>
    cases e : cl[k]? with
    | none =>
      have := List.getElem?_eq_none_iff.1 e
      rw [show entsK cl (k + 1) = entsK cl k by unfold entsK; rw [List.take_of_length_le (by omega), List.take_of_length_le (by omega)]]
      omega
    | some x =>
      by_cases hk : 0 < k
      · rw [entsK_succ e hk, List.length_append]
        have := h x (List.mem_of_getElem? e)
        omega
      · obtain rfl : k = 0 := by omega
        rw [entsK_one]
        simp
set_option maxRecDepth 100000 in
set_option maxHeartbeats 2000000 in
theorem named_any (s : Sn) (w : World) (hs : s.Given w) (hm : Sml s) : Calls Tryd.prog 16 #[snA s] w fun e w' => e = .returned (.map (some (w.heap.size + 1))) ∧ NmM w' (w.heap.size + 1) (ents s.cl) ∧ Below w.heap.size w w' := by
  have HS := Lib.hid hs
  have hcl : s.cl.length ≤ 6 := hm.ncl
  have HM := Lib.hid hm
  have hbk := (Bk.new w 26 (snR s)).call (ba (Below.refl _ _) (.map #[] 0))
  have hmm0 := Mp.made 77 (w.alloc (.cells (snR s) 26))
  rw [World.size_alloc] at hmm0
  have hmm := @run_makeMap Tryd.prog
  clear hs hm
  go_enter Tryd.func16, Tryd.ntmps16
  go_upto_region 2 with fail
  refine (show ∀ W1 : World, Below w.heap.size w W1 → Bk W1 w.heap.size 26 (snR s) → NmM W1 (w.heap.size + 1) (entsK s.cl 1) → Code.wp _ _ _ _ W1 from fun W1 hb1 h1 hnm => ?_) _ (ba (ba (Below.refl _ _) _) _) hbk (by rw [entsK_one]; exact ⟨_, hmm0, fun a p _ _ => by simp [nmL]⟩)
  clear hbk hmm0 hmm
  have x0 : W1.cell? ⟨w.heap.size, 0, none⟩ = some (.slice s.cO s.cl.length s.cc) := h1.cell 0
  have HB := Lib.hid hb1
  have HN := Lib.hid hnm
  clear hb1 h1 hnm
  obtain ⟨M, hM⟩ : ∃ M, M = w.heap.size + 1 := ⟨_, rfl⟩
  rw [← hM]
  rw [← hM] at HN
  have HME := Lib.hid hM
  have HMM := Lib.hid (show w.heap.size ≤ M by omega)
  clear hM
  go_wp2_with fail
  clear x0
  go_loopw [15] (fun i wr => ∃ k : Nat, k ≤ s.cl.length ∧ i = .int .i64 k ∧ NmM wr M (entsK s.cl (max k 1)) ∧ Below w.heap.size w wr) (fun i _ => s.cl.length - (intOf i).toNat)
  case atStart => exact ⟨0, by omega, rfl, HN.out, HB.out⟩
  case round =>
    clear HN HB
    obtain ⟨k, hk, rfl, hN, hB⟩ := hrel
    have HN := Lib.hid hN
    have HB := Lib.hid hB
    clear hN hB
    by_cases hlt : k < s.cl.length
    · obtain ⟨x, hx⟩ : ∃ x, s.cl[k]? = some x := ⟨_, List.getElem?_eq_getElem hlt⟩
      obtain ⟨b, off, hO, hrg⟩ := rk_range HS.out.gc HB.out hx
      have HX := Lib.hid hx
      have HGv := Lib.hid (HS.out.gcall x (List.mem_of_getElem? hx))
      have htl : x.tl.length ≤ 10 := (HM.out.nt x (List.mem_of_getElem? hx)).1
      have HR := Lib.hid hrg
      have HKz := Lib.hid (Bk.new wr 44 zCo)
      clear hrg hx
      rw [hO]
      go_upto_region 5 with (first | refine get_Co rfl _ rfl b (off + k * 28) x rfl HR.out ?_ | refine box_Co rfl _ _ rfl wr.heap.size x _ rfl rfl HKz.out rfl ?_)
      refine (show ∀ W8 : World, Below wr.heap.size wr W8 → Bk W8 wr.heap.size 44 (coC x).toArray → Code.wp _ _ _ _ W8 from fun W8 hb8 hk8 => ?_) _ (brow (ba (Below.refl _ _) _) (Nat.le_refl _) _) (HKz.out.row _)
      have HB8 := Lib.hid (bthen HB.out hb8)
      have HN8 := Lib.hid (HN.out.call hb8)
      have q15 : W8.cell? ⟨wr.heap.size, 15, none⟩ = some (.slice x.tO x.tl.length x.tc) := hk8.cell 15
      clear hb8 hk8 HKz HR HB HN
      by_cases k0 : k = 0
      · subst k0
        go_wp2_with fail
        go_roundw
        case rel => exact ⟨1, by omega, by go_num, HN8.out, HB8.out⟩
        case measure => simp [intOf]; omega
      · have kb0 : ((k : Int) == 0) = false := by simp; omega
        go_wp2_with fail
        clear q15
        generalize wr.heap.size = X at *
        obtain ⟨W9, rfl⟩ : ∃ W9 : World, W9 = W8 := ⟨_, rfl⟩
        have HN9 := Lib.hid (show NmM W9 M (entsK s.cl k) by have := HN8.out; rwa [show max k 1 = k by omega] at this)
        clear HN8
        go_loopw [25] (fun i wq => ∃ m : Nat, m ≤ x.tl.length ∧ i = .int .i64 m ∧ NmM wq M (entsK s.cl k ++ x.tl.take m) ∧ Below w.heap.size w wq) (fun i _ => x.tl.length - (intOf i).toNat)
        case atStart => exact ⟨0, by omega, rfl, by simpa using HN9.out, HB8.out⟩
        case round =>
          clear HN9 HB8
          obtain ⟨m, hm, rfl, hN, hB⟩ := hrel
          have HN := Lib.hid hN
          have HB := Lib.hid hB
          clear hN hB
          by_cases hlt2 : m < x.tl.length
          · obtain ⟨y, hy⟩ : ∃ y, x.tl[m]? = some y := ⟨_, List.getElem?_eq_getElem hlt2⟩
            obtain ⟨tb, tof, hO2, hrg⟩ := rk_range HGv.out.gt (show Below w.heap.size w _ from HB.out) hy
            have HY := Lib.hid (HGv.out.gtall y (List.mem_of_getElem? hy))
            have HT := Lib.hid (show x.tl.take (m + 1) = x.tl.take m ++ [y] by rw [List.take_add_one, hy]; rfl)
            have HR := Lib.hid hrg
            have HKz := Lib.hid (Bk.new wr 62 zTl)
            clear hrg hy
            rw [hO2]
            go_upto_region 9 with (first | refine get_Tl rfl _ rfl tb (tof + m * 4) y rfl HR.out ?_ | refine box_Tl rfl _ _ rfl wr.heap.size y _ rfl rfl HKz.out rfl ?_)
            refine (show ∀ W8 : World, Below wr.heap.size wr W8 → Bk W8 wr.heap.size 62 (tlC y).toArray → Code.wp _ _ _ _ W8 from fun W8 hb8 hk8 => ?_) _ (brow (ba (Below.refl _ _) _) (Nat.le_refl _) _) (HKz.out.row _)
            have HB8 := Lib.hid (bthen HB.out hb8)
            have HN8 := Lib.hid (HN.out.call hb8)
            generalize wr.heap.size = X2 at *
            have q0 : W8.cell? ⟨X2, 0, none⟩ = some (.int .i64 y.a) := hk8.cell 0
            have q1 : W8.cell? ⟨X2, 1, none⟩ = some (.int .u64 y.p) := hk8.cell 1
            have HK8 := Lib.hid hk8
            have HKw := Lib.hid (Bk.new W8 77 #[.int .i64 y.a, .int .u64 y.p])
            clear hb8 hk8 HKz HR HB HN
            go_upto_region 10 with fail
            refine (show ∀ W10 : World, Below W8.heap.size W8 W10 → Bk W10 W8.heap.size 77 #[.int .i64 y.a, .int .u64 y.p] → Code.wp _ _ _ _ W10 from fun W10 hb10 hk10 => ?_) _ (ba (Below.refl _ _) _) HKw.out
            have HB10 := Lib.hid (bthen HB8.out hb10)
            have HN10 := Lib.hid (HN8.out.call hb10)
            have HK10 := Lib.hid (HK8.out.call hb10)
            have HKW := Lib.hid hk10
            have r0 : W10.cell? ⟨W8.heap.size, 0, none⟩ = some (.int .i64 y.a) := hk10.cell 0
            have r1 : W10.cell? ⟨W8.heap.size, 1, none⟩ = some (.int .u64 y.p) := hk10.cell 1
            clear q0 q1 HKw HK8 HN8 HB8 hb10 hk10
            generalize W8.heap.size = Y at *
            have hlk := HN10.out.look_ok HY.out.ga HY.out.gp
            obtain ⟨l, hl⟩ : ∃ l, l = entsK s.cl k ++ x.tl.take m := ⟨_, rfl⟩
            rw [← hl] at HN10 hlk
            have hll : l.length < 100000 := by
              have h1 := entsK_len (fun c hc => (HM.out.nt c hc).1) k
              have h2 := List.length_take_le m x.tl
              rw [hl, List.length_append]; omega
            have HL := Lib.hid hl
            clear hl
            have HQ := Lib.hid (show ∀ q, nmL l y.a y.p = some q → nmStep (nmL l) y y.a y.p = if q.1 = y.f then some q else some (q.1, q.2 + 1) from fun q hq => by
              obtain ⟨f, o⟩ := q
              simp only [nmStep, and_self, if_true, hq])
            have HQ0 := Lib.hid (show nmL l y.a y.p = none → nmStep (nmL l) y y.a y.p = some (y.f, 0) from fun hq => by
              simp only [nmStep, and_self, if_true, hq])
            have HBd := Lib.hid (show ∀ f o, nmL l y.a y.p = some (f, o) → 0 ≤ o ∧ o ≤ l.length from fun f o h => nmL_bound l _ _ f o h)
            cases hq : nmL l y.a y.p with
            | none =>
              rw [hq] at hlk HQ0
              have hqs := HQ0.out rfl
              have HKf := Lib.hid (Bk.new W10 75 #[.int .i64 0, .int .i64 0])
              simp only [fcV, Option.getD_none, Option.isSome_none] at hlk
              go_upto_region 11 with fail
              refine (show ∀ W11 : World, Below W10.heap.size W10 W11 → Code.wp _ _ _ _ W11 from fun W11 hb11 => ?_) _ (ba (Below.refl _ _) _)
              have HB11 := Lib.hid (bthen HB10.out hb11)
              have HK11 := Lib.hid (HK10.out.call hb11)
              have HKW11 := Lib.hid (HKW.out.call hb11)
              have q2 : W11.cell? ⟨X2, 2, none⟩ = some (.int .i64 y.f) := HK11.out.cell 2
              have r0 : W11.cell? ⟨Y, 0, none⟩ = some (.int .i64 y.a) := HKW11.out.cell 0
              have r1 : W11.cell? ⟨Y, 1, none⟩ = some (.int .u64 y.p) := HKW11.out.cell 1
              obtain ⟨w12, hst, hn12, hk12⟩ := (HN10.out.call hb11).put y HY.out.ga HY.out.gp hll _ hqs
              simp only [fcV] at hst
              have HN12 := Lib.hid hn12
              have HB12 := Lib.hid (hk12.below HB11.out (fun z e => by rw [e]; exact HMM.out))
              clear hb11 hn12 hk12 HN10 hlk HKf hqs
              go_wp2_with fail
              go_roundw
              case rel =>
                refine ⟨m + 1, by omega, by go_num, ?_, HB12.out⟩
                rw [HT.out, ← List.append_assoc, ← HL.out]
                exact HN12.out
              case measure => simp [intOf]; omega
            | some q =>
              obtain ⟨f, o⟩ := q
              rw [hq] at hlk HQ HBd
              obtain ⟨o0, o1⟩ := HBd.out f o rfl
              have hqs := HQ.out (f, o) rfl
              have HKf := Lib.hid (Bk.new W10 75 #[.int .i64 f, .int .i64 o])
              simp only [fcV, Option.getD_some, Option.isSome_some] at hlk
              go_upto_region 11 with fail
              refine (show ∀ W11 : World, Below W10.heap.size W10 W11 → Bk W11 W10.heap.size 75 #[.int .i64 f, .int .i64 o] → Code.wp _ _ _ _ W11 from fun W11 hb11 hf11 => ?_) _ (ba (Below.refl _ _) _) HKf.out
              have HB11 := Lib.hid (bthen HB10.out hb11)
              have HK11 := Lib.hid (HK10.out.call hb11)
              have HKW11 := Lib.hid (HKW.out.call hb11)
              have q2 : W11.cell? ⟨X2, 2, none⟩ = some (.int .i64 y.f) := HK11.out.cell 2
              have r0 : W11.cell? ⟨Y, 0, none⟩ = some (.int .i64 y.a) := HKW11.out.cell 0
              have r1 : W11.cell? ⟨Y, 1, none⟩ = some (.int .u64 y.p) := HKW11.out.cell 1
              have s0 : W11.cell? ⟨W10.heap.size, 0, none⟩ = some (.int .i64 f) := hf11.cell 0
              have s1 : W11.cell? ⟨W10.heap.size, 1, none⟩ = some (.int .i64 o) := hf11.cell 1
              have HN11 := Lib.hid (HN10.out.call hb11)
              clear hb11 hf11 HN10 hlk HKf
              generalize W10.heap.size = Z at *
              by_cases ef : f = y.f
              · have hsk : nmStep (nmL l) y y.a y.p = nmL l y.a y.p := by rw [hqs, hq, if_pos ef]
                have HN12 := Lib.hid (HN11.out.skip y hsk)
                clear hqs HN11 hsk
                have hb2 : (f != y.f) = false := by simp [ef]
                go_wp2_with fail
                go_roundw
                case rel =>
                  refine ⟨m + 1, by omega, by go_num, ?_, HB11.out⟩
                  rw [HT.out, ← List.append_assoc, ← HL.out]
                  exact HN12.out
                case measure => simp [intOf]; omega
              · rw [if_neg ef] at hqs
                obtain ⟨w12, hst, hn12, hk12⟩ := HN11.out.put y HY.out.ga HY.out.gp hll _ hqs
                simp only [fcV] at hst
                have HN12 := Lib.hid hn12
                have HB12 := Lib.hid (hk12.below HB11.out (fun z e => by rw [e]; exact HMM.out))
                clear hn12 hk12 HN11 hqs
                have hb2 : (f != y.f) = true := by simp [ef]
                go_wp2_with fail
                go_roundw
                case rel =>
                  refine ⟨m + 1, by omega, by go_num, ?_, HB12.out⟩
                  rw [HT.out, ← List.append_assoc, ← HL.out]
                  exact HN12.out
                case measure => simp [intOf]; omega
          · obtain rfl : m = x.tl.length := by omega
            go_wp2_with fail
            go_roundw
            case rel =>
              refine ⟨k + 1, by omega, by go_num, ?_, HB.out⟩
              rw [show max (k + 1) 1 = k + 1 by omega, entsK_succ HX.out (by omega)]
              have := HN.out
              rwa [List.take_length] at this
            case measure => simp [intOf]; omega
    · obtain rfl : k = s.cl.length := by omega
      go_wp2_with fail
      go_ret
      refine ⟨by rw [← HME.out]; rfl, ?_, HB.out⟩
      rw [← HME.out, ← entsK_all]
      have := HN.out
      by_cases h0 : s.cl.length = 0
      · rw [h0] at this ⊢
        rwa [show max 0 1 = 1 by rfl, entsK_one] at this
      · rwa [show max s.cl.length 1 = s.cl.length by omega] at this
end Go.Proofs.YtappjiljmpgjcaaDoor
