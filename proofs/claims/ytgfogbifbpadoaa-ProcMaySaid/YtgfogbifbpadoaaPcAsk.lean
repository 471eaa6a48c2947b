/-
  A house's calls, with what it may be; an act.
-/
import Derived.Test.YtgfogbifbpadoaaPcInvE
import Derived.Test.YtgfogbifbpadoaaRcNew
namespace Go.Proofs.Ytgfogbifbpadoaa
open Go.ChangeShapes Go.WideShapes Go.ChangeAt Go.RowKit Go.Deep Go.Maps
set_option linter.unusedVariables false
set_option linter.unusedSimpArgs false
variable {w : World} {W : Nat → Prop} {P M K : Nat} {H : Hs} {c : Int}
/-- A house of c cores that may be. -/
def InvC (c : Int) (H : Hs) : Prop := Inv H ∧ H.cores = c
def Hw (c : Int) (w : World) (W : Nat → Prop) (P M K : Nat) : Prop := ∃ H, Hm w W P M K H ∧ InvC c H
def HWent (c : Int) (w w' : World) (W : Nat → Prop) (P M K : Nat) : Prop := Hw c w' W P M (K + 1) ∧ Keeps (PM P M) w w'
theorem HWent.of {w' : World} {H' : Hs} (h : Went w w' W P M K H') (hi : Inv H') (hc : H'.cores = c) : HWent c w w' W P M K := ⟨⟨H', h.1.more (by omega), hi, hc⟩, h.2⟩
theorem HWent.of' {w' : World} {H' : Hs} (h : Went w w' W P M (K + 1) H') (hi : Inv H') (hc : H'.cores = c) : HWent c w w' W P M K := ⟨⟨H', h.1, hi, hc⟩, h.2⟩
theorem enH_cores (H : Hs) (n : Int) : (enH H n).cores = H.cores := by
  have e1 : ∀ k, (en1 H k).cores = H.cores := fun k => by unfold en1; split <;> rfl
  unfold enH
  split
  · split
    · exact e1 _
    · exact e1 _
  · rfl
theorem sBegin (img pc : Int) (O : Option Addr) (cap : Nat) (l : List Reg) (hi : I64 img) (hp : I64 pc) (h : Hm w W P M K H) (hI : InvC c H) (hR : RegsK w O l) (hcap : l.length ≤ cap) (hwf : ∀ i, i < l.length → (rg l i).wf) :
    Calls Try.prog 18 #[.pointer (some ⟨P, 0, none⟩), .int .i64 img, .slice O l.length cap, .int .i64 pc] w fun e w' => N3P e ∧ HWent c w w' W P M K := by
  refine (pcBegin_any img pc O cap l hi hp h hR hcap hwf).mono ?_
  rintro e w' ⟨hno, hyes⟩
  by_cases h0 : bgE H img pc l = 0
  · obtain ⟨s, t, O', cap', hs, ht, rfl, hw⟩ := hyes h0
    have hpc : 0 ≤ pc := by
      by_cases hx : img < 0 ∨ pc < 0 ∨ chk l = false
      · rw [bgE_arg hx] at h0; simp at h0
      · omega
    exact ⟨⟨_, _, _, rfl⟩, HWent.of hw (hI.1.born hs ht _ _ rfl rfl rfl rfl hpc) hI.2⟩
  · obtain ⟨rfl, hw⟩ := hno h0
    exact ⟨⟨_, _, _, rfl⟩, HWent.of hw hI.1 hI.2⟩
theorem sFork (n : Int) (hn : I64 n) (h : Hm w W P M K H) (hI : InvC c H) :
    Calls Try.prog 13 #[.pointer (some ⟨P, 0, none⟩), .int .i64 n] w fun e w' => N3P e ∧ HWent c w w' W P M K := by
  refine (pcFork_any n hn h hI.1.sp).mono ?_
  rintro e w' ⟨hno, hyes⟩
  by_cases h0 : fkE H n = 0
  · obtain ⟨k, q, s, t, O', cap', rfl, hq, hs, ht, rfl, hw⟩ := hyes h0
    have hl : livesB H k = true := by
      unfold fkE at h0
      split at h0
      · assumption
      · simp at h0
    obtain ⟨k', ek, k1, k8, -, -⟩ := livesB_some hl
    exact ⟨⟨_, _, _, rfl⟩, HWent.of hw (hI.1.born hs ht _ _ rfl rfl rfl rfl (hI.1.pc k (by omega))) hI.2⟩
  · obtain ⟨rfl, hw⟩ := hno h0
    exact ⟨⟨_, _, _, rfl⟩, HWent.of hw hI.1 hI.2⟩
theorem sMore (n pc : Int) (hn : I64 n) (hp : I64 pc) (h : Hm w W P M K H) (hI : InvC c H) :
    Calls Try.prog 19 #[.pointer (some ⟨P, 0, none⟩), .int .i64 n, .int .i64 pc] w fun e w' => NeP e ∧ HWent c w w' W P M K := by
  refine (pcMore_any n pc hn hp h hI.1.sp hI.1.thrOk).mono ?_
  rintro e w' ⟨rfl, hw⟩
  refine ⟨⟨_, _, rfl⟩, HWent.of hw ?_ (by unfold mrH; split <;> exact hI.2)⟩
  unfold mrH
  split
  · rename_i h0
    unfold mrE at h0
    split at h0
    · rename_i hl
      split at h0
      · simp at h0
      · split at h0
        · rename_i hpc hft
          obtain ⟨t, ht⟩ := Option.isSome_iff_exists.1 hft
          obtain ⟨k, rfl, k1, k8, -, -⟩ := livesB_some hl
          obtain ⟨q, hq⟩ := Int.eq_ofNat_of_zero_le (hI.1.sp k (by omega)).1
          rw [ht, Option.getD_some, Int.toNat_natCast, hq, Int.toNat_natCast]
          exact hI.1.more hl hq ht pc (by omega)
        · simp at h0
    · simp at h0
  · exact hI.1
theorem sEnd (n : Int) (hn : I64 n) (h : Hm w W P M K H) (hI : InvC c H) :
    Calls Try.prog 20 #[.pointer (some ⟨P, 0, none⟩), .int .i64 n] w fun e w' => BeP e ∧ HWent c w w' W P M K := by
  refine (pcEnd_any n hn h hI.1.sp hI.1.thrOk hI.1.coreI).mono ?_
  rintro e w' ⟨rfl, hw⟩
  exact ⟨⟨_, _, rfl⟩, HWent.of hw (inv_en hI.1 n) ((enH_cores H n).trans hI.2)⟩
theorem sRun (n co : Int) (hn : I64 n) (hc : I64 co) (h : Hm w W P M K H) (hI : InvC c H) (hK : K < 100000) :
    Calls Try.prog 22 #[.pointer (some ⟨P, 0, none⟩), .int .i64 n, .int .i64 co] w fun e w' => EpP e ∧ HWent c w w' W P M K := by
  refine (pcRun_any n co hn hc h hK).mono ?_
  rintro e w' ⟨rfl, hw⟩
  exact ⟨⟨_, rfl⟩, HWent.of' hw hI.1.run (by unfold rnH; split <;> exact hI.2)⟩
theorem sStop (co : Int) (hc : I64 co) (h : Hm w W P M K H) (hI : InvC c H) :
    Calls Try.prog 21 #[.pointer (some ⟨P, 0, none⟩), .int .i64 co] w fun e w' => NeP e ∧ HWent c w w' W P M K := by
  refine (pcStop_any co hc h hI.1.onOk).mono ?_
  rintro e w' ⟨rfl, hw⟩
  exact ⟨⟨_, _, rfl⟩, HWent.of hw hI.1.stop (by unfold stH; split <;> exact hI.2)⟩
theorem sSetThread (n : Int) (t : Th) (hn : I64 n) (ht : t.wf) (h : Hm w W P M K H) (hI : InvC c H) :
    Calls Try.prog 23 #[.pointer (some ⟨P, 0, none⟩), .int .i64 n, .agg (thC t).toArray] w fun e w' => EpP e ∧ HWent c w w' W P M K := by
  refine (pcSetThread_any n t hn ht h).mono ?_
  rintro e w' ⟨rfl, hw⟩
  exact ⟨⟨_, rfl⟩, HWent.of hw hI.1.setTh (by unfold stTH; split <;> exact hI.2)⟩
theorem sSetSpace (n : Int) (s : Spc) (hn : I64 n) (hs : s.Given w) (h : Hm w W P M K H) (hI : InvC c H) :
    Calls Try.prog 24 #[.pointer (some ⟨P, 0, none⟩), .int .i64 n, .agg (spC s).toArray] w fun e w' => EpP e ∧ HWent c w w' W P M K := by
  refine (pcSetSpace_any n s hn hs h).mono ?_
  rintro e w' ⟨rfl, hno, hyes⟩
  by_cases h0 : ssE H n s = 0
  · obtain ⟨O, cap, hw⟩ := hyes h0
    refine ⟨⟨_, rfl⟩, HWent.of hw (hI.1.setSp ?_) hI.2⟩
    unfold ssE at h0
    split at h0
    · split at h0
      · rename_i hm
        simp only [spMay, Bool.and_eq_true, beq_iff_eq] at hm
        exact hm.1
      · simp at h0
    · simp at h0
  · exact ⟨⟨_, rfl⟩, HWent.of (hno h0) hI.1 hI.2⟩
/-- An act. -/
structure Ac where
  kind : Int
  n : Int
  m : Int
  O : Option Addr
  cap : Nat
  l : List Reg
  T : Th
  S : Spc
def acC (x : Ac) : List Value := .int .i64 x.kind :: .int .i64 x.n :: .int .i64 x.m :: .slice x.O x.l.length x.cap :: (thC x.T ++ spC x.S)
theorem acC_len (x : Ac) : (acC x).length = 21 := rfl
/-- An act that was given. -/
structure Ac.Given (w : World) (x : Ac) : Prop where
  kind : I64 x.kind
  n : I64 x.n
  m : I64 x.m
  row : RegsK w x.O x.l
  cap : x.l.length ≤ x.cap
  wf : ∀ i, i < x.l.length → (rg x.l i).wf
  T : x.T.wf
  S : x.S.Given w
theorem Spc.Given.call {w w' : World} {s : Spc} (h : s.Given w) (hb : Below w.heap.size w w') : s.Given w' := ⟨h.row.call hb, h.cap, h.wf, h.thr, h.img, h.asid, h.age⟩
theorem Ac.Given.call {w w' : World} {x : Ac} (h : x.Given w) (hb : Below w.heap.size w w') : x.Given w' := ⟨h.kind, h.n, h.m, h.row.call hb, h.cap, h.wf, h.T, h.S.call hb⟩
section
variable {HH : Type} {enc : TypeId × Value → HH} {base : Nat} {held : Bool} {n : Nat} {cs : List Value} {y : DataW HH × List MemPlace}
theorem cellsAct : Try.prog.cellsOf 40 = 21 := by kernel_rfl
theorem trod_act (h : DataW.trod enc Try.prog w base (fun _ => true) held n 40 cs = some y) : ∃ x : Ac, cs = acC x ∧ x.Given w := by
  obtain ⟨xs, k, _, _, hlen, hxl, hfl⟩ := DataW.trod_struct Try.underlying40 h
  have hlen := hlen.trans cellsAct
  have hx6 : xs.length = 6 := hxl
  have f0 : DataW.trod enc Try.prog w base (fun _ => true) held k 3 (List.take (Try.prog.cellsOf 3) (List.drop 0 cs)) = xs[0]? := hfl 0 _ rfl
  have f1 : DataW.trod enc Try.prog w base (fun _ => true) held k 3 (List.take (Try.prog.cellsOf 3) (List.drop 1 cs)) = xs[1]? := hfl 1 _ rfl
  have f2 : DataW.trod enc Try.prog w base (fun _ => true) held k 3 (List.take (Try.prog.cellsOf 3) (List.drop 2 cs)) = xs[2]? := hfl 2 _ rfl
  have f3 : DataW.trod enc Try.prog w base (fun _ => true) held k 32 (List.take (Try.prog.cellsOf 32) (List.drop 3 cs)) = xs[3]? := hfl 3 _ rfl
  have f4 : DataW.trod enc Try.prog w base (fun _ => true) held k 36 (List.take (Try.prog.cellsOf 36) (List.drop 4 cs)) = xs[4]? := hfl 4 _ rfl
  have f5 : DataW.trod enc Try.prog w base (fun _ => true) held k 38 (List.take (Try.prog.cellsOf 38) (List.drop 16 cs)) = xs[5]? := hfl 5 _ rfl
  rw [cellsInt, List.getElem?_eq_getElem (by omega)] at f0 f1 f2
  rw [cellsRegions, List.getElem?_eq_getElem (by omega)] at f3
  rw [cellsTh, List.getElem?_eq_getElem (by omega)] at f4
  rw [cellsSp, List.getElem?_eq_getElem (by omega)] at f5
  obtain ⟨a0, e0, -, w0⟩ := DataW.trod_int Try.underlying3 f0
  obtain ⟨a1, e1, -, w1⟩ := DataW.trod_int Try.underlying3 f1
  obtain ⟨a2, e2, -, w2⟩ := DataW.trod_int Try.underlying3 f2
  obtain ⟨O, cap, l, e3, h1, h2, h3, h4⟩ := trod_regs f3
  obtain ⟨T, e4, hT⟩ := trod_th f4
  obtain ⟨S, e5, hS⟩ := trod_spc f5
  refine ⟨⟨a0, a1, a2, O, cap, l, T, S⟩, ?_, ⟨i64_of w0, i64_of w1, i64_of w2, h4, h1, h3, hT, hS⟩⟩
  have s16 : cs.drop 16 = spC S := by rw [← e5, List.take_of_length_le (by simp; omega)]
  have s4 : cs.drop 4 = thC T ++ spC S := by
    rw [← List.take_append_drop 12 (cs.drop 4), e4, List.drop_drop, ← s16]
  have step : ∀ (i : Nat) (v : Value), (cs.drop i).take 1 = [v] → cs.drop i = v :: cs.drop (i + 1) := fun i v hv => by
    rw [← List.take_append_drop 1 (cs.drop i), hv, List.drop_drop]
    rfl
  have := step 0 _ e0
  rw [List.drop_zero] at this
  rw [this, step 1 _ e1, step 2 _ e2, step 3 _ e3, s4]
  rfl
/-- A row of acts. -/
def ActsK (w : World) (O : Option Addr) (xs : List Ac) : Prop := RK acC 21 w O xs ∧ ∀ x ∈ xs, x.Given w
theorem ActsK.call {w w' : World} {O : Option Addr} {xs : List Ac} (h : ActsK w O xs) (hb : Below w.heap.size w w') : ActsK w' O xs := ⟨h.1.call hb, fun x hx => (h.2 x hx).call hb⟩
theorem open_acts22 {r : Reach} {b0 : Nat} {v : Value} {d : DataW HH} {p : List MemPlace} (hv : Value.okWide Try.prog w r b0 22 v) (h : DataW.Trod enc Try.prog w base (fun _ => true) held 22 v d p) :
    ∃ (O : Option Addr) (cap : Nat) (xs : List Ac), v = .slice O xs.length cap ∧ xs.length ≤ cap ∧ cap ≤ maxLen ∧ ActsK w O xs := by
  obtain ⟨O, len, cap, rfl, hl, hm, hc⟩ := open_elems Try.underlying22 cellsAct (by omega) hv h
  by_cases h0 : 0 < len
  · obtain ⟨b, off, rfl, hcell⟩ := hc h0
    have each : ∀ i, i < len → ∃ x : Ac, x.Given w ∧ ∀ j u, (acC x)[j]? = some u → w.cell? ⟨b, off + (i * 21 + j), none⟩ = some u := fun i hi => by
      obtain ⟨cs, n, y, -, h1, h2⟩ := hcell i hi
      obtain ⟨x, rfl, hx⟩ := trod_act h2
      exact ⟨x, hx, h1⟩
    have z : Ac := ⟨0, 0, 0, none, 0, [], Th.z, Spc.z⟩
    let g : Nat → Ac := fun i => if h : i < len then (each i h).choose else z
    have all : ∀ i, i < len → (g i).Given w ∧ ∀ j u, (acC (g i))[j]? = some u → w.cell? ⟨b, off + (i * 21 + j), none⟩ = some u := fun i hi => by
      have := (each i hi).choose_spec
      simp only [g, hi, dif_pos]
      exact this
    refine ⟨some ⟨b, off, none⟩, cap, (List.range len).map g, by simp, by simpa using hl, hm, fun _ => ⟨b, off, rfl, fun i x hx j u hu => ?_⟩, fun x hx => ?_⟩
    · rw [List.getElem?_map] at hx
      obtain ⟨i', hi', rfl⟩ := Option.map_eq_some_iff.1 hx
      have hil : i < len := by have := (List.getElem?_eq_some_iff.1 hi').1; simpa using this
      rw [List.getElem?_range hil] at hi'
      cases hi'
      rw [Nat.add_assoc]
      exact (all i hil).2 j u hu
    · obtain ⟨i, hi, rfl⟩ := List.mem_map.1 hx
      exact (all i (by simpa using hi)).1
  · obtain rfl : len = 0 := by omega
    exact ⟨O, cap, [], rfl, hl, hm, fun h => by simp at h, fun x hx => by simp at hx⟩
end
end Go.Proofs.Ytgfogbifbpadoaa
