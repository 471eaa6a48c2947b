/-
  The document's cast: Ack and All.
-/
import Derived.Test.YtokmcelmodoeoaaCsRefW
namespace Go.Proofs.Ytokmcelmodoeoaa
open Go.RowKit
set_option linter.unusedVariables false
set_option linter.unusedSimpArgs false
theorem RK.take {α : Type} {enc : α → List Value} {k : Nat} {w : World} {O : Option Addr} {xs : List α} (m : Nat) (h : RK enc k w O xs) : RK enc k w O (xs.take m) := fun h0 => by
  obtain ⟨b, off, e, hc⟩ := h (by rw [List.length_take] at h0; omega)
  refine ⟨b, off, e, fun i x hi j u hu => hc i x ?_ j u hu⟩
  rw [List.getElem?_take] at hi
  split at hi
  · exact hi
  · cases hi
theorem Ow.weak {α : Type} {enc : α → List Value} {k : Nat} {t : TypeId} {w : World} {B : Nat} {v : Value} {xs : List α} (h : Ow enc k t w B v xs) : Ow enc k t w 0 v xs :=
  ⟨h.1, h.2.imp id fun ⟨g, cap, cur, e, hB, r⟩ => ⟨g, cap, cur, e, Nat.zero_le _, r⟩⟩
def raL (n : Nat) (L : List Rp) (c : Int) : List Rp := if rfE n L c = 0 then L.eraseIdx (atL L c) else L
theorem rack_no (q n : Nat) (L : List Rp) (v : Value) (F : Nat → Prop) (c : Int) (w : World) (h : Rc w q n L v F) (hf : rfE n L c ≠ 0) : Calls Try.prog 15 #[.pointer (some ⟨q, 0, none⟩), .int .i64 c] w fun e w' => e = .returned (.tuple #[.agg #[.int .i8 0, .int .i64 0, .int .u64 0], .int .i64 (rfE n L c)]) ∧ Below w.heap.size w w' := by
  have h' := h.alloc (.cells #[.int .i8 0, .int .i64 0, .int .u64 0] 35)
  have hn : (rfE n L c != 0) = true := by simpa using hf
  clear hf
  go_enter Try.func15, Try.ntmps15
  go_wp2_with (go_at_call 16; refine (rfirst_any q n _ _ _ _ _ h').mono ?_; rintro e w1 ⟨rfl, hb1⟩; have cA := (Arr.new w #[.int .i8 0, .int .i64 0, .int .u64 0] 35).call hb1; have hs1 := hb1.size; simp only [World.size_alloc] at hs1; have hy : w.heap.size < w1.heap.size := (by omega); have c0 := cA.cell 0 _ rfl; have c1 := cA.cell 1 _ rfl; have c2 := cA.cell 2 _ rfl; have f0 := cA.frozen 0 (by simp); have f1 := cA.frozen 1 (by simp); have f2 := cA.frozen 2 (by simp))
  have hne : w.heap.size ≠ w1.heap.size := by omega
  refine bodyPost_ret (v := .tuple #[.agg #[.int .i8 0, .int .i64 0, .int .u64 0], .int .i64 (rfE n L c)]) (by simp [results, Try.results15, go_sem, c0, c1, c2, hne, hy]) rfl ⟨rfl, ?_⟩
  exact ba (bs (bs (bs (bthen (ba (Below.refl _ _) _) hb1) (by exact Nat.le_refl _) _) (by exact Nat.le_refl _) _) (by exact Nat.le_refl _) _) _
set_option maxHeartbeats 4000000 in
set_option maxRecDepth 100000 in
theorem rack_yes (q n : Nat) (L : List Rp) (v : Value) (F : Nat → Prop) (c : Int) (w : World) (h : Rc w q n L v F) (hh : hasB n c = true) (x : Rp) (ha : atL L c < L.length) (hx : L[atL L c]? = some x) :
    Calls Try.prog 15 #[.pointer (some ⟨q, 0, none⟩), .int .i64 c] w fun e w' => e = .returned (.tuple #[.agg #[.int .i8 x.k, .int .i64 x.a, .int .u64 x.p], .int .i64 0]) ∧ ∃ v' F', Rc w' q n (L.eraseIdx (atL L c)) v' F' ∧ Keeps F w w' ∧ ∀ g, F' g → F g ∨ w.heap.size ≤ g := by
  have h' := h.alloc (.cells #[.int .i8 0, .int .i64 0, .int .u64 0] 35)
  obtain ⟨i0, hi, hz0, hz1, hz2⟩ := info_parts rPairInfo
  have H := Lib.hid h
  have HLT := Lib.hid h.lt
  have hln := h.len
  have HA := Lib.hid (show atI L c = (atL L c : Nat) by unfold atI; rw [if_pos ha])
  go_enter Try.func15, Try.ntmps15
  go_upto_region 4 with (go_at_call 16; refine (rfirst_some q n _ _ _ _ _ h' hh x ha hx).mono ?_; rintro e w1 ⟨rfl, hb1⟩)
  have hlt1 : w.heap.size < w1.heap.size := by have := hb1.size; simp only [World.size_alloc] at this; omega
  refine (show ∀ W : World, Rc W q n L v F → Arr W w.heap.size [.int .i8 0, .int .i64 0, .int .u64 0] → Arr W w1.heap.size [.int .i8 x.k, .int .i64 x.a, .int .u64 x.p] → Below w.heap.size w W → Code.wp _ _ _ _ W from fun W hC hA4 hA7 hB => ?_) _ ((h'.call hb1).alloc _) (((Arr.new w #[.int .i8 0, .int .i64 0, .int .u64 0] 35).call hb1).alloc _) (Arr.new _ _ _) (ba (bthen (ba (Below.refl _ _) _) hb1) _)
  clear h' hb1 h
  generalize hX7 : w1.heap.size = X7 at *
  generalize hX4 : w.heap.size = X4 at *
  obtain ⟨O, cap, hv, hl, hmx, hR⟩ := hC.form
  obtain ⟨g, cap2, hv2, -, hg, -, -⟩ := hC.row.head (by omega)
  rw [hv] at hv2
  simp only [Value.slice.injEq, true_and] at hv2
  obtain ⟨rfl, rfl⟩ := hv2
  have c1 := hC.cell1
  rw [hv] at c1
  have HC := Lib.hid hC
  have HA4 := Lib.hid hA4
  have HA7 := Lib.hid hA7
  have HB := Lib.hid hB
  have HR := Lib.hid hR
  have HV := Lib.hid hv
  clear hC hA4 hA7 hB hR hv hX7 hh
  generalize hM : atL L c = m at *
  have HM := Lib.hid hM
  clear hM
  have hmI : (m : Int) ≤ (L.length : Int) := by omega
  have hmI2 : (m : Int) + 1 ≤ (L.length : Int) := by omega
  have hmc : (m : Int) ≤ (cap : Int) := by omega
  have HN0 := Lib.hid (Ow.nil (enc := encR) (k := 5) 57 W W.heap.size)
  go_upto_region 6 with (go_at_call 26; refine (rat_any q n _ _ _ _ _ HC.out).mono ?_; rintro e w3 ⟨rfl, rfl⟩; rw [HA.out])
  have hA1 : m ≤ L.length := by omega
  have HRT := Lib.hid ((HR.out).take m)
  have HLT1 := Lib.hid (show (L.take m).length = m by rw [List.length_take]; omega)
  have hm1000 : m ≤ 1000 := by omega
  obtain ⟨AD, hAD, HRD⟩ : ∃ AD : Addr, (if cap = m + 1 then some (⟨g, 0, none⟩ : Addr) else some ⟨g, (m + 1) * 5, none⟩) = some AD ∧ Hid (RK encR 5 W (some AD) (L.drop (m + 1))) := by
    by_cases hcp : cap = m + 1
    · refine ⟨⟨g, 0, none⟩, by rw [if_pos hcp], Lib.hid fun h0 => ?_⟩
      rw [List.length_drop] at h0
      omega
    · refine ⟨⟨g, (m + 1) * 5, none⟩, by rw [if_neg hcp], Lib.hid ?_⟩
      have := RK.dropn (m + 1) HR.out
      rwa [Nat.zero_add] at this
  have HLD := Lib.hid (show (L.drop (m + 1)).length = L.length - (m + 1) by rw [List.length_drop])
  have hsum : (L.take m).length + (L.length - (m + 1)) ≤ 100000 := by rw [HLT1.out]; omega
  have hq0 := HC.out.blt
  go_upto_region 8 with (at_builtin; first
    | (refine wp_app (enc := encR) (k := 5) rfl _ _ 51 rfl W.heap.size 57 i0 _ 40 Try.underlying51 hi hz0 hz1 hz2 rfl (by decide) encR_len encR_one (.slice none 0 0) [] rfl HN0.out (L.take m) _ m _ rfl HLT1.out HRT.out (by simp; omega) (by decide) W (Below.refl _ _) (Nat.le_refl _) ?_; intro v1 W1 ho1 hb1; have HO1 := Lib.hid ho1; have HB1 := Lib.hid hb1; have c1' : W1.cell? ⟨q, 1, none⟩ = some (.slice (some ⟨g, 0, none⟩) L.length cap) := (hb1.cell (p := ⟨q, 1, none⟩) hq0).trans c1; clear ho1 hb1 HN0)
    | (refine wp_app (enc := encR) (k := 5) rfl _ _ 51 rfl W.heap.size 57 i0 _ 40 Try.underlying51 hi hz0 hz1 hz2 rfl (by decide) encR_len encR_one _ (L.take m) rfl HO1.out (L.drop (m + 1)) _ (L.length - (m + 1)) _ rfl HLD.out (HRD.out.call HB1.out) (by exact hsum) (by decide) W HB1.out (Nat.le_refl _) ?_; intro v2 W2 ho2 hb2; obtain ⟨O2, cap2, rfl, -, -, -⟩ := ho2.form encR_len; have HO2 := Lib.hid ho2; have HB2 := Lib.hid hb2; have c2 : W2.cell? ⟨q, 1, none⟩ = some (.slice (some ⟨g, 0, none⟩) L.length cap) := (hb2.cell (p := ⟨q, 1, none⟩) hq0).trans c1; have f2 : W2.frozen? ⟨q, 1, none⟩ = false := (hb2.frozen (p := ⟨q, 1, none⟩) hq0).trans (HC.out.fr 1); clear ho2 hb2))
  have hEq : L.take m ++ L.drop (m + 1) = L.eraseIdx m := (List.eraseIdx_eq_take_drop_succ L m).symm
  have hLL : (L.take m ++ L.drop (m + 1)).length = m + (L.length - (m + 1)) := by rw [List.length_append, HLT1.out, HLD.out]
  have hO2 := HO2.out
  have hv2 : (Value.slice O2 (L.take m ++ L.drop (m + 1)).length cap2) = .slice O2 (m + (L.length - (m + 1))) cap2 := by rw [hLL]
  rw [hv2] at hO2
  have hT := HC.out.turned (v' := .slice O2 (m + (L.length - (m + 1))) cap2) hO2.weak (Keeps.of_below (F := fun y => v.ownBlock = some y) HB2.out) (by rw [hLL]; omega) (fun y hy => Or.inr (hO2.lt y hy).1)
  rw [hEq] at hT
  have hsW := HB2.out.size
  have hnF : ∀ y, X4 ≤ y → ¬ F y := fun y hy hF => by have := HLT.out y hF; omega
  refine (show ∀ W3 : World, Rc W3 q n (L.eraseIdx m) (.slice O2 (m + (L.length - (m + 1))) cap2) (fun y => F y ∨ (W.heap.size ≤ y ∧ y < W2.heap.size)) → Keeps F W W3 → Code.wp _ _ _ _ W3 from fun W3 hC3 hK3 => ?_) _ hT.1 hT.2
  have d4 := HA4.out.keep hK3 (hnF _ (Nat.le_refl _))
  have d7 := HA7.out.keep hK3 (hnF _ (by omega))
  have q0 := d7.cell 0 _ rfl
  have q1 := d7.cell 1 _ rfl
  have q2 := d7.cell 2 _ rfl
  have z0 := d4.cell 0 _ rfl
  have z1 := d4.cell 1 _ rfl
  have z2 := d4.cell 2 _ rfl
  have y0 := d4.frozen 0 (by simp)
  have y1 := d4.frozen 1 (by simp)
  have y2 := d4.frozen 2 (by simp)
  have hX4W : X4 < W.heap.size := HA4.out.lt
  have HKW := Lib.hid (show Keeps F w W3 from (Keeps.of_below (F := F) (hX4 ▸ HB.out)).trans hK3 (fun y hy => Or.inl hy))
  have HC3 := Lib.hid hC3
  have hkk : Keeps (fun y => y = X4) W3 (((W3.setCell ⟨X4, 0, none⟩ (.int .i8 x.k)).setCell ⟨X4, 1, none⟩ (.int .i64 x.a)).setCell ⟨X4, 2, none⟩ (.int .u64 x.p)) :=
    ((Keeps.setCell (F := fun y => y = X4) (p := ⟨X4, 0, none⟩) rfl _).trans (Keeps.setCell (F := fun y => y = X4) (p := ⟨X4, 1, none⟩) rfl _) (fun y hy => Or.inl hy)).trans (Keeps.setCell (F := fun y => y = X4) (p := ⟨X4, 2, none⟩) rfl _) (fun y hy => Or.inl hy)
  have HKK := Lib.hid hkk
  clear hkk d4 d7 hT hC3 hK3 c1' c2 f2 hO2 hv2 hEq
  have HXF := Lib.hid (show ∀ y, (F y ∨ (W.heap.size ≤ y ∧ y < W2.heap.size)) → y = X4 → False from fun y hy e => by
    rcases hy with hy | ⟨hy, -⟩
    · have := HLT.out y hy; omega
    · omega)
  go_wp2_with fail
  refine bodyPost_ret (v := .tuple #[.agg #[.int .i8 x.k, .int .i64 x.a, .int .u64 x.p], .int .i64 0]) (by simp [results, Try.results15, go_sem, z0, z1, z2]) rfl ⟨rfl, _, _, by rw [HM.out]; exact HC3.out.keep HKK.out (fun y hy e => HXF.out y hy e), HKW.out.trans HKK.out (fun y hy => Or.inr (by rw [hy]; omega)), fun y hy => ?_⟩
  · rcases hy with hy | ⟨hy, -⟩
    · exact Or.inl hy
    · exact Or.inr (by omega)
/-- The pairs of the first m cores, core by core. -/
def allL (L : List Rp) : Nat → List Rp
  | 0 => []
  | m + 1 => allL L m ++ L.filter fun x => x.c == (m : Int) + 1
theorem allL_len (L : List Rp) : ∀ m, (allL L m).length ≤ m * L.length
  | 0 => by simp [allL]
  | m + 1 => by
    have := allL_len L m
    have h2 : (L.filter fun x => x.c == (m : Int) + 1).length ≤ L.length := List.length_filter_le _ _
    unfold allL
    rw [List.length_append, Nat.succ_mul]
    omega
set_option maxHeartbeats 4000000 in
set_option maxRecDepth 100000 in
theorem rall_any (q n : Nat) (L : List Rp) (v : Value) (F : Nat → Prop) (w : World) (h : Rc w q n L v F) :
    Calls Try.prog 19 #[.pointer (some ⟨q, 0, none⟩)] w fun e w' => ∃ v', e = .returned v' ∧ Ow encR 5 57 w' w.heap.size v' (allL L n) ∧ Below w.heap.size w w' := by
  obtain ⟨i0, hi, hz0, hz1, hz2⟩ := info_parts rPairInfo
  have hn8 := h.n8
  have hln := h.len
  have HC := Lib.hid h
  clear h
  go_enter Try.func19, Try.ntmps19
  go_wp2_with fail
  go_loopw [3, 4] (fun ov kv wr => ∃ k : Nat, kv = .int .i64 ((k : Int) + 1) ∧ k ≤ n ∧ Ow encR 5 57 wr w.heap.size ov (allL L k) ∧ Below w.heap.size w wr) (fun _ kv _ => n + 1 - (intOf kv).toNat)
  case atStart => exact ⟨0, rfl, by omega, Ow.nil _ _ _, Below.refl _ _⟩
  case round =>
    rename_i ov
    obtain ⟨k, rfl, hk, hO, hB⟩ := hrel
    have hC1 := HC.out.call hB
    have c0 := hC1.cell0
    have HO := Lib.hid hO
    have HB := Lib.hid hB
    clear hC1 hO hB
    by_cases hlt : k < n
    · go_upto_region 5 with fail
      have hd1 : decide ((k : Int) + 1 ≤ (n : Int)) = true := by simp; omega
      simp only [hd1]
      clear hd1
      go_wp2_with fail
      go_loopw [3, 5] (fun ov iv wr => ∃ i : Nat, iv = .int .i64 i ∧ i ≤ L.length ∧ Ow encR 5 57 wr w.heap.size ov (allL L k ++ (L.take i).filter fun x => x.c == (k : Int) + 1) ∧ Below w.heap.size w wr) (fun _ iv _ => L.length - (intOf iv).toNat)
      case atStart => exact ⟨0, rfl, by omega, by simpa using HO.out, HB.out⟩
      case round =>
        clear c0 HO HB
        obtain ⟨i, rfl, hi1, hO, hB⟩ := hrel
        have HO := Lib.hid hO
        have HB := Lib.hid hB
        have hC1 := HC.out.call hB
        obtain ⟨O, cap, hv, hl, hmx, hR⟩ := hC1.form
        have c1 := hC1.cell1
        rw [hv] at c1
        have HR := Lib.hid hR
        have hqr := hC1.blt
        clear hO hB hC1 hv hR
        by_cases hlt2 : i < L.length
        · obtain ⟨x, hx⟩ : ∃ x, L[i]? = some x := ⟨_, List.getElem?_eq_getElem hlt2⟩
          obtain ⟨b, off, rfl, hcell⟩ := HR.out (by omega)
          have hc2 := hcell i x hx
          have q0 := hc2 0 _ rfl
          have q1 := hc2 1 _ rfl
          have q2 := hc2 2 _ rfl
          have q3 := hc2 3 _ rfl
          have q4 := hc2 4 _ rfl
          rw [Nat.add_zero] at q0
          have HT := Lib.hid (show (L.take (i + 1)).filter (fun x => x.c == (k : Int) + 1) = (L.take i).filter (fun x => x.c == (k : Int) + 1) ++ (if x.c = (k : Int) + 1 then [x] else []) by
            rw [List.take_add_one, hx, Option.toList_some, List.filter_append]
            by_cases e : x.c = (k : Int) + 1
            · simp [e]
            · have : (x.c == (k : Int) + 1) = false := by simpa using e
              simp [this, e])
          clear hc2 hcell hx
          by_cases hc : x.c = (k : Int) + 1
          · obtain ⟨xc, xs, xk, xa, xp⟩ := x
            simp only at hc q0 q1 q2 q3 q4
            subst hc
            have HT2 := Lib.hid (HT.out.trans (by rw [if_pos rfl]))
            clear HT
            have hlen : (allL L k ++ (L.take i).filter fun x => x.c == (k : Int) + 1).length ≤ 100000 := by
              have h1 := allL_len L k
              have h2 : ((L.take i).filter fun x => x.c == (k : Int) + 1).length ≤ (L.take i).length := List.length_filter_le _ _
              have h3 : k * L.length ≤ 8 * 1000 := Nat.mul_le_mul (by omega) hln
              rw [List.length_append]
              rw [List.length_take] at h2
              omega
            have HOA := Lib.hid (HO.out.call (ba (Below.refl _ _) (.cells #[.int .i64 ((k : Int) + 1), .int .i64 xs, .int .i8 xk, .int .i64 xa, .int .u64 xp] 57)))
            have HBA := Lib.hid (ba HB.out (.cells #[.int .i64 ((k : Int) + 1), .int .i64 xs, .int .i8 xk, .int .i64 xa, .int .u64 xp] 57))
            have HN := Lib.hid (show ∀ (j : Nat) (u : Value), (encR ⟨(k : Int) + 1, xs, xk, xa, xp⟩)[j]? = some u → (wr.alloc (.cells #[.int .i64 ((k : Int) + 1), .int .i64 xs, .int .i8 xk, .int .i64 xa, .int .u64 xp] 57)).cell? ⟨wr.heap.size, j, none⟩ = some u from fun j u hu => (Arr.new wr #[.int .i64 ((k : Int) + 1), .int .i64 xs, .int .i8 xk, .int .i64 xa, .int .u64 xp] 57).cell j u hu)
            have HLN := Lib.hid hlen
            clear hlen
            go_wp2_with (at_builtin; refine wp_snoc (enc := encR) rfl _ _ 51 rfl w.heap.size 57 i0 _ 40 Try.underlying51 hi hz0 hz1 hz2 rfl (by decide) encR_len _ _ rfl HOA.out ⟨(k : Int) + 1, xs, xk, xa, xp⟩ wr.heap.size rfl HN.out (encR_one _) HLN.out (by decide) w HBA.out (Nat.le_refl _) ?_; intro v' w' o1 o2; have HO1 := Lib.hid o1; have HB1 := Lib.hid o2; clear o1 o2)
            go_roundw
            case rel => exact ⟨i + 1, by go_num, by omega, by rw [HT2.out, ← List.append_assoc]; exact HO1.out, HB1.out⟩
            case measure => simp [intOf]; omega
          · go_wp2_with fail
            go_roundw
            case rel => exact ⟨i + 1, by go_num, by omega, by rw [HT.out, if_neg hc, List.append_nil]; exact HO.out, HB.out⟩
            case measure => simp [intOf]; omega
        · obtain rfl : i = L.length := by omega
          have hO := HO.out
          rw [List.take_length] at hO
          have HO2 := Lib.hid hO
          clear hO
          go_wp2_with fail
          go_roundw
          case rel => exact ⟨k + 1, by go_num, by omega, HO2.out, HB.out⟩
          case measure => simp [intOf]; omega
    · obtain rfl : n = k := by omega
      go_wp2_with fail
      go_ret
      exact ⟨_, rfl, HO.out, HB.out⟩
end Go.Proofs.Ytokmcelmodoeoaa
