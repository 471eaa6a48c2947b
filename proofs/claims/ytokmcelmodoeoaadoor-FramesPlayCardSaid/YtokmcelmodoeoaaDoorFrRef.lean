/-
  The document's pool of frames (tenementref15): what each call answers, in terms of the counts.
-/
import Derived.Test.YtokmcelmodoeoaaDoorFrAll
import Derived.Test.YtokmcelmodoeoaaDoorFrCnt
import Derived.Deep.RegionLaw
import Derived.Deep.AppendLies
import Derived.Laws.Slices
namespace Go.Proofs.YtokmcelmodoeoaaDoor
open Go.RowKit
set_option linter.unusedVariables false
set_option linter.unusedSimpArgs false
def rowC (n : Nat) (ct : Nat → Int) : List Value := (List.range n).map fun i => Value.int .i64 (ct i)
theorem rowC_len (n : Nat) (ct : Nat → Int) : (rowC n ct).length = n := by simp [rowC]
theorem rowC_at {n : Nat} (ct : Nat → Int) {i : Nat} (h : i < n) : (rowC n ct)[i]? = some (.int .i64 (ct i)) := by simp [rowC, h]
theorem rowC_set {n : Nat} (ct : Nat → Int) (i : Nat) (v : Int) : (rowC n ct).set i (.int .i64 v) = rowC n (upd ct i v) := by
  apply List.ext_getElem?
  intro j
  by_cases hj : j < n
  · by_cases e : i = j
    · subst e
      rw [List.getElem?_set_self (by rw [rowC_len]; exact hj), rowC_at _ hj]
      simp [upd]
    · rw [List.getElem?_set_ne e, rowC_at _ hj, rowC_at _ hj]
      have e' : ¬ j = i := fun h => e h.symm
      simp [upd, e']
  · rw [List.getElem?_eq_none (by simp [rowC_len]; omega), List.getElem?_eq_none (by rw [rowC_len]; omega)]
/-- The document's pool lies in w: its struct in block q, its row in block g. -/
structure Rp (w : World) (q g n cap : Nat) (ct : Nat → Int) : Prop where
  head : Arr w q [.slice (some ⟨g, 0, none⟩) n cap]
  row : Arr w g (rowC n ct)
  ne : q ≠ g
  hc : n ≤ cap
  n64 : n ≤ 64
theorem Arr.keep {w w' : World} {b : Nat} {cs : List Value} {F : Nat → Prop} (h : Arr w b cs) (hk : Keeps F w w') (hF : ¬ F b) : Arr w' b cs :=
  ⟨Nat.lt_of_lt_of_le h.1 hk.size, fun i v hi => (hk.cell h.1 hF i).trans (h.2.1 i v hi), fun i hi => (World.frozen?_of_block (w := w) (hk.block b h.1 hF)).trans (h.2.2 i hi)⟩
theorem Rp.keep {w w' : World} {q g n cap : Nat} {ct : Nat → Int} {F : Nat → Prop} (h : Rp w q g n cap ct) (hk : Keeps F w w') (h1 : ¬ F q) (h2 : ¬ F g) : Rp w' q g n cap ct :=
  ⟨h.head.keep hk h1, h.row.keep hk h2, h.ne, h.hc, h.n64⟩
theorem Rp.call {w w' : World} {q g n cap : Nat} {ct : Nat → Int} (h : Rp w q g n cap ct) (hb : Below w.heap.size w w') : Rp w' q g n cap ct :=
  ⟨h.head.call hb, h.row.call hb, h.ne, h.hc, h.n64⟩
theorem Rp.set {w : World} {q g n cap : Nat} {ct : Nat → Int} (h : Rp w q g n cap ct) (i : Nat) (hi : i < n) (v : Int) : Rp (w.setCell ⟨g, i, none⟩ (.int .i64 v)) q g n cap (upd ct i v) := by
  have hr := h.row.set i (by rw [rowC_len]; exact hi) (.int .i64 v)
  rw [rowC_set] at hr
  exact ⟨h.head.far (p := ⟨g, i, none⟩) (fun e => h.ne e.symm) _, hr, h.ne, h.hc, h.n64⟩
theorem madeInts (n : Nat) : madeCells (Value.int .i64 0).cells (n * 1) = (rowC n fun _ => 0).toArray := by
  rw [Nat.mul_one]
  apply Array.ext_getElem?
  intro j
  have e : ((rowC n fun _ => 0).toArray)[j]? = (rowC n fun _ => 0)[j]? := by simp
  rw [e]
  by_cases hj : j < n
  · rw [rowC_at _ hj]
    simp [madeCells, Value.cells, hj, Nat.mod_one]
  · rw [Array.getElem?_eq_none (by rw [size_madeCells]; omega), List.getElem?_eq_none (by rw [rowC_len]; omega)]
theorem intInfo : ∃ i, Tryd.prog.info? 3 = some i ∧ i.zero = some (.int .i64 0) ∧ i.size = 1 ∧ i.bytes = 8 := by
  have h : (Tryd.prog.info? 3).map (fun i => (i.zero, i.size, i.bytes)) = some (some (.int .i64 0), 1, 8) := by kernel_rfl
  cases hq : Tryd.prog.info? 3 with
  | none => simp [hq] at h
  | some i => simp [hq] at h; exact ⟨i, rfl, h.1, h.2.1, h.2.2⟩
theorem make_ints (n : Nat) (hn : n ≤ 64) (W : World) : (Instr.makeSlice 50 (.int .i64 n) (.int .i64 n)).run Tryd.prog W = .ok (.slice (some ⟨W.heap.size, 0, none⟩) n n) (W.alloc (.cells (rowC n fun _ => 0).toArray 3)) := by
  obtain ⟨i, hi, h1, h2, h3⟩ := intInfo
  have := run_makeSlice (P := Tryd.prog) W 50 3 i (.int .i64 0) Tryd.underlying50 hi h1 .i64 .i64 n n (by omega) (by omega) (by rw [h2]; omega) (by rw [h3]; omega) (by omega)
  rw [h2] at this
  rw [this]
  have e : (n : Int).toNat = n := rfl
  rw [e, madeInts]
/-- What the document's New leaves. -/
def RpMade (w : World) (n : Nat) (e : Ending) (w' : World) : Prop :=
  ∃ q g cap, e = .returned (.tuple #[.pointer (some ⟨q, 0, none⟩), .int .i64 0]) ∧ Rp w' q g n cap (upd (fun _ => 0) 0 1) ∧ Below w.heap.size w w' ∧ w.heap.size ≤ q ∧ w.heap.size ≤ g
set_option maxHeartbeats 400000 in
theorem rpnew_yes (n : Nat) (w : World) (h1 : 1 ≤ n) (h2 : n ≤ 64) : Calls Tryd.prog 14 #[.int .i64 n] w (RpMade w n) := by
  have hmk := make_ints n h2
  have R : Rp ((w.alloc (.cells (rowC n fun _ => 0).toArray 3)).alloc (.cells #[.slice (some ⟨w.heap.size, 0, none⟩) n n] 52)) (w.heap.size + 1) w.heap.size n n (fun _ => 0) := by
    have a := Arr.new (w.alloc (.cells (rowC n fun _ => 0).toArray 3)) #[.slice (some ⟨w.heap.size, 0, none⟩) n n] 52
    rw [World.size_alloc] at a
    have b := (Arr.new w (rowC n fun _ => 0).toArray 3).alloc (.cells #[.slice (some ⟨w.heap.size, 0, none⟩) n n] 52)
    exact ⟨a, b, by omega, Nat.le_refl _, h2⟩
  have hB := ba (ba (Below.refl w.heap.size w) (.cells (rowC n fun _ => 0).toArray 3)) (.cells #[.slice (some ⟨w.heap.size, 0, none⟩) n n] 52)
  have HR := Lib.hid R
  have HB := Lib.hid hB
  clear R hB
  go_enter Tryd.func14, Tryd.ntmps14
  go_upto_region 4 with fail
  generalize ((w.alloc (.cells (rowC n fun _ => 0).toArray 3)).alloc (.cells #[.slice (some ⟨w.heap.size, 0, none⟩) n n] 52)) = W at *
  have c0 : W.cell? ⟨w.heap.size + 1, 0, none⟩ = some (.slice (some ⟨w.heap.size, 0, none⟩) n n) := HR.out.head.cell 0 _ rfl
  have c1 : W.cell? ⟨w.heap.size, 0, none⟩ = some (.int .i64 0) := HR.out.row.cell 0 _ (rowC_at _ (by omega))
  have f1 : W.frozen? ⟨w.heap.size, 0, none⟩ = false := HR.out.row.frozen 0 (by rw [rowC_len]; omega)
  go_wp2_with fail
  go_ret2
  exact ⟨_, _, _, rfl, HR.out.set 0 (by omega) 1, bs HB.out (Nat.le_refl _) _, by omega, by omega⟩
theorem rpnew_no (n : Int) (w : World) (h : n < 1 ∨ 64 < n) : Calls Tryd.prog 14 #[.int .i64 n] w fun e w' => e = .returned (.tuple #[.pointer none, .int .i64 2]) ∧ w = w' := by
  rcases h with h | h
  · go_enter Tryd.func14, Tryd.ntmps14
    go_wp2_with fail
    go_ret2
    exact ⟨rfl, rfl⟩
  · have h' : ¬ n < 1 := by omega
    go_enter Tryd.func14, Tryd.ntmps14
    go_wp2_with fail
    go_ret2
    exact ⟨rfl, rfl⟩
theorem rpcount (q g n cap : Nat) (f : Int) (ct : Nat → Int) (w : World) (h : Rp w q g n cap ct) : Calls Tryd.prog 20 #[.pointer (some ⟨q, 0, none⟩), .int .i64 f] w fun e w' => e = .returned (.int .i64 (cntC n ct f)) ∧ w = w' := by
  have c0 : w.cell? ⟨q, 0, none⟩ = some (.slice (some ⟨g, 0, none⟩) n cap) := h.head.cell 0 _ rfl
  have hn := h.n64
  have hcap := h.hc
  unfold cntC
  by_cases hf : 0 ≤ f ∧ f < n
  · rw [if_pos hf]
    obtain ⟨k, rfl⟩ := Int.eq_ofNat_of_zero_le hf.1
    rw [Int.toNat_natCast]
    have hk : k < n := by omega
    have c1 : w.cell? ⟨g, k, none⟩ = some (.int .i64 (ct k)) := h.row.cell k _ (rowC_at _ hk)
    clear hf h
    go_enter Tryd.func20, Tryd.ntmps20
    go_wp2_with fail
    go_ret
    exact ⟨rfl, rfl⟩
  · rw [if_neg hf]
    clear h
    by_cases h0 : f < 0
    · clear hf
      go_enter Tryd.func20, Tryd.ntmps20
      go_wp2_with fail
      go_ret
      exact ⟨rfl, rfl⟩
    · have h1 : (n : Int) ≤ f := by omega
      clear hf
      go_enter Tryd.func20, Tryd.ntmps20
      go_wp2_with fail
      go_ret
      exact ⟨rfl, rfl⟩
theorem rpshare_yes (q g n cap k : Nat) (ct : Nat → Int) (w : World) (h : Rp w q g n cap ct) (hk : k < n) (h0 : 0 < ct k) (h1 : ct k < 1048576) : Calls Tryd.prog 16 #[.pointer (some ⟨q, 0, none⟩), .int .i64 k] w fun e w' => e = .returned (.int .i64 0) ∧ Rp w' q g n cap (upd ct k (ct k + 1)) ∧ Keeps (fun y => y = g) w w' := by
  have c0 : w.cell? ⟨q, 0, none⟩ = some (.slice (some ⟨g, 0, none⟩) n cap) := h.head.cell 0 _ rfl
  have hn := h.n64
  have hcap := h.hc
  have c1 : w.cell? ⟨g, k, none⟩ = some (.int .i64 (ct k)) := h.row.cell k _ (rowC_at _ hk)
  have f1 : w.frozen? ⟨g, k, none⟩ = false := h.row.frozen k (by rw [rowC_len]; exact hk)
  have n0 : (ct k == 0) = false := beq_eq_false_iff_ne.2 (by omega)
  have H := Lib.hid h
  clear h
  go_enter Tryd.func16, Tryd.ntmps16
  go_wp2_with fail
  go_ret
  exact ⟨rfl, H.out.set k hk _, Keeps.setCell (F := fun y => y = g) (p := ⟨g, k, none⟩) rfl _⟩
theorem rpshare_no (q g n cap : Nat) (f c : Int) (ct : Nat → Int) (w : World) (h : Rp w q g n cap ct) (hc : tkC n ct f 0 = c) (h0 : c ≠ 0) : Calls Tryd.prog 16 #[.pointer (some ⟨q, 0, none⟩), .int .i64 f] w fun e w' => e = .returned (.int .i64 c) ∧ w = w' := by
  have c0 : w.cell? ⟨q, 0, none⟩ = some (.slice (some ⟨g, 0, none⟩) n cap) := h.head.cell 0 _ rfl
  have hn := h.n64
  have hcap := h.hc
  subst hc
  unfold tkC at h0 ⊢
  by_cases hf : f < 0 ∨ (n : Int) ≤ f
  · rw [if_pos hf]
    clear h h0
    by_cases h1 : f < 0
    · clear hf
      go_enter Tryd.func16, Tryd.ntmps16
      go_wp2_with fail
      go_ret
      exact ⟨rfl, rfl⟩
    · have h2 : (n : Int) ≤ f := by omega
      clear hf
      go_enter Tryd.func16, Tryd.ntmps16
      go_wp2_with fail
      go_ret
      exact ⟨rfl, rfl⟩
  · rw [if_neg hf] at h0 ⊢
    obtain ⟨k, rfl⟩ := Int.eq_ofNat_of_zero_le (show 0 ≤ f by omega)
    rw [Int.toNat_natCast] at h0 ⊢
    have hk : k < n := by omega
    have hz : ct k = 0 := by
      by_cases e : ct k = 0
      · exact e
      · rw [if_neg e] at h0; exact absurd rfl h0
    rw [if_pos hz]
    have c1 : w.cell? ⟨g, k, none⟩ = some (.int .i64 0) := (h.row.cell k _ (rowC_at _ hk)).trans (by rw [hz])
    clear hf h h0 hz
    go_enter Tryd.func16, Tryd.ntmps16
    go_wp2_with fail
    go_ret
    exact ⟨rfl, rfl⟩
theorem rpdrop_no (q g n cap : Nat) (f c : Int) (ct : Nat → Int) (w : World) (h : Rp w q g n cap ct) (hc : tkC n ct f 1 = c) (h0 : c ≠ 0) : Calls Tryd.prog 17 #[.pointer (some ⟨q, 0, none⟩), .int .i64 f] w fun e w' => e = .returned (.tuple #[.bool false, .int .i64 c]) ∧ w = w' := by
  have c0 : w.cell? ⟨q, 0, none⟩ = some (.slice (some ⟨g, 0, none⟩) n cap) := h.head.cell 0 _ rfl
  have hn := h.n64
  have hcap := h.hc
  subst hc
  unfold tkC at h0 ⊢
  by_cases hf : f < 1 ∨ (n : Int) ≤ f
  · rw [if_pos hf]
    clear h h0
    by_cases h1 : f < 1
    · clear hf
      go_enter Tryd.func17, Tryd.ntmps17
      go_wp2_with fail
      go_ret2
      exact ⟨rfl, rfl⟩
    · have h2 : (n : Int) ≤ f := by omega
      clear hf
      go_enter Tryd.func17, Tryd.ntmps17
      go_wp2_with fail
      go_ret2
      exact ⟨rfl, rfl⟩
  · rw [if_neg hf] at h0 ⊢
    obtain ⟨k, rfl⟩ := Int.eq_ofNat_of_zero_le (show 0 ≤ f by omega)
    rw [Int.toNat_natCast] at h0 ⊢
    have hk : k < n := by omega
    have hz : ct k = 0 := by
      by_cases e : ct k = 0
      · exact e
      · rw [if_neg e] at h0; exact absurd rfl h0
    rw [if_pos hz]
    have h1 : 1 ≤ (k : Int) := by omega
    have c1 : w.cell? ⟨g, k, none⟩ = some (.int .i64 0) := (h.row.cell k _ (rowC_at _ hk)).trans (by rw [hz])
    clear hf h h0 hz
    go_enter Tryd.func17, Tryd.ntmps17
    go_wp2_with fail
    go_ret2
    exact ⟨rfl, rfl⟩
theorem rpdrop_yes (q g n cap k : Nat) (v : Int) (b : Bool) (ct : Nat → Int) (w : World) (h : Rp w q g n cap ct) (hk1 : 1 ≤ k) (hk : k < n) (hv : ct k = v) (h0 : 0 < v) (h1 : v ≤ 1048576) (hb : (v - 1 == 0) = b) : Calls Tryd.prog 17 #[.pointer (some ⟨q, 0, none⟩), .int .i64 k] w fun e w' => e = .returned (.tuple #[.bool b, .int .i64 0]) ∧ Rp w' q g n cap (upd ct k (v - 1)) ∧ Keeps (fun y => y = g) w w' := by
  have c0 : w.cell? ⟨q, 0, none⟩ = some (.slice (some ⟨g, 0, none⟩) n cap) := h.head.cell 0 _ rfl
  have hn := h.n64
  have hcap := h.hc
  have c1 : w.cell? ⟨g, k, none⟩ = some (.int .i64 v) := (h.row.cell k _ (rowC_at _ hk)).trans (by rw [hv])
  have f1 : w.frozen? ⟨g, k, none⟩ = false := h.row.frozen k (by rw [rowC_len]; exact hk)
  have n0 : (v == 0) = false := beq_eq_false_iff_ne.2 (by omega)
  have hne : q ≠ g := h.ne
  have H := Lib.hid h
  have HV := Lib.hid hv
  clear h hv
  go_enter Tryd.func17, Tryd.ntmps17
  go_upto_region 6 with fail
  have HP2 := Lib.hid (H.out.set k hk (v - 1))
  have HK := Lib.hid (Keeps.setCell (F := fun y => y = g) (w := w) (p := ⟨g, k, none⟩) rfl (.int .i64 (v - 1)))
  clear c0 c1 f1
  generalize (w.setCell ⟨g, k, none⟩ (.int .i64 (v - 1))) = W at *
  have c0 : W.cell? ⟨q, 0, none⟩ = some (.slice (some ⟨g, 0, none⟩) n cap) := HP2.out.head.cell 0 _ rfl
  have c1 : W.cell? ⟨g, k, none⟩ = some (.int .i64 (v - 1)) := (HP2.out.row.cell k _ (rowC_at _ hk)).trans (by simp [upd])
  go_wp2_with fail
  go_ret2
  exact ⟨rfl, HP2.out, HK.out⟩
set_option maxHeartbeats 400000 in
theorem rptake (q g n cap k : Nat) (ct : Nat → Int) (w : World) (h : Rp w q g n cap ct) (hk : k < n) (h0 : ct k = 0) (hl : ∀ i, i < k → ct i ≠ 0) : Calls Tryd.prog 15 #[.pointer (some ⟨q, 0, none⟩)] w fun e w' => e = .returned (.tuple #[.int .i64 k, .int .i64 0]) ∧ Rp w' q g n cap (upd ct k 1) ∧ Keeps (fun y => y = g) w w' := by
  have c0 : w.cell? ⟨q, 0, none⟩ = some (.slice (some ⟨g, 0, none⟩) n cap) := h.head.cell 0 _ rfl
  have hn := h.n64
  have hcap := h.hc
  have H := Lib.hid h
  have HL := Lib.hid hl
  have H0 := Lib.hid h0
  clear h hl h0
  go_enter Tryd.func15, Tryd.ntmps15
  go_wp2_with fail
  go_loop [4] (fun i => ∃ t : Nat, t ≤ k ∧ i = .int .i64 t) (fun i => k - (intOf i).toNat)
  case atStart => exact ⟨0, by omega, rfl⟩
  case round =>
    obtain ⟨t, ht, rfl⟩ := hrel
    have c1 : w.cell? ⟨g, t, none⟩ = some (.int .i64 (ct t)) := H.out.row.cell t _ (rowC_at _ (by omega))
    by_cases htk : t < k
    · have n0 : (ct t == 0) = false := beq_eq_false_iff_ne.2 (HL.out t htk)
      go_wp2_with fail
      go_round
      case rel => exact ⟨t + 1, by omega, by go_num⟩
      case measure => simp [intOf]; omega
    · have et : t = k := by omega
      subst et
      rw [H0.out] at c1
      have f1 : w.frozen? ⟨g, t, none⟩ = false := H.out.row.frozen t (by rw [rowC_len]; omega)
      go_wp2_with fail
      go_ret2
      exact ⟨rfl, H.out.set t hk _, Keeps.setCell (F := fun y => y = g) (p := ⟨g, t, none⟩) rfl _⟩
theorem rptake_full (q g n cap : Nat) (ct : Nat → Int) (w : World) (h : Rp w q g n cap ct) (hl : ∀ i, i < n → ct i ≠ 0) : Calls Tryd.prog 15 #[.pointer (some ⟨q, 0, none⟩)] w fun e w' => e = .returned (.tuple #[.int .i64 0, .int .i64 20]) ∧ w = w' := by
  have c0 : w.cell? ⟨q, 0, none⟩ = some (.slice (some ⟨g, 0, none⟩) n cap) := h.head.cell 0 _ rfl
  have hn := h.n64
  have hcap := h.hc
  have H := Lib.hid h
  have HL := Lib.hid hl
  clear h hl
  go_enter Tryd.func15, Tryd.ntmps15
  go_wp2_with fail
  go_loop [4] (fun i => ∃ t : Nat, t ≤ n ∧ i = .int .i64 t) (fun i => n - (intOf i).toNat)
  case atStart => exact ⟨0, by omega, rfl⟩
  case round =>
    obtain ⟨t, ht, rfl⟩ := hrel
    by_cases htk : t < n
    · have c1 : w.cell? ⟨g, t, none⟩ = some (.int .i64 (ct t)) := H.out.row.cell t _ (rowC_at _ (by omega))
      have n0 : (ct t == 0) = false := beq_eq_false_iff_ne.2 (HL.out t htk)
      go_wp2_with fail
      go_round
      case rel => exact ⟨t + 1, by omega, by go_num⟩
      case measure => simp [intOf]; omega
    · have et : t = n := by omega
      subst et
      go_wp2_with fail
      go_ret2
      exact ⟨rfl, rfl⟩
theorem fr_succ (n : Nat) (ct : Nat → Int) (t : Nat) : cnt (frP n ct) (t + 1) = cnt (frP n ct) t + if frP n ct t = true then 1 else 0 := rfl
theorem rpfree (q g n cap : Nat) (ct : Nat → Int) (w : World) (h : Rp w q g n cap ct) : Calls Tryd.prog 21 #[.pointer (some ⟨q, 0, none⟩)] w fun e w' => e = .returned (.int .i64 (cnt (frP n ct) 64 : Nat)) ∧ w = w' := by
  have c0 : w.cell? ⟨q, 0, none⟩ = some (.slice (some ⟨g, 0, none⟩) n cap) := h.head.cell 0 _ rfl
  have hn := h.n64
  have hcap := h.hc
  have H := Lib.hid h
  clear h
  go_enter Tryd.func21, Tryd.ntmps21
  go_wp2_with fail
  go_loop [3, 4] (fun s i => ∃ t : Nat, t ≤ n ∧ i = .int .i64 t ∧ s = .int .i64 (cnt (frP n ct) t : Nat)) (fun _ i => n - (intOf i).toNat)
  case atStart => exact ⟨0, by omega, rfl, rfl⟩
  case round =>
    obtain ⟨t, ht, rfl, rfl⟩ := hrel
    have hs1 := cnt_le (frP n ct) t
    by_cases htk : t < n
    · have c1 : w.cell? ⟨g, t, none⟩ = some (.int .i64 (ct t)) := H.out.row.cell t _ (rowC_at _ (by omega))
      have HS := Lib.hid (fr_succ n ct t)
      by_cases hz : ct t = 0
      · have HT := Lib.hid (show frP n ct t = true by simp [frP, hz, htk])
        rw [hz] at c1
        clear hz
        go_wp2_with fail
        go_round
        case rel => exact ⟨t + 1, by omega, by go_num, by rw [HS.out, if_pos HT.out]; go_num⟩
        case measure => simp [intOf]; omega
      · have HT := Lib.hid (show ¬ frP n ct t = true by simp [frP, hz])
        have n0 : (ct t == 0) = false := beq_eq_false_iff_ne.2 hz
        clear hz
        go_wp2_with fail
        go_round
        case rel => exact ⟨t + 1, by omega, by go_num, by rw [HS.out, if_neg HT.out]; rfl⟩
        case measure => simp [intOf]; omega
    · have et : t = n := by omega
      subst et
      have HE := Lib.hid (cnt_out (frP t ct) t (fun i hi => by simp [frP]; omega) 64 hn)
      go_wp2_with fail
      go_ret
      exact ⟨ret_int (by rw [HE.out]), rfl⟩
/-- What the document's Copy leaves. -/
def RpCopied (w : World) (n : Nat) (ct : Nat → Int) (e : Ending) (w' : World) : Prop :=
  ∃ q g cap, e = .returned (.pointer (some ⟨q, 0, none⟩)) ∧ Rp w' q g n cap ct ∧ Below w.heap.size w w' ∧ w.heap.size ≤ q ∧ w.heap.size ≤ g
theorem rp_of_own {w : World} {g n cap base : Nat} {ct : Nat → Int} (h : w.ownsRow base 3 1 (.slice (some ⟨g, 0, none⟩) n cap) n (rowC n ct)) (hn : 1 ≤ n) : Arr w g (rowC n ct) ∧ base ≤ g ∧ n ≤ cap := by
  obtain ⟨_, ⟨h1, _⟩ | ⟨g', cap', cur, h1, h2, h3, h4, h5, h6, h7⟩⟩ := h
  · cases h1
  · cases h1
    refine ⟨⟨?_, fun i v hi => ?_, fun i hi => ?_⟩, h2, h4⟩
    · exact (Array.getElem?_eq_some_iff.1 h3).1
    · rw [cell_of_row _ _ i cur 3 (0, 0) h3]
      rw [← h7] at hi
      rw [List.getElem?_take] at hi
      split at hi
      · simpa using hi
      · cases hi
    · unfold World.frozen?
      rw [h3]
      simp
theorem row_news {w : World} {q g n cap : Nat} {ct : Nat → Int} (h : Rp w q g n cap ct) : ∀ j u, (rowC n ct)[j]? = some u → w.cell? ((⟨g, 0, none⟩ : Addr).add j) = some u := fun j u hu => by
  have hadd : (⟨g, 0, none⟩ : Addr).add j = ⟨g, j, none⟩ := by unfold Addr.add; split <;> simp_all
  rw [hadd]
  exact h.row.cell j u hu
theorem row_one (n : Nat) (ct : Nat → Int) : ∀ u ∈ rowC n ct, u.oneCell' = true := by
  intro u hu
  unfold rowC at hu
  obtain ⟨i, _, rfl⟩ := List.mem_map.1 hu
  rfl
set_option maxRecDepth 100000 in
set_option maxHeartbeats 1000000 in
theorem rpcopy (q g n cap : Nat) (ct : Nat → Int) (w : World) (h : Rp w q g n cap ct) (hn : 1 ≤ n) : Calls Tryd.prog 19 #[.pointer (some ⟨q, 0, none⟩)] w (RpCopied w n ct) := by
  obtain ⟨i0, hi, hz0, hz1, hz2⟩ := intInfo
  have hn64 := h.n64
  have H := Lib.hid (h.call (ba (Below.refl w.heap.size w) (.cells #[.slice none 0 0] 52)))
  have HB := Lib.hid (ba (Below.refl w.heap.size w) (.cells #[.slice none 0 0] 52))
  have HA := Lib.hid (Arr.new w #[.slice none 0 0] 52)
  have hlt : q < w.heap.size := h.head.lt
  have hltg : g < w.heap.size := h.row.lt
  have hcap := h.hc
  clear h
  go_enter Tryd.func19, Tryd.ntmps19
  go_upto_region 2 with fail
  have hsz : w.heap.size < (w.alloc (.cells #[.slice none 0 0] 52)).heap.size := HA.out.lt
  generalize (w.alloc (.cells #[.slice none 0 0] 52)) = W at *
  have c0 : W.cell? ⟨q, 0, none⟩ = some (.slice (some ⟨g, 0, none⟩) n cap) := H.out.head.cell 0 _ rfl
  have c1 : W.cell? ⟨w.heap.size, 0, none⟩ = some (.slice none 0 0) := HA.out.cell 0 _ rfl
  generalize hX : w.heap.size = X at *
  have EX := Lib.hid hX
  clear hX
  have f1 : W.frozen? ⟨X, 0, none⟩ = false := HA.out.frozen 0 (by simp)
  have HN := Lib.hid (row_news H.out)
  go_region_law ((refine step_append_lies _ (by rfl) _ _ _ (by rfl) W.heap.size 3 i0 _ 1 8 Tryd.underlying50 hi hz0 hz1 hz2 rfl (by omega) (.slice none 0 0) 0 [] (by rfl) (by exact ⟨rfl, .inl ⟨rfl, rfl⟩⟩) ⟨g, 0, none⟩ n cap (rowC n ct) (by rfl) (by rw [rowC_len, Nat.mul_one]) (by exact HN.out) (row_one n ct) (by omega) (by unfold maxLen; omega) (by omega) (by simp) W.heap.size (by simp) ?_; intro g2 cap2 w2 hown hgrow hat hlt2; have c2 : w2.cell? ⟨X, 0, none⟩ = some (.slice none 0 0) := (hgrow.cell (a := ⟨X, 0, none⟩) c1 (by simp [Value.ownBlock])); have f2 : w2.frozen? ⟨X, 0, none⟩ = false := (World.frozen?_of_block (a := ⟨X, 0, none⟩) (hgrow.block X hsz (by simp [Value.ownBlock]))).trans f1; have HO := Lib.hid hown; have HW := Lib.hid hgrow; clear hown hgrow hat hlt2))
  all_goals
    have ho := HO.out
    simp only [Nat.zero_add, List.nil_append] at ho
    obtain ⟨r1, r2, r3⟩ := rp_of_own ho hn
    have hb2 : Below W.heap.size W w2 := (Below.refl W.heap.size W).drew.grown HW.out (Nat.le_refl _) (fun k hk => by cases hk)
    have R1 := Lib.hid ((HA.out.call hb2).set 0 (by simp) (.slice (some ⟨g2, 0, none⟩) n cap2))
    have R2 := Lib.hid (r1.far (p := ⟨X, 0, none⟩) (by show X ≠ g2; omega) (.slice (some ⟨g2, 0, none⟩) n cap2))
    have R3 := Lib.hid (show Below X w (w2.setCell ⟨X, 0, none⟩ (.slice (some ⟨g2, 0, none⟩) n cap2)) from (HB.out.trans (hb2.mono (by omega))).setCell (Nat.le_refl _) _)
    have hX : X ≠ g2 := by omega
    clear hb2 r1 ho HO HW
    go_wp2_with fail
    go_ret
    have ex := EX.out
    exact ⟨X, g2, cap2, rfl, ⟨R1.out, R2.out, hX, r3, hn64⟩, by rw [ex]; exact R3.out, by omega, by omega⟩
end Go.Proofs.YtokmcelmodoeoaaDoor
