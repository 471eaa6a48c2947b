/-
  The document's cast (package tenementref13) in the world: its struct's block, its one row of pairs; what reads it.
-/
import Derived.Test.YtokmcelmodoeoaaCsSend
import Derived.Test.YtokmcelmodoeoaaInvalRef
import Derived.LoopTactic
namespace Go.Proofs.Ytokmcelmodoeoaa
open Go.RowKit
set_option linter.unusedVariables false
set_option linter.unusedSimpArgs false
/-- A pair: which core, who sent it, the invalidation. -/
structure Rp where
  c : Int
  s : Int
  k : Int
  a : Int
  p : Int
def encR (x : Rp) : List Value := [.int .i64 x.c, .int .i64 x.s, .int .i8 x.k, .int .i64 x.a, .int .u64 x.p]
theorem encR_len (x : Rp) : (encR x).length = 5 := rfl
theorem encR_one (x : Rp) : ∀ u ∈ encR x, u.oneCell' = true := by
  intro u hu
  simp [encR] at hu
  rcases hu with rfl | rfl | rfl | rfl | rfl <;> rfl
def rcRow (n : Nat) (v : Value) : Array Value := #[.int .i64 n, v]
structure Rc (w : World) (q n : Nat) (L : List Rp) (v : Value) (F : Nat → Prop) : Prop where
  str : Bk w q 69 (rcRow n v)
  row : Ow encR 5 57 w 0 v L
  bF : F q
  rF : ∀ g, v.ownBlock = some g → F g
  lt : ∀ g, F g → g < w.heap.size
  off : v.ownBlock ≠ some q
  n1 : 1 ≤ n
  n8 : n ≤ 8
  len : L.length ≤ 1000
section
variable {w w' : World} {q n : Nat} {L : List Rp} {v : Value} {F : Nat → Prop}
theorem Rc.keep {G : Nat → Prop} (h : Rc w q n L v F) (hk : Keeps G w w') (hG : ∀ g, F g → ¬ G g) : Rc w' q n L v F where
  str := h.str.keep hk (hG q h.bF)
  row := h.row.keep hk fun g hg => hG g (h.rF g hg)
  bF := h.bF
  rF := h.rF
  lt := fun g hg => Nat.lt_of_lt_of_le (h.lt g hg) hk.size
  off := h.off
  n1 := h.n1
  n8 := h.n8
  len := h.len
theorem Rc.call (h : Rc w q n L v F) (hb : Below w.heap.size w w') : Rc w' q n L v F := h.keep (Keeps.of_below (F := fun _ => False) hb) fun _ _ hf => hf
theorem Rc.alloc (h : Rc w q n L v F) (o : Obj) : Rc (w.alloc o) q n L v F := h.call (ba (Below.refl _ _) o)
theorem Rc.drew (h : Rc w q n L v F) : Rc w.drew q n L v F := h.call (bd (Below.refl _ _))
theorem Rc.cell0 (h : Rc w q n L v F) : w.cell? ⟨q, 0, none⟩ = some (.int .i64 n) := by rw [h.str.cell]; rfl
theorem Rc.cell1 (h : Rc w q n L v F) : w.cell? ⟨q, 1, none⟩ = some v := by rw [h.str.cell]; rfl
theorem Rc.fr (h : Rc w q n L v F) (i : Nat) : w.frozen? ⟨q, i, none⟩ = false := h.str.frozen i
theorem Rc.blt (h : Rc w q n L v F) : q < w.heap.size := h.str.lt
theorem Rc.form (h : Rc w q n L v F) : ∃ O cap, v = .slice O L.length cap ∧ L.length ≤ cap ∧ cap ≤ maxLen ∧ RK encR 5 w O L := h.row.form encR_len
theorem Rc.turned (h : Rc w q n L v F) {v' : Value} {xs : List Rp} (hO : Ow encR 5 57 w' 0 v' xs) (hK : Keeps (fun g => v.ownBlock = some g) w w') (hx : xs.length ≤ 1000)
    (hv : ∀ g, v'.ownBlock = some g → v.ownBlock = some g ∨ w.heap.size ≤ g) :
    Rc (w'.setCell ⟨q, 1, none⟩ v') q n xs v' (fun g => F g ∨ (w.heap.size ≤ g ∧ g < w'.heap.size)) ∧ Keeps F w (w'.setCell ⟨q, 1, none⟩ v') := by
  have hstr : Bk w' q 69 (rcRow n v) := h.str.keep hK h.off
  have hKF : Keeps F w w' := hK.mono fun g hg => h.rF g hg
  have hset : Keeps (fun g => g = q) w' (w'.setCell ⟨q, 1, none⟩ v') := Keeps.setCell (F := fun g => g = q) (p := ⟨q, 1, none⟩) (by rfl) v'
  have hnb : v'.ownBlock ≠ some q := fun e => by
    rcases hv q e with h1 | h1
    · exact h.off h1
    · have := h.blt; omega
  refine ⟨⟨?_, hO.keep hset fun g hg e => hnb (by rw [hg, e]), Or.inl h.bF, fun g hg => ?_, fun g hg => ?_, hnb, h.n1, h.n8, hx⟩, hKF.trans hset fun x hx => Or.inl (by rw [hx]; exact h.bF)⟩
  · have := hstr.set 1 v'
    exact this
  · rcases hv g hg with h1 | h1
    · exact Or.inl (h.rF g h1)
    · exact Or.inr ⟨h1, (hO.lt g hg).2⟩
  · rw [World.size_setCell]
    rcases hg with hg | hg
    · exact Nat.lt_of_lt_of_le (h.lt g hg) hK.size
    · exact hg.2
end
theorem rc_new (w : World) (n : Nat) (h1 : 1 ≤ n) (h8 : n ≤ 8) : Rc (w.alloc (.cells (rcRow n (.slice none 0 0)) 69)) w.heap.size n [] (.slice none 0 0) (fun g => g = w.heap.size) where
  str := Bk.new w _ _
  row := Ow.nil _ _ _
  bF := rfl
  rF := fun g hg => by simp [Value.ownBlock] at hg
  lt := fun g hg => by rw [hg]; simp
  off := by simp [Value.ownBlock]
  n1 := h1
  n8 := h8
  len := by simp
theorem rnew_yes (n : Nat) (w : World) (h1 : 1 ≤ n) (h8 : n ≤ 8) : Calls Try.prog 13 #[.int .i64 n] w fun e w' => e = .returned (.tuple #[.pointer (some ⟨w.heap.size, 0, none⟩), .int .i64 0]) ∧ Rc w' w.heap.size n [] (.slice none 0 0) (fun g => g = w.heap.size) ∧ Below w.heap.size w w' := by
  go_enter Try.func13, Try.ntmps13
  go_wp2_with fail
  go_ret2
  exact ⟨rfl, rc_new w n h1 h8, ba (Below.refl _ _) _⟩
theorem rnew_no (n : Int) (w : World) (h : n < 1 ∨ 8 < n) : Calls Try.prog 13 #[.int .i64 n] w fun e w' => e = .returned (.tuple #[.pointer none, .int .i64 2]) ∧ w = w' := by
  rcases h with h | h
  · go_enter Try.func13, Try.ntmps13
    go_wp2_with fail
    go_ret2
    exact ⟨rfl, rfl⟩
  · have h' : ¬ n < 1 := by omega
    go_enter Try.func13, Try.ntmps13
    go_wp2_with fail
    go_ret2
    exact ⟨rfl, rfl⟩
/-- How many are of a core. -/
def cntL (L : List Rp) (c : Int) : Nat := (L.filter fun x => x.c == c).length
theorem cntL_snoc (L : List Rp) (c : Int) (m : Nat) (x : Rp) (h : L[m]? = some x) : cntL (L.take (m + 1)) c = cntL (L.take m) c + if x.c = c then 1 else 0 := by
  unfold cntL
  rw [List.take_add_one, h, Option.toList_some, List.filter_append, List.length_append]
  by_cases e : x.c = c
  · simp [e]
  · have : (x.c == c) = false := by simpa using e
    simp [this, e]
theorem cntL_le (L : List Rp) (c : Int) : cntL L c ≤ L.length := List.length_filter_le _ _
set_option maxHeartbeats 1000000 in
theorem rwaits_any (q n : Nat) (L : List Rp) (v : Value) (F : Nat → Prop) (c : Int) (w : World) (h : Rc w q n L v F) : Calls Try.prog 18 #[.pointer (some ⟨q, 0, none⟩), .int .i64 c] w fun e w' => e = .returned (.int .i64 (cntL L c : Nat)) ∧ w = w' := by
  obtain ⟨O, cap, hv, hl, hm, hR⟩ := h.form
  have c1 := h.cell1
  rw [hv] at c1
  have hln := h.len
  have HR := Lib.hid hR
  clear hR hv h
  go_enter Try.func18, Try.ntmps18
  go_wp2_with fail
  go_loop [5, 6] (fun nv iv => ∃ m : Nat, iv = .int .i64 m ∧ m ≤ L.length ∧ nv = .int .i64 (cntL (L.take m) c : Nat)) (fun _ iv => L.length - (intOf iv).toNat)
  case atStart => exact ⟨0, rfl, by omega, rfl⟩
  case round =>
    obtain ⟨m, rfl, hm2, rfl⟩ := hrel
    have hcl := cntL_le (L.take m) c
    rw [List.length_take] at hcl
    by_cases hlt : m < L.length
    · obtain ⟨x, hx⟩ : ∃ x, L[m]? = some x := ⟨_, List.getElem?_eq_getElem hlt⟩
      obtain ⟨b, off, rfl, hcell⟩ := HR.out (by omega)
      have q0 := hcell m x hx 0 _ rfl
      rw [Nat.add_zero] at q0
      have HS := Lib.hid (cntL_snoc L c m x hx)
      clear hcell hx
      by_cases hc : x.c = c
      · go_wp2_with fail
        go_round
        case rel => exact ⟨m + 1, by go_num, by omega, by rw [HS.out, if_pos hc]; go_num⟩
        case measure => simp [intOf]; omega
      · go_wp2_with fail
        go_round
        case rel => exact ⟨m + 1, by go_num, by omega, by rw [HS.out, if_neg hc]; go_num⟩
        case measure => simp [intOf]; omega
    · obtain rfl : m = L.length := by omega
      go_wp2_with fail
      go_ret
      exact ⟨rfl, rfl⟩
/-- Has nobody a pair of that sender? -/
def doneL (L : List Rp) (c : Int) : Bool := L.all fun x => x.s != c
set_option maxHeartbeats 1000000 in
theorem rdone_any (q n : Nat) (L : List Rp) (v : Value) (F : Nat → Prop) (c : Int) (w : World) (h : Rc w q n L v F) : Calls Try.prog 17 #[.pointer (some ⟨q, 0, none⟩), .int .i64 c] w fun e w' => e = .returned (.bool (doneL L c)) ∧ w = w' := by
  obtain ⟨O, cap, hv, hl, hm, hR⟩ := h.form
  have c1 := h.cell1
  rw [hv] at c1
  have hln := h.len
  have HR := Lib.hid hR
  clear hR hv h
  go_enter Try.func17, Try.ntmps17
  go_wp2_with fail
  go_loop [5] (fun iv => ∃ m : Nat, iv = .int .i64 m ∧ m ≤ L.length ∧ ∀ i x, i < m → L[i]? = some x → x.s ≠ c) (fun iv => L.length - (intOf iv).toNat)
  case atStart => exact ⟨0, rfl, by omega, fun i x hi => by omega⟩
  case round =>
    obtain ⟨m, rfl, hm2, hq⟩ := hrel
    have HQ := Lib.hid hq
    clear hq
    by_cases hlt : m < L.length
    · obtain ⟨x, hx⟩ : ∃ x, L[m]? = some x := ⟨_, List.getElem?_eq_getElem hlt⟩
      obtain ⟨b, off, rfl, hcell⟩ := HR.out (by omega)
      have q1 := hcell m x hx 1 _ rfl
      have HX := Lib.hid hx
      clear hcell hx
      by_cases hc : x.s = c
      · have HD := Lib.hid (show doneL L c = false by
          rw [Bool.eq_false_iff]
          intro hd
          have := (List.all_eq_true.1 hd) x (List.mem_of_getElem? HX.out)
          simp [hc] at this)
        go_wp2_with fail
        go_ret
        exact ⟨ret_bool HD.out.symm, rfl⟩
      · go_wp2_with fail
        go_round
        case rel => exact ⟨m + 1, by go_num, by omega, fun i y hi hy => by
          by_cases e : i < m
          · exact HQ.out i y e hy
          · obtain rfl : i = m := by omega
            rw [HX.out] at hy
            injection hy with hy
            rw [← hy]; exact hc⟩
        case measure => simp [intOf]; omega
    · obtain rfl : m = L.length := by omega
      have HD := Lib.hid (show doneL L c = true from List.all_eq_true.2 fun x hx => by
        obtain ⟨i, hi⟩ := List.getElem?_of_mem hx
        simpa using HQ.out i x (List.getElem?_eq_some_iff.1 hi).1 hi)
      go_wp2_with fail
      go_ret
      exact ⟨ret_bool HD.out.symm, rfl⟩
/-- Where a core's first pair is. -/
def atL (L : List Rp) (c : Int) : Nat := L.findIdx fun x => x.c == c
theorem atL_of {L : List Rp} {c : Int} {m : Nat} {x : Rp} (h : L[m]? = some x) (hx : x.c = c) (hq : ∀ (i : Nat) (y : Rp), i < m → L[i]? = some y → y.c ≠ c) : atL L c = m := by
  obtain ⟨hm, hx'⟩ := List.getElem?_eq_some_iff.1 h
  unfold atL
  rw [List.findIdx_eq hm]
  refine ⟨by rw [hx']; simpa using hx, fun j hj => ?_⟩
  have := hq j _ hj (List.getElem?_eq_getElem (by omega))
  simpa using this
theorem atL_none {L : List Rp} {c : Int} (hq : ∀ (i : Nat) (y : Rp), L[i]? = some y → y.c ≠ c) : atL L c = L.length := by
  unfold atL
  rw [List.findIdx_eq_length]
  intro x hx
  obtain ⟨i, hi⟩ := List.getElem?_of_mem hx
  simpa using hq i x hi
def atI (L : List Rp) (c : Int) : Int := if atL L c < L.length then (atL L c : Int) else -1
set_option maxHeartbeats 1000000 in
theorem rat_any (q n : Nat) (L : List Rp) (v : Value) (F : Nat → Prop) (c : Int) (w : World) (h : Rc w q n L v F) : Calls Try.prog 26 #[.pointer (some ⟨q, 0, none⟩), .int .i64 c] w fun e w' => e = .returned (.int .i64 (atI L c)) ∧ w = w' := by
  obtain ⟨O, cap, hv, hl, hm, hR⟩ := h.form
  have c1 := h.cell1
  rw [hv] at c1
  have hln := h.len
  have HR := Lib.hid hR
  clear hR hv h
  go_enter Try.func26, Try.ntmps26
  go_wp2_with fail
  go_loop [5] (fun iv => ∃ m : Nat, iv = .int .i64 m ∧ m ≤ L.length ∧ ∀ i x, i < m → L[i]? = some x → x.c ≠ c) (fun iv => L.length - (intOf iv).toNat)
  case atStart => exact ⟨0, rfl, by omega, fun i x hi => by omega⟩
  case round =>
    obtain ⟨m, rfl, hm2, hq⟩ := hrel
    have HQ := Lib.hid hq
    clear hq
    by_cases hlt : m < L.length
    · obtain ⟨x, hx⟩ : ∃ x, L[m]? = some x := ⟨_, List.getElem?_eq_getElem hlt⟩
      obtain ⟨b, off, rfl, hcell⟩ := HR.out (by omega)
      have q0 := hcell m x hx 0 _ rfl
      rw [Nat.add_zero] at q0
      have HX := Lib.hid hx
      clear hcell hx
      by_cases hc : x.c = c
      · have HD := Lib.hid (show atI L c = m by
          have := atL_of HX.out hc HQ.out
          unfold atI
          rw [this, if_pos hlt])
        go_wp2_with fail
        go_ret
        exact ⟨ret_int HD.out.symm, rfl⟩
      · go_wp2_with fail
        go_round
        case rel => exact ⟨m + 1, by go_num, by omega, fun i y hi hy => by
          by_cases e : i < m
          · exact HQ.out i y e hy
          · obtain rfl : i = m := by omega
            rw [HX.out] at hy
            injection hy with hy
            rw [← hy]; exact hc⟩
        case measure => simp [intOf]; omega
    · obtain rfl : m = L.length := by omega
      have HD := Lib.hid (show atI L c = -1 by
        have := atL_none (L := L) (c := c) (fun i y hy => HQ.out i y (List.getElem?_eq_some_iff.1 hy).1 hy)
        unfold atI
        rw [this, if_neg (by omega)])
      go_wp2_with fail
      go_ret
      exact ⟨ret_int HD.out.symm, rfl⟩
end Go.Proofs.Ytokmcelmodoeoaa
