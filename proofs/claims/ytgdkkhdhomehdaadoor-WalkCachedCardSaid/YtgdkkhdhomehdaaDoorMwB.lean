/-
  The walks of field.Get and of the reference's Get.
  The walks of package desc: its tables, get, flags, Encode.
  desc.Encode: the descriptor's word.
  desc.Encode at kind 0.
  desc.Encode at kind 1.
  desc.Encode at kind 2.
  desc.Encode joined, and desc.Decode: the descriptor of a word.
  desc.Decode: its walk.
  addr.Index, Prefix and Word, and the document's Index and Prefix: what each computes (printed by gen/adidx.py out of the texts of seat a).
-/
import Derived.Test.YtgdkkhdhomehdaaDoorMwA
import Derived.Deep.RegionHeld3
import Derived.Deep.QuietTactic
import Derived.BigQuiet
import Derived.Deep.Draws
import Derived.LoopTactic
import Derived.LoopN
namespace Go.Proofs.YtgdkkhdhomehdaaDoor
section
open Go.RowKit
set_option linter.unusedVariables false

set_option maxHeartbeats 400000 in
theorem there_yes (hi lo : Int) (w : World) (h0 : 0 ≤ lo) (h1 : lo ≤ hi) (h2 : hi ≤ 63) :
    Calls Tryd.prog 100 #[.agg #[.int .i64 hi, .int .i64 lo]] w fun e w' => e = .returned (.bool true) ∧ Below w.heap.size w w' := by
  go_enter Tryd.func100, Tryd.ntmps100
  go_wp2
  go_ret
  exact ⟨rfl, (Below.refl _ _).alloc (Nat.le_refl _) _⟩
set_option maxHeartbeats 400000 in
theorem there_no (hi lo : Int) (w : World) (h : ¬ (0 ≤ lo ∧ lo ≤ hi ∧ hi ≤ 63)) :
    Calls Tryd.prog 100 #[.agg #[.int .i64 hi, .int .i64 lo]] w fun e w' => e = .returned (.bool false) ∧ Below w.heap.size w w' := by
  by_cases h0 : lo < 0
  · go_enter Tryd.func100, Tryd.ntmps100
    go_wp2
    go_ret
    exact ⟨rfl, (Below.refl _ _).alloc (Nat.le_refl _) _⟩
  · by_cases h1 : hi < lo
    · clear h
      go_enter Tryd.func100, Tryd.ntmps100
      go_wp2
      go_ret
      exact ⟨rfl, (Below.refl _ _).alloc (Nat.le_refl _) _⟩
    · have h2 : 63 < hi := by omega
      clear h
      go_enter Tryd.func100, Tryd.ntmps100
      go_wp2
      go_ret
      exact ⟨rfl, (Below.refl _ _).alloc (Nat.le_refl _) _⟩
set_option maxHeartbeats 400000 in
theorem ones_yes (h l : Nat) (w : World) (h1 : l ≤ h) (h2 : h ≤ 63) :
    Calls Tryd.prog 101 #[.agg #[.int .i64 h, .int .i64 l]] w fun e w' => e = .returned (.int .u64 (nOnes h l)) ∧ Below w.heap.size w w' := by
  go_enter Tryd.func101, Tryd.ntmps101
  go_wp2_with (go_at_call 100; refine (there_yes _ _ _ (by omega) (by omega) (by omega)).mono ?_; rintro e w1 ⟨rfl, hb⟩; obtain ⟨hc, hf⟩ := bcell hb)
  go_ret
  refine ⟨ret_int ?_, ((Below.refl _ _).alloc (Nat.le_refl _) _).trans (hb.mono (by simp))⟩
  exact ones_progI h l h1 h2
set_option maxHeartbeats 400000 in
theorem ones_no (hi lo : Int) (w : World) (h : ¬ (0 ≤ lo ∧ lo ≤ hi ∧ hi ≤ 63)) :
    Calls Tryd.prog 101 #[.agg #[.int .i64 hi, .int .i64 lo]] w fun e w' => e = .returned (.int .u64 0) ∧ Below w.heap.size w w' := by
  have H := Lib.hid h
  clear h
  go_enter Tryd.func101, Tryd.ntmps101
  go_wp2_with (go_at_call 100; refine (there_no _ _ _ H.out).mono ?_; rintro e w1 ⟨rfl, hb⟩; obtain ⟨hc, hf⟩ := bcell hb)
  go_ret
  exact ⟨rfl, ((Below.refl _ _).alloc (Nat.le_refl _) _).trans (hb.mono (by simp))⟩
theorem nat_of_ok {hi lo : Int} (h : 0 ≤ lo ∧ lo ≤ hi ∧ hi ≤ 63) : ∃ h' l' : Nat, hi = h' ∧ lo = l' ∧ l' ≤ h' ∧ h' ≤ 63 :=
  ⟨hi.toNat, lo.toNat, by omega, by omega, by omega, by omega⟩
theorem fGet_nat (x h l : Nat) (h1 : l ≤ h) (h2 : h ≤ 63) : fGet x h l = nGet x h l := by
  unfold fGet; rw [if_pos ((fOk_nat h l).2 ⟨h1, h2⟩)]; simp
theorem fOnes_nat (h l : Nat) (h1 : l ≤ h) (h2 : h ≤ 63) : fOnes h l = nOnes h l := by
  unfold fOnes; rw [if_pos ((fOk_nat h l).2 ⟨h1, h2⟩)]; simp
theorem fGet_no {x hi lo : Int} (h : ¬ (0 ≤ lo ∧ lo ≤ hi ∧ hi ≤ 63)) : fGet x hi lo = 0 := by
  unfold fGet; rw [if_neg (by rw [fOk_iff]; exact h)]
theorem fOnes_no {hi lo : Int} (h : ¬ (0 ≤ lo ∧ lo ≤ hi ∧ hi ≤ 63)) : fOnes hi lo = 0 := by
  unfold fOnes; rw [if_neg (by rw [fOk_iff]; exact h)]
set_option maxHeartbeats 400000 in
theorem get_any (x hi lo : Int) (w : World) (hx : U64 x) :
    Calls Tryd.prog 90 #[.int .u64 x, .int .i64 hi, .int .i64 lo] w fun e w' => e = .returned (.int .u64 (fGet x hi lo)) ∧ Below w.heap.size w w' := by
  by_cases hk : 0 ≤ lo ∧ lo ≤ hi ∧ hi ≤ 63
  · obtain ⟨h, l, rfl, rfl, h1, h2⟩ := nat_of_ok hk
    clear hk
    obtain ⟨x, rfl, hx'⟩ := u64_nat hx
    have HX := Lib.hid hx'
    clear hx hx'
    go_enter Tryd.func90, Tryd.ntmps90
    go_wp2_with (first
      | (go_at_call 100; refine (there_yes _ _ _ (by omega) (by omega) (by omega)).mono ?_; rintro e w1 ⟨rfl, hb⟩; obtain ⟨hc, hf⟩ := bcell hb)
      | (go_at_call 101; refine (ones_yes h l _ h1 h2).mono ?_; rintro e w2 ⟨rfl, hb2⟩))
    go_ret
    refine ⟨ret_int ?_, (((Below.refl _ _).alloc (Nat.le_refl _) _).trans (hb.mono (by simp))).trans (hb2.mono ?_)⟩
    · rw [fGet_nat x h l h1 h2, ← get_prog x h l h1, u64_and_nat _ _ HX.out (ones_lt h l h1 h2)]
      norm_cast
    · have := hb.size; simp at this; omega
  · have H := Lib.hid hk
    clear hk
    go_enter Tryd.func90, Tryd.ntmps90
    go_wp2_with (go_at_call 100; refine (there_no _ _ _ H.out).mono ?_; rintro e w1 ⟨rfl, hb⟩; obtain ⟨hc, hf⟩ := bcell hb)
    go_ret
    refine ⟨ret_int (fGet_no H.out).symm, ((Below.refl _ _).alloc (Nat.le_refl _) _).trans (hb.mono (by simp))⟩
theorem is_any (hi lo : Int) (w : World) :
    Calls Tryd.prog 92 #[.int .i64 hi, .int .i64 lo] w fun e w' => e = .returned (.bool (fOk hi lo)) ∧ w = w' := by
  by_cases h0 : 0 ≤ lo
  · by_cases h1 : lo ≤ hi
    · by_cases h2 : hi ≤ 63
      · have e : fOk hi lo = true := (fOk_iff _ _).2 ⟨h0, h1, h2⟩
        rw [e]; clear e
        go_enter Tryd.func92, Tryd.ntmps92
        go_wp2
        go_ret
        exact ⟨rfl, rfl⟩
      · have e : fOk hi lo = false := by rw [← Bool.not_eq_true, fOk_iff]; omega
        rw [e]; clear e
        go_enter Tryd.func92, Tryd.ntmps92
        go_wp2
        go_ret
        exact ⟨rfl, rfl⟩
    · have e : fOk hi lo = false := by rw [← Bool.not_eq_true, fOk_iff]; omega
      rw [e]; clear e
      have h1' : hi < lo := by omega
      clear h1
      go_enter Tryd.func92, Tryd.ntmps92
      go_wp2
      go_ret
      exact ⟨rfl, rfl⟩
  · have e : fOk hi lo = false := by rw [← Bool.not_eq_true, fOk_iff]; omega
    rw [e]; clear e
    have h0' : lo < 0 := by omega
    clear h0
    go_enter Tryd.func92, Tryd.ntmps92
    go_wp2
    go_ret
    exact ⟨rfl, rfl⟩
/-- A bit. -/
def bitI (x k : Nat) : Int := ((x / 2 ^ k % 2 : Nat) : Int)
theorem bit_val (x k : Nat) (hx : x < 18446744073709551616) : bits .and .u64 ((x : Int) / 2 ^ k) 1 = bitI x k := by
  have e : (x : Int) / 2 ^ k = ((x / 2 ^ k : Nat) : Int) := by simp only [Int.natCast_ediv, Int.natCast_pow, Int.cast_ofNat_Int]
  have := Nat.div_le_self x (2 ^ k)
  rw [e, show (1 : Int) = ((1 : Nat) : Int) from rfl, u64_and_nat _ _ (by omega) (by omega), nat_mask1]
  rfl
theorem rbit_any (x : Nat) (k : Int) (w : World) (hx : x < 18446744073709551616) (h0 : 0 ≤ k) (h1 : k ≤ 63) :
    Calls Tryd.prog 93 #[.int .u64 x, .int .i64 k] w fun e w' => e = .returned (.int .u64 (bitI x k.toNat)) ∧ w = w' := by
  obtain ⟨k, rfl⟩ := Int.eq_ofNat_of_zero_le h0
  have HV := Lib.hid (bit_val x k hx)
  clear hx
  go_enter Tryd.func93, Tryd.ntmps93
  go_wp2
  go_ret
  exact ⟨ret_int HV.out, rfl⟩
theorem fOk_hid {hi lo : Int} (h : fOk hi lo = true) : 0 ≤ lo ∧ lo ≤ hi ∧ hi ≤ 63 := (fOk_iff _ _).1 h
theorem or_val (v b : Nat) (hv : v * 2 < 18446744073709551616) (hb : b < 2) : bits .or .u64 (IntKind.u64.wrap ((v : Int) * 2)) (b : Int) = ((2 * v + b : Nat) : Int) := by
  have e : IntKind.u64.wrap ((v : Int) * 2) = ((v * 2 : Nat) : Int) := by rw [IntKind.wrap_u64]; omega
  rw [e, u64_or_nat _ _ hv (by omega), join_bit v b hb]
/-- What Get's loop has behind j rounds. -/
def getTo (x h j : Nat) : Int := ((x / 2 ^ (h + 1 - j) % 2 ^ j : Nat) : Int)
theorem getTo_succ (x h j : Nat) (hj : j ≤ h) (hh : h ≤ 63) : bits .or .u64 (IntKind.u64.wrap (getTo x h j * 2)) (bitI x (h - j)) = getTo x h (j + 1) := by
  have hvb : x / 2 ^ (h + 1 - j) % 2 ^ j * 2 < 18446744073709551616 := by
    have a := Nat.mod_lt (x / 2 ^ (h + 1 - j)) (pow_pos2 j)
    have b := pow_le64 (k := j + 1) (by omega)
    rw [Nat.pow_succ] at b; omega
  have hbb : x / 2 ^ (h - j) % 2 < 2 := Nat.mod_lt _ (by omega)
  unfold getTo bitI
  rw [or_val _ _ hvb hbb, show h + 1 - (j + 1) = h - j by omega, get_step x h j, show h + 1 - j = h - j + 1 by omega]
theorem getTo_end (x h l : Nat) (h1 : l ≤ h) (h2 : h ≤ 63) : getTo x h (h - l + 1) = fGet x h l := by
  rw [fGet_nat x h l h1 h2]; unfold nGet getTo; rw [show h + 1 - (h - l + 1) = l by omega]
set_option maxHeartbeats 400000 in
theorem rget_any (x hi lo : Int) (w : World) (hx : U64 x) :
    Calls Tryd.prog 69 #[.int .u64 x, .int .i64 hi, .int .i64 lo] w fun e w' => e = .returned (.int .u64 (fGet x hi lo)) ∧ w = w' := by
  by_cases hk : fOk hi lo = true
  · have HK := Lib.hid hk
    obtain ⟨h, l, rfl, rfl, h1, h2⟩ := nat_of_ok (fOk_hid hk)
    obtain ⟨x, rfl, hx'⟩ := u64_nat hx
    have HX := Lib.hid hx'
    clear hk hx hx'
    go_enter Tryd.func69, Tryd.ntmps69
    go_wp2_with (go_at_call 92; refine (is_any _ _ _).mono ?_; rintro e w1 ⟨rfl, rfl⟩; rw [HK.out])
    go_loop [7, 8] (fun v k => ∃ j : Nat, j ≤ h - l + 1 ∧ k = .int .i64 ((h : Int) - j) ∧ v = .int .u64 (getTo x h j)) (fun _ k => (intOf k - l + 1).toNat)
    case atStart => exact ⟨0, by omega, by simp, by simp [getTo, Nat.mod_one]⟩
    case round =>
      obtain ⟨j, hj, rfl, rfl⟩ := hrel
      by_cases hlt : j < h - l + 1
      · have HO := Lib.hid (getTo_succ x h j (by omega) h2)
        have HE := Lib.hid (show ((h : Int) - j).toNat = h - j by omega)
        go_wp2_with (go_at_call 93; refine (rbit_any x _ _ HX.out (by omega) (by omega)).mono ?_; rintro e w1 ⟨rfl, rfl⟩; rw [HE.out])
        go_round
        case rel => exact ⟨j + 1, by omega, by go_num, by rw [← HO.out]⟩
        case measure => simp [intOf]; omega
      · have HR := Lib.hid (getTo_end x h l h1 h2)
        have HJ := Lib.hid (show h - l + 1 = j by omega)
        go_wp2
        go_ret
        exact ⟨ret_int (by rw [← HR.out, HJ.out]), rfl⟩
  · have HK := Lib.hid (show fOk hi lo = false by simpa using hk)
    have HR := Lib.hid (fGet_no (x := x) (show ¬ (0 ≤ lo ∧ lo ≤ hi ∧ hi ≤ 63) by rw [← fOk_iff]; exact hk))
    clear hk
    go_enter Tryd.func69, Tryd.ntmps69
    go_wp2_with (go_at_call 92; refine (is_any _ _ _).mono ?_; rintro e w1 ⟨rfl, rfl⟩; rw [HK.out])
    go_ret
    exact ⟨ret_int HR.out.symm, rfl⟩
end
section
open Go.RowKit
set_option linter.unusedVariables false
set_option linter.unusedSimpArgs false

/-- Block b of w begins with the cells cs. -/
def Has (w : World) (b : Nat) (cs : List Value) : Prop := b < w.heap.size ∧ ∀ i v, cs[i]? = some v → w.cell? ⟨b, i, none⟩ = some v
theorem Has.call {w w' : World} {b : Nat} {cs : List Value} (h : Has w b cs) (hb : Below w.heap.size w w') : Has w' b cs :=
  ⟨Nat.lt_of_lt_of_le h.1 hb.size, fun i v hi => (hb.cell (p := ⟨b, i, none⟩) h.1).trans (h.2 i v hi)⟩
def placesL : List Value := [.int .i64 6, .int .i64 6, .int .i64 7, .int .i64 7, .int .i64 10, .int .i64 10, .int .i64 11, .int .i64 11, .int .i64 47, .int .i64 12]
def kindsL : List Value := [.int .i8 1, .int .i8 1, .int .i8 1, .int .i8 2]
def lowL : List Value := [.int .u64 0, .int .u64 3, .int .u64 3]
def namedL : List Value := [.int .u64 0, .int .u64 281474976706563, .int .u64 281474976709827]
/-- The package's tables are as its text lays them. -/
def G (w : World) : Prop := Has w 3 placesL ∧ Has w 0 kindsL ∧ Has w 1 lowL ∧ Has w 2 namedL
theorem G.call {w w' : World} (h : G w) (hb : Below w.heap.size w w') : G w' := ⟨h.1.call hb, h.2.1.call hb, h.2.2.1.call hb, h.2.2.2.call hb⟩
theorem G.alloc {w : World} (h : G w) (o : Obj) : G (w.alloc o) := h.call (ba (Below.refl _ _) o)
theorem keepc {W w1 : World} (hb : Below W.heap.size W w1) : ∀ (b o : Nat) (v : Value), W.cell? ⟨b, o, none⟩ = some v → w1.cell? ⟨b, o, none⟩ = some v := by
  intro b o v h
  refine (hb.cell (p := ⟨b, o, none⟩) ?_).trans h
  show b < W.heap.size
  rcases Nat.lt_or_ge b W.heap.size with hlt | hge
  · exact hlt
  · unfold World.cell? at h
    rw [Array.getElem?_eq_none hge] at h
    cases h
set_option maxHeartbeats 2000000 in
theorem dget_any (x k hi lo : Int) (w : World) (hx : U64 x) (hG : G w) (hk : (k = 0 ∧ hi = 6 ∧ lo = 6) ∨ (k = 1 ∧ hi = 7 ∧ lo = 7) ∨ (k = 2 ∧ hi = 10 ∧ lo = 10) ∨ (k = 3 ∧ hi = 11 ∧ lo = 11) ∨ (k = 4 ∧ hi = 47 ∧ lo = 12)) :
    Calls Tryd.prog 70 #[.int .u64 x, .int .i64 k] w fun e w' => e = .returned (.int .u64 (fGet x hi lo)) ∧ Below w.heap.size w w' := by
  have g := hG.1.2
  rcases hk with ⟨rfl, rfl, rfl⟩ | ⟨rfl, rfl, rfl⟩ | ⟨rfl, rfl, rfl⟩ | ⟨rfl, rfl, rfl⟩ | ⟨rfl, rfl, rfl⟩
  · have c0 := g 0 _ rfl
    have c1 := g 1 _ rfl
    clear g hG
    go_enter Tryd.func70, Tryd.ntmps70
    go_wp2
    go_region_held3 (fun w' => w'.cell? ⟨3, 0, none⟩ = some (.int .i64 6) ∧ w'.cell? ⟨3, 1, none⟩ = some (.int .i64 6)) (go_keep)
      (first | (go_at_call 90; refine (get_any _ _ _ _ hx).mono ?_; rintro e w1 ⟨rfl, hb⟩; have hk := keepc hb))
    go_wp2
    go_ret
    exact ⟨rfl, by repeat (first | exact Below.refl _ _ | (refine bthen ?_ (by assumption)) | apply bd)⟩
  · have c0 := g 2 _ rfl
    have c1 := g 3 _ rfl
    clear g hG
    go_enter Tryd.func70, Tryd.ntmps70
    go_wp2
    go_region_held3 (fun w' => w'.cell? ⟨3, 2, none⟩ = some (.int .i64 7) ∧ w'.cell? ⟨3, 3, none⟩ = some (.int .i64 7)) (go_keep)
      (first | (go_at_call 90; refine (get_any _ _ _ _ hx).mono ?_; rintro e w1 ⟨rfl, hb⟩; have hk := keepc hb))
    go_wp2
    go_ret
    exact ⟨rfl, by repeat (first | exact Below.refl _ _ | (refine bthen ?_ (by assumption)) | apply bd)⟩
  · have c0 := g 4 _ rfl
    have c1 := g 5 _ rfl
    clear g hG
    go_enter Tryd.func70, Tryd.ntmps70
    go_wp2
    go_region_held3 (fun w' => w'.cell? ⟨3, 4, none⟩ = some (.int .i64 10) ∧ w'.cell? ⟨3, 5, none⟩ = some (.int .i64 10)) (go_keep)
      (first | (go_at_call 90; refine (get_any _ _ _ _ hx).mono ?_; rintro e w1 ⟨rfl, hb⟩; have hk := keepc hb))
    go_wp2
    go_ret
    exact ⟨rfl, by repeat (first | exact Below.refl _ _ | (refine bthen ?_ (by assumption)) | apply bd)⟩
  · have c0 := g 6 _ rfl
    have c1 := g 7 _ rfl
    clear g hG
    go_enter Tryd.func70, Tryd.ntmps70
    go_wp2
    go_region_held3 (fun w' => w'.cell? ⟨3, 6, none⟩ = some (.int .i64 11) ∧ w'.cell? ⟨3, 7, none⟩ = some (.int .i64 11)) (go_keep)
      (first | (go_at_call 90; refine (get_any _ _ _ _ hx).mono ?_; rintro e w1 ⟨rfl, hb⟩; have hk := keepc hb))
    go_wp2
    go_ret
    exact ⟨rfl, by repeat (first | exact Below.refl _ _ | (refine bthen ?_ (by assumption)) | apply bd)⟩
  · have c0 := g 8 _ rfl
    have c1 := g 9 _ rfl
    clear g hG
    go_enter Tryd.func70, Tryd.ntmps70
    go_wp2
    go_region_held3 (fun w' => w'.cell? ⟨3, 8, none⟩ = some (.int .i64 47) ∧ w'.cell? ⟨3, 9, none⟩ = some (.int .i64 12)) (go_keep)
      (first | (go_at_call 90; refine (get_any _ _ _ _ hx).mono ?_; rintro e w1 ⟨rfl, hb⟩; have hk := keepc hb))
    go_wp2
    go_ret
    exact ⟨rfl, by repeat (first | exact Below.refl _ _ | (refine bthen ?_ (by assumption)) | apply bd)⟩
end
section
open Go.RowKit
set_option linter.unusedVariables false
set_option linter.unusedSimpArgs false

def bI (b : Bool) : Int := if b then 1 else 0
/-- The word of a page or a table. -/
def wordV (f : Int) (af ro us ng : Bool) : Int := 3 + f * 4096 + bI us * 64 + bI ro * 128 + bI af * 1024 + bI ng * 2048
def noFlag (af ro us ng : Bool) : Bool := !af && (!ro && (!us && !ng))
def dOk (k f : Int) (af ro us ng : Bool) : Bool := decide (0 ≤ f ∧ f ≤ 63) && (((k == 0) && ((f == 0) && noFlag af ro us ng)) || (((k == 1) && noFlag af ro us ng) || (k == 2)))
def dV (k f : Int) (af ro us ng : Bool) : Int := if k = 0 then 0 else wordV f af ro us ng
def orB (x : Int) (b : Bool) (m : Int) : Int := if b then bits .or .u64 x m else x
/-- What the loop makes of the first word. -/
def orV (x : Int) (af ro us ng : Bool) : Int := orB (orB (orB (orB x us 64) ro 128) af 1024) ng 2048
theorem orV_word : ∀ (f : Fin 64) (af ro us ng : Bool), orV (bits .or .u64 3 ((f.val : Int) * 4096)) af ro us ng = wordV f.val af ro us ng := by decide +kernel
theorem orV_zero : ∀ (f : Fin 64) (af ro us ng : Bool), (orV (bits .or .u64 0 ((f.val : Int) * 4096)) af ro us ng == 0) = ((((f.val : Int)) == 0) && noFlag af ro us ng) := by decide +kernel
theorem orV_named2 : ∀ (f : Fin 64) (af ro us ng : Bool), (bits .andNot .u64 (wordV f.val af ro us ng) 281474976709827 != 0) = false := by decide +kernel
theorem orV_named1 : ∀ (f : Fin 64) (af ro us ng : Bool), (bits .andNot .u64 (wordV f.val af ro us ng) 281474976706563 != 0) = !noFlag af ro us ng := by decide +kernel
theorem orV_named0 : ∀ (f : Fin 64) (af ro us ng : Bool), (bits .andNot .u64 (orV (bits .or .u64 0 ((f.val : Int) * 4096)) af ro us ng) 0 != 0) = !(((((f.val : Int)) == 0) && noFlag af ro us ng)) := by decide +kernel
theorem fin_of {f : Int} (h0 : 0 ≤ f) (h1 : f ≤ 63) : ∃ n : Fin 64, f = n.val := ⟨⟨f.toNat, by omega⟩, by simp; omega⟩
end
section
open Go.RowKit
set_option linter.unusedVariables false
set_option linter.unusedSimpArgs false

end
section
open Go.RowKit
set_option linter.unusedVariables false
set_option linter.unusedSimpArgs false

end
section
open Go.RowKit
set_option linter.unusedVariables false
set_option linter.unusedSimpArgs false

end
section
open Go.RowKit
set_option linter.unusedVariables false
set_option linter.unusedSimpArgs false

theorem dOk_iff (k f : Int) (af ro us ng : Bool) : dOk k f af ro us ng = true ↔ (0 ≤ f ∧ f ≤ 63) ∧ ((k = 0 ∧ f = 0 ∧ noFlag af ro us ng = true) ∨ (k = 1 ∧ noFlag af ro us ng = true) ∨ k = 2) := by
  simp [dOk]
/-! ### what a word's bits say -/
theorem and_ones_zero (x h l : Nat) (hlh : l ≤ h) : x &&& nOnes h l = 0 ↔ nGet x h l = 0 := by
  rw [← get_prog x h l hlh]
  constructor
  · intro e; rw [e]; simp
  · intro e
    apply Nat.eq_of_testBit_eq
    intro i
    rw [Nat.zero_testBit, Nat.testBit_and, ones_bit h l i hlh]
    by_cases hi : l ≤ i ∧ i ≤ h
    · have : ((x &&& nOnes h l) / 2 ^ l).testBit (i - l) = false := by rw [e]; simp
      rw [Nat.testBit_div_two_pow, Nat.testBit_and, ones_bit h l _ hlh, show i - l + l = i by omega] at this
      simpa [hi] using this
    · simp [hi]
theorem or_zero_iff (a b : Nat) : a ||| b = 0 ↔ a = 0 ∧ b = 0 := by
  constructor
  · intro h
    constructor
    · exact Nat.le_zero.1 (h ▸ Nat.left_le_or)
    · exact Nat.le_zero.1 (h ▸ Nat.right_le_or)
  · rintro ⟨rfl, rfl⟩; rfl
theorem named2_iff (x : Nat) (hx : x < 18446744073709551616) : bits .andNot .u64 (x : Int) 281474976709827 = 0 ↔ x / 4 % 16 = 0 ∧ x / 256 % 4 = 0 ∧ x / 281474976710656 = 0 := by
  rw [show (281474976709827 : Int) = ((281474976709827 : Nat) : Int) from rfl, u64_andNot_nat _ _ hx (by decide)]
  rw [show (18446744073709551615 - 281474976709827 : Nat) = nOnes 5 2 ||| (nOnes 9 8 ||| nOnes 63 48) by decide +kernel, Nat.and_or_distrib_left, Nat.and_or_distrib_left]
  have e1 : nGet x 5 2 = x / 4 % 16 := rfl
  have e2 : nGet x 9 8 = x / 256 % 4 := rfl
  have e3 : nGet x 63 48 = x / 281474976710656 % 65536 := rfl
  have := and_ones_zero x 5 2 (by omega)
  have := and_ones_zero x 9 8 (by omega)
  have := and_ones_zero x 63 48 (by omega)
  have h0 := or_zero_iff (x &&& nOnes 5 2) (x &&& nOnes 9 8 ||| x &&& nOnes 63 48)
  have h1 := or_zero_iff (x &&& nOnes 9 8) (x &&& nOnes 63 48)
  rw [e1] at *
  rw [e2] at *
  rw [e3] at *
  constructor
  · intro h
    have h' : (x &&& nOnes 5 2 ||| (x &&& nOnes 9 8 ||| x &&& nOnes 63 48)) = 0 := by omega
    omega
  · intro h
    have h' : (x &&& nOnes 5 2 ||| (x &&& nOnes 9 8 ||| x &&& nOnes 63 48)) = 0 := by omega
    omega
theorem named1_iff (x : Nat) (hx : x < 18446744073709551616) : bits .andNot .u64 (x : Int) 281474976706563 = 0 ↔ x / 4 % 1024 = 0 ∧ x / 281474976710656 = 0 := by
  rw [show (281474976706563 : Int) = ((281474976706563 : Nat) : Int) from rfl, u64_andNot_nat _ _ hx (by decide)]
  rw [show (18446744073709551615 - 281474976706563 : Nat) = nOnes 11 2 ||| nOnes 63 48 by decide +kernel, Nat.and_or_distrib_left]
  have e1 : nGet x 11 2 = x / 4 % 1024 := rfl
  have e3 : nGet x 63 48 = x / 281474976710656 % 65536 := rfl
  have := and_ones_zero x 11 2 (by omega)
  have := and_ones_zero x 63 48 (by omega)
  have h0 := or_zero_iff (x &&& nOnes 11 2) (x &&& nOnes 63 48)
  rw [e1] at *
  rw [e3] at *
  constructor
  · intro h
    have h' : (x &&& nOnes 11 2 ||| x &&& nOnes 63 48) = 0 := by omega
    omega
  · intro h
    have h' : (x &&& nOnes 11 2 ||| x &&& nOnes 63 48) = 0 := by omega
    omega
theorem and1 (x : Int) (hx : U64 x) : bits .and .u64 x 1 = x % 2 := by
  obtain ⟨x, rfl, hx'⟩ := u64_nat hx
  rw [show (1 : Int) = ((1 : Nat) : Int) from rfl, u64_and_nat _ _ hx' (by decide), nat_mask1]; omega
theorem and3' (x : Int) (hx : U64 x) : bits .and .u64 x 3 = x % 4 := by
  obtain ⟨x, rfl, hx'⟩ := u64_nat hx
  rw [show (3 : Int) = ((3 : Nat) : Int) from rfl, u64_and_nat _ _ hx' (by decide), nat_mask2]; omega
end
section
open Go.RowKit
set_option linter.unusedVariables false
set_option linter.unusedSimpArgs false

theorem fGet_lt (x hi lo : Int) (n : Nat) (hn : hi - lo + 1 ≤ n) : 0 ≤ fGet x hi lo ∧ fGet x hi lo < 2 ^ n := by
  have e : (2 : Int) ^ n = ((2 ^ n : Nat) : Int) := by simp only [Int.natCast_pow, Int.cast_ofNat_Int]
  have p := pow_pos2 n
  unfold fGet
  split
  · rename_i h
    rw [fOk_iff] at h
    have a := get_lt x.toNat hi.toNat lo.toNat
    have b := Nat.pow_le_pow_right (n := 2) (by omega) (show hi.toNat - lo.toNat + 1 ≤ n by omega)
    rw [e]
    omega
  · rw [e]; omega
set_option maxHeartbeats 2000000 in
theorem dget4 (x : Int) (w : World) (hx : U64 x) (c0 : w.cell? ⟨3, 8, none⟩ = some (.int .i64 47)) (c1 : w.cell? ⟨3, 9, none⟩ = some (.int .i64 12)) :
    Calls Tryd.prog 70 #[.int .u64 x, .int .i64 4] w fun e w' => e = .returned (.int .u64 (fGet x 47 12)) ∧ Below w.heap.size w w' := by
  go_enter Tryd.func70, Tryd.ntmps70
  go_wp2
  go_region_held3 (fun w' => w'.cell? ⟨3, 8, none⟩ = some (.int .i64 47) ∧ w'.cell? ⟨3, 9, none⟩ = some (.int .i64 12)) (go_keep)
    (first | (go_at_call 90; refine (get_any _ _ _ _ hx).mono ?_; rintro e w1 ⟨rfl, hb⟩; have hk := keepc hb))
  go_wp2
  go_ret
  exact ⟨rfl, by repeat (first | exact Below.refl _ _ | (refine bthen ?_ (by assumption)) | apply bd)⟩
/-- The table's or page's named bits. -/
def nmd (kd : Int) : Int := if kd = 1 then 281474976706563 else 281474976709827
/-- Is x a word of this kind? -/
def wOk (kd x : Int) : Bool := !(x % 4 != 3) && (!(bits .andNot .u64 x (nmd kd) != 0) && !(decide (64 ≤ fGet x 47 12)))
def zD : Value := .agg #[.int .i8 0, .int .i64 0, .bool false, .bool false, .bool false, .bool false]
def okD (kd x : Int) : Value := .agg #[.int .i8 kd, .int .i64 (fGet x 47 12), .bool (fGet x 10 10 == 1), .bool (fGet x 7 7 == 1), .bool (fGet x 6 6 == 1), .bool (fGet x 11 11 == 1)]
set_option maxHeartbeats 2000000 in
theorem dDecode_level (x l : Int) (w : World) (h : l < 0 ∨ (0 ≤ l ∧ 3 < l)) :
    Calls Tryd.prog 38 #[.int .u64 x, .int .i64 l] w fun e w' => e = .returned (.tuple #[.agg #[.int .i8 0, .int .i64 0, .bool false, .bool false, .bool false, .bool false], .int .i64 2]) ∧ Below w.heap.size w w' := by
  rcases h with h1 | ⟨h1, h2⟩
  all_goals
    go_enter Tryd.func38, Tryd.ntmps38
    go_wp2
    refine bodyPost_ret (v := .tuple #[.agg #[.int .i8 0, .int .i64 0, .bool false, .bool false, .bool false, .bool false], .int .i64 2]) (by simp [results, Tryd.results38, go_sem]) rfl ⟨rfl, ?_⟩
    exact ba (Below.refl _ _) _
set_option maxHeartbeats 2000000 in
theorem dDecode_even (x l : Int) (w : World) (hx : U64 x) (h0 : 0 ≤ l) (h1 : l ≤ 3) (he : x % 2 = 0) :
    Calls Tryd.prog 38 #[.int .u64 x, .int .i64 l] w fun e w' => e = .returned (.tuple #[.agg #[.int .i8 0, .int .i64 0, .bool false, .bool false, .bool false, .bool false], .int .i64 0]) ∧ Below w.heap.size w w' := by
  have e1 : (bits .and .u64 x 1 == 0) = true := by rw [and1 x hx, he]; rfl
  clear he
  go_enter Tryd.func38, Tryd.ntmps38
  go_wp2
  refine bodyPost_ret (v := .tuple #[.agg #[.int .i8 0, .int .i64 0, .bool false, .bool false, .bool false, .bool false], .int .i64 0]) (by simp [results, Tryd.results38, go_sem]) rfl ⟨rfl, ?_⟩
  exact ba (Below.refl _ _) _
end
section
open Go.RowKit
set_option linter.unusedVariables false
set_option linter.unusedSimpArgs false

theorem low_any (level : Int) (w : World) (h0 : 0 ≤ level) (h1 : level ≤ 3) :
    Calls Tryd.prog 91 #[.int .i64 level] w fun e w' => e = .returned (.int .i64 (9 * (3 - level))) ∧ w = w' := by
  go_enter Tryd.func91, Tryd.ntmps91
  go_wp2
  go_ret
  exact ⟨rfl, rfl⟩
def aOk (page level : Int) : Bool := decide (page < 34359738368 ∧ 0 ≤ level ∧ level ≤ 3)
theorem aOk_iff (page level : Int) : aOk page level = true ↔ page < 34359738368 ∧ 0 ≤ level ∧ level ≤ 3 := by simp [aOk]
theorem athere_any (page level : Int) (w : World) :
    Calls Tryd.prog 67 #[.int .u64 page, .int .i64 level] w fun e w' => e = .returned (.bool (aOk page level)) ∧ w = w' := by
  by_cases h0 : page < 34359738368
  · by_cases h1 : 0 ≤ level
    · by_cases h2 : level < 4
      · have e : aOk page level = true := (aOk_iff _ _).2 ⟨h0, h1, by omega⟩
        rw [e]; clear e
        go_enter Tryd.func67, Tryd.ntmps67
        go_wp2
        go_ret
        exact ⟨rfl, rfl⟩
      · have e : aOk page level = false := by rw [← Bool.not_eq_true, aOk_iff]; omega
        rw [e]; clear e
        go_enter Tryd.func67, Tryd.ntmps67
        go_wp2
        go_ret
        exact ⟨rfl, rfl⟩
    · have e : aOk page level = false := by rw [← Bool.not_eq_true, aOk_iff]; omega
      rw [e]; clear e
      go_enter Tryd.func67, Tryd.ntmps67
      go_wp2
      go_ret
      exact ⟨rfl, rfl⟩
  · have e : aOk page level = false := by rw [← Bool.not_eq_true, aOk_iff]; omega
    rw [e]; clear e
    go_enter Tryd.func67, Tryd.ntmps67
    go_wp2
    go_ret
    exact ⟨rfl, rfl⟩
theorem fGet_9 (x hi lo : Int) (hn : hi - lo = 8) : 0 ≤ fGet x hi lo ∧ fGet x hi lo ≤ 511 := by
  have := fGet_lt x hi lo 9 (by omega)
  omega
set_option maxHeartbeats 2000000 in
theorem indices_any (page : Int) (w : World) (hp : U64 page) :
    Calls Tryd.prog 68 #[.int .u64 page] w fun e w' => e = .returned (.agg #[.int .i64 (fGet page 35 27), .int .i64 (fGet page 26 18), .int .i64 (fGet page 17 9), .int .i64 (fGet page 8 0)]) ∧ Below w.heap.size w w' := by
  obtain ⟨a0, a1⟩ := fGet_9 page 35 27 (by omega)
  obtain ⟨b0, b1⟩ := fGet_9 page 26 18 (by omega)
  obtain ⟨c0, c1⟩ := fGet_9 page 17 9 (by omega)
  obtain ⟨d0, d1⟩ := fGet_9 page 8 0 (by omega)
  go_enter Tryd.func68, Tryd.ntmps68
  go_wp2
  refine wp_loop_rounds 5 ?_
  rw [rounds_succ]
  go_wp2_with (first
    | (go_at_call 91; refine (low_any _ _ (by omega) (by omega)).mono ?_; rintro e w' ⟨rfl, rfl⟩)
    | (go_at_call 90; refine (get_any _ _ _ _ hp).mono ?_; rintro e w1 ⟨rfl, hb1⟩; obtain ⟨hc1, hf1⟩ := bcell hb1; have hz1 : w.heap.size + 1 < w1.heap.size := by have := hb1.size; simp at this; omega
       have hy1 : w.heap.size < w1.heap.size := by omega))
  rw [rounds_succ]
  go_wp2_with (first
    | (go_at_call 91; refine (low_any _ _ (by omega) (by omega)).mono ?_; rintro e w' ⟨rfl, rfl⟩)
    | (go_at_call 90; refine (get_any _ _ _ _ hp).mono ?_; rintro e w2 ⟨rfl, hb2⟩; obtain ⟨hc2, hf2⟩ := bcell hb2; have hz2 : w.heap.size + 1 < w2.heap.size := by have := hb2.size; simp at this; omega
       have hy2 : w.heap.size < w2.heap.size := by omega))
  rw [rounds_succ]
  go_wp2_with (first
    | (go_at_call 91; refine (low_any _ _ (by omega) (by omega)).mono ?_; rintro e w' ⟨rfl, rfl⟩)
    | (go_at_call 90; refine (get_any _ _ _ _ hp).mono ?_; rintro e w3 ⟨rfl, hb3⟩; obtain ⟨hc3, hf3⟩ := bcell hb3; have hz3 : w.heap.size + 1 < w3.heap.size := by have := hb3.size; simp at this; omega
       have hy3 : w.heap.size < w3.heap.size := by omega))
  rw [rounds_succ]
  go_wp2_with (first
    | (go_at_call 91; refine (low_any _ _ (by omega) (by omega)).mono ?_; rintro e w' ⟨rfl, rfl⟩)
    | (go_at_call 90; refine (get_any _ _ _ _ hp).mono ?_; rintro e w4 ⟨rfl, hb4⟩; obtain ⟨hc4, hf4⟩ := bcell hb4; have hz4 : w.heap.size + 1 < w4.heap.size := by have := hb4.size; simp at this; omega
       have hy4 : w.heap.size < w4.heap.size := by omega))
  rw [rounds_succ]
  go_wp2
  refine bodyPost_ret (v := .agg #[.int .i64 (fGet page 35 27), .int .i64 (fGet page 26 18), .int .i64 (fGet page 17 9), .int .i64 (fGet page 8 0)]) ?_ rfl ⟨rfl, ?_⟩
  · have q0 : w4.cell? ⟨w.heap.size, 0, none⟩ = some (.int .i64 0) := by rw [hc4 _ _ (by simpa using hy3)]; simp [go_sem, hc3, hy2, hc2, hy1, hc1]
    have q1 : w4.cell? ⟨w.heap.size, 1, none⟩ = some (.int .i64 0) := by rw [hc4 _ _ (by simpa using hy3)]; simp [go_sem, hc3, hy2, hc2, hy1, hc1]
    have q2 : w4.cell? ⟨w.heap.size, 2, none⟩ = some (.int .i64 0) := by rw [hc4 _ _ (by simpa using hy3)]; simp [go_sem, hc3, hy2, hc2, hy1, hc1]
    have q3 : w4.cell? ⟨w.heap.size, 3, none⟩ = some (.int .i64 0) := by rw [hc4 _ _ (by simpa using hy3)]; simp [go_sem, hc3, hy2, hc2, hy1, hc1]
    clear hc1 hc2 hc3 hc4 hf1 hf2 hf3 hf4
    simp [results, Tryd.results68, go_sem, q0, q1, q2, q3]
  · exact bs (bs (bs (bs (bs (bthen (bs (bthen (bs (bthen (bs (bthen (ba (ba (Below.refl _ _) _) _) hb1) (by simp) _) hb2) (by simp) _) hb3) (by simp) _) hb4) (by simp) _) (by simp) _) (by simp) _) (by simp) _) (by simp) _
def aIdx (page level : Int) : Int := fGet page (9 * (3 - level) + 8) (9 * (3 - level))
set_option maxHeartbeats 1000000 in
theorem index_yes (page level : Int) (w : World) (hp : U64 page) (hk : aOk page level = true) :
    Calls Tryd.prog 35 #[.int .u64 page, .int .i64 level] w fun e w' => e = .returned (.tuple #[.int .i64 (aIdx page level), .int .i64 0]) ∧ Below w.heap.size w w' := by
  have HK := Lib.hid hk
  obtain ⟨h0, h1, h2⟩ := (aOk_iff _ _).1 hk
  clear hk
  have hl : level = 0 ∨ level = 1 ∨ level = 2 ∨ level = 3 := by omega
  have i0 : ∀ (W : World) (x0 x1 x2 x3 : Int), (Instr.index 144 (.agg #[.int .i64 x0, .int .i64 x1, .int .i64 x2, .int .i64 x3]) (.int .i64 0)).run Tryd.prog W = .ok (.int .i64 x0) W := fun _ _ _ _ _ => by kernel_rfl
  have i1 : ∀ (W : World) (x0 x1 x2 x3 : Int), (Instr.index 144 (.agg #[.int .i64 x0, .int .i64 x1, .int .i64 x2, .int .i64 x3]) (.int .i64 1)).run Tryd.prog W = .ok (.int .i64 x1) W := fun _ _ _ _ _ => by kernel_rfl
  have i2 : ∀ (W : World) (x0 x1 x2 x3 : Int), (Instr.index 144 (.agg #[.int .i64 x0, .int .i64 x1, .int .i64 x2, .int .i64 x3]) (.int .i64 2)).run Tryd.prog W = .ok (.int .i64 x2) W := fun _ _ _ _ _ => by kernel_rfl
  have i3 : ∀ (W : World) (x0 x1 x2 x3 : Int), (Instr.index 144 (.agg #[.int .i64 x0, .int .i64 x1, .int .i64 x2, .int .i64 x3]) (.int .i64 3)).run Tryd.prog W = .ok (.int .i64 x3) W := fun _ _ _ _ _ => by kernel_rfl
  rcases hl with rfl | rfl | rfl | rfl
  all_goals
    clear h1 h2
    go_enter Tryd.func35, Tryd.ntmps35
    go_wp2_with (first
      | (go_at_call 67; refine (athere_any _ _ _).mono ?_; rintro e w1 ⟨rfl, rfl⟩; rw [HK.out])
      | (go_at_call 68; refine (indices_any _ _ hp).mono ?_; rintro e w2 ⟨rfl, hb2⟩))
    go_ret2
    exact ⟨rfl, hb2⟩
set_option maxHeartbeats 1000000 in
theorem index_no (page level : Int) (w : World) (hk : aOk page level = false) :
    Calls Tryd.prog 35 #[.int .u64 page, .int .i64 level] w fun e w' => e = .returned (.tuple #[.int .i64 0, .int .i64 2]) ∧ Below w.heap.size w w' := by
  have HK := Lib.hid hk
  clear hk
  go_enter Tryd.func35, Tryd.ntmps35
  go_wp2_with (go_at_call 67; refine (athere_any _ _ _).mono ?_; rintro e w1 ⟨rfl, rfl⟩; rw [HK.out])
  go_ret2
  exact ⟨rfl, Below.refl _ _⟩
def aPre (page level : Int) : Int := page / 2 ^ (9 * (3 - level)).toNat
set_option maxHeartbeats 1000000 in
theorem prefix_yes (page level : Int) (w : World) (hk : aOk page level = true) :
    Calls Tryd.prog 94 #[.int .u64 page, .int .i64 level] w fun e w' => e = .returned (.tuple #[.int .u64 (aPre page level), .int .i64 0]) ∧ w = w' := by
  have HK := Lib.hid hk
  obtain ⟨h0, h1, h2⟩ := (aOk_iff _ _).1 hk
  clear hk
  go_enter Tryd.func94, Tryd.ntmps94
  go_wp2_with (first
      | (go_at_call 67; refine (athere_any _ _ _).mono ?_; rintro e w1 ⟨rfl, rfl⟩; rw [HK.out])
      | (go_at_call 91; refine (low_any _ _ (by omega) (by omega)).mono ?_; rintro e w' ⟨rfl, rfl⟩))
  go_ret2
  exact ⟨rfl, rfl⟩
set_option maxHeartbeats 1000000 in
theorem prefix_no (page level : Int) (w : World) (hk : aOk page level = false) :
    Calls Tryd.prog 94 #[.int .u64 page, .int .i64 level] w fun e w' => e = .returned (.tuple #[.int .u64 0, .int .i64 2]) ∧ w = w' := by
  have HK := Lib.hid hk
  clear hk
  go_enter Tryd.func94, Tryd.ntmps94
  go_wp2_with (go_at_call 67; refine (athere_any _ _ _).mono ?_; rintro e w1 ⟨rfl, rfl⟩; rw [HK.out])
  go_ret2
  exact ⟨rfl, rfl⟩
def wordOk (frame place : Int) : Bool := decide (0 ≤ frame ∧ frame ≤ 1048576 ∧ 0 ≤ place ∧ place ≤ 511)
theorem wordOk_iff (frame place : Int) : wordOk frame place = true ↔ 0 ≤ frame ∧ frame ≤ 1048576 ∧ 0 ≤ place ∧ place ≤ 511 := by simp [wordOk]
set_option maxHeartbeats 1000000 in
theorem word_yes (frame place : Int) (w : World) (hk : wordOk frame place = true) :
    Calls Tryd.prog 36 #[.int .i64 frame, .int .i64 place] w fun e w' => e = .returned (.tuple #[.int .u64 (512 * frame + place), .int .i64 0]) ∧ w = w' := by
  obtain ⟨h0, h1, h2, h3⟩ := (wordOk_iff _ _).1 hk
  clear hk
  go_enter Tryd.func36, Tryd.ntmps36
  go_wp2
  go_ret2
  exact ⟨rfl, rfl⟩
set_option maxHeartbeats 1000000 in
theorem word_no (frame place : Int) (w : World) (hk : wordOk frame place = false) :
    Calls Tryd.prog 36 #[.int .i64 frame, .int .i64 place] w fun e w' => e = .returned (.tuple #[.int .u64 0, .int .i64 2]) ∧ w = w' := by
  have hk' : ¬ (0 ≤ frame ∧ frame ≤ 1048576 ∧ 0 ≤ place ∧ place ≤ 511) := by rw [← wordOk_iff]; simp [hk]
  clear hk
  have hcases : frame < 0 ∨ (0 ≤ frame ∧ 1048576 < frame) ∨ (0 ≤ frame ∧ frame ≤ 1048576 ∧ place < 0) ∨ (0 ≤ frame ∧ frame ≤ 1048576 ∧ 0 ≤ place ∧ 511 < place) := by omega
  clear hk'
  rcases hcases with h1 | ⟨h1, h2⟩ | ⟨h1, h2, h3⟩ | ⟨h1, h2, h3, h4⟩
  all_goals
    go_enter Tryd.func36, Tryd.ntmps36
    go_wp2
    go_ret2
    exact ⟨rfl, rfl⟩
set_option maxHeartbeats 1000000 in
theorem rindex_yes (page level : Int) (w : World) (hp : U64 page) (hk : aOk page level = true) :
    Calls Tryd.prog 37 #[.int .u64 page, .int .i64 level] w fun e w' => e = .returned (.tuple #[.int .i64 (aIdx page level), .int .i64 0]) ∧ w = w' := by
  obtain ⟨h0, h1, h2⟩ := (aOk_iff _ _).1 hk
  clear hk
  have hb : 0 ≤ fGet page (9 * (3 - level) + 8) (9 * (3 - level)) ∧ fGet page (9 * (3 - level) + 8) (9 * (3 - level)) ≤ 511 := fGet_9 _ _ _ (by omega)
  obtain ⟨b0, b1⟩ := hb
  go_enter Tryd.func37, Tryd.ntmps37
  go_wp2_with (go_at_call 69; refine (rget_any _ _ _ _ hp).mono ?_; rintro e w1 ⟨rfl, rfl⟩)
  go_ret2
  exact ⟨rfl, rfl⟩
set_option maxHeartbeats 1000000 in
theorem rindex_no (page level : Int) (w : World) (hk : aOk page level = false) :
    Calls Tryd.prog 37 #[.int .u64 page, .int .i64 level] w fun e w' => e = .returned (.tuple #[.int .i64 0, .int .i64 2]) ∧ w = w' := by
  have hk' : ¬ (page < 34359738368 ∧ 0 ≤ level ∧ level ≤ 3) := by rw [← aOk_iff]; simp [hk]
  clear hk
  have hcases : 34359738368 ≤ page ∨ (page < 34359738368 ∧ level < 0) ∨ (page < 34359738368 ∧ 0 ≤ level ∧ 3 < level) := by omega
  clear hk'
  rcases hcases with h1 | ⟨h1, h2⟩ | ⟨h1, h2, h3⟩
  all_goals
    go_enter Tryd.func37, Tryd.ntmps37
    go_wp2
    go_ret2
    exact ⟨rfl, rfl⟩
set_option maxHeartbeats 1000000 in
theorem rprefix_yes (page level : Int) (w : World) (hk : aOk page level = true) :
    Calls Tryd.prog 42 #[.int .u64 page, .int .i64 level] w fun e w' => e = .returned (.tuple #[.int .u64 (aPre page level), .int .i64 0]) ∧ w = w' := by
  obtain ⟨h0, h1, h2⟩ := (aOk_iff _ _).1 hk
  clear hk
  go_enter Tryd.func42, Tryd.ntmps42
  go_wp2
  go_ret2
  exact ⟨rfl, rfl⟩
set_option maxHeartbeats 1000000 in
theorem rprefix_no (page level : Int) (w : World) (hk : aOk page level = false) :
    Calls Tryd.prog 42 #[.int .u64 page, .int .i64 level] w fun e w' => e = .returned (.tuple #[.int .u64 0, .int .i64 2]) ∧ w = w' := by
  have hk' : ¬ (page < 34359738368 ∧ 0 ≤ level ∧ level ≤ 3) := by rw [← aOk_iff]; simp [hk]
  clear hk
  have hcases : 34359738368 ≤ page ∨ (page < 34359738368 ∧ level < 0) ∨ (page < 34359738368 ∧ 0 ≤ level ∧ 3 < level) := by omega
  clear hk'
  rcases hcases with h1 | ⟨h1, h2⟩ | ⟨h1, h2, h3⟩
  all_goals
    go_enter Tryd.func42, Tryd.ntmps42
    go_wp2
    go_ret2
    exact ⟨rfl, rfl⟩
end
end Go.Proofs.YtgdkkhdhomehdaaDoor
