/-
  desc.Decode: its walk.
-/
import Derived.Test.YtappjiljmpgjcaaDoorDescDec
namespace Go.Proofs.YtappjiljmpgjcaaDoor
open Go.RowKit
set_option linter.unusedVariables false
set_option linter.unusedSimpArgs false

theorem fGet_lt (x hi lo : Int) (n : Nat) (hn : hi - lo + 1 ≤ n) : 0 ≤ fGet x hi lo ∧ fGet x hi lo < 2 ^ n := by
  have e : (2 : Int) ^ n = ((2 ^ n : Nat) : Int) := by simp only [Int.natCast_pow, Int.cast_ofNat_Int]
  have p := pow_pos2 n
  unfold fGet
  split
  · rename_i h
    rw [fOk_iff] at h
    have a := get_lt x.toNat hi.toNat lo.toNat
    have b := Nat.pow_le_pow_right (n := 2) (by omega) (show hi.toNat - lo.toNat + 1 ≤ n by omega)
    rw [e]
    omega
  · rw [e]; omega
set_option maxHeartbeats 2000000 in
theorem dget4 (x : Int) (w : World) (hx : U64 x) (c0 : w.cell? ⟨3, 8, none⟩ = some (.int .i64 47)) (c1 : w.cell? ⟨3, 9, none⟩ = some (.int .i64 12)) :
    Calls Tryd.prog 35 #[.int .u64 x, .int .i64 4] w fun e w' => e = .returned (.int .u64 (fGet x 47 12)) ∧ Below w.heap.size w w' := by
  go_enter Tryd.func35, Tryd.ntmps35
  go_wp2
  go_region_held3 (fun w' => w'.cell? ⟨3, 8, none⟩ = some (.int .i64 47) ∧ w'.cell? ⟨3, 9, none⟩ = some (.int .i64 12)) (go_keep)
    (first | (go_at_call 38; refine (get_any _ _ _ _ hx).mono ?_; rintro e w1 ⟨rfl, hb⟩; have hk := keepc hb))
  go_wp2
  go_ret
  exact ⟨rfl, by repeat (first | exact Below.refl _ _ | (refine bthen ?_ (by assumption)) | apply bd)⟩
/-- The table's or page's named bits. -/
def nmd (kd : Int) : Int := if kd = 1 then 281474976706563 else 281474976709827
/-- Is x a word of this kind? -/
def wOk (kd x : Int) : Bool := !(x % 4 != 3) && (!(bits .andNot .u64 x (nmd kd) != 0) && !(decide (64 ≤ fGet x 47 12)))
def zD : Value := .agg #[.int .i8 0, .int .i64 0, .bool false, .bool false, .bool false, .bool false]
def okD (kd x : Int) : Value := .agg #[.int .i8 kd, .int .i64 (fGet x 47 12), .bool (fGet x 10 10 == 1), .bool (fGet x 7 7 == 1), .bool (fGet x 6 6 == 1), .bool (fGet x 11 11 == 1)]
set_option maxHeartbeats 2000000 in
theorem dDecode_level (x l : Int) (w : World) (h : l < 0 ∨ (0 ≤ l ∧ 3 < l)) :
    Calls Tryd.prog 28 #[.int .u64 x, .int .i64 l] w fun e w' => e = .returned (.tuple #[.agg #[.int .i8 0, .int .i64 0, .bool false, .bool false, .bool false, .bool false], .int .i64 2]) ∧ Below w.heap.size w w' := by
  rcases h with h1 | ⟨h1, h2⟩
  all_goals
    go_enter Tryd.func28, Tryd.ntmps28
    go_wp2
    refine bodyPost_ret (v := .tuple #[.agg #[.int .i8 0, .int .i64 0, .bool false, .bool false, .bool false, .bool false], .int .i64 2]) (by simp [results, Tryd.results28, go_sem]) rfl ⟨rfl, ?_⟩
    exact ba (Below.refl _ _) _
set_option maxHeartbeats 2000000 in
theorem dDecode_even (x l : Int) (w : World) (hx : U64 x) (h0 : 0 ≤ l) (h1 : l ≤ 3) (he : x % 2 = 0) :
    Calls Tryd.prog 28 #[.int .u64 x, .int .i64 l] w fun e w' => e = .returned (.tuple #[.agg #[.int .i8 0, .int .i64 0, .bool false, .bool false, .bool false, .bool false], .int .i64 0]) ∧ Below w.heap.size w w' := by
  have e1 : (bits .and .u64 x 1 == 0) = true := by rw [and1 x hx, he]; rfl
  clear he
  go_enter Tryd.func28, Tryd.ntmps28
  go_wp2
  refine bodyPost_ret (v := .tuple #[.agg #[.int .i8 0, .int .i64 0, .bool false, .bool false, .bool false, .bool false], .int .i64 0]) (by simp [results, Tryd.results28, go_sem]) rfl ⟨rfl, ?_⟩
  exact ba (Below.refl _ _) _
end Go.Proofs.YtappjiljmpgjcaaDoor
