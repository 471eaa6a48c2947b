/-
  The walks of package desc: its tables, get, flags, Encode.
-/
import Derived.Test.YtappjiljmpgjcaaDoorFieldGet
import Derived.Test.YtappjiljmpgjcaaDoorArr
import Derived.Deep.RegionHeld3
import Derived.Deep.QuietTactic
import Derived.BigQuiet
import Derived.Deep.Draws
namespace Go.Proofs.YtappjiljmpgjcaaDoor
open Go.RowKit
set_option linter.unusedVariables false
set_option linter.unusedSimpArgs false

/-- Block b of w begins with the cells cs. -/
def Has (w : World) (b : Nat) (cs : List Value) : Prop := b < w.heap.size ∧ ∀ i v, cs[i]? = some v → w.cell? ⟨b, i, none⟩ = some v
theorem Has.call {w w' : World} {b : Nat} {cs : List Value} (h : Has w b cs) (hb : Below w.heap.size w w') : Has w' b cs :=
  ⟨Nat.lt_of_lt_of_le h.1 hb.size, fun i v hi => (hb.cell (p := ⟨b, i, none⟩) h.1).trans (h.2 i v hi)⟩
def placesL : List Value := [.int .i64 6, .int .i64 6, .int .i64 7, .int .i64 7, .int .i64 10, .int .i64 10, .int .i64 11, .int .i64 11, .int .i64 47, .int .i64 12]
def kindsL : List Value := [.int .i8 1, .int .i8 1, .int .i8 1, .int .i8 2]
def lowL : List Value := [.int .u64 0, .int .u64 3, .int .u64 3]
def namedL : List Value := [.int .u64 0, .int .u64 281474976706563, .int .u64 281474976709827]
/-- The package's tables are as its text lays them. -/
def G (w : World) : Prop := Has w 3 placesL ∧ Has w 0 kindsL ∧ Has w 1 lowL ∧ Has w 2 namedL
theorem G.call {w w' : World} (h : G w) (hb : Below w.heap.size w w') : G w' := ⟨h.1.call hb, h.2.1.call hb, h.2.2.1.call hb, h.2.2.2.call hb⟩
theorem G.alloc {w : World} (h : G w) (o : Obj) : G (w.alloc o) := h.call (ba (Below.refl _ _) o)
theorem keepc {W w1 : World} (hb : Below W.heap.size W w1) : ∀ (b o : Nat) (v : Value), W.cell? ⟨b, o, none⟩ = some v → w1.cell? ⟨b, o, none⟩ = some v := by
  intro b o v h
  refine (hb.cell (p := ⟨b, o, none⟩) ?_).trans h
  show b < W.heap.size
  rcases Nat.lt_or_ge b W.heap.size with hlt | hge
  · exact hlt
  · unfold World.cell? at h
    rw [Array.getElem?_eq_none hge] at h
    cases h
set_option maxHeartbeats 2000000 in
theorem dget_any (x k hi lo : Int) (w : World) (hx : U64 x) (hG : G w) (hk : (k = 0 ∧ hi = 6 ∧ lo = 6) ∨ (k = 1 ∧ hi = 7 ∧ lo = 7) ∨ (k = 2 ∧ hi = 10 ∧ lo = 10) ∨ (k = 3 ∧ hi = 11 ∧ lo = 11) ∨ (k = 4 ∧ hi = 47 ∧ lo = 12)) :
    Calls Tryd.prog 35 #[.int .u64 x, .int .i64 k] w fun e w' => e = .returned (.int .u64 (fGet x hi lo)) ∧ Below w.heap.size w w' := by
  have g := hG.1.2
  rcases hk with ⟨rfl, rfl, rfl⟩ | ⟨rfl, rfl, rfl⟩ | ⟨rfl, rfl, rfl⟩ | ⟨rfl, rfl, rfl⟩ | ⟨rfl, rfl, rfl⟩
  · have c0 := g 0 _ rfl
    have c1 := g 1 _ rfl
    clear g hG
    go_enter Tryd.func35, Tryd.ntmps35
    go_wp2
    go_region_held3 (fun w' => w'.cell? ⟨3, 0, none⟩ = some (.int .i64 6) ∧ w'.cell? ⟨3, 1, none⟩ = some (.int .i64 6)) (go_keep)
      (first | (go_at_call 38; refine (get_any _ _ _ _ hx).mono ?_; rintro e w1 ⟨rfl, hb⟩; have hk := keepc hb))
    go_wp2
    go_ret
    exact ⟨rfl, by repeat (first | exact Below.refl _ _ | (refine bthen ?_ (by assumption)) | apply bd)⟩
  · have c0 := g 2 _ rfl
    have c1 := g 3 _ rfl
    clear g hG
    go_enter Tryd.func35, Tryd.ntmps35
    go_wp2
    go_region_held3 (fun w' => w'.cell? ⟨3, 2, none⟩ = some (.int .i64 7) ∧ w'.cell? ⟨3, 3, none⟩ = some (.int .i64 7)) (go_keep)
      (first | (go_at_call 38; refine (get_any _ _ _ _ hx).mono ?_; rintro e w1 ⟨rfl, hb⟩; have hk := keepc hb))
    go_wp2
    go_ret
    exact ⟨rfl, by repeat (first | exact Below.refl _ _ | (refine bthen ?_ (by assumption)) | apply bd)⟩
  · have c0 := g 4 _ rfl
    have c1 := g 5 _ rfl
    clear g hG
    go_enter Tryd.func35, Tryd.ntmps35
    go_wp2
    go_region_held3 (fun w' => w'.cell? ⟨3, 4, none⟩ = some (.int .i64 10) ∧ w'.cell? ⟨3, 5, none⟩ = some (.int .i64 10)) (go_keep)
      (first | (go_at_call 38; refine (get_any _ _ _ _ hx).mono ?_; rintro e w1 ⟨rfl, hb⟩; have hk := keepc hb))
    go_wp2
    go_ret
    exact ⟨rfl, by repeat (first | exact Below.refl _ _ | (refine bthen ?_ (by assumption)) | apply bd)⟩
  · have c0 := g 6 _ rfl
    have c1 := g 7 _ rfl
    clear g hG
    go_enter Tryd.func35, Tryd.ntmps35
    go_wp2
    go_region_held3 (fun w' => w'.cell? ⟨3, 6, none⟩ = some (.int .i64 11) ∧ w'.cell? ⟨3, 7, none⟩ = some (.int .i64 11)) (go_keep)
      (first | (go_at_call 38; refine (get_any _ _ _ _ hx).mono ?_; rintro e w1 ⟨rfl, hb⟩; have hk := keepc hb))
    go_wp2
    go_ret
    exact ⟨rfl, by repeat (first | exact Below.refl _ _ | (refine bthen ?_ (by assumption)) | apply bd)⟩
  · have c0 := g 8 _ rfl
    have c1 := g 9 _ rfl
    clear g hG
    go_enter Tryd.func35, Tryd.ntmps35
    go_wp2
    go_region_held3 (fun w' => w'.cell? ⟨3, 8, none⟩ = some (.int .i64 47) ∧ w'.cell? ⟨3, 9, none⟩ = some (.int .i64 12)) (go_keep)
      (first | (go_at_call 38; refine (get_any _ _ _ _ hx).mono ?_; rintro e w1 ⟨rfl, hb⟩; have hk := keepc hb))
    go_wp2
    go_ret
    exact ⟨rfl, by repeat (first | exact Below.refl _ _ | (refine bthen ?_ (by assumption)) | apply bd)⟩
end Go.Proofs.YtappjiljmpgjcaaDoor
