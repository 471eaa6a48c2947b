/-
  Package space: where a page is.
-/
import Derived.Test.YtaikkdlphfmgiaaSpWalks
namespace Go.Proofs.Ytaikkdlphfmgiaa
open Go.RowKit
set_option linter.unusedVariables false
set_option linter.unusedSimpArgs false
/-- The search's question. -/
def pB (l : List Reg) (p : Int) (k : Nat) : Bool := decide (p < (rg l k).f + (rg l k).c)
/-- What the search's closure has caught: the regions and the page. -/
def Caught (w : World) (B C : Nat) (O : Option Addr) (len cap : Nat) (p : Int) : Prop := w.cell? ⟨B, 0, none⟩ = some (.slice O len cap) ∧ w.cell? ⟨C, 0, none⟩ = some (.int .u64 p)
theorem Caught.call {w w' : World} {B C : Nat} {O : Option Addr} {len cap : Nat} {p : Int} (h : Caught w B C O len cap p) (hb : Below w.heap.size w w') : Caught w' B C O len cap p :=
  ⟨(hb.cell (p := ⟨B, 0, none⟩) (World.block_lt_of_cell? w ⟨B, 0, none⟩ h.1)).trans h.1, (hb.cell (p := ⟨C, 0, none⟩) (World.block_lt_of_cell? w ⟨C, 0, none⟩ h.2)).trans h.2⟩
set_option maxRecDepth 100000 in
set_option maxHeartbeats 1000000 in
theorem spPlace1_any (B C k : Nat) (O : Option Addr) (len cap : Nat) (p : Int) (l : List Reg) (w : World) (hI : RegsK w O l) (hl : l.length = len) (hcap : len ≤ cap) (h8 : len ≤ 8) (hk : k < len) (hch : chainB 0 l = true) (hC : Caught w B C O len cap p) :
    Calls Try.prog 39 #[.int .i64 k, .pointer (some ⟨B, 0, none⟩), .pointer (some ⟨C, 0, none⟩)] w fun e w' => e = .returned (.bool (pB l p k)) ∧ Below w.heap.size w w' := by
  obtain ⟨b, off, rfl, hcell⟩ := hI (by omega)
  obtain ⟨c0, c1, c2⟩ := hcell k (by omega)
  obtain ⟨c3, c4⟩ := hC
  obtain ⟨r0, r1, r2, r3⟩ := chain_at l 0 hch k (by omega)
  unfold pB
  clear hcell hI hl hch
  generalize rg l k = r at *
  obtain ⟨rf, rc, rw'⟩ := r
  simp only at c0 c1 c2 r0 r1 r2 r3 ⊢
  have z0 : (0 : Int) ≤ (k : Int) := Int.natCast_nonneg _
  have z1 : (k : Int) < (len : Int) := by omega
  have m0 := World.new_ne w ⟨b, off + k * 3, none⟩ c0
  have lb : b < w.heap.size := World.block_lt_of_cell? w ⟨b, off + k * 3, none⟩ c0
  have lB : B < w.heap.size := World.block_lt_of_cell? w ⟨B, 0, none⟩ c3
  have lC : C < w.heap.size := World.block_lt_of_cell? w ⟨C, 0, none⟩ c4
  go_enter Try.func39, Try.ntmps39
  go_wp2_with fail
  go_region_held3 (fun w' => w'.cell? ⟨b, off + k * 3, none⟩ = some (.int .u64 rf) ∧ w'.cell? ⟨b, off + k * 3 + 1, none⟩ = some (.int .i64 rc) ∧ w'.cell? ⟨b, off + k * 3 + 2, none⟩ = some (.bool rw') ∧ w'.cell? ⟨B, 0, none⟩ = some (.slice (some ⟨b, off, none⟩) len cap) ∧ w'.cell? ⟨C, 0, none⟩ = some (.int .u64 p))
    (first | go_keep | (exact ⟨(Hbz.out.cell (p := ⟨b, off + k * 3, none⟩) lb).trans c0, (Hbz.out.cell (p := ⟨b, off + k * 3 + 1, none⟩) lb).trans c1, (Hbz.out.cell (p := ⟨b, off + k * 3 + 2, none⟩) lb).trans c2, (Hbz.out.cell (p := ⟨B, 0, none⟩) lB).trans c3, (Hbz.out.cell (p := ⟨C, 0, none⟩) lC).trans c4⟩))
    (first | (go_at_call 37; refine (spBehind_any rf rc rw' _ r0 r1 (by omega)).mono ?_; rintro e wz ⟨rfl, hbz⟩; have Hbz := Lib.hid (show Below w.heap.size w wz from ⟨hbz.os, hbz.tape, hbz.output, hbz.size, hbz.block⟩); clear hbz))
  all_goals
    go_wp2_with fail
    go_ret
    exact ⟨rfl, Hbz.out⟩
theorem behind_mono {l : List Reg} (h : chainB 0 l = true) {i j : Nat} (hij : i ≤ j) (hj : j < l.length) : (rg l i).f + (rg l i).c ≤ (rg l j).f + (rg l j).c := by
  by_cases e : i = j
  · subst e; exact Int.le_refl _
  · have h1 := chain_lt l 0 h i j (by omega) hj
    have h2 := chain_at l 0 h j hj
    omega
/-- What a search leaves. -/
def SrPost (l : List Reg) (p : Int) (w : World) (e : Ending) (w' : World) : Prop := ∃ k : Nat, e = .returned (.int .i64 k) ∧ Plc l p k ∧ Below w.heap.size w w'
def SrRel (w0 : World) (l : List Reg) (p : Int) (i j : Value) (w : World) : Prop :=
  ∃ a b : Nat, i = .int .i64 a ∧ j = .int .i64 b ∧ a ≤ b ∧ b ≤ l.length ∧ (∀ t, t < a → (rg l t).f + (rg l t).c ≤ p) ∧ (∀ t, b ≤ t → t < l.length → p < (rg l t).f + (rg l t).c) ∧ Below w0.heap.size w0 w
set_option maxHeartbeats 1000000 in
theorem sSearch_any (B C : Nat) (O : Option Addr) (len cap : Nat) (p : Int) (l : List Reg) (w : World) (hI : RegsK w O l) (hl : l.length = len) (hcap : len ≤ cap) (h8 : len ≤ 8) (hch : chainB 0 l = true) (hC : Caught w B C O len cap p) :
    Calls Try.prog 38 #[.int .i64 len, .func (.func 39) #[] #[.pointer (some ⟨B, 0, none⟩), .pointer (some ⟨C, 0, none⟩)]] w (SrPost l p w) := by
  have HI := Lib.hid hI
  have HL := Lib.hid hl
  have HCh := Lib.hid hch
  have HC := Lib.hid hC
  clear hI hl hch hC
  go_enter Try.func38, Try.ntmps38
  go_wp2_with fail
  go_loopw [5, 6] (fun i j wr => SrRel w l p i j wr) (fun i j _ => (intOf j - intOf i).toNat)
  case atStart => exact ⟨0, len, rfl, rfl, by omega, by have := HL.out; omega, fun t ht => by omega, fun t h1 h2 => by have := HL.out; omega, Below.refl _ _⟩
  case round =>
    obtain ⟨a, b, rfl, rfl, hab, hbl, h1, h2, hB⟩ := hrel
    have hl := HL.out
    have hb8 : b ≤ 8 := by omega
    have H1 := Lib.hid h1
    have H2 := Lib.hid h2
    have HB := Lib.hid hB
    clear h1 h2 hB hl
    by_cases hlt : a < b
    · obtain ⟨h, hh⟩ : ∃ h : Nat, h = (a + b) / 2 := ⟨_, rfl⟩
      have HE := Lib.hid (show ((a : Int) + b) / 2 = (h : Int) by omega)
      have hh1 : a ≤ h := by omega
      have hh2 : h < b := by omega
      clear hh
      go_wp2_with fail
      rw [HE.out]
      refine (spPlace1_any B C h O len cap p l _ (HI.out.call HB.out) HL.out hcap h8 (by have := HL.out; omega) HCh.out (HC.out.call HB.out)).mono ?_
      rintro e wz ⟨rfl, hbz⟩
      have HZ := Lib.hid hbz
      clear hbz
      rcases hp : pB l p h with _ | _
      · have HP := Lib.hid (show (rg l h).f + (rg l h).c ≤ p by simpa [pB] using hp)
        clear hp
        go_wp2_with fail
        go_roundw
        case rel => exact ⟨h + 1, b, by go_num, rfl, by omega, hbl, fun t ht => by have := behind_mono HCh.out (i := t) (j := h) (by omega) (by omega); have := HP.out; omega, H2.out, bthen HB.out HZ.out⟩
        case measure => simp [intOf]; omega
      · have HP := Lib.hid (show p < (rg l h).f + (rg l h).c by simpa [pB] using hp)
        clear hp
        go_wp2_with fail
        go_roundw
        case rel => exact ⟨a, h, rfl, by first | rfl | go_num, by omega, by omega, H1.out, fun t h3 h4 => by have := behind_mono HCh.out (i := h) (j := t) (by omega) (by omega); have := HP.out; omega, bthen HB.out HZ.out⟩
        case measure => simp [intOf]; omega
    · have e : a = b := by omega
      subst e
      go_wp2_with fail
      go_ret
      exact ⟨a, rfl, ⟨hbl, H1.out, H2.out⟩, HB.out⟩
theorem spPlace_any (O : Option Addr) (len cap : Nat) (p : Int) (l : List Reg) (w : World) (hI : RegsK w O l) (hl : l.length = len) (hcap : len ≤ cap) (h8 : len ≤ 8) (hch : chainB 0 l = true) :
    Calls Try.prog 26 #[.slice O len cap, .int .u64 p] w (SrPost l p w) := by
  have HI := Lib.hid hI
  have HL := Lib.hid hl
  have HCh := Lib.hid hch
  clear hI hl hch
  go_enter Try.func26, Try.ntmps26
  go_wp2_with fail
  have HB := Lib.hid (ba (ba (Below.refl w.heap.size w) (.cells #[.slice O len cap] 22)) (.cells #[.int .u64 p] 23))
  refine (sSearch_any w.heap.size (w.heap.size + 1) O len cap p l _ (HI.out.call HB.out) HL.out hcap h8 HCh.out ⟨by simp, by simp⟩).mono ?_
  rintro e wz ⟨k, rfl, hk, hbz⟩
  have HK := Lib.hid hk
  have HZ := Lib.hid hbz
  clear hk hbz
  go_wp2_with fail
  go_ret
  exact ⟨k, rfl, HK.out, bthen HB.out HZ.out⟩
end Go.Proofs.Ytaikkdlphfmgiaa
