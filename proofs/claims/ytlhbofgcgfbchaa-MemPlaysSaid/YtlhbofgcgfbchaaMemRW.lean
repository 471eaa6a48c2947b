/-
  The walks of package mem: Read, Write, Add, New, store, bar.
-/
import Derived.Test.YtlhbofgcgfbchaaMemWalks
namespace Go.Proofs.Ytlhbofgcgfbchaa
open Go.RowKit Go.Maps
set_option linter.unusedVariables false
set_option linter.unusedSimpArgs false

/-- A memory lies in w. -/
def MemS (w : World) (p n : Nat) (c : Nat → Nat → Int) (F : Nat → Prop) (k : Nat) : Prop := ∃ m D, Mm w p n c F k m D
section
variable {w w' : World} {p n k : Nat} {c : Nat → Nat → Int} {F G : Nat → Prop}
theorem MemS.keep (h : MemS w p n c F k) (hk : Keeps G w w') (hFG : ∀ b, F b → ¬ G b) : MemS w' p n c F k := let ⟨m, D, hM⟩ := h; ⟨m, D, hM.keep hk hFG⟩
theorem MemS.call (h : MemS w p n c F k) (hb : Below w.heap.size w w') : MemS w' p n c F k := let ⟨m, D, hM⟩ := h; ⟨m, D, hM.call hb⟩
theorem MemS.alloc (h : MemS w p n c F k) (o : Obj) : MemS (w.alloc o) p n c F k := let ⟨m, D, hM⟩ := h; ⟨m, D, hM.alloc o⟩
theorem MemS.drew (h : MemS w p n c F k) : MemS w.drew p n c F k := let ⟨m, D, hM⟩ := h; ⟨m, D, hM.drew⟩
theorem MemS.cell (h : MemS w p n c F k) : w.cell? ⟨p, 0, none⟩ = some (.int .i64 n) := let ⟨m, D, hM⟩ := h; hM.str.cell 0
theorem MemS.lt (h : MemS w p n c F k) : p < w.heap.size := let ⟨m, D, hM⟩ := h; hM.str.lt
theorem MemS.own (h : MemS w p n c F k) : F p := let ⟨m, D, hM⟩ := h; hM.pF
theorem MemS.all (h : MemS w p n c F k) : ∀ b, F b → b < w.heap.size := let ⟨m, D, hM⟩ := h; hM.lt
end
/-- The call has answered v, and the memory's words are c'. -/
def Went (w : World) (p n : Nat) (c' : Nat → Nat → Int) (F : Nat → Prop) (k : Nat) (v : Value) (e : Ending) (w' : World) : Prop :=
  e = .returned v ∧ ∃ (F' : Nat → Prop) (k' : Nat), MemS w' p n c' F' k' ∧ k' ≤ k + 1 ∧ Keeps F w w' ∧ (∀ x, F' x → F x ∨ w.heap.size ≤ x) ∧ ∀ x, F x → F' x
theorem Went.same {w w' : World} {p n k : Nat} {c : Nat → Nat → Int} {F : Nat → Prop} {v : Value} (h : MemS w p n c F k) (hb : Below w.heap.size w w') : Went w p n c F k v (.returned v) w' :=
  ⟨rfl, F, k, h.call hb, by omega, Keeps.of_below hb, fun x hx => .inl hx, fun x hx => hx⟩
theorem word_nat {x : Int} (hx : U64 x) : ∃ f i : Nat, x / 512 = f ∧ x % 512 = i ∧ i < 512 := ⟨(x / 512).toNat, (x % 512).toNat, by have := hx.1; omega, by omega, by omega⟩
set_option maxHeartbeats 400000 in
theorem read_yes (p n k f i : Nat) (x : Int) (c : Nat → Nat → Int) (F : Nat → Prop) (w : World) (hM : MemS w p n c F k) (hn : n ≤ 64) (hx : U64 x) (h1 : x / 512 = f) (h2 : x % 512 = i) (hf : f < n) :
    Calls Try.prog 12 #[.pointer (some ⟨p, 0, none⟩), .int .u64 x] w fun e w' => e = .returned (.tuple #[.int .u64 (c f i), .int .i64 0]) ∧ w = w' := by
  obtain ⟨m, D, hM⟩ := hM
  have hi : i < 512 := by omega
  have H1 := Lib.hid h1
  have H2 := Lib.hid h2
  have hlt : x / 512 < (n : Int) := by omega
  clear h1 h2
  obtain ⟨v, ps, hrun, hv⟩ := hM.map.look_ok (t := 68) (e := 74) keyed Try.underlying68 (z := .pointer none) (by kernel_rfl) (zd := .lit (.int .i64 (-1))) (zp := []) rfl (keyLit f (by omega))
  have c0 : w.cell? ⟨p, 0, none⟩ = some (.int .i64 n) := hM.str.cell 0
  have c1 : w.cell? ⟨p, 1, none⟩ = some (.map (some m)) := hM.str.cell 1
  rcases hM.row f with ⟨a1, a2⟩ | ⟨b, a1, a2, a3, a4⟩
  · rw [a1] at hrun
    have R := Lib.hid (a2 i hi)
    clear a1 a2 hv hM
    go_enter Try.func12, Try.ntmps12
    go_wp2_with fail
    refine (at_yes p n x _ hx c0 hn hlt).mono ?_
    rintro e w1 ⟨rfl, rfl⟩
    rw [H1.out, H2.out]
    go_wp2_with fail
    go_ret2
    exact ⟨by rw [R.out]; rfl, rfl⟩
  · rw [a1] at hrun
    rw [a2] at hv
    obtain rfl := ptrElem_inv hv
    have hc : w.cell? ⟨b, i, none⟩ = some (.int .u64 (c f i)) := (a3.cell i).trans (rowOf_at _ _ hi)
    clear a1 a2 a3 hv hM
    go_enter Try.func12, Try.ntmps12
    go_wp2_with fail
    refine (at_yes p n x _ hx c0 hn hlt).mono ?_
    rintro e w1 ⟨rfl, rfl⟩
    rw [H1.out, H2.out]
    go_wp2_with fail
    go_ret2
    exact ⟨rfl, rfl⟩
set_option maxHeartbeats 400000 in
theorem read_no (p n k : Nat) (x : Int) (c : Nat → Nat → Int) (F : Nat → Prop) (w : World) (hM : MemS w p n c F k) (hn : n ≤ 64) (hx : U64 x) (h : (n : Int) ≤ x / 512) :
    Calls Try.prog 12 #[.pointer (some ⟨p, 0, none⟩), .int .u64 x] w fun e w' => e = .returned (.tuple #[.int .u64 0, .int .i64 80]) ∧ w = w' := by
  have c0 := hM.cell
  clear hM
  go_enter Try.func12, Try.ntmps12
  go_wp2_with fail
  refine (at_no p n x _ hx c0 hn h).mono ?_
  rintro e w1 ⟨rfl, rfl⟩
  go_wp2_with fail
  go_ret2
  exact ⟨rfl, rfl⟩
theorem read_nil (x : Int) (w : World) :
    Calls Try.prog 12 #[.pointer none, .int .u64 x] w fun e w' => e = .returned (.tuple #[.int .u64 0, .int .i64 1]) ∧ w = w' := by
  go_enter Try.func12, Try.ntmps12
  go_wp2_with fail
  refine (at_nil x _).mono ?_
  rintro e w1 ⟨rfl, rfl⟩
  go_wp2_with fail
  go_ret2
  exact ⟨rfl, rfl⟩
set_option maxHeartbeats 400000 in
theorem write_yes (p n k f i : Nat) (x v : Int) (c : Nat → Nat → Int) (F : Nat → Prop) (w : World) (hM : MemS w p n c F k) (hk : k < 1000000) (hn : n ≤ 64) (hx : U64 x) (h1 : x / 512 = f) (h2 : x % 512 = i) (hf : f < n) :
    Calls Try.prog 14 #[.pointer (some ⟨p, 0, none⟩), .int .u64 x, .int .u64 v] w (Went w p n (upd2 c f i v) F k (.int .i64 0)) := by
  obtain ⟨m, D, hM⟩ := hM
  have hi : i < 512 := by omega
  have H1 := Lib.hid h1
  have H2 := Lib.hid h2
  have hlt : x / 512 < (n : Int) := by omega
  clear h1 h2
  have c0 : w.cell? ⟨p, 0, none⟩ = some (.int .i64 n) := hM.str.cell 0
  go_enter Try.func14, Try.ntmps14
  go_wp2_with fail
  refine (at_yes p n x _ hx c0 hn hlt).mono ?_
  rintro e w1 ⟨rfl, rfl⟩
  rw [H1.out, H2.out]
  go_wp2_with fail
  refine (own_any p n k m f c F D _ hM hk (by omega)).mono ?_
  rintro e w1 ⟨b, k', F', D', rfl, m1, m2, m3, m4, m5, m6, m7, m8⟩
  have hc : w1.cell? ⟨b, i, none⟩ = some (.int .u64 (c f i)) := (m4.cell i).trans (rowOf_at _ _ hi)
  have hfz : w1.frozen? ⟨b, i, none⟩ = false := m4.frozen i
  have R := Lib.hid (m1.put m3 m4 i v)
  have M6 := Lib.hid (m6.mono (G := F) (fun x e => by rw [e]; exact hM.mF))
  have M7 := Lib.hid m7
  have M8 := Lib.hid m8
  have M3 := Lib.hid m3
  clear m1 m3 m4 m6 m7 m8 hM c0
  go_wp2_with fail
  go_ret
  exact ⟨rfl, F', k', ⟨m, D', R.out⟩, m2, M6.out.trans (Keeps.setCell (F := F') m5 _) M7.out, M7.out, M8.out⟩
set_option maxHeartbeats 400000 in
theorem write_no (p n k : Nat) (x v : Int) (c : Nat → Nat → Int) (F : Nat → Prop) (w : World) (hM : MemS w p n c F k) (hn : n ≤ 64) (hx : U64 x) (h : (n : Int) ≤ x / 512) :
    Calls Try.prog 14 #[.pointer (some ⟨p, 0, none⟩), .int .u64 x, .int .u64 v] w fun e w' => e = .returned (.int .i64 80) ∧ w = w' := by
  have c0 := hM.cell
  clear hM
  go_enter Try.func14, Try.ntmps14
  go_wp2_with fail
  refine (at_no p n x _ hx c0 hn h).mono ?_
  rintro e w1 ⟨rfl, rfl⟩
  go_wp2_with fail
  go_ret
  exact ⟨rfl, rfl⟩
theorem write_nil (x v : Int) (w : World) :
    Calls Try.prog 14 #[.pointer none, .int .u64 x, .int .u64 v] w fun e w' => e = .returned (.int .i64 1) ∧ w = w' := by
  go_enter Try.func14, Try.ntmps14
  go_wp2_with fail
  refine (at_nil x _).mono ?_
  rintro e w1 ⟨rfl, rfl⟩
  go_wp2_with fail
  go_ret
  exact ⟨rfl, rfl⟩
set_option maxHeartbeats 400000 in
theorem add_yes (p n k f i : Nat) (x v : Int) (c : Nat → Nat → Int) (F : Nat → Prop) (w : World) (hM : MemS w p n c F k) (hk : k < 1000000) (hn : n ≤ 64) (hx : U64 x) (h1 : x / 512 = f) (h2 : x % 512 = i) (hf : f < n) :
    Calls Try.prog 22 #[.pointer (some ⟨p, 0, none⟩), .int .u64 x, .int .u64 v] w (Went w p n (upd2 c f i (IntKind.u64.wrap (c f i + v))) F k (.tuple #[.int .u64 (c f i), .int .i64 0])) := by
  have H1 := Lib.hid h1
  have H2 := Lib.hid h2
  clear h1 h2
  go_enter Try.func22, Try.ntmps22
  go_wp2_with fail
  refine (read_yes p n k f i x c F _ hM hn hx H1.out H2.out hf).mono ?_
  rintro e w1 ⟨rfl, rfl⟩
  go_wp2_with fail
  refine (write_yes p n k f i x _ c F _ hM hk hn hx H1.out H2.out hf).mono ?_
  rintro e w1 ⟨rfl, F', k', m1, m2, m3, m4, m5⟩
  have M3 := Lib.hid m3
  have M4 := Lib.hid m4
  have M5 := Lib.hid m5
  clear m3 m4 m5
  go_wp2_with fail
  go_ret2
  exact ⟨rfl, F', k', m1, m2, M3.out, M4.out, M5.out⟩
theorem add_nil (x v : Int) (w : World) :
    Calls Try.prog 22 #[.pointer none, .int .u64 x, .int .u64 v] w fun e w' => e = .returned (.tuple #[.int .u64 0, .int .i64 1]) ∧ w = w' := by
  go_enter Try.func22, Try.ntmps22
  go_wp2_with fail
  refine (read_nil x _).mono ?_
  rintro e w1 ⟨rfl, rfl⟩
  go_wp2_with fail
  go_ret2
  exact ⟨rfl, rfl⟩
theorem add_no (p n k : Nat) (x v : Int) (c : Nat → Nat → Int) (F : Nat → Prop) (w : World) (hM : MemS w p n c F k) (hn : n ≤ 64) (hx : U64 x) (h : (n : Int) ≤ x / 512) :
    Calls Try.prog 22 #[.pointer (some ⟨p, 0, none⟩), .int .u64 x, .int .u64 v] w fun e w' => e = .returned (.tuple #[.int .u64 0, .int .i64 80]) ∧ w = w' := by
  go_enter Try.func22, Try.ntmps22
  go_wp2_with fail
  refine (read_no p n k x c F _ hM hn hx h).mono ?_
  rintro e w1 ⟨rfl, rfl⟩
  go_wp2_with fail
  go_ret2
  exact ⟨rfl, rfl⟩
/-- What New leaves: a memory of its own. -/
def Made (w : World) (n : Nat) (e : Ending) (w' : World) : Prop :=
  ∃ p F, e = .returned (.tuple #[.pointer (some ⟨p, 0, none⟩), .int .i64 0]) ∧ MemS w' p n (fun _ _ => 0) F 0 ∧ Below w.heap.size w w' ∧ ∀ x, F x → w.heap.size ≤ x
set_option maxHeartbeats 400000 in
theorem new_yes (n : Nat) (w : World) (h1 : 1 ≤ n) (h2 : n ≤ 64) : Calls Try.prog 10 #[.int .i64 n] w (Made w n) := by
  have hmm := @run_makeMap Try.prog
  have R := Lib.hid (Mm.made w n)
  go_enter Try.func10, Try.ntmps10
  go_wp2_with fail
  go_ret2
  exact ⟨w.heap.size + 1, _, rfl, ⟨_, _, R.out⟩, ba (ba (Below.refl _ _) _) _, fun x hx => by omega⟩
theorem new_no (n : Int) (w : World) (h : n < 1 ∨ 64 < n) : Calls Try.prog 10 #[.int .i64 n] w fun e w' => e = .returned (.tuple #[.pointer none, .int .i64 2]) ∧ w = w' := by
  rcases h with h | h
  · go_enter Try.func10, Try.ntmps10
    go_wp2_with fail
    go_ret2
    exact ⟨rfl, rfl⟩
  · have h' : ¬ n < 1 := by omega
    go_enter Try.func10, Try.ntmps10
    go_wp2_with fail
    go_ret2
    exact ⟨rfl, rfl⟩
end Go.Proofs.Ytlhbofgcgfbchaa
