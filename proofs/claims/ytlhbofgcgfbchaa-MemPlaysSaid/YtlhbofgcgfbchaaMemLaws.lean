/-
  The laws MemOrder and MemNil of layer 8: the walks.
-/
import Derived.Test.YtlhbofgcgfbchaaMemReach2
namespace Go.Proofs.Ytlhbofgcgfbchaa
open Go.RowKit Go.Maps
set_option linter.unusedVariables false
set_option linter.unusedSimpArgs false

theorem upd2_same (c : Nat → Nat → Int) (f i : Nat) (v : Int) : upd2 c f i v f i = v := by simp [upd2, upd]
theorem upd2_other (c : Nat → Nat → Int) {f i f' i' : Nat} (v : Int) (h : ¬ (f' = f ∧ i' = i)) : upd2 c f i v f' i' = c f' i' := by
  unfold upd2
  split
  · rename_i e
    subst e
    exact upd_other _ _ (fun e => h ⟨rfl, e⟩)
  · rfl
theorem sep {F F' G : Nat → Prop} {w : World} (hd : ∀ y, F y → G y → False) (hG : ∀ y, G y → y < w.heap.size) (h : ∀ x, F' x → F x ∨ w.heap.size ≤ x) : ∀ y, F' y → G y → False :=
  fun y hy hg => (h y hy).elim (fun hf => hd y hf hg) (fun hle => by have := hG y hg; omega)
theorem grow {F F' : Nat → Prop} {w0 w : World} (hF : ∀ x, F x → w0.heap.size ≤ x) (hB : Below w0.heap.size w0 w) (h : ∀ x, F' x → F x ∨ w.heap.size ≤ x) : ∀ x, F' x → w0.heap.size ≤ x :=
  fun x hx => (h x hx).elim (hF x) (fun hle => Nat.le_trans hB.size hle)
set_option maxHeartbeats 1000000 in
theorem memNil_any (x v kd ex ev fr t : Int) (w : World) :
    Calls Try.prog 6 #[.int .u64 x, .int .u64 v, .agg #[.int .i8 kd, .int .u64 ex, .int .u64 ev, .int .i64 fr, .int .i64 t]] w fun e w' => e = .returned (.bool true) ∧ Below w.heap.size w w' := by
  have hB := ba (Below.refl w.heap.size w) (.cells #[.int .i8 kd, .int .u64 ex, .int .u64 ev, .int .i64 fr, .int .i64 t] 29)
  have HB := Lib.hid hB
  clear hB
  go_enter Try.func6, Try.ntmps6
  go_wp2_with fail
  refine (read_nil x _).mono ?_
  rintro e w1 ⟨rfl, rfl⟩
  go_wp2_with fail
  refine (add_nil x v _).mono ?_
  rintro e w1 ⟨rfl, rfl⟩
  go_wp2_with fail
  refine (write_nil x v _).mono ?_
  rintro e w1 ⟨rfl, rfl⟩
  go_wp2_with fail
  refine (reach_nil kd ex ev fr t _).mono ?_
  rintro e w1 ⟨rfl, hb⟩
  have HB1 := Lib.hid (bthen HB.out hb)
  clear hb
  go_wp2_with fail
  refine (frames_nil _).mono ?_
  rintro e w1 ⟨rfl, rfl⟩
  go_wp2_with fail
  refine (words_nil 0 _).mono ?_
  rintro e w1 ⟨rfl, rfl⟩
  go_wp2_with fail
  refine (copy_nil _).mono ?_
  rintro e w1 ⟨rfl, rfl⟩
  go_wp2_with fail
  refine (wakes8_any _).mono ?_
  rintro e w2 ⟨rfl, hb⟩
  have HB2 := Lib.hid (bthen HB1.out hb)
  clear hb
  go_wp2_with fail
  go_ret
  exact ⟨rfl, HB2.out⟩
theorem order_words {a : Int} (ha : U64 a) : ∃ f i : Nat, (a % 32768) / 512 = f ∧ (a % 32768) % 512 = i ∧ f < 64 ∧ U64 (a % 32768) :=
  ⟨((a % 32768) / 512).toNat, ((a % 32768) % 512).toNat, by omega, by omega, by omega, ⟨by omega, by omega⟩⟩
set_option maxHeartbeats 4000000 in
theorem memOrder_any (a b x y : Int) (w : World) (ha : U64 a) (hb : U64 b) (q : Bool) (hq : (a % 32768 == b % 32768) = q) :
    Calls Try.prog 3 #[.int .u64 a, .int .u64 b, .int .u64 x, .int .u64 y] w fun e w' => e = .returned (.bool true) ∧ Below w.heap.size w w' := by
  obtain ⟨fa, ia, a1, a2, a3, a4⟩ := order_words ha
  obtain ⟨fb, ib, b1, b2, b3, b4⟩ := order_words hb
  have hz : (fun _ _ => 0 : Nat → Nat → Int) = fun _ _ => 0 := rfl
  have hr : q = false → (¬ (fa = fb ∧ ia = ib)) ∧ ¬ (fb = fa ∧ ib = ia) := fun e => by
    subst e
    have : a % 32768 ≠ b % 32768 := by simpa using hq
    omega
  have hr' : q = true → fa = fb ∧ ia = ib := fun e => by
    subst e
    have : a % 32768 = b % 32768 := by simpa using hq
    omega
  have A1 := Lib.hid a1
  have A2 := Lib.hid a2
  have B1 := Lib.hid b1
  have B2 := Lib.hid b2
  have HR := Lib.hid hr
  have HR' := Lib.hid hr'
  have p0 := ha.1
  have q0 := hb.1
  clear a1 a2 b1 b2 hr hr' ha hb hz
  go_enter Try.func3, Try.ntmps3
  go_wp2_with fail
  refine (new_yes 64 _ (by omega) (by omega)).mono ?_
  rintro e w1 ⟨p, F, rfl, hM, hB, hF⟩
  have HF := Lib.hid hF
  have HB := Lib.hid hB
  have HA := Lib.hid hM.all
  clear hF hB
  go_wp2_with fail
  refine (new_yes 64 _ (by omega) (by omega)).mono ?_
  rintro e w2 ⟨p', G, rfl, hN, hB, hG⟩
  replace hM := hM.call hB
  have HG := Lib.hid (fun y (h : G y) => Nat.le_trans HB.out.size (hG y h))
  have HD := Lib.hid (fun y (h : F y) (h' : G y) => Nat.not_lt.2 (hG y h') (HA.out y h))
  have HB2 := Lib.hid (bthen HB.out hB)
  clear hG hB HA HB
  go_wp2_with fail
  have hE := (ba (ba (Below.refl w2.heap.size w2) (.cells #[.int .i8 0, .int .u64 (a % 32768), .int .u64 x, .int .i64 0, .int .i64 0] 29)) (.cells #[.int .i8 0, .int .u64 (b % 32768), .int .u64 y, .int .i64 0, .int .i64 0] 29))
  have hR1 := (Bk.new w2 29 #[.int .i8 0, .int .u64 (a % 32768), .int .u64 x, .int .i64 0, .int .i64 0]).call (ba (Below.refl _ _) (.cells #[.int .i8 0, .int .u64 (b % 32768), .int .u64 y, .int .i64 0, .int .i64 0] 29))
  have hR2 := Bk.new (w2.alloc (.cells #[.int .i8 0, .int .u64 (a % 32768), .int .u64 x, .int .i64 0, .int .i64 0] 29)) 29 #[.int .i8 0, .int .u64 (b % 32768), .int .u64 y, .int .i64 0, .int .i64 0]
  rw [World.size_alloc] at hR2
  have HX := Lib.hid (And.intro hM.all hN.all)
  replace hM := hM.call hE
  replace hN := hN.call hE
  have HB3 := Lib.hid (bthen HB2.out hE)
  have HFd : ∀ z, F z → z < w2.heap.size := HX.out.1
  have HGd : ∀ z, G z → z < w2.heap.size := HX.out.2
  have HE := Lib.hid (show (∀ z, F z → (z = w2.heap.size ∨ z = w2.heap.size + 1) → False) ∧ ∀ z, G z → (z = w2.heap.size ∨ z = w2.heap.size + 1) → False from ⟨fun z h e => by have := HFd z h; omega, fun z h e => by have := HGd z h; omega⟩)
  clear HFd HGd hE HX
  generalize (w2.alloc (.cells #[.int .i8 0, .int .u64 (a % 32768), .int .u64 x, .int .i64 0, .int .i64 0] 29)).alloc (.cells #[.int .i8 0, .int .u64 (b % 32768), .int .u64 y, .int .i64 0, .int .i64 0] 29) = W at *
  generalize w2.heap.size = g1 at *
  have HL := Lib.hid (show g1 < W.heap.size ∧ g1 + 1 < W.heap.size from ⟨hR1.lt, hR2.lt⟩)
  refine (reach_word p 64 0 fa ia (a % 32768) x 0 0 _ F _ hM (by omega) (by omega) a4 A1.out A2.out a3).mono ?_
  rintro e W1 ⟨rfl, F1, k1, m1, m2, m3, m4, m5⟩
  have hd1 := sep HD.out hN.all m4
  have he1 := sep HE.out.1 (fun z hz => hz.elim (fun e => by rw [e]; exact HL.out.1) (fun e => by rw [e]; exact HL.out.2)) m4
  replace hN := hN.keep m3 (fun z h h' => HD.out z h' h)
  replace hR1 := hR1.keep m3 (fun h => HE.out.1 _ h (.inl rfl))
  replace hR2 := hR2.keep m3 (fun h => HE.out.1 _ h (.inr rfl))
  have HB4 := Lib.hid (m3.below HB3.out HF.out)
  have HF1 := Lib.hid (grow HF.out HB3.out m4)
  have HD1 := Lib.hid hd1
  have HE1 := Lib.hid he1
  have HL1 := Lib.hid (show g1 < W1.heap.size ∧ g1 + 1 < W1.heap.size from ⟨hR1.lt, hR2.lt⟩)
  clear hM m3 m4 m5 hd1 he1
  have r0 : W1.cell? ⟨g1 + 1, 0, none⟩ = some (.int .i8 0) := hR2.cell 0
  have r1 : W1.cell? ⟨g1 + 1, 1, none⟩ = some (.int .u64 (b % 32768)) := hR2.cell 1
  have r2 : W1.cell? ⟨g1 + 1, 2, none⟩ = some (.int .u64 y) := hR2.cell 2
  have r3 : W1.cell? ⟨g1 + 1, 3, none⟩ = some (.int .i64 0) := hR2.cell 3
  have r4 : W1.cell? ⟨g1 + 1, 4, none⟩ = some (.int .i64 0) := hR2.cell 4
  go_wp2_with fail
  refine (reach_word p 64 k1 fb ib (b % 32768) y 0 0 _ F1 _ m1 (by omega) (by omega) b4 B1.out B2.out b3).mono ?_
  rintro e W2 ⟨rfl, F2, k2, n1, n2, n3, n4, n5⟩
  have hd2 := sep HD1.out hN.all n4
  replace hN := hN.keep n3 (fun z h h' => HD1.out z h' h)
  replace hR1 := hR1.keep n3 (fun h => HE1.out _ h (.inl rfl))
  replace hR2 := hR2.keep n3 (fun h => HE1.out _ h (.inr rfl))
  have HB5 := Lib.hid (n3.below HB4.out HF1.out)
  have HD2 := Lib.hid hd2
  clear m1 n3 n4 n5 hd2 r0 r1 r2 r3 r4
  have r0 : W2.cell? ⟨g1 + 1, 0, none⟩ = some (.int .i8 0) := hR2.cell 0
  have r1 : W2.cell? ⟨g1 + 1, 1, none⟩ = some (.int .u64 (b % 32768)) := hR2.cell 1
  have r2 : W2.cell? ⟨g1 + 1, 2, none⟩ = some (.int .u64 y) := hR2.cell 2
  have r3 : W2.cell? ⟨g1 + 1, 3, none⟩ = some (.int .i64 0) := hR2.cell 3
  have r4 : W2.cell? ⟨g1 + 1, 4, none⟩ = some (.int .i64 0) := hR2.cell 4
  go_wp2_with fail
  refine (reach_word p' 64 0 fb ib (b % 32768) y 0 0 _ G _ hN (by omega) (by omega) b4 B1.out B2.out b3).mono ?_
  rintro e W3 ⟨rfl, G1, l1, o1, o2, o3, o4, o5⟩
  have hd3 := sep (fun z h h' => HD2.out z h' h) n1.all o4
  replace n1 := n1.keep o3 (fun z h h' => HD2.out z h h')
  replace hR1 := hR1.keep o3 (fun h => HE.out.2 _ h (.inl rfl))
  have HB6 := Lib.hid (o3.below HB5.out HG.out)
  have HG1 := Lib.hid (grow HG.out HB5.out o4)
  have HD3 := Lib.hid hd3
  clear hN o3 o4 o5 hd3 r0 r1 r2 r3 r4 hR2
  have r0 : W3.cell? ⟨g1, 0, none⟩ = some (.int .i8 0) := hR1.cell 0
  have r1 : W3.cell? ⟨g1, 1, none⟩ = some (.int .u64 (a % 32768)) := hR1.cell 1
  have r2 : W3.cell? ⟨g1, 2, none⟩ = some (.int .u64 x) := hR1.cell 2
  have r3 : W3.cell? ⟨g1, 3, none⟩ = some (.int .i64 0) := hR1.cell 3
  have r4 : W3.cell? ⟨g1, 4, none⟩ = some (.int .i64 0) := hR1.cell 4
  go_wp2_with fail
  refine (reach_word p' 64 l1 fa ia (a % 32768) x 0 0 _ G1 _ o1 (by omega) (by omega) a4 A1.out A2.out a3).mono ?_
  rintro e W4 ⟨rfl, G2, l2, q1, q2, q3, q4, q5⟩
  replace n1 := n1.keep q3 (fun z h h' => HD3.out z h' h)
  have HB7 := Lib.hid (q3.below HB6.out HG1.out)
  clear o1 q3 q4 q5 r0 r1 r2 r3 r4 hR1
  go_wp2_with fail
  refine (read_yes p 64 k2 fa ia (a % 32768) _ F2 _ n1 (by omega) a4 A1.out A2.out a3).mono ?_
  rintro e v1 ⟨rfl, rfl⟩
  go_wp2_with fail
  refine (read_yes p' 64 l2 fa ia (a % 32768) _ G2 _ q1 (by omega) a4 A1.out A2.out a3).mono ?_
  rintro e v1 ⟨rfl, rfl⟩
  go_wp2_with fail
  refine (read_yes p 64 k2 fb ib (b % 32768) _ F2 _ n1 (by omega) b4 B1.out B2.out b3).mono ?_
  rintro e v1 ⟨rfl, rfl⟩
  go_wp2_with fail
  refine (read_yes p' 64 l2 fb ib (b % 32768) _ G2 _ q1 (by omega) b4 B1.out B2.out b3).mono ?_
  rintro e v1 ⟨rfl, rfl⟩
  rw [upd2_same, upd2_same]
  cases q
  · rw [upd2_other _ _ (HR.out rfl).1, upd2_same, upd2_other _ _ (HR.out rfl).2, upd2_same]
    go_wp2_with fail
    refine (wakes8_any _).mono ?_
    rintro e W5 ⟨rfl, hb⟩
    go_wp2_with fail
    go_ret
    exact ⟨rfl, bthen HB7.out hb⟩
  · obtain ⟨rfl, rfl⟩ := HR'.out rfl
    rw [upd2_same, upd2_same]
    go_wp2_with fail
    refine (wakes8_any _).mono ?_
    rintro e W5 ⟨rfl, hb⟩
    go_wp2_with fail
    go_ret
    exact ⟨rfl, bthen HB7.out hb⟩
end Go.Proofs.Ytlhbofgcgfbchaa
