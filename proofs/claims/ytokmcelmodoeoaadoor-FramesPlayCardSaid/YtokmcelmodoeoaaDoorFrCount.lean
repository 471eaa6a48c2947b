/-
  How many bits are 1: math/bits's way, byte by byte.
-/
import Derived.Test.YtokmcelmodoeoaaDoorFrPlain
namespace Go.Proofs.YtokmcelmodoeoaaDoor
open Go.RowKit
set_option linter.unusedVariables false
set_option linter.unusedSimpArgs false

def rep (e : Nat) : Nat → Nat
  | 0 => 0
  | j + 1 => e + 256 * rep e j
def by8 : List Nat → Nat
  | [] => 0
  | d :: r => d + 256 * by8 r
theorem and256 (d e a m : Nat) (hd : d < 256) (he : e < 256) : (d + 256 * a) &&& (e + 256 * m) = (d &&& e) + 256 * (a &&& m) := by
  have hde : d &&& e < 256 := Nat.lt_of_le_of_lt Nat.and_le_left hd
  apply Nat.eq_of_testBit_eq
  intro i
  rw [Nat.testBit_and, Nat.add_comm d, Nat.add_comm e, Nat.add_comm (d &&& e)]
  have t := fun (x y : Nat) (hy : y < 256) => Nat.testBit_two_pow_mul_add (i := 8) x (b := y) hy i
  have t1 := t a d hd
  have t2 := t m e he
  have t3 := t (a &&& m) (d &&& e) hde
  rw [show (2 : Nat) ^ 8 = 256 from rfl] at t1 t2 t3
  rw [t1, t2, t3]
  split
  · rw [Nat.testBit_and]
  · rw [Nat.testBit_and]
theorem m85 : ∀ (y : Fin 128) (t : Fin 2), (y.val + 128 * t.val) &&& 85 = y.val &&& 85 := by decide +kernel
theorem m51 : ∀ (y : Fin 64) (t : Fin 4), (y.val + 64 * t.val) &&& 51 = y.val &&& 51 := by decide +kernel
theorem step1 : ∀ l : List Nat, (∀ d ∈ l, d < 256) → (by8 l / 2 &&& rep 85 l.length) + (by8 l &&& rep 85 l.length) = by8 (l.map f1)
  | [], _ => rfl
  | d :: r, h => by
    have hd := h d (by simp)
    have ih := step1 r (fun x hx => h x (List.mem_cons_of_mem _ hx))
    show ((d + 256 * by8 r) / 2 &&& (85 + 256 * rep 85 r.length)) + ((d + 256 * by8 r) &&& (85 + 256 * rep 85 r.length)) = f1 d + 256 * by8 (r.map f1)
    generalize by8 r = R at *
    generalize rep 85 r.length = m at *
    have e : (d + 256 * R) / 2 = (d / 2 + 128 * (R % 2)) + 256 * (R / 2) := by omega
    have k := m85 ⟨d / 2, by omega⟩ ⟨R % 2, by omega⟩
    rw [e, and256 _ _ _ _ (by omega) (by omega), and256 _ _ _ _ hd (by omega), ← ih]
    simp only at k
    rw [k]
    unfold f1
    omega
theorem step2 : ∀ l : List Nat, (∀ d ∈ l, d < 256) → (by8 l / 4 &&& rep 51 l.length) + (by8 l &&& rep 51 l.length) = by8 (l.map f2)
  | [], _ => rfl
  | d :: r, h => by
    have hd := h d (by simp)
    have ih := step2 r (fun x hx => h x (List.mem_cons_of_mem _ hx))
    show ((d + 256 * by8 r) / 4 &&& (51 + 256 * rep 51 r.length)) + ((d + 256 * by8 r) &&& (51 + 256 * rep 51 r.length)) = f2 d + 256 * by8 (r.map f2)
    generalize by8 r = R at *
    generalize rep 51 r.length = m at *
    have e : (d + 256 * R) / 4 = (d / 4 + 64 * (R % 4)) + 256 * (R / 4) := by omega
    have k := m51 ⟨d / 4, by omega⟩ ⟨R % 4, by omega⟩
    rw [e, and256 _ _ _ _ (by omega) (by omega), and256 _ _ _ _ hd (by omega), ← ih]
    simp only at k
    rw [k]
    unfold f2
    omega
theorem and15 (x : Nat) : x &&& 15 = x % 16 := Nat.and_two_pow_sub_one_eq_mod x 4
def nib (d : Nat) : Prop := d % 16 ≤ 4 ∧ d / 16 ≤ 4
theorem by8_mod : ∀ l : List Nat, (∀ d ∈ l, nib d) → by8 l % 16 ≤ 4
  | [], _ => by simp [by8]
  | d :: r, h => by
    have := (h d (by simp)).1
    show (d + 256 * by8 r) % 16 ≤ 4
    omega
theorem step3 : ∀ l : List Nat, (∀ d ∈ l, nib d) → (by8 l / 16 + by8 l) &&& rep 15 l.length = by8 (l.map f3)
  | [], _ => rfl
  | d :: r, h => by
    have hd := h d (by simp)
    have ih := step3 r (fun x hx => h x (List.mem_cons_of_mem _ hx))
    have hm := by8_mod r (fun x hx => h x (List.mem_cons_of_mem _ hx))
    show ((d + 256 * by8 r) / 16 + (d + 256 * by8 r)) &&& (15 + 256 * rep 15 r.length) = f3 d + 256 * by8 (r.map f3)
    generalize by8 r = R at *
    generalize rep 15 r.length = m at *
    obtain ⟨a, b⟩ := hd
    have e : (d + 256 * R) / 16 + (d + 256 * R) = (d / 16 + d + 16 * (R % 16)) + 256 * (R / 16 + R) := by omega
    rw [e, and256 _ _ _ _ (by omega) (by omega), ih]
    unfold f3
    rw [and15, and15]
    omega
theorem byte_ok : ∀ d : Fin 256, f1 d.val < 256 ∧ (f2 (f1 d.val) % 16 ≤ 4 ∧ f2 (f1 d.val) / 16 ≤ 4) ∧ f2 (f1 d.val) < 256 := by decide +kernel
theorem by8_lt : ∀ l : List Nat, (∀ d ∈ l, d < 256) → by8 l < 256 ^ l.length
  | [], _ => by simp [by8]
  | d :: r, h => by
    have := by8_lt r (fun x hx => h x (List.mem_cons_of_mem _ hx))
    have hd := h d (by simp)
    show d + 256 * by8 r < 256 ^ (r.length + 1)
    rw [Nat.pow_succ]
    omega
theorem dv1 (p q : Nat) (h : p < 256) : (p + 256 * q) / 256 = q := by omega
theorem dv2 (p0 p1 q : Nat) (h0 : p0 < 256) (h1 : p1 < 256) : (p0 + 256 * (p1 + 256 * q)) / 65536 = q := by omega
theorem dv4 (p0 p1 p2 p3 q : Nat) (h0 : p0 < 256) (h1 : p1 < 256) (h2 : p2 < 256) (h3 : p3 < 256) : (p0 + 256 * (p1 + 256 * (p2 + 256 * (p3 + 256 * q)))) / 4294967296 = q := by omega
theorem md (S q : Nat) (h : S ≤ 64) : (S + 256 * q) % 128 = S := by omega
theorem last_steps (p0 p1 p2 p3 p4 p5 p6 p7 : Nat) (h0 : p0 ≤ 8) (h1 : p1 ≤ 8) (h2 : p2 ≤ 8) (h3 : p3 ≤ 8) (h4 : p4 ≤ 8) (h5 : p5 ≤ 8) (h6 : p6 ≤ 8) (h7 : p7 ≤ 8) (y y4 y5 y6 : Nat)
    (hy : y = p0 + 256 * (p1 + 256 * (p2 + 256 * (p3 + 256 * (p4 + 256 * (p5 + 256 * (p6 + 256 * p7))))))) (e4 : y4 = y + y / 256) (e5 : y5 = y4 + y4 / 65536) (e6 : y6 = y5 + y5 / 4294967296) :
    y4 < 18446744073709551616 ∧ y5 < 18446744073709551616 ∧ y6 < 9223372036854775808 ∧ y6 % 128 = p0 + p1 + p2 + p3 + p4 + p5 + p6 + p7 := by
  have a : y / 256 = p1 + 256 * (p2 + 256 * (p3 + 256 * (p4 + 256 * (p5 + 256 * (p6 + 256 * p7))))) := by rw [hy]; exact dv1 _ _ (by omega)
  have b : y4 = (p0 + p1) + 256 * ((p1 + p2) + 256 * ((p2 + p3) + 256 * ((p3 + p4) + 256 * ((p4 + p5) + 256 * ((p5 + p6) + 256 * ((p6 + p7) + 256 * p7)))))) := by rw [e4, a, hy]; omega
  clear a e4 hy
  have c : y4 / 65536 = (p2 + p3) + 256 * ((p3 + p4) + 256 * ((p4 + p5) + 256 * ((p5 + p6) + 256 * ((p6 + p7) + 256 * p7)))) := by rw [b]; exact dv2 _ _ _ (by omega) (by omega)
  have d : y5 = (p0 + p1 + p2 + p3) + 256 * ((p1 + p2 + p3 + p4) + 256 * ((p2 + p3 + p4 + p5) + 256 * ((p3 + p4 + p5 + p6) + 256 * ((p4 + p5 + p6 + p7) + 256 * ((p5 + p6 + p7) + 256 * ((p6 + p7) + 256 * p7)))))) := by rw [e5, c, b]; omega
  clear c e5
  have e : y5 / 4294967296 = (p4 + p5 + p6 + p7) + 256 * ((p5 + p6 + p7) + 256 * ((p6 + p7) + 256 * p7)) := by rw [d]; exact dv4 _ _ _ _ _ (by omega) (by omega) (by omega) (by omega)
  have f : y6 = (p0 + p1 + p2 + p3 + p4 + p5 + p6 + p7) + 256 * ((p1 + p2 + p3 + p4 + p5 + p6 + p7) + 256 * ((p2 + p3 + p4 + p5 + p6 + p7) + 256 * ((p3 + p4 + p5 + p6 + p7) + 256 * ((p4 + p5 + p6 + p7) + 256 * ((p5 + p6 + p7) + 256 * ((p6 + p7) + 256 * p7)))))) := by rw [e6, e, d]; omega
  clear e e6
  have g1 : y4 < 18446744073709551616 := by clear d f; omega
  have g2 : y5 < 18446744073709551616 := by clear b f; omega
  have g3 : y6 < 9223372036854775808 := by clear b d; omega
  have g4 : y6 % 128 = p0 + p1 + p2 + p3 + p4 + p5 + p6 + p7 := by
    rw [f]
    exact md (p0 + p1 + p2 + p3 + p4 + p5 + p6 + p7) _ (by clear b d f g1 g2 g3; omega)
  exact And.intro g1 (And.intro g2 (And.intro g3 g4))
theorem mk8 (p : Nat → Bool) (j k : Nat) : mk (fun i => p (j + i)) (8 + k) = mk (fun i => p (j + i)) 8 + 256 * mk (fun i => p (j + 8 + i)) k := by
  have h := mk_add (fun i => p (j + i)) 8 k
  have e : (fun i => p (j + (8 + i))) = fun i => p (j + 8 + i) := funext fun i => congrArg p (Nat.add_assoc j 8 i).symm
  rw [show (2 : Nat) ^ 8 = 256 from rfl] at h
  rw [← e]
  exact h
theorem cnt8 (p : Nat → Bool) (j k : Nat) : cnt (fun i => p (j + i)) (8 + k) = cnt (fun i => p (j + i)) 8 + cnt (fun i => p (j + 8 + i)) k := by
  have h := cnt_add (fun i => p (j + i)) 8 k
  have e : (fun i => p (j + (8 + i))) = fun i => p (j + 8 + i) := funext fun i => congrArg p (Nat.add_assoc j 8 i).symm
  rw [← e]
  exact h
theorem bytes_of (p : Nat → Bool) : mk (fun i => p (0 + i)) 64 = by8 [mk (fun i => p (0 + i)) 8, mk (fun i => p (8 + i)) 8, mk (fun i => p (16 + i)) 8, mk (fun i => p (24 + i)) 8, mk (fun i => p (32 + i)) 8, mk (fun i => p (40 + i)) 8, mk (fun i => p (48 + i)) 8, mk (fun i => p (56 + i)) 8] := by
  have e0 : mk (fun i => p (0 + i)) 64 = mk (fun i => p (0 + i)) 8 + 256 * mk (fun i => p (8 + i)) 56 := mk8 p 0 56
  have e1 : mk (fun i => p (8 + i)) 56 = mk (fun i => p (8 + i)) 8 + 256 * mk (fun i => p (16 + i)) 48 := mk8 p 8 48
  have e2 : mk (fun i => p (16 + i)) 48 = mk (fun i => p (16 + i)) 8 + 256 * mk (fun i => p (24 + i)) 40 := mk8 p 16 40
  have e3 : mk (fun i => p (24 + i)) 40 = mk (fun i => p (24 + i)) 8 + 256 * mk (fun i => p (32 + i)) 32 := mk8 p 24 32
  have e4 : mk (fun i => p (32 + i)) 32 = mk (fun i => p (32 + i)) 8 + 256 * mk (fun i => p (40 + i)) 24 := mk8 p 32 24
  have e5 : mk (fun i => p (40 + i)) 24 = mk (fun i => p (40 + i)) 8 + 256 * mk (fun i => p (48 + i)) 16 := mk8 p 40 16
  have e6 : mk (fun i => p (48 + i)) 16 = mk (fun i => p (48 + i)) 8 + 256 * mk (fun i => p (56 + i)) 8 := mk8 p 48 8
  rw [e0, e1, e2, e3, e4, e5, e6]
  simp only [by8, Nat.mul_zero, Nat.add_zero]
theorem cnt_of (p : Nat → Bool) : cnt (fun i => p (0 + i)) 64 = cnt (fun i => p (0 + i)) 8 + (cnt (fun i => p (8 + i)) 8 + (cnt (fun i => p (16 + i)) 8 + (cnt (fun i => p (24 + i)) 8 + (cnt (fun i => p (32 + i)) 8 + (cnt (fun i => p (40 + i)) 8 + (cnt (fun i => p (48 + i)) 8 + cnt (fun i => p (56 + i)) 8)))))) := by
  have e0 : cnt (fun i => p (0 + i)) 64 = cnt (fun i => p (0 + i)) 8 + cnt (fun i => p (8 + i)) 56 := cnt8 p 0 56
  have e1 : cnt (fun i => p (8 + i)) 56 = cnt (fun i => p (8 + i)) 8 + cnt (fun i => p (16 + i)) 48 := cnt8 p 8 48
  have e2 : cnt (fun i => p (16 + i)) 48 = cnt (fun i => p (16 + i)) 8 + cnt (fun i => p (24 + i)) 40 := cnt8 p 16 40
  have e3 : cnt (fun i => p (24 + i)) 40 = cnt (fun i => p (24 + i)) 8 + cnt (fun i => p (32 + i)) 32 := cnt8 p 24 32
  have e4 : cnt (fun i => p (32 + i)) 32 = cnt (fun i => p (32 + i)) 8 + cnt (fun i => p (40 + i)) 24 := cnt8 p 32 24
  have e5 : cnt (fun i => p (40 + i)) 24 = cnt (fun i => p (40 + i)) 8 + cnt (fun i => p (48 + i)) 16 := cnt8 p 40 16
  have e6 : cnt (fun i => p (48 + i)) 16 = cnt (fun i => p (48 + i)) 8 + cnt (fun i => p (56 + i)) 8 := cnt8 p 48 8
  rw [e0, e1, e2, e3, e4, e5, e6]
theorem i64_and_nat (a b : Nat) (ha : a < 9223372036854775808) (hb : b < 9223372036854775808) : bits .and .i64 (a : Int) (b : Int) = ((a &&& b : Nat) : Int) := by
  have hle := Nat.and_le_left (n := a) (m := b)
  show IntKind.i64.wrap ((BitVec.ofInt 64 (a : Int) &&& BitVec.ofInt 64 (b : Int)).toNat : Int) = _
  rw [BitVec.toNat_and, ofInt_u64 a (by omega), ofInt_u64 b (by omega)]
  generalize a &&& b = m at *
  exact IntWalk.i64_in _ (by omega)
theorem by8_le : ∀ l : List Nat, (∀ d ∈ l, nib d) → by8 l ≤ rep 68 l.length
  | [], _ => Nat.le_refl _
  | d :: r, h => by
    have ih := by8_le r (fun x hx => h x (List.mem_cons_of_mem _ hx))
    have hd := h d (by simp)
    show d + 256 * by8 r ≤ 68 + 256 * rep 68 r.length
    unfold nib at hd
    omega
theorem v1_of (x x1 : Nat) (hx : x < 18446744073709551616) (l1 : x1 < 18446744073709551616) (s1 : (x / 2 &&& 6148914691236517205) + (x &&& 6148914691236517205) = x1) : pcV1 (x : Int) = (x1 : Int) := by
  have e : (x : Int) / 2 = ((x / 2 : Nat) : Int) := by omega
  have m : (6148914691236517205 : Int) = ((6148914691236517205 : Nat) : Int) := rfl
  unfold pcV1
  rw [e, m, u64_and_nat _ _ (by omega) (by omega), u64_and_nat _ _ hx (by omega), IntKind.wrap_u64, ← Int.natCast_add, s1]
  clear s1 e m
  omega
theorem v2_of (x x1 : Nat) (hx : x < 18446744073709551616) (l1 : x1 < 18446744073709551616) (s1 : (x / 4 &&& 3689348814741910323) + (x &&& 3689348814741910323) = x1) : pcV2 (x : Int) = (x1 : Int) := by
  have e : (x : Int) / 4 = ((x / 4 : Nat) : Int) := by omega
  have m : (3689348814741910323 : Int) = ((3689348814741910323 : Nat) : Int) := rfl
  unfold pcV2
  rw [e, m, u64_and_nat _ _ (by omega) (by omega), u64_and_nat _ _ hx (by omega), IntKind.wrap_u64, ← Int.natCast_add, s1]
  clear s1 e m
  omega
theorem v3_of (x x1 : Nat) (hx : x ≤ 4919131752989213764) (s1 : (x / 16 + x) &&& 1085102592571150095 = x1) : pcV3 (x : Int) = (x1 : Int) := by
  have e : (x : Int) / 16 + (x : Int) = ((x / 16 + x : Nat) : Int) := by omega
  have hl : x / 16 + x < 18446744073709551616 := by omega
  have m : (1085102592571150095 : Int) = ((1085102592571150095 : Nat) : Int) := rfl
  unfold pcV3
  rw [e, IntKind.wrap_u64]
  generalize x / 16 + x = y at *
  rw [show ((y : Nat) : Int) % 18446744073709551616 = (y : Int) by omega, m, u64_and_nat _ _ hl (by omega), s1]
theorem v456 (x3 y4 y5 y6 S : Nat) (e4 : y4 = x3 + x3 / 256) (e5 : y5 = y4 + y4 / 65536) (e6 : y6 = y5 + y5 / 4294967296) (L4 : y4 < 18446744073709551616) (L5 : y5 < 18446744073709551616) (L6 : y6 < 9223372036854775808) (L7 : y6 % 128 = S) :
    bits .and .i64 (wrap64 (pcV6 (pcV5 (pcV4 (x3 : Int))))) 127 = (S : Int) := by
  have v4 : pcV4 (x3 : Int) = (y4 : Int) := by unfold pcV4; rw [IntKind.wrap_u64]; clear e5 e6 L5 L6 L7; omega
  have v5 : pcV5 (y4 : Int) = (y5 : Int) := by unfold pcV5; rw [IntKind.wrap_u64]; clear e4 e6 L4 L6 L7 v4; omega
  have v6 : pcV6 (y5 : Int) = (y6 : Int) := by unfold pcV6; rw [IntKind.wrap_u64]; clear e4 e5 L4 L5 L7 v4 v5; omega
  rw [v4, v5, v6, IntWalk.wrap64_in _ (by clear e4 e5 e6 L4 L5 L7 v4 v5 v6; omega), show (127 : Int) = ((127 : Nat) : Int) from rfl, i64_and_nat _ _ L6 (by omega), nat_mask7, L7]
theorem r85 : rep 85 8 = 6148914691236517205 := rfl
theorem r51 : rep 51 8 = 3689348814741910323 := rfl
theorem r15 : rep 15 8 = 1085102592571150095 := rfl
theorem r68 : rep 68 8 = 4919131752989213764 := rfl
theorem p256 : 256 ^ 8 = 18446744073709551616 := rfl
theorem pc_list (l : List Nat) (hl : l.length = 8) (h : ∀ d ∈ l, d < 256) : pcV3 (pcV2 (pcV1 ((by8 l : Nat) : Int))) = ((by8 (((l.map f1).map f2).map f3) : Nat) : Int) := by
  have hx := by8_lt _ h
  have k1 : ∀ d ∈ (l.map f1), d < 256 := fun d hd => by
    obtain ⟨a, ha, rfl⟩ := List.mem_map.1 hd
    exact (byte_ok ⟨a, h a ha⟩).1
  have k2 : ∀ d ∈ ((l.map f1).map f2), nib d ∧ d < 256 := fun d hd => by
    obtain ⟨a, ha, rfl⟩ := List.mem_map.1 hd
    obtain ⟨b, hb, rfl⟩ := List.mem_map.1 ha
    exact (byte_ok ⟨b, h b hb⟩).2
  have s1 := step1 _ h
  have s2 := step2 _ k1
  have s3 := step3 _ (fun d hd => (k2 d hd).1)
  have l1 := by8_lt _ k1
  have l2 := by8_lt _ (fun d hd => (k2 d hd).2)
  have l2' := by8_le _ (fun d hd => (k2 d hd).1)
  simp only [List.length_map] at s1 s2 s3 hx l1 l2 l2'
  rw [hl] at s1 s2 s3 hx l1 l2 l2'
  rw [r85] at s1
  rw [r51] at s2
  rw [r15] at s3
  rw [r68] at l2'
  rw [p256] at hx l1 l2
  rw [v1_of _ _ hx l1 s1, v2_of _ _ l1 l2 s2, v3_of _ _ l2' s3]
theorem pc_bytes (d0 d1 d2 d3 d4 d5 d6 d7 : Nat) (h : ∀ d ∈ [d0, d1, d2, d3, d4, d5, d6, d7], d < 256) (g : ∀ d ∈ [d0, d1, d2, d3, d4, d5, d6, d7], f3 (f2 (f1 d)) ≤ 8) :
    pcV ((by8 [d0, d1, d2, d3, d4, d5, d6, d7] : Nat) : Int) = ((f3 (f2 (f1 d0)) + f3 (f2 (f1 d1)) + f3 (f2 (f1 d2)) + f3 (f2 (f1 d3)) + f3 (f2 (f1 d4)) + f3 (f2 (f1 d5)) + f3 (f2 (f1 d6)) + f3 (f2 (f1 d7)) : Nat) : Int) := by
  have hq : by8 ((([d0, d1, d2, d3, d4, d5, d6, d7].map f1).map f2).map f3) = f3 (f2 (f1 d0)) + 256 * (f3 (f2 (f1 d1)) + 256 * (f3 (f2 (f1 d2)) + 256 * (f3 (f2 (f1 d3)) + 256 * (f3 (f2 (f1 d4)) + 256 * (f3 (f2 (f1 d5)) + 256 * (f3 (f2 (f1 d6)) + 256 * f3 (f2 (f1 d7)))))))) := by
    simp only [List.map_cons, List.map_nil, by8, Nat.mul_zero, Nat.add_zero]
  have L := last_steps _ _ _ _ _ _ _ _ (g d0 (by simp)) (g d1 (by simp)) (g d2 (by simp)) (g d3 (by simp)) (g d4 (by simp)) (g d5 (by simp)) (g d6 (by simp)) (g d7 (by simp)) _ _ _ _ hq rfl rfl rfl
  unfold pcV
  rw [pc_list _ rfl h]
  exact v456 _ _ _ _ _ rfl rfl rfl L.1 L.2.1 L.2.2.1 L.2.2.2
theorem pc_mk (p : Nat → Bool) : pcV (mk p 64) = (cnt p 64 : Nat) := by
  have ep : (fun i => p (0 + i)) = p := funext fun i => by rw [Nat.zero_add]
  have hb := bytes_of p
  have hc := cnt_of p
  rw [ep] at hb hc
  rw [hb, pc_bytes]
  · rw [byte_cnt', byte_cnt', byte_cnt', byte_cnt', byte_cnt', byte_cnt', byte_cnt', byte_cnt', hc]
    omega
  · intro d hd
    simp only [List.mem_cons, List.not_mem_nil, or_false] at hd
    rcases hd with rfl | rfl | rfl | rfl | rfl | rfl | rfl | rfl <;> exact mk_lt _ 8
  · intro d hd
    simp only [List.mem_cons, List.not_mem_nil, or_false] at hd
    rcases hd with rfl | rfl | rfl | rfl | rfl | rfl | rfl | rfl <;> (rw [byte_cnt']; exact cnt_le _ 8)
end Go.Proofs.YtokmcelmodoeoaaDoor
