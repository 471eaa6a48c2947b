/-
  The walk of the law InvalTells.
-/
import Derived.Test.YtlmfmpmcgokbeaaInvalLaws2
namespace Go.Proofs.Ytlmfmpmcgokbeaa
open Go.RowKit
set_option linter.unusedVariables false
set_option linter.unusedSimpArgs false

theorem keepc {W w1 : World} (hb : Below W.heap.size W w1) : ∀ (b o : Nat) (v : Value), W.cell? ⟨b, o, none⟩ = some v → w1.cell? ⟨b, o, none⟩ = some v := by
  intro b o v h
  refine (hb.cell (p := ⟨b, o, none⟩) ?_).trans h
  show b < W.heap.size
  rcases Nat.lt_or_ge b W.heap.size with hlt | hge
  · exact hlt
  · unfold World.cell? at h
    rw [Array.getElem?_eq_none hge] at h
    cases h
theorem boxes4 (w : World) (c0 c1 c2 c3 : Array Value) (t0 t1 t2 t3 : TypeId) :
    Below w.heap.size w ((((w.alloc (.cells c0 t0)).alloc (.cells c1 t1)).alloc (.cells c2 t2)).alloc (.cells c3 t3)) ∧
    Arr ((((w.alloc (.cells c0 t0)).alloc (.cells c1 t1)).alloc (.cells c2 t2)).alloc (.cells c3 t3)) w.heap.size c0.toList ∧
    Arr ((((w.alloc (.cells c0 t0)).alloc (.cells c1 t1)).alloc (.cells c2 t2)).alloc (.cells c3 t3)) (w.heap.size + 1) c1.toList ∧
    Arr ((((w.alloc (.cells c0 t0)).alloc (.cells c1 t1)).alloc (.cells c2 t2)).alloc (.cells c3 t3)) (w.heap.size + 1 + 1) c2.toList ∧
    Arr ((((w.alloc (.cells c0 t0)).alloc (.cells c1 t1)).alloc (.cells c2 t2)).alloc (.cells c3 t3)) (w.heap.size + 1 + 1 + 1) c3.toList := by
  have h1 := Arr.new (w.alloc (.cells c0 t0)) c1 t1
  have h2 := Arr.new ((w.alloc (.cells c0 t0)).alloc (.cells c1 t1)) c2 t2
  have h3 := Arr.new (((w.alloc (.cells c0 t0)).alloc (.cells c1 t1)).alloc (.cells c2 t2)) c3 t3
  simp only [World.size_alloc] at h1 h2 h3
  exact ⟨ba (ba (ba (ba (Below.refl _ _) _) _) _) _, (((Arr.new w c0 t0).alloc _).alloc _).alloc _, ((h1.alloc _).alloc _), (h2.alloc _), h3⟩
/-- What Encode answers. -/
def Enc (k a p v n : Int) : Prop := (mayB k a p = true ∧ v = encV a p ∧ n = 0) ∨ (mayB k a p = false ∧ v = 0 ∧ n = 2)
/-- What Decode answers. -/
def Dec (k x k' a' p' n : Int) : Prop := (decOk k x = true ∧ k' = k ∧ a' = x / 281474976710656 ∧ p' = x % 17592186044416 ∧ n = 0) ∨ (decOk k x = false ∧ k' = 0 ∧ a' = 0 ∧ p' = 0 ∧ n = 2)
def EncP (k a p : Int) (w : World) (e : Ending) (w' : World) : Prop := ∃ v n : Int, Enc k a p v n ∧ e = .returned (.tuple #[.int .u64 v, .int .i64 n]) ∧ Below w.heap.size w w'
def DecP (k x : Int) (w : World) (e : Ending) (w' : World) : Prop := ∃ k' a' p' n : Int, Dec k x k' a' p' n ∧ e = .returned (.tuple #[.agg #[.int .i8 k', .int .i64 a', .int .u64 p'], .int .i64 n]) ∧ Below w.heap.size w w'
theorem Enc_eq {k a p v n v' n' : Int} (h : Enc k a p v n) (h' : Enc k a p v' n') : v = v' ∧ n = n' := by
  rcases h with ⟨a1, rfl, rfl⟩ | ⟨a1, rfl, rfl⟩ <;> rcases h' with ⟨b1, rfl, rfl⟩ | ⟨b1, rfl, rfl⟩ <;> simp_all
theorem Dec_eq {k x a b c n a' b' c' n' : Int} (h : Dec k x a b c n) (h' : Dec k x a' b' c' n') : a = a' ∧ b = b' ∧ c = c' ∧ n = n' := by
  rcases h with ⟨a1, rfl, rfl, rfl, rfl⟩ | ⟨a1, rfl, rfl, rfl, rfl⟩ <;> rcases h' with ⟨b1, rfl, rfl, rfl, rfl⟩ | ⟨b1, rfl, rfl, rfl, rfl⟩ <;> simp_all
theorem encode_any (k a p : Int) (w : World) (hp : 0 ≤ p) : Calls Try.prog 10 #[.agg #[.int .i8 k, .int .i64 a, .int .u64 p]] w (EncP k a p w) := by
  rcases hm : mayB k a p with _ | _
  · exact (encode_no k a p w hm).mono fun e w' ⟨h1, h2⟩ => ⟨_, _, .inr ⟨hm, rfl, rfl⟩, h1, h2⟩
  · exact (encode_yes k a p w hp hm).mono fun e w' ⟨h1, h2⟩ => ⟨_, _, .inl ⟨hm, rfl, rfl⟩, h1, h2⟩
theorem rencode_any (k a p : Int) (w : World) (hp : 0 ≤ p) : Calls Try.prog 13 #[.agg #[.int .i8 k, .int .i64 a, .int .u64 p]] w (EncP k a p w) := by
  rcases hm : mayB k a p with _ | _
  · exact (rencode_no k a p w hm).mono fun e w' ⟨h1, h2⟩ => ⟨_, _, .inr ⟨hm, rfl, rfl⟩, h1, h2⟩
  · exact (rencode_yes k a p w hp hm).mono fun e w' ⟨h1, h2⟩ => ⟨_, _, .inl ⟨hm, rfl, rfl⟩, h1, h2⟩
theorem decode_any (k x : Int) (w : World) (hx : U64 x) : Calls Try.prog 11 #[.int .i8 k, .int .u64 x] w (DecP k x w) := by
  rcases hm : decOk k x with _ | _
  · exact (decode_no k x w hx hm).mono fun e w' ⟨h1, h2⟩ => ⟨_, _, _, _, .inr ⟨hm, rfl, rfl, rfl, rfl⟩, h1, h2⟩
  · exact (decode_yes k x w hx hm).mono fun e w' ⟨h1, h2⟩ => ⟨_, _, _, _, .inl ⟨hm, rfl, rfl, rfl, rfl⟩, h1, h2⟩
theorem rdecode_any (k x : Int) (w : World) (hx : U64 x) : Calls Try.prog 14 #[.int .i8 k, .int .u64 x] w (DecP k x w) := by
  rcases hm : decOk k x with _ | _
  · exact (rdecode_no k x w hx hm).mono fun e w' ⟨h1, h2⟩ => ⟨_, _, _, _, .inr ⟨hm, rfl, rfl, rfl, rfl⟩, h1, h2⟩
  · exact (rdecode_yes k x w hx hm).mono fun e w' ⟨h1, h2⟩ => ⟨_, _, _, _, .inl ⟨hm, rfl, rfl, rfl, rfl⟩, h1, h2⟩
set_option maxHeartbeats 16000000 in
theorem invalTells_any (k a p k' a' p' x ea ep ef : Int) (ro : Bool) (sa sl sp sf : Int) (w : World) (hp : 0 ≤ p) (hx : U64 x) :
    Calls Try.prog 6 #[.agg #[.int .i8 k, .int .i64 a, .int .u64 p], .agg #[.int .i8 k', .int .i64 a', .int .u64 p'], .int .u64 x, .agg #[.int .i64 ea, .int .u64 ep, .int .i64 ef, .bool ro], .agg #[.int .i64 sa, .int .i8 sl, .int .u64 sp, .int .i64 sf]] w fun e w' => e = .returned (.bool true) ∧ Below w.heap.size w w' := by
  obtain ⟨hW, hR0, hR1, hR2, hR3⟩ := boxes4 w #[.int .i8 k, .int .i64 a, .int .u64 p] #[.int .i8 k', .int .i64 a', .int .u64 p'] #[.int .i64 ea, .int .u64 ep, .int .i64 ef, .bool ro] #[.int .i64 sa, .int .i8 sl, .int .u64 sp, .int .i64 sf] 30 30 24 27
  go_enter Try.func6, Try.ntmps6
  go_wp2_with fail
  refine (encode_any _ _ _ _ hp).mono ?_
  rintro e w1 ⟨v1, n1, H1, rfl, hb⟩
  replace hR0 := hR0.call hb
  replace hR1 := hR1.call hb
  replace hR2 := hR2.call hb
  replace hR3 := hR3.call hb
  replace hW := bthen hW hb
  clear hb
  have q0 := hR0.cell 0 _ rfl
  have q1 := hR0.cell 1 _ rfl
  have q2 := hR0.cell 2 _ rfl
  go_wp2_with fail
  refine (rencode_any _ _ _ _ hp).mono ?_
  rintro e w2 ⟨v2, n2, H2, rfl, hb⟩
  obtain ⟨rfl, rfl⟩ := Enc_eq H1 H2
  replace hR0 := hR0.call hb
  replace hR1 := hR1.call hb
  replace hR2 := hR2.call hb
  replace hR3 := hR3.call hb
  replace hW := bthen hW hb
  clear hb H1 H2
  clear q0 q1 q2
  have q0 := hR0.cell 0 _ rfl
  have q1 := hR0.cell 1 _ rfl
  have q2 := hR0.cell 2 _ rfl
  go_wp2_with fail
  refine (decode_any _ _ _ hx).mono ?_
  rintro e w3 ⟨y1, y2, y3, n3, H3, rfl, hb⟩
  replace hR0 := hR0.call hb
  replace hR1 := hR1.call hb
  replace hR2 := hR2.call hb
  replace hR3 := hR3.call hb
  replace hW := bthen hW hb
  clear hb
  clear q0 q1 q2
  have q0 := hR0.cell 0 _ rfl
  have q1 := hR0.cell 1 _ rfl
  have q2 := hR0.cell 2 _ rfl
  have f := hR0.lt
  go_wp2_with fail
  have hR4 := Arr.new w3 #[.int .i8 y1, .int .i64 y2, .int .u64 y3] 30
  replace hR0 := hR0.alloc (.cells #[.int .i8 y1, .int .i64 y2, .int .u64 y3] 30)
  replace hR1 := hR1.alloc (.cells #[.int .i8 y1, .int .i64 y2, .int .u64 y3] 30)
  replace hR2 := hR2.alloc (.cells #[.int .i8 y1, .int .i64 y2, .int .u64 y3] 30)
  replace hR3 := hR3.alloc (.cells #[.int .i8 y1, .int .i64 y2, .int .u64 y3] 30)
  replace hW := ba hW (.cells #[.int .i8 y1, .int .i64 y2, .int .u64 y3] 30)
  refine (rdecode_any _ _ _ hx).mono ?_
  rintro e w4 ⟨z1, z2, z3, n4, H4, rfl, hb⟩
  obtain ⟨rfl, rfl, rfl, rfl⟩ := Dec_eq H3 H4
  replace hR0 := hR0.call hb
  replace hR1 := hR1.call hb
  replace hR2 := hR2.call hb
  replace hR3 := hR3.call hb
  replace hR4 := hR4.call hb
  replace hW := bthen hW hb
  clear hb H3 H4 f
  clear q0 q1 q2
  go_wp2_with fail
  have hR5 := Arr.new w4 #[.int .i8 y1, .int .i64 y2, .int .u64 y3] 30
  replace hR0 := hR0.alloc (.cells #[.int .i8 y1, .int .i64 y2, .int .u64 y3] 30)
  replace hR1 := hR1.alloc (.cells #[.int .i8 y1, .int .i64 y2, .int .u64 y3] 30)
  replace hR2 := hR2.alloc (.cells #[.int .i8 y1, .int .i64 y2, .int .u64 y3] 30)
  replace hR3 := hR3.alloc (.cells #[.int .i8 y1, .int .i64 y2, .int .u64 y3] 30)
  replace hR4 := hR4.alloc (.cells #[.int .i8 y1, .int .i64 y2, .int .u64 y3] 30)
  replace hW := ba hW (.cells #[.int .i8 y1, .int .i64 y2, .int .u64 y3] 30)
  generalize w4.alloc (.cells #[.int .i8 y1, .int .i64 y2, .int .u64 y3] 30) = W at hW hR0 hR1 hR2 hR3 hR4 hR5 ⊢
  generalize w3.heap.size = B4 at hR4 ⊢
  generalize w4.heap.size = B5 at hR5 ⊢
  have q0 := hR0.cell 0 _ rfl
  have q1 := hR0.cell 1 _ rfl
  have q2 := hR0.cell 2 _ rfl
  have r0 := hR1.cell 0 _ rfl
  have r1 := hR1.cell 1 _ rfl
  have r2 := hR1.cell 2 _ rfl
  have s0 := hR2.cell 0 _ rfl
  have s1 := hR2.cell 1 _ rfl
  have s2 := hR2.cell 2 _ rfl
  have s3 := hR2.cell 3 _ rfl
  have t0 := hR3.cell 0 _ rfl
  have t1 := hR3.cell 1 _ rfl
  have t2 := hR3.cell 2 _ rfl
  have t3 := hR3.cell 3 _ rfl
  have u0 := hR4.cell 0 _ rfl
  have u1 := hR4.cell 1 _ rfl
  have u2 := hR4.cell 2 _ rfl
  have v0 := hR5.cell 0 _ rfl
  have v1 := hR5.cell 1 _ rfl
  have v2 := hR5.cell 2 _ rfl
  clear hR0 hR1 hR2 hR3 hR4 hR5
  go_region_held3 (fun w' => w'.cell? ⟨w.heap.size, 0, none⟩ = some (.int .i8 k) ∧ w'.cell? ⟨w.heap.size, 1, none⟩ = some (.int .i64 a) ∧ w'.cell? ⟨w.heap.size, 2, none⟩ = some (.int .u64 p) ∧
      w'.cell? ⟨w.heap.size + 1, 0, none⟩ = some (.int .i8 k') ∧ w'.cell? ⟨w.heap.size + 1, 1, none⟩ = some (.int .i64 a') ∧ w'.cell? ⟨w.heap.size + 1, 2, none⟩ = some (.int .u64 p') ∧
      w'.cell? ⟨w.heap.size + 1 + 1, 0, none⟩ = some (.int .i64 ea) ∧ w'.cell? ⟨w.heap.size + 1 + 1, 1, none⟩ = some (.int .u64 ep) ∧ w'.cell? ⟨w.heap.size + 1 + 1, 2, none⟩ = some (.int .i64 ef) ∧ w'.cell? ⟨w.heap.size + 1 + 1, 3, none⟩ = some (.bool ro) ∧
      w'.cell? ⟨w.heap.size + 1 + 1 + 1, 0, none⟩ = some (.int .i64 sa) ∧ w'.cell? ⟨w.heap.size + 1 + 1 + 1, 1, none⟩ = some (.int .i8 sl) ∧ w'.cell? ⟨w.heap.size + 1 + 1 + 1, 2, none⟩ = some (.int .u64 sp) ∧ w'.cell? ⟨w.heap.size + 1 + 1 + 1, 3, none⟩ = some (.int .i64 sf) ∧
      w'.cell? ⟨B4, 0, none⟩ = some (.int .i8 y1) ∧ w'.cell? ⟨B4, 1, none⟩ = some (.int .i64 y2) ∧ w'.cell? ⟨B4, 2, none⟩ = some (.int .u64 y3) ∧
      w'.cell? ⟨B5, 0, none⟩ = some (.int .i8 y1) ∧ w'.cell? ⟨B5, 1, none⟩ = some (.int .i64 y2) ∧ w'.cell? ⟨B5, 2, none⟩ = some (.int .u64 y3)) (go_keep)
    (first
      | (go_at_call 8; refine (hits_any _ _ _ _ _ _ _ _).mono ?_; rintro e w5 ⟨rfl, hb⟩; have hk := keepc hb)
      | (go_at_call 15; refine (rhits_any _ _ _ _ _ _ _ _).mono ?_; rintro e w5 ⟨rfl, hb⟩; have hk := keepc hb)
      | (go_at_call 9; refine (hitsStep_any _ _ _ _ _ _ _ _).mono ?_; rintro e w5 ⟨rfl, hb⟩; have hk := keepc hb)
      | (go_at_call 16; refine (rhitsStep_any _ _ _ _ _ _ _ _).mono ?_; rintro e w5 ⟨rfl, hb⟩; have hk := keepc hb)
      | (go_at_call 12; refine (covers_any _ _ _ _ _ _ _).mono ?_; rintro e w5 ⟨rfl, hb⟩; have hk := keepc hb)
      | (go_at_call 17; refine (rcovers_any _ _ _ _ _ _ _).mono ?_; rintro e w5 ⟨rfl, hb⟩; have hk := keepc hb)
      | (go_at_call 7; refine (wakes5_any _).mono ?_; rintro e w5 ⟨rfl, hb⟩; have hk := keepc hb))
  go_wp2
  go_ret
  exact ⟨rfl, by repeat (first | exact hW | (refine bthen ?_ (by assumption)) | apply bd)⟩
end Go.Proofs.Ytlmfmpmcgokbeaa
