/-
  Layer 29: entry: the first entry of a TLB that is asked for.
-/
import Derived.Test.YtappjiljmpgjcaaDoorWtNamed
namespace Go.Proofs.YtappjiljmpgjcaaDoor
open Go.RowKit Go.Maps
set_option linter.unusedVariables false
set_option linter.unusedSimpArgs false
/-- What a function that asks about an entry must do: it answers q, keeps J, and leaves the blocks E. -/
structure Asks (w0 : World) (f : FuncId) (caps : Array Value) (q : Tl → Bool) (J : (Nat → Prop) → World → Prop) : Prop where
  enters : ∀ args w, (callFunc f args).run Tryd.prog w = .ok (.enter f args) w
  call : ∀ E W x, (∀ y, E y → y < W.heap.size) → J E W → x.Given W → Calls Tryd.prog f (#[.agg (tlC x).toArray] ++ caps) W fun e W' => e = .returned (.bool (q x)) ∧ J E W' ∧ Kp E W W'
  grow : ∀ E E' W W', J E W → Below W.heap.size W W' → (∀ x, E' x → E x ∨ W.heap.size ≤ x) → J E' W'
  below : ∀ E W, J E W → Below w0.heap.size w0 W
def findT (q : Tl → Bool) : List Tl → Nat → Option Nat
  | [], _ => none
  | x :: l, i => if q x = true then some i else findT q l (i + 1)
def findC (q : Tl → Bool) : List Co → Nat → Option (Nat × Nat)
  | [], _ => none
  | c :: l, n => if n = 0 then findC q l 1 else
    match findT q c.tl 0 with
    | some i => some (n, i)
    | none => findC q l (n + 1)
def entV : Option (Nat × Nat) → Value
  | none => .tuple #[.int .i64 0, .int .i64 0, .bool false]
  | some (n, i) => .tuple #[.int .i64 n, .int .i64 i, .bool true]
set_option maxRecDepth 100000 in
set_option maxHeartbeats 2000000 in
theorem entry_any {f : FuncId} {caps : Array Value} {q : Tl → Bool} {J : (Nat → Prop) → World → Prop} {w0 : World} (s : Sn) (w : World) (E : Nat → Prop) (hA : Asks w0 f caps q J) (hs : s.Given w0) (hm : Sml s) (hJ : J E w) (hE : ∀ y, E y → y < w.heap.size) :
    Calls Tryd.prog 18 #[snA s, .func (.func f) #[] caps] w fun e w' => e = .returned (entV (findC q s.cl 0)) ∧ J E w' ∧ Kp E w w' := by
  have HS := Lib.hid hs
  have hcl : s.cl.length ≤ 6 := hm.ncl
  have HM := Lib.hid hm
  have HJ := Lib.hid hJ
  have HE := Lib.hid hE
  have HA := Lib.hid hA
  have hent := hA.enters
  have hbk := Bk.new w 26 (snR s)
  clear hs hm hJ hE hA
  go_enter Tryd.func18, Tryd.ntmps18
  go_upto_region 1 with fail
  refine (show ∀ W1 : World, J (fun x => E x ∨ x = w.heap.size) W1 → Bk W1 w.heap.size 26 (snR s) → Kp E w W1 → Code.wp _ _ _ _ W1 from fun W1 hj1 hk1 hp1 => ?_) _ (HA.out.grow _ _ _ _ HJ.out (ba (Below.refl _ _) _) (fun x hx => hx.imp id (fun e => by omega))) hbk (Kp.of_below (ba (Below.refl _ _) _))
  have x0 : W1.cell? ⟨w.heap.size, 0, none⟩ = some (.slice s.cO s.cl.length s.cc) := hk1.cell 0
  have HJ1 := Lib.hid hj1
  have HK1 := Lib.hid hk1
  have HP1 := Lib.hid hp1
  have hE0 : ∀ y, (fun x => E x ∨ x = w.heap.size) y → y < W1.heap.size := fun y hy => by
    rcases hy with hy | rfl
    · exact Nat.lt_of_lt_of_le (HE.out y hy) HP1.out.1.size
    · exact HK1.out.lt
  have HE0 := Lib.hid hE0
  have HEE := Lib.hid (show ∀ y, E y → (fun x => E x ∨ x = w.heap.size) y from fun y hy => .inl hy)
  have HEB := Lib.hid (show (fun x => E x ∨ x = w.heap.size) w.heap.size from .inr rfl)
  generalize (fun x => E x ∨ x = w.heap.size) = E0 at *
  clear hbk hj1 hk1 hp1 HJ hE0
  obtain ⟨B0, hB0⟩ : ∃ B0, B0 = w.heap.size := ⟨_, rfl⟩
  rw [← hB0] at x0 HK1 HEB ⊢
  clear hB0
  go_step3
  go_wp2_with fail
  go_step3
  go_wp2_with fail
  clear x0
  go_loopw [4, 5, 6, 14] (fun r1 r2 r3 i wr => ∃ k : Nat, k ≤ s.cl.length ∧ i = .int .i64 k ∧ r1 = .int .i64 0 ∧ r2 = .int .i64 0 ∧ r3 = .bool false ∧ findC q (s.cl.drop k) k = findC q s.cl 0 ∧ J E0 wr ∧ Bk wr B0 26 (snR s) ∧ Kp E w wr ∧ W1.heap.size ≤ wr.heap.size) (fun r1 r2 r3 i _ => s.cl.length - (intOf i).toNat)
  case atStart => exact ⟨0, by omega, rfl, rfl, rfl, rfl, rfl, HJ1.out, HK1.out, HP1.out, Nat.le_refl _⟩
  case round =>
    clear HJ1 HK1 HP1
    obtain ⟨k, hk, rfl, rfl, rfl, rfl, hf, hj, hb, hp, hsz⟩ := hrel
    have HF := Lib.hid hf
    have HJ := Lib.hid hj
    have HKB := Lib.hid hb
    have HP := Lib.hid hp
    have HZ := Lib.hid hsz
    clear hf hj hb hp hsz
    by_cases hlt : k < s.cl.length
    · obtain ⟨x, hx⟩ : ∃ x, s.cl[k]? = some x := ⟨_, List.getElem?_eq_getElem hlt⟩
      obtain ⟨b, off, hO, hrg⟩ := rk_range HS.out.gc (HA.out.below _ _ HJ.out) hx
      have hdr : s.cl.drop k = x :: s.cl.drop (k + 1) := by
        obtain ⟨h1, rfl⟩ := List.getElem?_eq_some_iff.1 hx
        exact List.drop_eq_getElem_cons h1
      rw [hdr] at HF
      have HGv := Lib.hid (HS.out.gcall x (List.mem_of_getElem? hx))
      have htl : x.tl.length ≤ 10 := (HM.out.nt x (List.mem_of_getElem? hx)).1
      have HR := Lib.hid hrg
      have HKz := Lib.hid (Bk.new wr 44 zCo)
      clear hrg hx hdr
      rw [hO]
      go_upto_region 4 with (first | refine get_Co rfl _ rfl b (off + k * 28) x rfl HR.out ?_ | refine box_Co rfl _ _ rfl wr.heap.size x _ rfl rfl HKz.out rfl ?_)
      refine (show ∀ W8 : World, Below wr.heap.size wr W8 → Bk W8 wr.heap.size 44 (coC x).toArray → Code.wp _ _ _ _ W8 from fun W8 hb8 hk8 => ?_) _ (brow (ba (Below.refl _ _) _) (Nat.le_refl _) _) (HKz.out.row _)
      have HJ8 := Lib.hid (HA.out.grow _ (fun y => E0 y ∨ y = wr.heap.size) _ _ HJ.out hb8 (fun y hy => hy.imp id (fun e => by omega)))
      have HKB8 := Lib.hid (HKB.out.call hb8)
      have HP8 := Lib.hid (HP.out.trans (Kp.of_below hb8))
      have q15 : W8.cell? ⟨wr.heap.size, 15, none⟩ = some (.slice x.tO x.tl.length x.tc) := hk8.cell 15
      have HE8 := Lib.hid (show ∀ y, (E0 y ∨ y = wr.heap.size) → y < W8.heap.size from fun y hy => by
        rcases hy with hy | rfl
        · have := HE0.out y hy; have := HZ.out; have := hb8.size; omega
        · exact hk8.lt)
      have HZ8 := Lib.hid (Nat.le_trans HZ.out hb8.size)
      clear hb8 HKz HR HKB HP HJ hk8 HZ
      by_cases k0 : k = 0
      · subst k0
        go_wp2_with fail
        go_roundw
        case rel =>
          refine ⟨1, by omega, by go_num, rfl, rfl, rfl, ?_, HA.out.grow _ E0 _ _ HJ8.out (Below.refl _ _) (fun y hy => .inl (.inl hy)), HKB8.out, HP8.out, HZ8.out⟩
          rw [← HF.out]
          rfl
        case measure => simp [intOf]; omega
      · have kb0 : ((k : Int) == 0) = false := by simp; omega
        go_wp2_with fail
        clear q15
        obtain ⟨X, hX⟩ : ∃ X, X = wr.heap.size := ⟨_, rfl⟩
        rw [← hX]
        rw [← hX] at HJ8 HE8
        have HFk := Lib.hid (show (match findT q x.tl 0 with | some i => some (k, i) | none => findC q (s.cl.drop (k + 1)) (k + 1)) = findC q s.cl 0 by
          have := HF.out
          rwa [findC, if_neg k0] at this)
        clear HF hX
        obtain ⟨W9, hWe⟩ : ∃ W9 : World, W9 = W8 := ⟨_, rfl⟩
        rw [← hWe] at HE8 HZ8
        go_loopw [4, 5, 6, 24] (fun r1 r2 r3 i wq => ∃ m : Nat, m ≤ x.tl.length ∧ i = .int .i64 m ∧ r1 = .int .i64 0 ∧ r2 = .int .i64 0 ∧ r3 = .bool false ∧ findT q (x.tl.drop m) m = findT q x.tl 0 ∧ J (fun y => E0 y ∨ y = X) wq ∧ Bk wq B0 26 (snR s) ∧ Kp E w wq ∧ W9.heap.size ≤ wq.heap.size) (fun r1 r2 r3 i _ => x.tl.length - (intOf i).toNat)
        case atStart => exact ⟨0, by omega, rfl, rfl, rfl, rfl, rfl, HJ8.out, HKB8.out, HP8.out, by rw [hWe]; exact Nat.le_refl _⟩
        case round =>
          clear HJ8 HKB8 HP8 hWe
          obtain ⟨m, hm, rfl, rfl, rfl, rfl, hft, hj, hb, hp, hsz⟩ := hrel
          have HFT := Lib.hid hft
          have HJ := Lib.hid hj
          have HKB := Lib.hid hb
          have HP := Lib.hid hp
          have HZ := Lib.hid hsz
          clear hft hj hb hp hsz
          by_cases hlt2 : m < x.tl.length
          · obtain ⟨y, hy⟩ : ∃ y, x.tl[m]? = some y := ⟨_, List.getElem?_eq_getElem hlt2⟩
            obtain ⟨tb, tof, hO2, hrg⟩ := rk_range HGv.out.gt (HA.out.below _ _ HJ.out) hy
            have hdr : x.tl.drop m = y :: x.tl.drop (m + 1) := by
              obtain ⟨h1, rfl⟩ := List.getElem?_eq_some_iff.1 hy
              exact List.drop_eq_getElem_cons h1
            rw [hdr] at HFT
            have HY := Lib.hid (HGv.out.gtall y (List.mem_of_getElem? hy))
            have HR := Lib.hid hrg
            have HKz := Lib.hid (Bk.new wr 62 zTl)
            clear hrg hy hdr
            rw [hO2]
            go_upto_region 8 with (first | refine get_Tl rfl _ rfl tb (tof + m * 4) y rfl HR.out ?_ | refine box_Tl rfl _ _ rfl wr.heap.size y _ rfl rfl HKz.out rfl ?_)
            refine (show ∀ W8 : World, Below wr.heap.size wr W8 → Bk W8 wr.heap.size 62 (tlC y).toArray → Code.wp _ _ _ _ W8 from fun W8 hb8 hk8 => ?_) _ (brow (ba (Below.refl _ _) _) (Nat.le_refl _) _) (HKz.out.row _)
            have HJ8 := Lib.hid (HA.out.grow _ (fun y => (E0 y ∨ y = X) ∨ y = wr.heap.size) _ _ HJ.out hb8 (fun y hy => hy.imp id (fun e => by omega)))
            have HKB8 := Lib.hid (HKB.out.call hb8)
            have HP8 := Lib.hid (HP.out.trans (Kp.of_below hb8))
            have HK8 := Lib.hid hk8
            have HE9 := Lib.hid (show ∀ y, ((E0 y ∨ y = X) ∨ y = wr.heap.size) → y < W8.heap.size from fun y hy => by
              rcases hy with hy | rfl
              · have := HE8.out y hy; have := HZ.out; have := hb8.size; omega
              · exact hk8.lt)
            have HZ8 := Lib.hid (Nat.le_trans HZ.out hb8.size)
            have HY8 := Lib.hid (HY.out.call (HA.out.below _ _ HJ8.out))
            have HB8 := Lib.hid hb8
            clear hb8 HKz HR HKB HP HJ hk8 HZ HY
            go_wp2_with (refine unbox_Tl rfl _ rfl wr.heap.size y rfl HK8.out ?_)
            refine (HA.out.call _ _ y HE9.out HJ8.out HY8.out).mono ?_
            rintro e w9 ⟨rfl, hj9, hp9⟩
            have HJ9 := Lib.hid (HA.out.grow _ (fun y => E0 y ∨ y = X) _ _ hj9 (Below.refl _ _) (fun y hy => .inl (.inl hy)))
            have HKB9 := Lib.hid (hp9.bk HKB8.out (.inl (.inl HEB.out)))
            have HP9 := Lib.hid (HP8.out.sub hp9 (fun y hy _ => .inl (.inl (HEE.out y hy))))
            have HZ9 := Lib.hid (Nat.le_trans HZ8.out hp9.1.size)
            clear hj9 hp9 HJ8 HKB8 HP8 HZ8 HE9 HY8 HK8
            cases hq : q y with
            | true =>
              have HR1 := Lib.hid (show findC q s.cl 0 = some (k, m) by
                have h1 := HFT.out
                rw [findT, if_pos hq] at h1
                have h2 := HFk.out
                rw [← h1] at h2
                exact h2.symm)
              clear hq
              go_wp2_with fail
              rw [Exit.noGoto_ret]
              go_ret3
              exact ⟨by rw [HR1.out]; rfl, HA.out.grow _ E _ _ HJ9.out (Below.refl _ _) (fun y hy => .inl (.inl (HEE.out y hy))), HP9.out⟩
            | false =>
              have HR1 := Lib.hid (show findT q (x.tl.drop (m + 1)) (m + 1) = findT q x.tl 0 by
                have h1 := HFT.out
                rw [findT, if_neg (by rw [hq]; simp)] at h1
                exact h1)
              clear hq
              go_wp2_with fail
              go_roundw
              case rel => exact ⟨m + 1, by omega, by go_num, rfl, rfl, rfl, HR1.out, HJ9.out, HKB9.out, HP9.out, HZ9.out⟩
              case measure => simp [intOf]; omega
          · obtain rfl : m = x.tl.length := by omega
            have HR1 := Lib.hid (show findC q (s.cl.drop (k + 1)) (k + 1) = findC q s.cl 0 by
              have h1 := HFT.out
              rw [List.drop_length, findT] at h1
              have h2 := HFk.out
              rwa [← h1] at h2)
            go_wp2_with fail
            go_roundw
            case rel => exact ⟨k + 1, by omega, by go_num, rfl, rfl, rfl, HR1.out, HA.out.grow _ E0 _ _ HJ.out (Below.refl _ _) (fun y hy => .inl (.inl hy)), HKB.out, HP.out, Nat.le_trans HZ8.out HZ.out⟩
            case measure => simp [intOf]; omega
    · obtain rfl : k = s.cl.length := by omega
      have hn : findC q s.cl 0 = none := by rw [← HF.out, List.drop_length]; rfl
      have HNn := Lib.hid hn
      clear hn
      go_wp2_with fail
      rw [Exit.noGoto_ret]
      go_ret3
      exact ⟨by rw [HNn.out]; rfl, HA.out.grow _ E _ _ HJ.out (Below.refl _ _) (fun y hy => .inl (HEE.out y hy)), HP.out⟩
end Go.Proofs.YtappjiljmpgjcaaDoor
