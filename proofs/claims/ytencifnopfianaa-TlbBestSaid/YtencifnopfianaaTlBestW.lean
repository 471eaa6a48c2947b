/-
  TlbBest: the walk.
-/
import Derived.Test.YtencifnopfianaaTlSame
namespace Go.Proofs.Ytencifnopfianaa
open Go.RowKit
set_option linter.unusedVariables false
set_option linter.unusedSimpArgs false
theorem any_succ {α : Type} (q : α → Bool) (xs : List α) (i : Nat) (x : α) (h : xs[i]? = some x) : (xs.take (i + 1)).any q = ((xs.take i).any q || q x) := by
  rw [List.take_add_one, h, Option.toList_some, List.any_append]
  simp
theorem may_level {xs : List Sb} (h : Ck mayS plS 4 xs) : ∀ x ∈ xs, 1 ≤ x.l ∧ x.l ≤ 3 := fun x hx => by
  obtain ⟨-, -, -, -, h1, h3, -⟩ := of_decide_eq_true ((ck_iff.1 h).2.1 x hx)
  exact ⟨h1, h3⟩
theorem best_gone {xs : List Sb} {asid page : Int} (h : Ck mayS plS 4 xs) (h0 : 0 ≤ asid) (h1 : asid ≤ 255) (hp0 : 0 ≤ page) (hp : page < 34359738368) : bestO (drpL mayS plS 4 xs (fun y : Sb => stepB 2 asid page y.a y.l y.p)) asid page = none := by
  unfold bestO
  rw [if_pos (drp_ck h _)]
  cases hb : bst (ofB asid page) (drpL mayS plS 4 xs (fun y : Sb => stepB 2 asid page y.a y.l y.p)) with
  | none => rfl
  | some b =>
    obtain ⟨hm, ho⟩ := (bst_inv _ _).1 b hb
    rw [drp_yes h] at hm
    obtain ⟨hx, hn⟩ := List.mem_filter.1 hm
    obtain ⟨l1, l3⟩ := may_level h b hx
    exfalso
    unfold ofB at ho
    rw [Bool.and_eq_true] at ho
    have ha : b.a = asid := by simpa using ho.1
    have hq : page / 2 ^ (9 * (3 - b.l)).toNat = b.p := by simpa using ho.2
    have hm : mayB 2 asid page = true := (mayB_iff _ _ _).2 ⟨h0, h1, hp, Or.inr (Or.inr rfl)⟩
    have : stepB 2 asid page b.a b.l b.p = true := by
      unfold stepB
      rw [hm, ha, hq, decide_eq_true (show 1 ≤ b.l ∧ b.l ≤ 3 from ⟨l1, l3⟩)]
      simp
    rw [this] at hn
    exact Bool.noConfusion hn
set_option maxRecDepth 100000 in
set_option maxHeartbeats 16000000 in
theorem best_any (O : Option Addr) (cap : Nat) (xs : List Sb) (asid page : Int) (w : World) (hI : RK encS 4 w O xs) (hcap : xs.length ≤ cap) (hp0 : 0 ≤ page) :
    Calls Try.prog 5 #[.slice O xs.length cap, .int .i64 asid, .int .u64 page] w fun e w' => e = .returned (.bool true) ∧ Below w.heap.size w w' := by
  have HI := Lib.hid hI
  have HP0 := Lib.hid hp0
  clear hI
  go_enter Try.func5, Try.ntmps5
  go_wp2_with fail
  refine (checkS_out O cap xs _ HI.out hcap).mono ?_
  rintro e Wc ⟨rfl, hb⟩
  have HB := Lib.hid hb
  have HI := Lib.hid (HI.out.call hb)
  clear hb
  rcases ckE_cases mayS plS 4 xs with ⟨hk, h2⟩ | ⟨hk, h2⟩
  · rw [h2]
    have HK := Lib.hid hk
    have HM := Lib.hid (may_level hk)
    have h8 := hk.1
    clear hk h2
    by_cases hpg : page < 34359738368
    · have HPG := Lib.hid hpg
      go_wp2_with fail
      refine (best_out O cap xs asid page _ HI.out hcap).mono ?_
      rintro e w1 ⟨rfl, hb⟩
      rw [show bestO xs asid page = bst (ofB asid page) xs from if_pos HK.out]
      obtain ⟨i1, i2, i3⟩ := bst_inv (ofB asid page) xs
      generalize bst (ofB asid page) xs = o at *
      have hq := ba hb (.cells #[.int .i64 (o.getD zS).a, .int .i8 (o.getD zS).l, .int .u64 (o.getD zS).p, .int .i64 (o.getD zS).f] 44)
      have HB := Lib.hid (bthen HB.out hq)
      have HI := Lib.hid (HI.out.call hq)
      have HS7 := Lib.hid (Arr.new w1 #[.int .i64 (o.getD zS).a, .int .i8 (o.getD zS).l, .int .u64 (o.getD zS).p, .int .i64 (o.getD zS).f] 44)
      clear hb hq
      obtain ⟨len, hlen⟩ : ∃ len, len = xs.length := ⟨_, rfl⟩
      rw [← hlen] at hcap h8 ⊢
      have HL := Lib.hid hlen
      clear hlen
      rcases o with _ | bb
      · simp only [Option.getD_none, Option.isSome_none, zS] at HB HI HS7 ⊢
        have HNO := Lib.hid (i2 rfl)
        clear i1 i2 i3
        go_wp2_with fail
        generalize w1.heap.size = Y7 at *
        generalize w1.alloc (.cells #[.int .i64 0, .int .i8 0, .int .u64 0, .int .i64 0] 44) = W7 at *
        go_loopw [9, 31] (fun s i wr => ∃ j : Nat, i = .int .i64 j ∧ j ≤ len ∧ s = .bool ((xs.take j).any (ofB asid page)) ∧ Below W7.heap.size W7 wr) (fun _ i _ => len - (intOf i).toNat)
        case atStart => exact ⟨0, rfl, by omega, rfl, Below.refl _ _⟩
        case round =>
          obtain ⟨j, rfl, hj, hs, hBr⟩ := hrel
          subst hs
          by_cases hlt : j < len
          · obtain ⟨b, off, hO, hcell⟩ := (HI.out.call hBr) (by have := HL.out; omega)
            subst hO
            obtain ⟨x, hx⟩ : ∃ x, xs[j]? = some x := ⟨xs[j]'(by have := HL.out; omega), List.getElem?_eq_getElem _⟩
            obtain ⟨c0, c1, c2, c3⟩ := sb_cells hx hcell
            obtain ⟨hl1, hl3⟩ := HM.out x (List.mem_of_getElem? hx)
            have HS := Lib.hid (any_succ (ofB asid page) xs j x hx)
            have HB2 := Lib.hid (ba hBr (.cells #[.int .i64 x.a, .int .i8 x.l, .int .u64 x.p, .int .i64 x.f] 44))
            have hof := HNO.out x (List.mem_of_getElem? hx)
            
            
            clear hcell hx hBr
            rcases ha : (x.a == asid) with _ | _
            · have HN := Lib.hid (HS.out.trans (by rw [show ofB asid page x = false by unfold ofB; rw [ha]; rfl, Bool.or_false]))
              clear hof
              clear HS
              generalize (xs.take j).any (ofB asid page) = q at *
              go_wp2_with fail
              go_roundw
              case rel => exact ⟨j + 1, by go_num, by omega, by rw [HN.out], HB2.out⟩
              case measure => simp [intOf]; omega
            · rcases hp : (page / 2 ^ (9 * (3 - x.l)).toNat == x.p) with _ | _
              · have HN := Lib.hid (HS.out.trans (by rw [show ofB asid page x = false by unfold ofB; rw [ha, hp]; rfl, Bool.or_false]))
                clear hof
                clear HS
                generalize (xs.take j).any (ofB asid page) = q at *
                go_wp2_with fail
                go_roundw
                case rel => exact ⟨j + 1, by go_num, by omega, by rw [HN.out], HB2.out⟩
                case measure => simp [intOf]; omega
              · exfalso
                unfold ofB at hof
                rw [ha, hp] at hof
                exact Bool.noConfusion hof
          · have HB := Lib.hid (bthen HB.out hBr)
            have HI2 := Lib.hid (HI.out.call hBr)
            have HA := Lib.hid (show (xs.take j).any (ofB asid page) = false from by
              rw [List.take_of_length_le (by have := HL.out; omega)]
              exact List.any_eq_false.2 (fun x hx => by rw [HNO.out x hx]; simp))
            
            
            
            clear hBr
            rw [HA.out]
            by_cases hr : 0 ≤ asid ∧ asid ≤ 255
            · obtain ⟨r1, r2⟩ := hr
              go_wp2_with fail
              rw [HL.out]
              refine (dropS_out O cap xs 2 asid page _ HI2.out (by rw [← HL.out]; exact hcap)).mono ?_
              rintro e w2 ⟨v, rfl, hO, hb⟩
              obtain ⟨Om, pm, rfl, lm, mm, rm⟩ := hO.form encS_len
              have HRm := Lib.hid rm
              have HB := Lib.hid (bthen HB.out hb)
              clear hO rm mm hb
              go_wp2_with fail
              refine (best_out Om pm (drpL mayS plS 4 xs (fun y : Sb => stepB 2 asid page y.a y.l y.p)) asid page _ HRm.out lm).mono ?_
              rintro e w3 ⟨rfl, hb⟩
              rw [best_gone HK.out r1 r2 HP0.out HPG.out]
              simp only [Option.getD_none, Option.isSome_none, zS]
              have HB := Lib.hid (bthen HB.out (ba hb (.cells #[.int .i64 0, .int .i8 0, .int .u64 0, .int .i64 0] 44)))
              clear hb
              go_wp2_with fail
              generalize w3.alloc (.cells #[.int .i64 0, .int .i8 0, .int .u64 0, .int .i64 0] 44) = W9 at *
              refine (wakes11_any _).mono ?_
              rintro e w99 ⟨rfl, hb⟩
              have HB := Lib.hid (bthen HB.out hb)
              clear hb
              go_wp2_with fail
              go_ret
              exact ⟨rfl, HB.out⟩
            · rcases (show asid < 0 ∨ (0 ≤ asid ∧ 255 < asid) by omega) with h | ⟨h0, h⟩
              · clear hr
                go_wp2_with fail
                refine (wakes11_any _).mono ?_
                rintro e w99 ⟨rfl, hb⟩
                have HB := Lib.hid (bthen HB.out hb)
                clear hb
                go_wp2_with fail
                go_ret
                exact ⟨rfl, HB.out⟩
              · clear hr
                go_wp2_with fail
                refine (wakes11_any _).mono ?_
                rintro e w99 ⟨rfl, hb⟩
                have HB := Lib.hid (bthen HB.out hb)
                clear hb
                go_wp2_with fail
                go_ret
                exact ⟨rfl, HB.out⟩
      · simp only [Option.getD_some, Option.isSome_some] at HB HI HS7 ⊢
        have HBB := Lib.hid (i1 bb rfl)
        have HLE := Lib.hid (i3 bb rfl)
        obtain ⟨bl1, bl3⟩ := HM.out bb HBB.out.1
        have hob := HBB.out.2
        unfold ofB at hob
        rw [Bool.and_eq_true] at hob
        obtain ⟨hb1, hb2⟩ := hob
        have hb1' : (bb.a != asid) = false := by simpa using hb1
        have hb2' : (page / 2 ^ (9 * (3 - bb.l)).toNat != bb.p) = false := by simpa using hb2
        clear i1 i2 i3
        go_wp2_with fail
        generalize w1.heap.size = Y7 at *
        generalize w1.alloc (.cells #[.int .i64 bb.a, .int .i8 bb.l, .int .u64 bb.p, .int .i64 bb.f] 44) = W7 at *
        go_loopw [9, 31] (fun s i wr => ∃ j : Nat, i = .int .i64 j ∧ j ≤ len ∧ s = .bool ((xs.take j).any (ofB asid page)) ∧ Below W7.heap.size W7 wr) (fun _ i _ => len - (intOf i).toNat)
        case atStart => exact ⟨0, rfl, by omega, rfl, Below.refl _ _⟩
        case round =>
          obtain ⟨j, rfl, hj, hs, hBr⟩ := hrel
          subst hs
          by_cases hlt : j < len
          · obtain ⟨b, off, hO, hcell⟩ := (HI.out.call hBr) (by have := HL.out; omega)
            subst hO
            obtain ⟨x, hx⟩ : ∃ x, xs[j]? = some x := ⟨xs[j]'(by have := HL.out; omega), List.getElem?_eq_getElem _⟩
            obtain ⟨c0, c1, c2, c3⟩ := sb_cells hx hcell
            obtain ⟨hl1, hl3⟩ := HM.out x (List.mem_of_getElem? hx)
            have HS := Lib.hid (any_succ (ofB asid page) xs j x hx)
            have HB2 := Lib.hid (ba hBr (.cells #[.int .i64 x.a, .int .i8 x.l, .int .u64 x.p, .int .i64 x.f] 44))
            have hle := HLE.out x (List.mem_of_getElem? hx)
            have s1 := (HS7.out.call hBr).cell 1 _ rfl
            have ls := (HS7.out.call hBr).lt
            clear hcell hx hBr
            rcases ha : (x.a == asid) with _ | _
            · have HN := Lib.hid (HS.out.trans (by rw [show ofB asid page x = false by unfold ofB; rw [ha]; rfl, Bool.or_false]))
              clear hle
              clear HS
              generalize (xs.take j).any (ofB asid page) = q at *
              go_wp2_with fail
              go_roundw
              case rel => exact ⟨j + 1, by go_num, by omega, by rw [HN.out], HB2.out⟩
              case measure => simp [intOf]; omega
            · rcases hp : (page / 2 ^ (9 * (3 - x.l)).toNat == x.p) with _ | _
              · have HN := Lib.hid (HS.out.trans (by rw [show ofB asid page x = false by unfold ofB; rw [ha, hp]; rfl, Bool.or_false]))
                clear hle
                clear HS
                generalize (xs.take j).any (ofB asid page) = q at *
                go_wp2_with fail
                go_roundw
                case rel => exact ⟨j + 1, by go_num, by omega, by rw [HN.out], HB2.out⟩
                case measure => simp [intOf]; omega
              · have HN := Lib.hid (HS.out.trans (by rw [show ofB asid page x = true by unfold ofB; rw [ha, hp]; rfl, Bool.or_true]))
                have hle' := hle (by unfold ofB; rw [ha, hp]; rfl)
                have hgt : ¬ bb.l < x.l := by omega
                clear hle HS
                go_wp2_with fail
                go_roundw
                case rel => exact ⟨j + 1, by go_num, by omega, by rw [HN.out], HB2.out⟩
                case measure => simp [intOf]; omega
          · have HB := Lib.hid (bthen HB.out hBr)
            have HI2 := Lib.hid (HI.out.call hBr)
            have HA := Lib.hid (show (xs.take j).any (ofB asid page) = true from by
              rw [List.take_of_length_le (by have := HL.out; omega)]
              exact List.any_eq_true.2 ⟨bb, HBB.out⟩)
            have s0 := (HS7.out.call hBr).cell 0 _ rfl
            have s1 := (HS7.out.call hBr).cell 1 _ rfl
            have s2 := (HS7.out.call hBr).cell 2 _ rfl
            clear hBr
            rw [HA.out]
            by_cases hr : 0 ≤ asid ∧ asid ≤ 255
            · obtain ⟨r1, r2⟩ := hr
              go_wp2_with fail
              rw [HL.out]
              refine (dropS_out O cap xs 2 asid page _ HI2.out (by rw [← HL.out]; exact hcap)).mono ?_
              rintro e w2 ⟨v, rfl, hO, hb⟩
              obtain ⟨Om, pm, rfl, lm, mm, rm⟩ := hO.form encS_len
              have HRm := Lib.hid rm
              have HB := Lib.hid (bthen HB.out hb)
              clear hO rm mm hb
              go_wp2_with fail
              refine (best_out Om pm (drpL mayS plS 4 xs (fun y : Sb => stepB 2 asid page y.a y.l y.p)) asid page _ HRm.out lm).mono ?_
              rintro e w3 ⟨rfl, hb⟩
              rw [best_gone HK.out r1 r2 HP0.out HPG.out]
              simp only [Option.getD_none, Option.isSome_none, zS]
              have HB := Lib.hid (bthen HB.out (ba hb (.cells #[.int .i64 0, .int .i8 0, .int .u64 0, .int .i64 0] 44)))
              clear hb
              go_wp2_with fail
              generalize w3.alloc (.cells #[.int .i64 0, .int .i8 0, .int .u64 0, .int .i64 0] 44) = W9 at *
              refine (wakes11_any _).mono ?_
              rintro e w99 ⟨rfl, hb⟩
              have HB := Lib.hid (bthen HB.out hb)
              clear hb
              go_wp2_with fail
              go_ret
              exact ⟨rfl, HB.out⟩
            · rcases (show asid < 0 ∨ (0 ≤ asid ∧ 255 < asid) by omega) with h | ⟨h0, h⟩
              · clear hr
                go_wp2_with fail
                refine (wakes11_any _).mono ?_
                rintro e w99 ⟨rfl, hb⟩
                have HB := Lib.hid (bthen HB.out hb)
                clear hb
                go_wp2_with fail
                go_ret
                exact ⟨rfl, HB.out⟩
              · clear hr
                go_wp2_with fail
                refine (wakes11_any _).mono ?_
                rintro e w99 ⟨rfl, hb⟩
                have HB := Lib.hid (bthen HB.out hb)
                clear hb
                go_wp2_with fail
                go_ret
                exact ⟨rfl, HB.out⟩
    · have hpg' : 34359738368 ≤ page := by omega
      clear hpg
      go_wp2_with fail
      refine (wakes11_any _).mono ?_
      rintro e w99 ⟨rfl, hb⟩
      have HB := Lib.hid (bthen HB.out hb)
      clear hb
      go_wp2_with fail
      go_ret
      exact ⟨rfl, HB.out⟩
  · rw [h2]
    clear hk h2
    go_wp2_with fail
    refine (wakes11_any _).mono ?_
    rintro e w99 ⟨rfl, hb⟩
    have HB := Lib.hid (bthen HB.out hb)
    clear hb
    go_wp2_with fail
    go_ret
    exact ⟨rfl, HB.out⟩
end Go.Proofs.Ytencifnopfianaa
