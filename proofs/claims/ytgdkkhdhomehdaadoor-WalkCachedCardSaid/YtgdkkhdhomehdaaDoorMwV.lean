/-
  Layer 12: the two memories, side by side (printed by gen/wkboth.py).
-/
import Derived.Test.YtgdkkhdhomehdaaDoorMwT
import Derived.Test.YtgdkkhdhomehdaaDoorMwP
import Derived.Test.YtgdkkhdhomehdaaDoorOpenPairs
import Derived.Deep.RegionHeld
namespace Go.Proofs.YtgdkkhdhomehdaaDoor
section
open Go.RowKit Go.Maps
set_option linter.unusedVariables false
set_option linter.unusedSimpArgs false
theorem PairsK.call {k0 k1 : IntKind} {w w' : World} {O : Option Addr} {len : Nat} {xs ys : Nat → Int} (h : PairsK k0 k1 w O len xs ys) (hb : Below w.heap.size w w') : PairsK k0 k1 w' O len xs ys := fun h0 => by
  obtain ⟨b, off, e, hc⟩ := h h0
  exact ⟨b, off, e, fun i hi => ⟨(hb.cell (p := ⟨b, off + i * 2, none⟩) (World.block_lt_of_cell? w ⟨b, off + i * 2, none⟩ (hc i hi).1)).trans (hc i hi).1, (hb.cell (p := ⟨b, off + (i * 2 + 1), none⟩) (World.block_lt_of_cell? w ⟨b, off + (i * 2 + 1), none⟩ (hc i hi).2)).trans (hc i hi).2⟩⟩
def wrC (c : Nat → Nat → Int) (x v : Int) : Nat → Nat → Int := if x / 512 < 16 then upd2 c (x / 512).toNat (x % 512).toNat v else c
def wrE (x : Int) : Int := if x / 512 < 16 then 0 else 80
theorem wrC_u64 {c : Nat → Nat → Int} (h : ∀ f i, U64 (c f i)) (x : Int) {v : Int} (hv : U64 v) : ∀ f i, U64 (wrC c x v f i) := by
  unfold wrC
  split
  · exact upd2_u64 h _ _ hv
  · exact h
theorem write_any (p k : Nat) (x v : Int) (c : Nat → Nat → Int) (F : Nat → Prop) (w : World) (hM : MemS w p 16 c F k) (hk : k < 1000000) (hx : U64 x) :
    Calls Tryd.prog 24 #[.pointer (some ⟨p, 0, none⟩), .int .u64 x, .int .u64 v] w (Went w p 16 (wrC c x v) F k (.int .i64 (wrE x))) := by
  obtain ⟨f, i, h1, h2, h3⟩ := word_nat hx
  by_cases h : x / 512 < 16
  · rw [show wrC c x v = upd2 c f i v by unfold wrC; rw [if_pos h, h1, h2]; rfl, show wrE x = 0 from if_pos h]
    exact write_yes p 16 k f i x v c F w hM hk (by omega) hx h1 h2 (by omega)
  · rw [show wrC c x v = c from if_neg h, show wrE x = 80 from if_neg h]
    refine (write_no p 16 k x v c F w hM (by omega) hx (by omega)).mono ?_
    rintro e w1 ⟨rfl, rfl⟩
    exact Went.same hM (Below.refl _ _)
theorem rwrite_any (q : Nat) (x v : Int) (c : Nat → Nat → Int) (F : Nat → Prop) (w : World) (hM : RefS w q 16 c F) (hx : U64 x) :
    Calls Tryd.prog 46 #[.pointer (some ⟨q, 0, none⟩), .int .u64 x, .int .u64 v] w (RWent w q 16 (wrC c x v) F (.int .i64 (wrE x))) := by
  obtain ⟨f, i, h1, h2, h3⟩ := word_nat hx
  by_cases h : x / 512 < 16
  · rw [show wrC c x v = upd2 c f i v by unfold wrC; rw [if_pos h, h1, h2]; rfl, show wrE x = 0 from if_pos h]
    exact rwrite_yes q 16 f i x v c F w hM (by omega) hx h1 h2 (by omega)
  · rw [show wrC c x v = c from if_neg h, show wrE x = 80 from if_neg h]
    refine (rwrite_no q 16 x v c F w hM (by omega) hx (by omega)).mono ?_
    rintro e w1 ⟨rfl, rfl⟩
    exact ⟨rfl, F, hM, Keeps.refl F w, fun y hy => .inl hy, fun y hy => hy⟩
def Both (w : World) (e : Ending) (w' : World) : Prop :=
  ∃ (p q k : Nat) (c : Nat → Nat → Int) (F G' : Nat → Prop), e = .returned (.tuple #[.pointer (some ⟨p, 0, none⟩), .pointer (some ⟨q, 0, none⟩), .bool true]) ∧ Pair w w' p q 16 c c F G' k ∧ (∀ f i, U64 (c f i)) ∧ k ≤ 300
/-- The loop's head. -/
def BoRel (w : World) (p q len : Nat) (ok i : Value) (wr : World) : Prop :=
  ∃ (j kk : Nat) (c : Nat → Nat → Int) (F G' : Nat → Prop), ok = .bool true ∧ i = .int .i64 j ∧ j ≤ len ∧ kk ≤ j ∧ (∀ f i, U64 (c f i)) ∧ Pair w wr p q 16 c c F G' kk
set_option maxRecDepth 100000 in
set_option maxHeartbeats 8000000 in
theorem both_any (O : Option Addr) (len cap : Nat) (xs ys : Nat → Int) (w : World) (hl : len ≤ 300) (hc : len ≤ cap) (hI : PairsK .u64 .u64 w O len xs ys) (hwf : ∀ i, i < len → U64 (xs i) ∧ U64 (ys i)) :
    Calls Tryd.prog 19 #[.slice O len cap] w (Both w) := by
  have HI := Lib.hid hI
  have HW := Lib.hid hwf
  clear hI hwf
  go_enter Tryd.func19, Tryd.ntmps19
  go_wp2_with fail
  refine (new_yes 16 _ (by omega) (by omega)).mono ?_
  rintro e w1 ⟨p, F, rfl, hM, hB, hF⟩
  have HF := Lib.hid hF
  have HB := Lib.hid hB
  have HA := Lib.hid hM.all
  clear hF hB
  go_wp2_with fail
  refine (rnew_yes 16 _ (by omega) (by omega)).mono ?_
  rintro e w2 ⟨q, G, rfl, hN, hB, hG⟩
  have hP : Pair w w2 p q 16 (fun _ _ => 0) (fun _ _ => 0) F G 0 := ⟨hM.call hB, hN, fun y h h' => Nat.not_lt.2 (hG y h') (HA.out y h), HF.out, fun y h => Nat.le_trans HB.out.size (hG y h), bthen HB.out hB⟩
  clear hM hN hB hG HA HF HB
  have HP := Lib.hid hP
  clear hP
  go_wp2_with fail
  go_loopw [9, 10] (fun ok i wr => BoRel w p q len ok i wr) (fun _ i _ => len - (intOf i).toNat)
  case atStart => exact ⟨0, 0, _, F, G, rfl, rfl, by omega, by omega, zero_u64, HP.out⟩
  case round =>
    clear HP
    obtain ⟨j, kk, c, F, G, rfl, rfl, hj, hkk, hcu, hP⟩ := hrel
    have HC := Lib.hid hcu
    clear hcu
    by_cases hlt : j < len
    · obtain ⟨b, off, rfl, hcell⟩ := HI.out (by omega)
      have cx := (hcell j hlt).1
      have cy : w.cell? ⟨b, off + j * 2 + 1, none⟩ = some (.int .u64 (ys j)) := (hcell j hlt).2
      have lb : b < w.heap.size := World.block_lt_of_cell? w ⟨b, off + j * 2, none⟩ cx
      have hu := HW.out j hlt
      clear hcell
      go_wp2_with fail
      refine wp_region_held_drew (S := fun w' => Below w.heap.size w w') (by kernel_rfl) (bd hP.below) (fun hHeld => ?_)
      replace hP := hP.call (bd (Below.refl _ _))
      refine wpAnyH_take (i := 0) (oi := ⟨_, _, _, _, _, _⟩) (v := ?v0) rfl (by kernel_rfl) (by kernel_rfl) (by kernel_rfl) (fun _ _ _ h => h) (Or.inl ⟨by rfl, ?hy0⟩) hHeld ?rest0
      case hy0 => (intro w' hSw; go_simp; try with_reducible rfl)
      try simp only [Act.put, List.setIfInBounds_toArray, List.set_cons_zero, List.set_cons_succ]
      refine wpAnyH_take (i := 1) (oi := ⟨_, _, _, _, _, _⟩) (v := ?v1) rfl (by kernel_rfl) (by kernel_rfl) (by kernel_rfl) (fun _ _ _ h => h) (Or.inl ⟨by rfl, ?hy1⟩) hHeld ?rest1
      case hy1 => (intro w' hSw; go_simp; try with_reducible rfl)
      try simp only [Act.put, List.setIfInBounds_toArray, List.set_cons_zero, List.set_cons_succ]
      refine wpAnyH_take (i := 2) (oi := ⟨_, _, _, _, _, _⟩) (v := ?v2) rfl (by kernel_rfl) (by kernel_rfl) (by kernel_rfl) (fun _ _ _ h => h) (Or.inl ⟨by rfl, ?hy2⟩) hHeld ?rest2
      case hy2 => (intro w' hSw; go_simp; try with_reducible rfl)
      try simp only [Act.put, List.setIfInBounds_toArray, List.set_cons_zero, List.set_cons_succ]
      refine wpAnyH_take (i := 3) (oi := ⟨_, _, _, _, _, _⟩) (v := ?v3) rfl (by kernel_rfl) (by kernel_rfl) (by kernel_rfl) (fun _ _ _ h => h) (Or.inl ⟨by rfl, ?hy3⟩) hHeld ?rest3
      case hy3 => (intro w' hSw; go_simp; try with_reducible rfl)
      try simp only [Act.put, List.setIfInBounds_toArray, List.set_cons_zero, List.set_cons_succ]
      refine wpAnyH_take (i := 4) (oi := ⟨_, _, _, _, _, _⟩) (v := ?v4) rfl (by kernel_rfl) (by kernel_rfl) (by kernel_rfl) (fun _ _ _ h => h) (Or.inl ⟨by rfl, ?hy4⟩) hHeld ?rest4
      case hy4 => (intro w' hSw; go_simp; try with_reducible rfl)
      try simp only [Act.put, List.setIfInBounds_toArray, List.set_cons_zero, List.set_cons_succ]
      refine wpAnyH_take (i := 5) (oi := ⟨_, _, _, _, _, _⟩) (v := ?v5) rfl (by kernel_rfl) (by kernel_rfl) (by kernel_rfl) (fun _ _ _ h => h) (Or.inl ⟨by rfl, ?hy5⟩) hHeld ?rest5
      case hy5 => (intro w' hSw; obtain ⟨hcc, hff⟩ := bcell hSw; go_simp; try with_reducible rfl)
      try simp only [Act.put, List.setIfInBounds_toArray, List.set_cons_zero, List.set_cons_succ]
      refine wpAnyH_take (i := 6) (oi := ⟨_, _, _, _, _, _⟩) (v := ?v6) rfl (by kernel_rfl) (by kernel_rfl) (by kernel_rfl) (fun _ _ _ h => h) (Or.inl ⟨by rfl, ?hy6⟩) hHeld ?rest6
      case hy6 => (intro w' hSw; go_simp; try with_reducible rfl)
      try simp only [Act.put, List.setIfInBounds_toArray, List.set_cons_zero, List.set_cons_succ]
      refine wpAnyH_take (i := 7) (oi := ⟨_, _, _, _, _, _⟩) (v := ?v7) rfl (by kernel_rfl) (by kernel_rfl) (by kernel_rfl) (fun _ _ _ h => h) (Or.inl ⟨by rfl, ?hy7⟩) hHeld ?rest7
      case hy7 => (intro w' hSw; go_simp; try with_reducible rfl)
      try simp only [Act.put, List.setIfInBounds_toArray, List.set_cons_zero, List.set_cons_succ]
      refine wpAnyH_take (i := 8) (oi := ⟨_, _, _, _, _, _⟩) (v := ?v8) rfl (by kernel_rfl) (by kernel_rfl) (by kernel_rfl) (fun _ _ _ h => h) (Or.inl ⟨by rfl, ?hy8⟩) hHeld ?rest8
      case hy8 => (intro w' hSw; go_simp; try with_reducible rfl)
      try simp only [Act.put, List.setIfInBounds_toArray, List.set_cons_zero, List.set_cons_succ]
      refine wpAnyH_take (i := 9) (oi := ⟨_, _, _, _, _, _⟩) (v := ?v9) rfl (by kernel_rfl) (by kernel_rfl) (by kernel_rfl) (fun _ _ _ h => h) (Or.inl ⟨by rfl, ?hy9⟩) hHeld ?rest9
      case hy9 => (intro w' hSw; go_simp; try with_reducible rfl)
      try simp only [Act.put, List.setIfInBounds_toArray, List.set_cons_zero, List.set_cons_succ]
      refine wpAnyH_take (i := 10) (oi := ⟨_, _, _, _, _, _⟩) (v := ?v10) rfl (by kernel_rfl) (by kernel_rfl) (by kernel_rfl) (fun _ _ _ h => h) (Or.inl ⟨by rfl, ?hy10⟩) hHeld ?rest10
      case hy10 => (intro w' hSw; obtain ⟨hcc, hff⟩ := bcell hSw; go_simp; try with_reducible rfl)
      try simp only [Act.put, List.setIfInBounds_toArray, List.set_cons_zero, List.set_cons_succ]
      refine wpAnyH_take (i := 12) (oi := ⟨_, _, _, _, _, _⟩) (v := ?v12) rfl (by kernel_rfl) (by kernel_rfl) (by kernel_rfl) (fun _ _ _ h => h) (Or.inl ⟨by rfl, ?hy12⟩) hHeld ?rest12
      case hy12 => (intro w' hSw; go_simp; try with_reducible rfl)
      try simp only [Act.put, List.setIfInBounds_toArray, List.set_cons_zero, List.set_cons_succ]
      refine wpAnyH_take (i := 13) (oi := ⟨_, _, _, _, _, _⟩) (v := ?v13) rfl (by kernel_rfl) (by kernel_rfl) (by kernel_rfl) (fun _ _ _ h => h) (Or.inl ⟨by rfl, ?hy13⟩) hHeld ?rest13
      case hy13 => (intro w' hSw; go_simp; try with_reducible rfl)
      try simp only [Act.put, List.setIfInBounds_toArray, List.set_cons_zero, List.set_cons_succ]
      refine wpAnyH_take (i := 14) (oi := ⟨_, _, _, _, _, _⟩) (v := ?v14) rfl (by kernel_rfl) (by kernel_rfl) (by kernel_rfl) (fun _ _ _ h => h) (Or.inl ⟨by rfl, ?hy14⟩) hHeld ?rest14
      case hy14 => (intro w' hSw; go_simp; try with_reducible rfl)
      try simp only [Act.put, List.setIfInBounds_toArray, List.set_cons_zero, List.set_cons_succ]
      refine wpAnyH_take (i := 15) (oi := ⟨_, _, _, _, _, _⟩) (v := ?v15) rfl (by kernel_rfl) (by kernel_rfl) (by kernel_rfl) (fun _ _ _ h => h) (Or.inl ⟨by rfl, ?hy15⟩) hHeld ?rest15
      case hy15 => (intro w' hSw; go_simp; try with_reducible rfl)
      try simp only [Act.put, List.setIfInBounds_toArray, List.set_cons_zero, List.set_cons_succ]
      refine wpAnyH_take (i := 16) (oi := ⟨_, _, _, _, _, _⟩) (v := ?v16) rfl (by kernel_rfl) (by kernel_rfl) (by kernel_rfl) (fun _ _ _ h => h) (Or.inl ⟨by rfl, ?hy16⟩) hHeld ?rest16
      case hy16 => (intro w' hSw; go_simp; try with_reducible rfl)
      try simp only [Act.put, List.setIfInBounds_toArray, List.set_cons_zero, List.set_cons_succ]
      refine wpAnyH_take (i := 17) (oi := ⟨_, _, _, _, _, _⟩) (v := ?v17) rfl (by kernel_rfl) (by kernel_rfl) (by kernel_rfl) (fun _ _ _ h => h) (Or.inl ⟨by rfl, ?hy17⟩) hHeld ?rest17
      case hy17 => (intro w' hSw; obtain ⟨hcc, hff⟩ := bcell hSw; go_simp; try with_reducible rfl)
      try simp only [Act.put, List.setIfInBounds_toArray, List.set_cons_zero, List.set_cons_succ]
      refine wpAnyH_take (i := 18) (oi := ⟨_, _, _, _, _, _⟩) (v := ?v18) rfl (by kernel_rfl) (by kernel_rfl) (by kernel_rfl) (fun _ _ _ h => h) (Or.inl ⟨by rfl, ?hy18⟩) hHeld ?rest18
      case hy18 => (intro w' hSw; go_simp; try with_reducible rfl)
      try simp only [Act.put, List.setIfInBounds_toArray, List.set_cons_zero, List.set_cons_succ]
      refine wpAnyH_take (i := 19) (oi := ⟨_, _, _, _, _, _⟩) (v := ?v19) rfl (by kernel_rfl) (by kernel_rfl) (by kernel_rfl) (fun _ _ _ h => h) (Or.inl ⟨by rfl, ?hy19⟩) hHeld ?rest19
      case hy19 => (intro w' hSw; go_simp; try with_reducible rfl)
      try simp only [Act.put, List.setIfInBounds_toArray, List.set_cons_zero, List.set_cons_succ]
      refine wpAnyH_take (i := 20) (oi := ⟨_, _, _, _, _, _⟩) (v := ?v20) rfl (by kernel_rfl) (by kernel_rfl) (by kernel_rfl) (fun _ _ _ h => h) (Or.inl ⟨by rfl, ?hy20⟩) hHeld ?rest20
      case hy20 => (intro w' hSw; go_simp; try with_reducible rfl)
      try simp only [Act.put, List.setIfInBounds_toArray, List.set_cons_zero, List.set_cons_succ]
      refine wpAnyH_take (i := 21) (oi := ⟨_, _, _, _, _, _⟩) (v := ?v21) rfl (by kernel_rfl) (by kernel_rfl) (by kernel_rfl) (fun _ _ _ h => h) (Or.inl ⟨by rfl, ?hy21⟩) hHeld ?rest21
      case hy21 => (intro w' hSw; go_simp; try with_reducible rfl)
      try simp only [Act.put, List.setIfInBounds_toArray, List.set_cons_zero, List.set_cons_succ]
      refine wpAnyH_take (i := 22) (oi := ⟨_, _, _, _, _, _⟩) (v := ?v22) rfl (by kernel_rfl) (by kernel_rfl) (by kernel_rfl) (fun _ _ _ h => h) (Or.inl ⟨by rfl, ?hy22⟩) hHeld ?rest22
      case hy22 => (intro w' hSw; obtain ⟨hcc, hff⟩ := bcell hSw; go_simp; try with_reducible rfl)
      try simp only [Act.put, List.setIfInBounds_toArray, List.set_cons_zero, List.set_cons_succ]
      refine wpAnyH_ready (rs := [11]) (by kernel_rfl) (by simp) ?_
      refine AllReadyH.cons (o := ⟨_, _, _, _, _, _⟩) rfl (fun K hK => ?_) AllReadyH.nil
      go_simp
      refine (write_any p kk (xs j) (ys j) c F _ hP.mem (by omega) hu.1).mono ?_
      rintro e w1 ⟨rfl, F1, k1, m1, m2, m3, m4, m5⟩
      have hP1 := hP.one m1 m3 m4
      clear m1 m3 m4 m5 hP hHeld
      go_wp2_with fail
      refine hK.out _ _ hP1.below (fun hHeld => ?_)
      clear hK K
      try simp only [Act.put, List.setIfInBounds_toArray, List.set_cons_zero, List.set_cons_succ]
      refine wpAnyH_ready (rs := [23]) (by kernel_rfl) (by simp) ?_
      refine AllReadyH.cons (o := ⟨_, _, _, _, _, _⟩) rfl (fun K hK => ?_) AllReadyH.nil
      go_simp
      refine (rwrite_any q (xs j) (ys j) c G _ hP1.ref hu.1).mono ?_
      rintro e w2 ⟨rfl, G1, m1, m3, m4, m5⟩
      have hP2 := hP1.two m1 m3 m4
      clear m1 m3 m4 m5 hP1 hHeld
      go_wp2_with fail
      refine hK.out _ _ hP2.below (fun hHeld => ?_)
      clear hK K
      try simp only [Act.put, List.setIfInBounds_toArray, List.set_cons_zero, List.set_cons_succ]
      refine wpAnyH_take (i := 24) (oi := ⟨_, _, _, _, _, _⟩) (v := ?v24) rfl (by kernel_rfl) (by kernel_rfl) (by kernel_rfl) (fun _ _ _ h => h) (Or.inl ⟨by rfl, ?hy24⟩) hHeld ?rest24
      case hy24 => (intro w' hSw; go_simp; try with_reducible rfl)
      try simp only [Act.put, List.setIfInBounds_toArray, List.set_cons_zero, List.set_cons_succ]
      refine wpAnyH_take (i := 25) (oi := ⟨_, _, _, _, _, _⟩) (v := ?v25) rfl (by kernel_rfl) (by kernel_rfl) (by kernel_rfl) (fun _ _ _ h => h) (Or.inl ⟨by rfl, ?hy25⟩) hHeld ?rest25
      case hy25 => (intro w' hSw; go_simp; try with_reducible rfl)
      try simp only [Act.put, List.setIfInBounds_toArray, List.set_cons_zero, List.set_cons_succ]
      refine wpAnyH_done (by kernel_rfl) ?_ _
      go_wp2_with fail
      go_roundw
      case rel => exact ⟨j + 1, k1, _, F1, G1, rfl, by go_num, by omega, by omega, wrC_u64 HC.out _ hu.2, hP2⟩
      case measure => simp [intOf]; omega
    · have HP := Lib.hid hP
      clear hP
      go_wp2_with fail
      go_ret3
      exact ⟨p, q, kk, c, F, G, rfl, HP.out, HC.out, by omega⟩
end
end Go.Proofs.YtgdkkhdhomehdaaDoor
