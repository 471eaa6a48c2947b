/-
  Package tlb's find (T).
-/
import Derived.Test.YtencifnopfianaaTlBase
import Derived.Deep.QuietTactic
import Derived.Deep.RegionHeld
namespace Go.Proofs.Ytencifnopfianaa
open Go.RowKit
set_option linter.unusedVariables false
set_option linter.unusedSimpArgs false
set_option maxRecDepth 100000 in
set_option maxHeartbeats 4000000 in
theorem findT_any (O : Option Addr) (cap : Nat) (xs : List Tb) (qa ql qp : Int) (w : World) (hI : RK encT 4 w O xs) (hcap : xs.length ≤ cap) (h8 : xs.length ≤ 1000) :
    Calls Try.prog 34 #[.agg #[.int .i64 8, .func (.func 57) #[] #[], .func (.func 59) #[] #[]], .slice O xs.length cap, .agg #[.int .i64 qa, .int .i8 ql, .int .u64 qp]] w fun e w' => e = .returned (.int .i64 (fdV plT xs (qa, ql, qp))) ∧ Below w.heap.size w w' := by
  have HB0 := Lib.hid (ba (ba (Below.refl w.heap.size w) (.cells #[.int .i64 8, .func (.func 57) #[] #[], .func (.func 59) #[] #[]] 61)) (.cells #[.int .i64 qa, .int .i8 ql, .int .u64 qp] 65))
  have HK := Lib.hid ((Arr.new w #[.int .i64 8, .func (.func 57) #[] #[], .func (.func 59) #[] #[]] 61).alloc (.cells #[.int .i64 qa, .int .i8 ql, .int .u64 qp] 65))
  have HP := Lib.hid (show Arr _ (w.heap.size + 1) _ from (show (w.alloc (.cells #[.int .i64 8, .func (.func 57) #[] #[], .func (.func 59) #[] #[]] 61)).heap.size = w.heap.size + 1 by simp) ▸ Arr.new (w.alloc (.cells #[.int .i64 8, .func (.func 57) #[] #[], .func (.func 59) #[] #[]] 61)) #[.int .i64 qa, .int .i8 ql, .int .u64 qp] 65)
  have HI := Lib.hid (hI.call HB0.out)
  clear hI
  obtain ⟨len, hlen⟩ : ∃ len, len = xs.length := ⟨_, rfl⟩
  rw [← hlen] at hcap h8 ⊢
  have HL := Lib.hid hlen
  clear hlen
  go_enter Try.func34, Try.ntmps34
  go_wp2_with fail
  generalize (w.alloc (.cells #[.int .i64 8, .func (.func 57) #[] #[], .func (.func 59) #[] #[]] 61)).alloc (.cells #[.int .i64 qa, .int .i8 ql, .int .u64 qp] 65) = W0 at *
  go_loopw [11] (fun i wr => ∃ j : Nat, i = .int .i64 j ∧ j ≤ len ∧ NoB plT xs (qa, ql, qp) j ∧ Below W0.heap.size W0 wr) (fun i _ => len - (intOf i).toNat)
  case atStart => exact ⟨0, rfl, by omega, NoB.zero _ _, Below.refl _ _⟩
  case round =>
    obtain ⟨j, rfl, hj, hN, hB⟩ := hrel
    have HN := Lib.hid hN
    clear hN
    by_cases hlt : j < len
    · obtain ⟨b, off, rfl, hcell⟩ := (HI.out.call hB) (by have := HL.out; omega)
      obtain ⟨x, hx⟩ : ∃ x, xs[j]? = some x := ⟨xs[j]'(by have := HL.out; omega), List.getElem?_eq_getElem _⟩
      obtain ⟨c0, c1, c2, c3⟩ := tb_cells hx hcell
      have HX := Lib.hid hx
      have HB := Lib.hid hB
      clear hcell hB hx
      go_wp2_with fail
      have HA1 := Lib.hid (Arr.new wr #[.int .i64 x.a, .int .u64 x.p, .int .i64 x.f, .bool x.ro] 25)
      have HB1 := Lib.hid (ba HB.out (.cells #[.int .i64 x.a, .int .u64 x.p, .int .i64 x.f, .bool x.ro] 25))
      have HK1 := Lib.hid (HK.out.call HB1.out)
      have HP1 := Lib.hid (HP.out.call HB1.out)
      clear c0 c1 c2 c3 HB
      generalize wr.heap.size = X at *
      generalize wr.alloc (.cells #[.int .i64 x.a, .int .u64 x.p, .int .i64 x.f, .bool x.ro] 25) = W1 at *
      have k2 := HK1.out.cell 2 _ rfl
      have p0 := HP1.out.cell 0 _ rfl
      have p1 := HP1.out.cell 1 _ rfl
      have p2 := HP1.out.cell 2 _ rfl
      have a0 := HA1.out.cell 0 _ rfl
      have a1 := HA1.out.cell 1 _ rfl
      have a2 := HA1.out.cell 2 _ rfl
      have a3 := HA1.out.cell 3 _ rfl
      have lK := HK1.out.lt
      have lP := HP1.out.lt
      have lA := HA1.out.lt
      clear HA1 HK1 HP1
      by_cases hq : plT x = (qa, ql, qp)
      · have HE := Lib.hid (fv_hit HN.out HX.out hq)
        simp only [plT, Prod.mk.injEq] at hq
        obtain ⟨rfl, rfl, rfl⟩ := hq
        clear HN HX HI HL
        refine wp_region_held_drew (S := fun w' => Below W1.heap.size W1 w') (by kernel_rfl) (bd (Below.refl _ _)) (fun hHeld => ?_)
        refine wpAnyH_take (i := 0) (oi := ⟨_, _, _, _, _, _⟩) (v := ?va0) rfl (by kernel_rfl) (by kernel_rfl) (by kernel_rfl) (fun _ _ _ h => h) (Or.inl ⟨by rfl, ?hya0⟩) hHeld ?resta0
        case hya0 => (intro w' hSw; go_simp; try with_reducible rfl)
        try simp only [Act.put, List.setIfInBounds_toArray, List.set_cons_zero, List.set_cons_succ]
        refine wpAnyH_take (i := 1) (oi := ⟨_, _, _, _, _, _⟩) (v := ?va1) rfl (by kernel_rfl) (by kernel_rfl) (by kernel_rfl) (fun _ _ _ h => h) (Or.inl ⟨by rfl, ?hya1⟩) hHeld ?resta1
        case hya1 => (intro w' hSw; obtain ⟨hcc, hff⟩ := bcell hSw; go_simp; try with_reducible rfl)
        try simp only [Act.put, List.setIfInBounds_toArray, List.set_cons_zero, List.set_cons_succ]
        refine wpAnyH_take (i := 2) (oi := ⟨_, _, _, _, _, _⟩) (v := ?va2) rfl (by kernel_rfl) (by kernel_rfl) (by kernel_rfl) (fun _ _ _ h => h) (Or.inl ⟨by rfl, ?hya2⟩) hHeld ?resta2
        case hya2 => (intro w' hSw; obtain ⟨hcc, hff⟩ := bcell hSw; go_simp; try with_reducible rfl)
        try simp only [Act.put, List.setIfInBounds_toArray, List.set_cons_zero, List.set_cons_succ]
        refine wpAnyH_take (i := 4) (oi := ⟨_, _, _, _, _, _⟩) (v := ?va4) rfl (by kernel_rfl) (by kernel_rfl) (by kernel_rfl) (fun _ _ _ h => h) (Or.inl ⟨by rfl, ?hya4⟩) hHeld ?resta4
        case hya4 => (intro w' hSw; obtain ⟨hcc, hff⟩ := bcell hSw; go_simp; try with_reducible rfl)
        try simp only [Act.put, List.setIfInBounds_toArray, List.set_cons_zero, List.set_cons_succ]
        refine wpAnyH_ready (rs := [3]) (by kernel_rfl) (by simp) ?_
        refine AllReadyH.cons (o := ⟨_, _, _, _, _, _⟩) rfl (fun K hK => ?_) AllReadyH.nil
        go_simp
        refine (atT_any x _).mono ?_
        rintro e wra1 ⟨rfl, hb⟩
        go_wp2_with fail
        have hB2 := bthen hHeld hb
        clear hHeld hb
        refine hK.out _ _ hB2 (fun hHeld => ?_)
        clear hB2 hK K
        try simp only [Act.put, List.setIfInBounds_toArray, List.set_cons_zero, List.set_cons_succ]
        refine wpAnyH_take (i := 5) (oi := ⟨_, _, _, _, _, _⟩) (v := ?va5) rfl (by kernel_rfl) (by kernel_rfl) (by kernel_rfl) (fun _ _ _ h => h) (Or.inl ⟨by rfl, ?hya5⟩) hHeld ?resta5
        case hya5 => (intro w' hSw; go_simp; try with_reducible rfl)
        try simp only [Act.put, List.setIfInBounds_toArray, List.set_cons_zero, List.set_cons_succ]
        refine wpAnyH_done (by kernel_rfl) ?_ _
        go_wp2_with fail
        go_ret
        exact ⟨by rw [HE.out]; rfl, HB0.out.trans ((bthen HB1.out hHeld).mono HB0.out.size)⟩
      · have HS := Lib.hid (NoB.succ HN.out HX.out hq)
        have hc := ne3 (show ¬ ((x.a, 0, x.p) : Int × Int × Int) = (qa, ql, qp) from hq)
        clear hq HN HX HI
        rcases hc with n1 | ⟨rfl, n1⟩ | ⟨rfl, rfl, n1⟩
        · refine wp_region_held_drew (S := fun w' => Below W1.heap.size W1 w') (by kernel_rfl) (bd (Below.refl _ _)) (fun hHeld => ?_)
          refine wpAnyH_take (i := 0) (oi := ⟨_, _, _, _, _, _⟩) (v := ?vb0) rfl (by kernel_rfl) (by kernel_rfl) (by kernel_rfl) (fun _ _ _ h => h) (Or.inl ⟨by rfl, ?hyb0⟩) hHeld ?restb0
          case hyb0 => (intro w' hSw; go_simp; try with_reducible rfl)
          try simp only [Act.put, List.setIfInBounds_toArray, List.set_cons_zero, List.set_cons_succ]
          refine wpAnyH_take (i := 1) (oi := ⟨_, _, _, _, _, _⟩) (v := ?vb1) rfl (by kernel_rfl) (by kernel_rfl) (by kernel_rfl) (fun _ _ _ h => h) (Or.inl ⟨by rfl, ?hyb1⟩) hHeld ?restb1
          case hyb1 => (intro w' hSw; obtain ⟨hcc, hff⟩ := bcell hSw; go_simp; try with_reducible rfl)
          try simp only [Act.put, List.setIfInBounds_toArray, List.set_cons_zero, List.set_cons_succ]
          refine wpAnyH_take (i := 2) (oi := ⟨_, _, _, _, _, _⟩) (v := ?vb2) rfl (by kernel_rfl) (by kernel_rfl) (by kernel_rfl) (fun _ _ _ h => h) (Or.inl ⟨by rfl, ?hyb2⟩) hHeld ?restb2
          case hyb2 => (intro w' hSw; obtain ⟨hcc, hff⟩ := bcell hSw; go_simp; try with_reducible rfl)
          try simp only [Act.put, List.setIfInBounds_toArray, List.set_cons_zero, List.set_cons_succ]
          refine wpAnyH_take (i := 4) (oi := ⟨_, _, _, _, _, _⟩) (v := ?vb4) rfl (by kernel_rfl) (by kernel_rfl) (by kernel_rfl) (fun _ _ _ h => h) (Or.inl ⟨by rfl, ?hyb4⟩) hHeld ?restb4
          case hyb4 => (intro w' hSw; obtain ⟨hcc, hff⟩ := bcell hSw; go_simp; try with_reducible rfl)
          try simp only [Act.put, List.setIfInBounds_toArray, List.set_cons_zero, List.set_cons_succ]
          refine wpAnyH_ready (rs := [3]) (by kernel_rfl) (by simp) ?_
          refine AllReadyH.cons (o := ⟨_, _, _, _, _, _⟩) rfl (fun K hK => ?_) AllReadyH.nil
          go_simp
          refine (atT_any x _).mono ?_
          rintro e wrb1 ⟨rfl, hb⟩
          go_wp2_with fail
          have hB2 := bthen hHeld hb
          clear hHeld hb
          refine hK.out _ _ hB2 (fun hHeld => ?_)
          clear hB2 hK K
          try simp only [Act.put, List.setIfInBounds_toArray, List.set_cons_zero, List.set_cons_succ]
          refine wpAnyH_take (i := 5) (oi := ⟨_, _, _, _, _, _⟩) (v := ?vb5) rfl (by kernel_rfl) (by kernel_rfl) (by kernel_rfl) (fun _ _ _ h => h) (Or.inl ⟨by rfl, ?hyb5⟩) hHeld ?restb5
          case hyb5 => (intro w' hSw; go_simp; try with_reducible rfl)
          try simp only [Act.put, List.setIfInBounds_toArray, List.set_cons_zero, List.set_cons_succ]
          refine wpAnyH_done (by kernel_rfl) ?_ _
          go_wp2_with fail
          go_roundw
          case rel => exact ⟨j + 1, by go_num, by omega, HS.out, bthen HB1.out hHeld⟩
          case measure => simp [intOf]; omega
        · refine wp_region_held_drew (S := fun w' => Below W1.heap.size W1 w') (by kernel_rfl) (bd (Below.refl _ _)) (fun hHeld => ?_)
          refine wpAnyH_take (i := 0) (oi := ⟨_, _, _, _, _, _⟩) (v := ?vc0) rfl (by kernel_rfl) (by kernel_rfl) (by kernel_rfl) (fun _ _ _ h => h) (Or.inl ⟨by rfl, ?hyc0⟩) hHeld ?restc0
          case hyc0 => (intro w' hSw; go_simp; try with_reducible rfl)
          try simp only [Act.put, List.setIfInBounds_toArray, List.set_cons_zero, List.set_cons_succ]
          refine wpAnyH_take (i := 1) (oi := ⟨_, _, _, _, _, _⟩) (v := ?vc1) rfl (by kernel_rfl) (by kernel_rfl) (by kernel_rfl) (fun _ _ _ h => h) (Or.inl ⟨by rfl, ?hyc1⟩) hHeld ?restc1
          case hyc1 => (intro w' hSw; obtain ⟨hcc, hff⟩ := bcell hSw; go_simp; try with_reducible rfl)
          try simp only [Act.put, List.setIfInBounds_toArray, List.set_cons_zero, List.set_cons_succ]
          refine wpAnyH_take (i := 2) (oi := ⟨_, _, _, _, _, _⟩) (v := ?vc2) rfl (by kernel_rfl) (by kernel_rfl) (by kernel_rfl) (fun _ _ _ h => h) (Or.inl ⟨by rfl, ?hyc2⟩) hHeld ?restc2
          case hyc2 => (intro w' hSw; obtain ⟨hcc, hff⟩ := bcell hSw; go_simp; try with_reducible rfl)
          try simp only [Act.put, List.setIfInBounds_toArray, List.set_cons_zero, List.set_cons_succ]
          refine wpAnyH_take (i := 4) (oi := ⟨_, _, _, _, _, _⟩) (v := ?vc4) rfl (by kernel_rfl) (by kernel_rfl) (by kernel_rfl) (fun _ _ _ h => h) (Or.inl ⟨by rfl, ?hyc4⟩) hHeld ?restc4
          case hyc4 => (intro w' hSw; obtain ⟨hcc, hff⟩ := bcell hSw; go_simp; try with_reducible rfl)
          try simp only [Act.put, List.setIfInBounds_toArray, List.set_cons_zero, List.set_cons_succ]
          refine wpAnyH_ready (rs := [3]) (by kernel_rfl) (by simp) ?_
          refine AllReadyH.cons (o := ⟨_, _, _, _, _, _⟩) rfl (fun K hK => ?_) AllReadyH.nil
          go_simp
          refine (atT_any x _).mono ?_
          rintro e wrc1 ⟨rfl, hb⟩
          go_wp2_with fail
          have hB2 := bthen hHeld hb
          clear hHeld hb
          refine hK.out _ _ hB2 (fun hHeld => ?_)
          clear hB2 hK K
          try simp only [Act.put, List.setIfInBounds_toArray, List.set_cons_zero, List.set_cons_succ]
          refine wpAnyH_take (i := 5) (oi := ⟨_, _, _, _, _, _⟩) (v := ?vc5) rfl (by kernel_rfl) (by kernel_rfl) (by kernel_rfl) (fun _ _ _ h => h) (Or.inl ⟨by rfl, ?hyc5⟩) hHeld ?restc5
          case hyc5 => (intro w' hSw; go_simp; try with_reducible rfl)
          try simp only [Act.put, List.setIfInBounds_toArray, List.set_cons_zero, List.set_cons_succ]
          refine wpAnyH_done (by kernel_rfl) ?_ _
          go_wp2_with fail
          go_roundw
          case rel => exact ⟨j + 1, by go_num, by omega, HS.out, bthen HB1.out hHeld⟩
          case measure => simp [intOf]; omega
        · refine wp_region_held_drew (S := fun w' => Below W1.heap.size W1 w') (by kernel_rfl) (bd (Below.refl _ _)) (fun hHeld => ?_)
          refine wpAnyH_take (i := 0) (oi := ⟨_, _, _, _, _, _⟩) (v := ?vd0) rfl (by kernel_rfl) (by kernel_rfl) (by kernel_rfl) (fun _ _ _ h => h) (Or.inl ⟨by rfl, ?hyd0⟩) hHeld ?restd0
          case hyd0 => (intro w' hSw; go_simp; try with_reducible rfl)
          try simp only [Act.put, List.setIfInBounds_toArray, List.set_cons_zero, List.set_cons_succ]
          refine wpAnyH_take (i := 1) (oi := ⟨_, _, _, _, _, _⟩) (v := ?vd1) rfl (by kernel_rfl) (by kernel_rfl) (by kernel_rfl) (fun _ _ _ h => h) (Or.inl ⟨by rfl, ?hyd1⟩) hHeld ?restd1
          case hyd1 => (intro w' hSw; obtain ⟨hcc, hff⟩ := bcell hSw; go_simp; try with_reducible rfl)
          try simp only [Act.put, List.setIfInBounds_toArray, List.set_cons_zero, List.set_cons_succ]
          refine wpAnyH_take (i := 2) (oi := ⟨_, _, _, _, _, _⟩) (v := ?vd2) rfl (by kernel_rfl) (by kernel_rfl) (by kernel_rfl) (fun _ _ _ h => h) (Or.inl ⟨by rfl, ?hyd2⟩) hHeld ?restd2
          case hyd2 => (intro w' hSw; obtain ⟨hcc, hff⟩ := bcell hSw; go_simp; try with_reducible rfl)
          try simp only [Act.put, List.setIfInBounds_toArray, List.set_cons_zero, List.set_cons_succ]
          refine wpAnyH_take (i := 4) (oi := ⟨_, _, _, _, _, _⟩) (v := ?vd4) rfl (by kernel_rfl) (by kernel_rfl) (by kernel_rfl) (fun _ _ _ h => h) (Or.inl ⟨by rfl, ?hyd4⟩) hHeld ?restd4
          case hyd4 => (intro w' hSw; obtain ⟨hcc, hff⟩ := bcell hSw; go_simp; try with_reducible rfl)
          try simp only [Act.put, List.setIfInBounds_toArray, List.set_cons_zero, List.set_cons_succ]
          refine wpAnyH_ready (rs := [3]) (by kernel_rfl) (by simp) ?_
          refine AllReadyH.cons (o := ⟨_, _, _, _, _, _⟩) rfl (fun K hK => ?_) AllReadyH.nil
          go_simp
          refine (atT_any x _).mono ?_
          rintro e wrd1 ⟨rfl, hb⟩
          go_wp2_with fail
          have hB2 := bthen hHeld hb
          clear hHeld hb
          refine hK.out _ _ hB2 (fun hHeld => ?_)
          clear hB2 hK K
          try simp only [Act.put, List.setIfInBounds_toArray, List.set_cons_zero, List.set_cons_succ]
          refine wpAnyH_take (i := 5) (oi := ⟨_, _, _, _, _, _⟩) (v := ?vd5) rfl (by kernel_rfl) (by kernel_rfl) (by kernel_rfl) (fun _ _ _ h => h) (Or.inl ⟨by rfl, ?hyd5⟩) hHeld ?restd5
          case hyd5 => (intro w' hSw; go_simp; try with_reducible rfl)
          try simp only [Act.put, List.setIfInBounds_toArray, List.set_cons_zero, List.set_cons_succ]
          refine wpAnyH_done (by kernel_rfl) ?_ _
          go_wp2_with fail
          go_roundw
          case rel => exact ⟨j + 1, by go_num, by omega, HS.out, bthen HB1.out hHeld⟩
          case measure => simp [intOf]; omega
    · have HE := Lib.hid (fv_no HN.out (by have := HL.out; omega))
      have HB := Lib.hid hB
      clear hB
      go_wp2_with fail
      go_ret
      exact ⟨by rw [HE.out]; rfl, HB0.out.trans (HB.out.mono HB0.out.size)⟩
end Go.Proofs.Ytencifnopfianaa
