/-
  Package tlb's Find and Best, as they are called.
-/
import Derived.Test.YtencifnopfianaaTlOutT
import Derived.Test.YtencifnopfianaaTlOutS
import Derived.Test.YtencifnopfianaaTlGreat
namespace Go.Proofs.Ytencifnopfianaa
open Go.RowKit
set_option linter.unusedVariables false
set_option linter.unusedSimpArgs false
open Classical in
noncomputable def fndO (xs : List Tb) (asid page : Int) : Option Tb := if Ck mayT plT 8 xs then (fdx plT xs (asid, 0, page)).bind (fun n => xs[n]?) else none
def zT : Tb := ⟨0, 0, 0, false⟩
theorem best_out (O : Option Addr) (cap : Nat) (xs : List Sb) (asid page : Int) (w : World) (hI : RK encS 4 w O xs) (hcap : xs.length ≤ cap) :
    Calls Try.prog 16 #[.slice O xs.length cap, .int .i64 asid, .int .u64 page] w
      fun e w' => e = .returned (.tuple #[.agg #[.int .i64 ((bestO xs asid page).getD zS).a, .int .i8 ((bestO xs asid page).getD zS).l, .int .u64 ((bestO xs asid page).getD zS).p, .int .i64 ((bestO xs asid page).getD zS).f], .bool (bestO xs asid page).isSome]) ∧ Below w.heap.size w w' := by
  have hB0 := ba (ba (ba (Below.refl w.heap.size w) (.cells #[.int .i64 asid] 3)) (.cells #[.int .u64 page] 23)) (.cells #[.int .i64 0, .int .i8 0, .int .u64 0, .int .i64 0] 44)
  have e1 : (w.alloc (.cells #[.int .i64 asid] 3)).heap.size = w.heap.size + 1 := by simp
  have e2 : ((w.alloc (.cells #[.int .i64 asid] 3)).alloc (.cells #[.int .u64 page] 23)).heap.size = w.heap.size + 2 := by simp
  have hC := ((Arr.new w #[.int .i64 asid] 3).alloc (.cells #[.int .u64 page] 23)).alloc (.cells #[.int .i64 0, .int .i8 0, .int .u64 0, .int .i64 0] 44)
  have hD := e1 ▸ (Arr.new (w.alloc (.cells #[.int .i64 asid] 3)) #[.int .u64 page] 23).alloc (.cells #[.int .i64 0, .int .i8 0, .int .u64 0, .int .i64 0] 44)
  have hR := e2 ▸ Arr.new ((w.alloc (.cells #[.int .i64 asid] 3)).alloc (.cells #[.int .u64 page] 23)) #[.int .i64 0, .int .i8 0, .int .u64 0, .int .i64 0] 44
  have HB0 := Lib.hid hB0
  have HC := Lib.hid (show BCaught _ w.heap.size (w.heap.size + 1) asid page from ⟨hC.cell 0 _ rfl, hD.cell 0 _ rfl⟩)
  have HR := Lib.hid hR
  have HI := Lib.hid (hI.call hB0)
  clear hI hB0 e1 e2 hC hD hR
  go_enter Try.func16, Try.ntmps16
  go_wp2_with fail
  generalize ((w.alloc (.cells #[.int .i64 asid] 3)).alloc (.cells #[.int .u64 page] 23)).alloc (.cells #[.int .i64 0, .int .i8 0, .int .u64 0, .int .i64 0] 44) = W0 at *
  refine (kindS_any _).mono ?_
  rintro e w1 ⟨rfl, hb1⟩
  have HB1 := Lib.hid hb1
  clear hb1
  go_wp2_with fail
  refine (greatest_any O cap xs asid page w.heap.size (w.heap.size + 1) _ (HI.out.call HB1.out) hcap (HC.out.call HB1.out)).mono ?_
  rintro e w2 ⟨rfl, hb2⟩
  have HB2 := Lib.hid (bthen (bthen HB0.out HB1.out) hb2)
  have hR2 := (HR.out.call HB1.out).call hb2
  clear hb2 HR
  generalize hbo : bestO xs asid page = o at *
  have HBO := Lib.hid hbo
  clear hbo
  have r0 := hR2.cell 0 _ rfl
  have r1 := hR2.cell 1 _ rfl
  have r2 := hR2.cell 2 _ rfl
  have r3 := hR2.cell 3 _ rfl
  have f0 := hR2.frozen 0 (by simp)
  have f1 := hR2.frozen 1 (by simp)
  have f2 := hR2.frozen 2 (by simp)
  have f3 := hR2.frozen 3 (by simp)
  have lR := hR2.lt
  clear hR2
  go_wp2_with fail
  refine bodyPost_ret (v := .tuple #[.agg #[.int .i64 (o.getD zS).a, .int .i8 (o.getD zS).l, .int .u64 (o.getD zS).p, .int .i64 (o.getD zS).f], .bool o.isSome]) (by simp [results, Try.results16, go_sem, r0, r1, r2, r3]) rfl ⟨by first | rfl | rw [HBO.out], ?_⟩
  exact bs4 HB2.out (by omega) _ _ _ _
set_option maxHeartbeats 1000000 in
theorem find_out (O : Option Addr) (cap : Nat) (xs : List Tb) (asid page : Int) (w : World) (hI : RK encT 4 w O xs) (hcap : xs.length ≤ cap) :
    Calls Try.prog 10 #[.slice O xs.length cap, .int .i64 asid, .int .u64 page] w
      fun e w' => e = .returned (.tuple #[.agg #[.int .i64 ((fndO xs asid page).getD zT).a, .int .u64 ((fndO xs asid page).getD zT).p, .int .i64 ((fndO xs asid page).getD zT).f, .bool ((fndO xs asid page).getD zT).ro], .bool (fndO xs asid page).isSome]) ∧ Below w.heap.size w w' := by
  have HB0 := Lib.hid (ba (Below.refl w.heap.size w) (.cells #[.int .i64 0, .int .u64 0, .int .i64 0, .bool false] 25))
  have HR := Lib.hid (Arr.new w #[.int .i64 0, .int .u64 0, .int .i64 0, .bool false] 25)
  have HI := Lib.hid (hI.call HB0.out)
  clear hI
  go_enter Try.func10, Try.ntmps10
  go_wp2_with fail
  generalize w.alloc (.cells #[.int .i64 0, .int .u64 0, .int .i64 0, .bool false] 25) = W0 at *
  refine (kindT_any _).mono ?_
  rintro e w1 ⟨rfl, hb1⟩
  have HB1 := Lib.hid (ba hb1 (.cells #[.int .i64 8, .func (.func 57) #[] #[], .func (.func 59) #[] #[]] 61))
  have HK1 := Lib.hid (Arr.new w1 #[.int .i64 8, .func (.func 57) #[] #[], .func (.func 59) #[] #[]] 61)
  have HR1 := Lib.hid ((HR.out.call hb1).alloc (.cells #[.int .i64 8, .func (.func 57) #[] #[], .func (.func 59) #[] #[]] 61))
  clear hb1 HR
  go_wp2_with fail
  generalize w1.heap.size = Y at *
  generalize w1.alloc (.cells #[.int .i64 8, .func (.func 57) #[] #[], .func (.func 59) #[] #[]] 61) = W1 at *
  refine (checkT_any O cap xs _ (HI.out.call HB1.out) hcap).mono ?_
  rintro e w2 ⟨rfl, hb2⟩
  have HB2 := Lib.hid (bthen HB1.out hb2)
  have HR2 := Lib.hid (HR1.out.call hb2)
  have HK2 := Lib.hid (HK1.out.call hb2)
  clear hb2 HB1 HR1 HK1
  rcases ckE_cases mayT plT 8 xs with ⟨hk, h2⟩ | ⟨hk, h2⟩
  · rw [h2]
    have h8 := hk.1
    have HE := Lib.hid (show fndO xs asid page = (fdx plT xs (asid, 0, page)).bind (fun n => xs[n]?) from if_pos hk)
    clear h2 hk
    have k0 := HK2.out.cell 0 _ rfl
    have k1 := HK2.out.cell 1 _ rfl
    have k2 := HK2.out.cell 2 _ rfl
    go_wp2_with fail
    refine (findT_any O cap xs asid 0 page _ (HI.out.call HB2.out) hcap (by omega)).mono ?_
    rintro e w3 ⟨rfl, hb3⟩
    have HB3 := Lib.hid (bthen HB0.out (bthen HB2.out hb3))
    have HR3 := Lib.hid (HR2.out.call hb3)
    have HI3 := Lib.hid ((HI.out.call HB2.out).call hb3)
    clear hb3 HB2 HR2 HK2 k0 k1 k2
    have r0 := HR3.out.cell 0 _ rfl
    have r1 := HR3.out.cell 1 _ rfl
    have r2 := HR3.out.cell 2 _ rfl
    have r3 := HR3.out.cell 3 _ rfl
    have f0 := HR3.out.frozen 0 (by simp)
    have f1 := HR3.out.frozen 1 (by simp)
    have f2 := HR3.out.frozen 2 (by simp)
    have f3 := HR3.out.frozen 3 (by simp)
    have lR := HR3.out.lt
    rcases fv_cases (pl := plT) xs (asid, 0, page) with ⟨n, h1, h2, h3⟩ | ⟨h1, h2⟩
    · obtain ⟨x, hx⟩ : ∃ x, xs[n]? = some x := ⟨xs[n], List.getElem?_eq_getElem h3⟩
      have HE2 := Lib.hid (show fndO xs asid page = some x from by rw [HE.out, h1]; exact hx)
      rw [h2]
      obtain ⟨b, off, hO, hcell⟩ := HI3.out (by omega)
      subst hO
      obtain ⟨c0, c1, c2, c3⟩ := tb_cells hx hcell
      obtain ⟨len, hlen⟩ : ∃ len, len = xs.length := ⟨_, rfl⟩
      rw [← hlen] at h3 hcap h8 ⊢
      have j0 : (0 : Int) ≤ (n : Int) := by omega
      have j1 : (n : Int) < (len : Int) := by omega
      have hbl : ¬ b = w.heap.size ∨ True := Or.inr trivial
      clear h1 h2 hx hcell hlen hbl
      go_wp2_with fail
      refine bodyPost_ret (v := .tuple #[.agg #[.int .i64 x.a, .int .u64 x.p, .int .i64 x.f, .bool x.ro], .bool true]) (by simp [results, Try.results10, go_sem, r0, r1, r2, r3]) rfl ⟨by rw [HE2.out]; rfl, ?_⟩
      exact bs4 HB3.out (Nat.le_refl _) _ _ _ _
    · have HE2 := Lib.hid (show fndO xs asid page = none from by rw [HE.out, h1]; rfl)
      rw [h2]
      clear h1 h2
      go_wp2_with fail
      refine bodyPost_ret (v := .tuple #[.agg #[.int .i64 0, .int .u64 0, .int .i64 0, .bool false], .bool false]) (by simp [results, Try.results10, go_sem, r0, r1, r2, r3]) rfl ⟨by rw [HE2.out]; rfl, ?_⟩
      exact bs4 HB3.out (Nat.le_refl _) _ _ _ _
  · have HE2 := Lib.hid (show fndO xs asid page = none from if_neg hk)
    rw [h2]
    clear hk h2
    have HB3 := Lib.hid (bthen HB0.out HB2.out)
    have r0 := HR2.out.cell 0 _ rfl
    have r1 := HR2.out.cell 1 _ rfl
    have r2 := HR2.out.cell 2 _ rfl
    have r3 := HR2.out.cell 3 _ rfl
    have f0 := HR2.out.frozen 0 (by simp)
    have f1 := HR2.out.frozen 1 (by simp)
    have f2 := HR2.out.frozen 2 (by simp)
    have f3 := HR2.out.frozen 3 (by simp)
    have lR := HR2.out.lt
    go_wp2_with fail
    refine bodyPost_ret (v := .tuple #[.agg #[.int .i64 0, .int .u64 0, .int .i64 0, .bool false], .bool false]) (by simp [results, Try.results10, go_sem, r0, r1, r2, r3]) rfl ⟨by rw [HE2.out]; rfl, ?_⟩
    exact bs4 HB3.out (Nat.le_refl _) _ _ _ _
end Go.Proofs.Ytencifnopfianaa
