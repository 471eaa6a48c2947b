/-
  Layer 29: Maps.
-/
import Derived.Test.YtappjiljmpgjcaaDoorWtWay
import Derived.Deep.RegionHeld
import Derived.Deep.RegionHeld3
namespace Go.Proofs.YtappjiljmpgjcaaDoor
open Go.RowKit Go.Maps
set_option linter.unusedVariables false
set_option linter.unusedSimpArgs false
def mapsP (s : Sn) (sp page : Int) : Int × Bool × Bool := if 1 ≤ sp ∧ sp < s.sl.length ∧ page < 34359738368 then wayP s ((s.sl[sp.toNat]?).getD Ss.z).rt page else (0, false, false)
theorem lookO (s : Sn) (O : Option Addr) (hO : s.sO = O) (w w0 : World) (hb : Below w0.heap.size w0 w) :
    Calls Tryd.prog 14 #[.agg #[.slice s.cO s.cl.length s.cc, .slice O s.sl.length s.sc, .slice s.fO s.fl.length s.fc]] w fun e w' => e = .returned (.pointer (some ⟨w.heap.size + 2, 0, none⟩)) ∧ Vx w0 (fun _ => False) w' (w.heap.size + 2) s none ∧ Below w.heap.size w w' := by
  subst hO
  exact wtLook_any s w w0 (fun _ => False) hb (fun _ h => h.elim)
set_option maxRecDepth 100000 in
set_option maxHeartbeats 4000000 in
theorem maps_any (s : Sn) (sp page : Int) (w : World) (hs : s.Given w) (hn : s.fl.length ≤ 1000) (hG : G w) (hp : U64 page) :
    Calls Tryd.prog 9 #[snA s, .int .i64 sp, .int .u64 page] w fun e w' => e = .returned (wayV (mapsP s sp page)) ∧ Below w.heap.size w w' := by
  have HS := Lib.hid hs
  have HN := Lib.hid hn
  have HG := Lib.hid hG
  have HPG := Lib.hid hp
  have hsl : s.sl.length ≤ 9223372036854775807 := Nat.le_trans hs.gsle hs.gsle2
  have hbk := Bk.new w 26 (snR s)
  clear hs hn hG hp
  by_cases c1 : 1 ≤ sp ∧ sp < s.sl.length ∧ page < 34359738368
  · obtain ⟨a1, a2, a3⟩ := c1
    obtain ⟨k, rfl⟩ := Int.eq_ofNat_of_zero_le (show 0 ≤ sp by omega)
    have hklt : (k : Int) < s.sl.length := a2
    have hkl : k < s.sl.length := by omega
    obtain ⟨x, hx⟩ : ∃ x, s.sl[k]? = some x := ⟨_, List.getElem?_eq_getElem hkl⟩
    obtain ⟨b, off, hO, hc⟩ := HS.out.gs (by omega)
    have q1 : w.cell? ⟨b, off + k * 4 + 1, none⟩ = some (.int .i64 x.rt) := hc k x hx 1 _ rfl
    have hblt : b < w.heap.size := World.block_lt_of_cell? w ⟨b, off + k * 4 + 1, none⟩ q1
    have HRT := Lib.hid ((HS.out.gsall x (List.mem_of_getElem? hx)).grt)
    have HM := Lib.hid (show mapsP s k page = wayP s x.rt page by
      unfold mapsP
      rw [if_pos ⟨a1, a2, a3⟩, show ((k : Nat) : Int).toNat = k from rfl, hx]
      rfl)
    have HO := Lib.hid hO
    clear hc hx hkl hO
    go_enter Tryd.func9, Tryd.ntmps9
    go_upto_region 1 with fail
    refine (show ∀ W1 : World, Below w.heap.size w W1 → Bk W1 w.heap.size 26 (snR s) → W1.cell? ⟨b, off + k * 4 + 1, none⟩ = some (.int .i64 x.rt) → Code.wp _ _ _ _ W1 from fun W1 hb1 h1 q1 => ?_) _ (ba (Below.refl _ _) _) hbk (((ba (Below.refl w.heap.size w) (.cells (snR s) 26)).cell (p := ⟨b, off + k * 4 + 1, none⟩) hblt).trans q1)
    have x0 : W1.cell? ⟨w.heap.size, 0, none⟩ = some (.slice s.cO s.cl.length s.cc) := h1.cell 0
    have x1 : W1.cell? ⟨w.heap.size, 1, none⟩ = some (.slice s.sO s.sl.length s.sc) := h1.cell 1
    have x2 : W1.cell? ⟨w.heap.size, 2, none⟩ = some (.slice s.fO s.fl.length s.fc) := h1.cell 2
    rw [HO.out] at x1
    have hXlt : w.heap.size < W1.heap.size := h1.lt
    have hblt : b < W1.heap.size := by have := hb1.size; omega
    have HB1 := Lib.hid hb1
    clear hbk hb1 h1
    go_upto_region 3 with fail
    rename_i hKJ
    have hKJ := Lib.hid hKJ
    refine wp_region_noPanic ?_
    refine wp_region_held_drew (S := fun w' => Below W1.heap.size W1 w') (by kernel_rfl) (bd (Below.refl _ _)) (fun hHeld => ?_)
    refine wpAnyH_take (i := 0) (oi := ⟨_, _, _, _, _, _⟩) (v := ?v0) rfl (by kernel_rfl) (by kernel_rfl) (by kernel_rfl) (fun _ _ _ h => h) (Or.inl ⟨by rfl, ?hy0⟩) hHeld ?rest0
    case hy0 => (intro w' hSw; have x0 := (hSw.cell (p := ⟨w.heap.size, 0, none⟩) hXlt).trans x0; have x1 := (hSw.cell (p := ⟨w.heap.size, 1, none⟩) hXlt).trans x1; have x2 := (hSw.cell (p := ⟨w.heap.size, 2, none⟩) hXlt).trans x2; have q1 := (hSw.cell (p := ⟨b, off + k * 4 + 1, none⟩) hblt).trans q1; go_simp; (try rw [if_pos hklt]); try with_reducible rfl)
    try simp only [Act.put, List.setIfInBounds_toArray, List.set_cons_zero, List.set_cons_succ]
    refine wpAnyH_take (i := 2) (oi := ⟨_, _, _, _, _, _⟩) (v := ?v2) rfl (by kernel_rfl) (by kernel_rfl) (by kernel_rfl) (fun _ _ _ h => h) (Or.inl ⟨by rfl, ?hy2⟩) hHeld ?rest2
    case hy2 => (intro w' hSw; go_simp; (try rw [if_pos hklt]); try with_reducible rfl)
    try simp only [Act.put, List.setIfInBounds_toArray, List.set_cons_zero, List.set_cons_succ]
    refine wpAnyH_take (i := 3) (oi := ⟨_, _, _, _, _, _⟩) (v := ?v3) rfl (by kernel_rfl) (by kernel_rfl) (by kernel_rfl) (fun _ _ _ h => h) (Or.inl ⟨by rfl, ?hy3⟩) hHeld ?rest3
    case hy3 => (intro w' hSw; have x0 := (hSw.cell (p := ⟨w.heap.size, 0, none⟩) hXlt).trans x0; have x1 := (hSw.cell (p := ⟨w.heap.size, 1, none⟩) hXlt).trans x1; have x2 := (hSw.cell (p := ⟨w.heap.size, 2, none⟩) hXlt).trans x2; have q1 := (hSw.cell (p := ⟨b, off + k * 4 + 1, none⟩) hblt).trans q1; go_simp; (try rw [if_pos hklt]); try with_reducible rfl)
    try simp only [Act.put, List.setIfInBounds_toArray, List.set_cons_zero, List.set_cons_succ]
    refine wpAnyH_take (i := 4) (oi := ⟨_, _, _, _, _, _⟩) (v := ?v4) rfl (by kernel_rfl) (by kernel_rfl) (by kernel_rfl) (fun _ _ _ h => h) (Or.inl ⟨by rfl, ?hy4⟩) hHeld ?rest4
    case hy4 => (intro w' hSw; go_simp; (try rw [if_pos hklt]); try with_reducible rfl)
    try simp only [Act.put, List.setIfInBounds_toArray, List.set_cons_zero, List.set_cons_succ]
    refine wpAnyH_take (i := 5) (oi := ⟨_, _, _, _, _, _⟩) (v := ?v5) rfl (by kernel_rfl) (by kernel_rfl) (by kernel_rfl) (fun _ _ _ h => h) (Or.inl ⟨by rfl, ?hy5⟩) hHeld ?rest5
    case hy5 => (intro w' hSw; go_simp; (try rw [if_pos hklt]); try with_reducible rfl)
    try simp only [Act.put, List.setIfInBounds_toArray, List.set_cons_zero, List.set_cons_succ]
    refine wpAnyH_take (i := 6) (oi := ⟨_, _, _, _, _, _⟩) (v := ?v6) rfl (by kernel_rfl) (by kernel_rfl) (by kernel_rfl) (fun _ _ _ h => h) (Or.inl ⟨by rfl, ?hy6⟩) hHeld ?rest6
    case hy6 => (intro w' hSw; go_simp; (try rw [if_pos hklt]); try with_reducible rfl)
    try simp only [Act.put, List.setIfInBounds_toArray, List.set_cons_zero, List.set_cons_succ]
    refine wpAnyH_take (i := 7) (oi := ⟨_, _, _, _, _, _⟩) (v := ?v7) rfl (by kernel_rfl) (by kernel_rfl) (by kernel_rfl) (fun _ _ _ h => h) (Or.inl ⟨by rfl, ?hy7⟩) hHeld ?rest7
    case hy7 => (intro w' hSw; have x0 := (hSw.cell (p := ⟨w.heap.size, 0, none⟩) hXlt).trans x0; have x1 := (hSw.cell (p := ⟨w.heap.size, 1, none⟩) hXlt).trans x1; have x2 := (hSw.cell (p := ⟨w.heap.size, 2, none⟩) hXlt).trans x2; have q1 := (hSw.cell (p := ⟨b, off + k * 4 + 1, none⟩) hblt).trans q1; go_simp; (try rw [if_pos hklt]); try with_reducible rfl)
    try simp only [Act.put, List.setIfInBounds_toArray, List.set_cons_zero, List.set_cons_succ]
    refine wpAnyH_take (i := 8) (oi := ⟨_, _, _, _, _, _⟩) (v := ?v8) rfl (by kernel_rfl) (by kernel_rfl) (by kernel_rfl) (fun _ _ _ h => h) (Or.inl ⟨by rfl, ?hy8⟩) hHeld ?rest8
    case hy8 => (intro w' hSw; go_simp; (try rw [if_pos hklt]); try with_reducible rfl)
    try simp only [Act.put, List.setIfInBounds_toArray, List.set_cons_zero, List.set_cons_succ]
    refine wpAnyH_ready (rs := [1]) (by kernel_rfl) (by simp) ?_
    refine AllReadyH.cons (o := ⟨_, _, _, _, _, _⟩) rfl (fun K hK => ?_) AllReadyH.nil
    go_simp
    refine (lookO s _ HO.out _ W1 hHeld).mono ?_
    rintro e wr1 ⟨rfl, hv, hb⟩
    go_wp2_with fail
    have hB2 := (by first | exact bthen hHeld hb | exact hvb)
    clear hHeld hb
    refine hK.out _ _ hB2 (fun hHeld => ?_)
    clear hB2 hK K
    try simp only [Act.put, List.setIfInBounds_toArray, List.set_cons_zero, List.set_cons_succ]
    refine wpAnyH_ready (rs := [9]) (by kernel_rfl) (by simp) ?_
    refine AllReadyH.cons (o := ⟨_, _, _, _, _, _⟩) rfl (fun K hK => ?_) AllReadyH.nil
    go_simp
    refine (wtWay_any x.rt page HRT.out HPG.out hv (HS.out.call HB1.out) (HG.out.call HB1.out) HN.out (fun _ h => h.elim)).mono ?_
    rintro e wr2 ⟨rfl, hv2, hk2⟩
    have hvb := hv2.below
    have hb := True.intro
    simp only [wayV]
    go_wp2_with fail
    have hB2 := (by first | exact bthen hHeld hb | exact hvb)
    clear hHeld hb
    refine hK.out _ _ hB2 (fun hHeld => ?_)
    clear hB2 hK K
    try simp only [Act.put, List.setIfInBounds_toArray, List.set_cons_zero, List.set_cons_succ]
    refine wpAnyH_take (i := 10) (oi := ⟨_, _, _, _, _, _⟩) (v := ?v10) rfl (by kernel_rfl) (by kernel_rfl) (by kernel_rfl) (fun _ _ _ h => h) (Or.inl ⟨by rfl, ?hy10⟩) hHeld ?rest10
    case hy10 => (intro w' hSw; go_simp; (try rw [if_pos hklt]); try with_reducible rfl)
    try simp only [Act.put, List.setIfInBounds_toArray, List.set_cons_zero, List.set_cons_succ]
    refine wpAnyH_take (i := 11) (oi := ⟨_, _, _, _, _, _⟩) (v := ?v11) rfl (by kernel_rfl) (by kernel_rfl) (by kernel_rfl) (fun _ _ _ h => h) (Or.inl ⟨by rfl, ?hy11⟩) hHeld ?rest11
    case hy11 => (intro w' hSw; go_simp; (try rw [if_pos hklt]); try with_reducible rfl)
    try simp only [Act.put, List.setIfInBounds_toArray, List.set_cons_zero, List.set_cons_succ]
    refine wpAnyH_take (i := 12) (oi := ⟨_, _, _, _, _, _⟩) (v := ?v12) rfl (by kernel_rfl) (by kernel_rfl) (by kernel_rfl) (fun _ _ _ h => h) (Or.inl ⟨by rfl, ?hy12⟩) hHeld ?rest12
    case hy12 => (intro w' hSw; go_simp; (try rw [if_pos hklt]); try with_reducible rfl)
    try simp only [Act.put, List.setIfInBounds_toArray, List.set_cons_zero, List.set_cons_succ]
    refine wpAnyH_take (i := 13) (oi := ⟨_, _, _, _, _, _⟩) (v := ?v13) rfl (by kernel_rfl) (by kernel_rfl) (by kernel_rfl) (fun _ _ _ h => h) (Or.inl ⟨by rfl, ?hy13⟩) hHeld ?rest13
    case hy13 => (intro w' hSw; go_simp; (try rw [if_pos hklt]); try with_reducible rfl)
    try simp only [Act.put, List.setIfInBounds_toArray, List.set_cons_zero, List.set_cons_succ]
    refine wpAnyH_take (i := 14) (oi := ⟨_, _, _, _, _, _⟩) (v := ?v14) rfl (by kernel_rfl) (by kernel_rfl) (by kernel_rfl) (fun _ _ _ h => h) (Or.inl ⟨by rfl, ?hy14⟩) hHeld ?rest14
    case hy14 => (intro w' hSw; go_simp; (try rw [if_pos hklt]); try with_reducible rfl)
    try simp only [Act.put, List.setIfInBounds_toArray, List.set_cons_zero, List.set_cons_succ]
    refine wpAnyH_take (i := 15) (oi := ⟨_, _, _, _, _, _⟩) (v := ?v15) rfl (by kernel_rfl) (by kernel_rfl) (by kernel_rfl) (fun _ _ _ h => h) (Or.inl ⟨by rfl, ?hy15⟩) hHeld ?rest15
    case hy15 => (intro w' hSw; go_simp; (try rw [if_pos hklt]); try with_reducible rfl)
    try simp only [Act.put, List.setIfInBounds_toArray, List.set_cons_zero, List.set_cons_succ]
    refine wpAnyH_done (by kernel_rfl) ?_ _
    refine hKJ.out _ _ ?_
    clear hKJ
    go_wp2_with fail
    go_ret3
    exact ⟨by rw [HM.out]; rfl, bthen HB1.out hHeld⟩
  · have HM := Lib.hid (show mapsP s sp page = (0, false, false) from if_neg c1)
    have x1 := hbk.cell 1
    by_cases a1 : 1 ≤ sp
    · by_cases a2 : sp < s.sl.length
      · have a3 : 34359738368 ≤ page := by omega
        go_enter Tryd.func9, Tryd.ntmps9
        go_wp2_with fail
        go_ret3
        exact ⟨by rw [HM.out]; rfl, ba (Below.refl _ _) _⟩
      · go_enter Tryd.func9, Tryd.ntmps9
        go_wp2_with fail
        go_ret3
        exact ⟨by rw [HM.out]; rfl, ba (Below.refl _ _) _⟩
    · go_enter Tryd.func9, Tryd.ntmps9
      go_wp2_with fail
      go_ret3
      exact ⟨by rw [HM.out]; rfl, ba (Below.refl _ _) _⟩
end Go.Proofs.YtappjiljmpgjcaaDoor
