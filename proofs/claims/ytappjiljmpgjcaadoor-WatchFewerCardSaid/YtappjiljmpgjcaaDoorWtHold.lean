/-
  Layer 29: Holders.
-/
import Derived.Test.YtappjiljmpgjcaaDoorWtUnl1
namespace Go.Proofs.YtappjiljmpgjcaaDoor
open Go.RowKit Go.Maps
set_option linter.unusedVariables false
set_option linter.unusedSimpArgs false
theorem encI_len (x : Int) : (encI x).length = 1 := rfl
theorem encI_one (x : Int) : ∀ u ∈ encI x, u.oneCell' = true := by intro u hu; simp [encI] at hu; subst hu; rfl
theorem infoInt : (Tryd.prog.info? 3).map (fun i => (i.zero, i.size, i.bytes)) = some (some (.int .i64 0), 1, 8) := by kernel_rfl
theorem info_parts {t : TypeId} {z : Value} {s b : Nat} (h : (Tryd.prog.info? t).map (fun i => (i.zero, i.size, i.bytes)) = some (some z, s, b)) : ∃ i, Tryd.prog.info? t = some i ∧ i.zero = some z ∧ i.size = s ∧ i.bytes = b := by
  cases hi : Tryd.prog.info? t with
  | none => rw [hi] at h; simp at h
  | some i =>
    rw [hi] at h
    simp at h
    exact ⟨i, rfl, h.1, h.2.1, h.2.2⟩
def holds (c : Co) : Bool := c.wk.on && (decide (c.wk.ph = 3) && c.wk.dl.any (fun y => decide (y.k = 12)))
/-- The cores from place n on that have the lock. -/
def holdL : List Co → Nat → List Int
  | [], _ => []
  | c :: l, n => (if n ≠ 0 ∧ holds c = true then [(n : Int)] else []) ++ holdL l (n + 1)
def holdK (cl : List Co) (k : Nat) : List Int := holdL (cl.take k) 0
theorem holdL_snoc : ∀ (l : List Co) (n : Nat) (x : Co), holdL (l ++ [x]) n = holdL l n ++ (if n + l.length ≠ 0 ∧ holds x = true then [((n + l.length : Nat) : Int)] else [])
  | [], n, x => by simp [holdL]
  | c :: l, n, x => by
    have e : n + 1 + l.length = n + (c :: l).length := by simp; omega
    rw [List.cons_append, holdL, holdL, holdL_snoc l (n + 1) x, e, List.append_assoc]
theorem holdK_succ {cl : List Co} {k : Nat} {x : Co} (hx : cl[k]? = some x) : holdK cl (k + 1) = holdK cl k ++ (if k ≠ 0 ∧ holds x = true then [(k : Int)] else []) := by
  have hk : k < cl.length := (List.getElem?_eq_some_iff.1 hx).1
  unfold holdK
  rw [List.take_add_one, hx, Option.toList_some, holdL_snoc, List.length_take, Nat.min_eq_left (by omega), Nat.zero_add]
theorem holdL_len : ∀ (l : List Co) (n : Nat), (holdL l n).length ≤ l.length
  | [], _ => Nat.le_refl _
  | c :: l, n => by
    have := holdL_len l (n + 1)
    rw [holdL, List.length_append, List.length_cons]
    split <;> simp <;> omega
set_option maxRecDepth 100000 in
set_option maxHeartbeats 4000000 in
theorem holders_any (s : Sn) (w : World) (hs : s.Given w) (hm : Sml s) :
    Calls Tryd.prog 13 #[snA s] w fun e w' => (∃ (O : Option Addr) (cap : Nat), e = .returned (.slice O (holdL s.cl 0).length cap)) ∧ Below w.heap.size w w' := by
  have HS := Lib.hid hs
  have HM := Lib.hid hm
  have hcl : s.cl.length ≤ 6 := hm.ncl
  have hbk := Bk.new w 26 (snR s)
  obtain ⟨i0, hi, hz0, hz1, hz2⟩ := info_parts infoInt
  clear hs hm
  go_enter Tryd.func13, Tryd.ntmps13
  go_upto_region 2 with fail
  refine (show ∀ W1 : World, Below w.heap.size w W1 → Bk W1 w.heap.size 26 (snR s) → Code.wp _ _ _ _ W1 from fun W1 hb1 h1 => ?_) _ (ba (Below.refl _ _) _) hbk
  have x0 : W1.cell? ⟨w.heap.size, 0, none⟩ = some (.slice s.cO s.cl.length s.cc) := h1.cell 0
  have HB1 := Lib.hid hb1
  clear hbk hb1 h1
  go_step3
  go_wp2_with fail
  go_step3
  go_wp2_with fail
  clear x0
  go_loopw [3, 11] (fun v i wr => ∃ k : Nat, k ≤ s.cl.length ∧ i = .int .i64 k ∧ Ow encI 1 3 wr w.heap.size v (holdK s.cl k) ∧ Below w.heap.size w wr) (fun _ i _ => s.cl.length - (intOf i).toNat)
  case atStart => exact ⟨0, by omega, rfl, Ow.nil _ _ _, HB1.out⟩
  case round =>
    obtain ⟨k, hk, rfl, hO, hB⟩ := hrel
    have HO := Lib.hid hO
    have HB := Lib.hid hB
    clear hO hB
    by_cases hlt : k < s.cl.length
    · obtain ⟨x, hx⟩ : ∃ x, s.cl[k]? = some x := ⟨_, List.getElem?_eq_getElem hlt⟩
      obtain ⟨b, off, hO2, hrg⟩ := rk_range HS.out.gc HB.out hx
      have HX := Lib.hid (HS.out.gcall x (List.mem_of_getElem? hx))
      have HNt := Lib.hid (HM.out.nt x (List.mem_of_getElem? hx))
      have HSU := Lib.hid (holdK_succ hx)
      have HLN := Lib.hid (show (holdK s.cl k).length ≤ 100000 from by have h1 := holdL_len (s.cl.take k) 0; rw [List.length_take] at h1; unfold holdK; omega)
      have HHO := Lib.hid (show holds x = (x.wk.on && (decide (x.wk.ph = 3) && x.wk.dl.any (fun y => decide (y.k = 12)))) from rfl)
      have HR := Lib.hid hrg
      have HKz := Lib.hid (Bk.new wr 44 zCo)
      clear hrg hx
      rw [hO2]
      go_upto_region 5 with (first | refine get_Co rfl _ rfl b (off + k * 28) x rfl HR.out ?_ | refine box_Co rfl _ _ rfl wr.heap.size x _ rfl rfl HKz.out rfl ?_)
      refine (show ∀ W8 : World, Below wr.heap.size wr W8 → Bk W8 wr.heap.size 44 (coC x).toArray → Code.wp _ _ _ _ W8 from fun W8 hb8 hk8 => ?_) _ (brow (ba (Below.refl _ _) _) (Nat.le_refl _) _) (HKz.out.row _)
      have HB8 := Lib.hid (bthen HB.out hb8)
      have HO8 := Lib.hid (HO.out.call hb8)
      have q3 : W8.cell? ⟨wr.heap.size, 3, none⟩ = some (.bool x.wk.on) := hk8.cell 3
      have q10 : W8.cell? ⟨wr.heap.size, 10, none⟩ = some (.int .i8 x.wk.ph) := hk8.cell 10
      have q12 : W8.cell? ⟨wr.heap.size, 12, none⟩ = some (.slice x.wk.dO x.wk.dl.length x.wk.dc) := hk8.cell 12
      clear hb8 hk8 HKz HR HB HO
      by_cases k0 : k = 0
      · subst k0
        have HSk := Lib.hid (show holdK s.cl (0 + 1) = holdK s.cl 0 by rw [HSU.out]; simp)
        go_wp2_with fail
        go_roundw
        case rel => exact ⟨1, by omega, by go_num, by rw [HSk.out]; exact HO8.out, HB8.out⟩
        case measure => simp [intOf]; omega
      · have kb : ((k : Int) == 0) = false := by simp; omega
        cases hon : x.wk.on with
        | false =>
          have HSk := Lib.hid (show holdK s.cl (k + 1) = holdK s.cl k by rw [HSU.out, HHO.out, hon]; simp)
          rw [hon] at q3
          clear hon
          go_wp2_with fail
          go_roundw
          case rel => exact ⟨k + 1, by omega, by go_num, by rw [HSk.out]; exact HO8.out, HB8.out⟩
          case measure => simp [intOf]; omega
        | true =>
          rw [hon] at q3
          by_cases p3 : x.wk.ph = 3
          · have HH2 := Lib.hid (show holds x = x.wk.dl.any (fun y => decide (y.k = 12)) by rw [HHO.out, hon, p3]; rfl)
            rw [p3] at q10
            clear hon
            go_wp2_with fail
            clear q3 q10 q12
            obtain ⟨wo, hwo⟩ : ∃ wo : World, wo = W8 := ⟨_, rfl⟩
            have hl200 : x.wk.dl.length ≤ 200 := HNt.out.2.2.2
            go_loopw [3, 34] (fun v' i wr => ∃ m : Nat, m ≤ x.wk.dl.length ∧ i = .int .i64 m ∧ Ow encI 1 3 wr w.heap.size v' (holdK s.cl k) ∧ holds x = (x.wk.dl.drop m).any (fun y => decide (y.k = 12)) ∧ Below wo.heap.size wo wr) (fun _ i _ => x.wk.dl.length - (intOf i).toNat)
            case atStart => exact ⟨0, by omega, rfl, HO8.out, HH2.out, by rw [hwo]; exact Below.refl _ _⟩
            case round =>
              rw [← hwo] at HB8
              clear hwo HO8
              obtain ⟨m, hm, rfl, hO, hany, hB⟩ := hrel
              have HO8 := Lib.hid hO
              clear hO
              have HA := Lib.hid hany
              have HB := Lib.hid (bthen HB8.out hB)
              have HBr := Lib.hid hB
              clear hany hB
              by_cases hlt2 : m < x.wk.dl.length
              · obtain ⟨y, hy⟩ : ∃ y, x.wk.dl[m]? = some y := ⟨_, List.getElem?_eq_getElem hlt2⟩
                obtain ⟨tb, tof, hO3, hrg⟩ := rk_range HX.out.gwk.gd HB.out hy
                have hdr : x.wk.dl.drop m = y :: x.wk.dl.drop (m + 1) := by
                  obtain ⟨h1, rfl⟩ := List.getElem?_eq_some_iff.1 hy
                  exact List.drop_eq_getElem_cons h1
                rw [hdr, List.any_cons] at HA
                have HR := Lib.hid hrg
                have HKz := Lib.hid (Bk.new wr 85 zAn)
                clear hrg hy hdr
                rw [hO3]
                go_upto_region 9 with (first | refine get_An rfl _ rfl tb (tof + m * 13) y rfl HR.out ?_ | refine box_An rfl _ _ rfl wr.heap.size y _ rfl rfl HKz.out rfl ?_)
                refine (show ∀ W8 : World, Below wr.heap.size wr W8 → Bk W8 wr.heap.size 85 (anC y).toArray → Code.wp _ _ _ _ W8 from fun W9 hb9 hk9 => ?_) _ (brow (ba (Below.refl _ _) _) (Nat.le_refl _) _) (HKz.out.row _)
                have HB9 := Lib.hid (bthen HB.out hb9)
                have HBr9 := Lib.hid (bthen HBr.out hb9)
                have qk : W9.cell? ⟨wr.heap.size, 0, none⟩ = some (.int .i8 y.k) := hk9.cell 0
                have HO9 := Lib.hid (HO8.out.call hb9)
                clear hb9 hk9 HKz HR HB HBr
                by_cases k12 : y.k = 12
                · have HSk := Lib.hid (show holdK s.cl (k + 1) = holdK s.cl k ++ [(k : Int)] by rw [HSU.out, HA.out, k12]; simp [k0])
                  rw [k12] at qk
                  have HOA := Lib.hid (HO9.out.call (ba (Below.refl _ _) (.cells #[.int .i64 k] 3)))
                  have HBA := Lib.hid (ba HB9.out (.cells #[.int .i64 k] 3))
                  have HN := Lib.hid (show ∀ (j : Nat) (u : Value), (encI (k : Int))[j]? = some u → (W9.alloc (.cells #[.int .i64 k] 3)).cell? ⟨W9.heap.size, j, none⟩ = some u from fun j u hu => (Arr.new W9 #[.int .i64 k] 3).cell j u hu)
                  clear hl200
                  go_wp2_with (at_builtin; refine wp_snoc (enc := encI) rfl _ _ 59 rfl w.heap.size 3 i0 _ 8 Tryd.underlying59 hi hz0 hz1 hz2 rfl (by decide) encI_len _ _ rfl HOA.out (k : Int) W9.heap.size rfl HN.out (encI_one _) HLN.out (by decide) w HBA.out (Nat.le_refl _) ?_; intro v' w' o1 o2; have HO1 := Lib.hid o1; have HB1 := Lib.hid o2; clear o1 o2)
                  go_roundw
                  case rel => exact ⟨k + 1, by omega, by go_num, by rw [HSk.out]; exact HO1.out, HB1.out⟩
                  case measure => simp [intOf]; omega
                · have HA2 := Lib.hid (show holds x = (x.wk.dl.drop (m + 1)).any (fun y => decide (y.k = 12)) by rw [HA.out]; simp [k12])
                  have kb2 : (y.k == 12) = false := by simp [k12]
                  go_wp2_with fail
                  go_roundw
                  case rel => exact ⟨m + 1, by omega, by go_num, HO9.out, HA2.out, HBr9.out⟩
                  case measure => simp [intOf]; omega
              · obtain rfl : m = x.wk.dl.length := by omega
                have HSk := Lib.hid (show holdK s.cl (k + 1) = holdK s.cl k by rw [HSU.out, HA.out, List.drop_length]; simp)
                go_wp2_with fail
                go_roundw
                case rel => exact ⟨k + 1, by omega, by go_num, by rw [HSk.out]; exact HO8.out, HB.out⟩
                case measure => simp [intOf]; omega
          · have HSk := Lib.hid (show holdK s.cl (k + 1) = holdK s.cl k by rw [HSU.out, HHO.out, hon]; simp [p3])
            have pb : (x.wk.ph != 3) = true := by simp [p3]
            clear hon
            go_wp2_with fail
            go_roundw
            case rel => exact ⟨k + 1, by omega, by go_num, by rw [HSk.out]; exact HO8.out, HB8.out⟩
            case measure => simp [intOf]; omega
    · obtain rfl : k = s.cl.length := by omega
      obtain ⟨O, cap, rfl, -⟩ := HO.out.form encI_len
      have HLe := Lib.hid (show holdK s.cl s.cl.length = holdL s.cl 0 by unfold holdK; rw [List.take_length])
      go_wp2_with fail
      rw [Exit.noGoto_ret]
      go_ret
      exact ⟨⟨O, cap, by rw [HLe.out]; rfl⟩, HB.out⟩
end Go.Proofs.YtappjiljmpgjcaaDoor
