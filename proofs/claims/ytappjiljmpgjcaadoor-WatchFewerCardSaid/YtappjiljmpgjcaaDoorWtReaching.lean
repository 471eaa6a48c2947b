/-
  Layer 29: Reaching, Holders.
-/
import Derived.Test.YtappjiljmpgjcaaDoorWtReach
import Derived.BigFrame
namespace Go.Proofs.YtappjiljmpgjcaaDoor
open Go.RowKit Go.Maps Go.Shelf
set_option linter.unusedVariables false
set_option linter.unusedSimpArgs false
def findR (q : Co → Bool) : List Co → Nat → Option Nat
  | [], _ => none
  | c :: l, n => if n ≠ 0 ∧ q c = true then some n else findR q l (n + 1)
def reaV : Option Nat → Value
  | none => .tuple #[.int .i64 0, .bool false]
  | some n => .tuple #[.int .i64 n, .bool true]
theorem unbox_CoW {w : World} {ops : Array Oper} {rest : List Oper} {o : Oper} {a : Go.Act} {QQ : Exit → Go.Act → World → Prop} (hw : Region.wanted o (yielded ops a.tmps) = true) (y : Operand) (ho : o.op = .load 44 y) (g : Nat) (x : Co) (hx : a.eval y = .pointer (some ⟨g, 0, none⟩)) (hb : Bk w g 44 (coC x).toArray)
    (h : wpList Tryd.prog ops QQ rest (a.put o.dst (.agg (coC x).toArray)) w) : wpList Tryd.prog ops QQ (o :: rest) a w :=
  BigFrame.wpList_want hw fun _ hK => wp_load_row 44 y ho g hx 44 _ (0, 0) _ hb Tryd.underlying44 rfl (by exact info_Co) (hK _ _ h)
set_option maxRecDepth 100000 in
set_option maxHeartbeats 4000000 in
theorem reaching_any (s : Sn) (w : World) (hs : s.Given w) (hm : Sml s) :
    Calls Tryd.prog 12 #[snA s] w fun e w' => e = .returned (reaV (findR (reachC (gone s)) s.cl 0)) ∧ Below w.heap.size w w' := by
  have HS := Lib.hid hs
  have HM := Lib.hid hm
  have hcl : s.cl.length ≤ 6 := hm.ncl
  have hbk := Bk.new w 26 (snR s)
  clear hs hm
  go_enter Tryd.func12, Tryd.ntmps12
  go_upto_region 1 with fail
  refine (show ∀ W1 : World, Below w.heap.size w W1 → Bk W1 w.heap.size 26 (snR s) → Code.wp _ _ _ _ W1 from fun W1 hb1 h1 => ?_) _ (ba (Below.refl _ _) _) hbk
  have x0 : W1.cell? ⟨w.heap.size, 0, none⟩ = some (.slice s.cO s.cl.length s.cc) := h1.cell 0
  have x1 : W1.cell? ⟨w.heap.size, 1, none⟩ = some (.slice s.sO s.sl.length s.sc) := h1.cell 1
  have x2 : W1.cell? ⟨w.heap.size, 2, none⟩ = some (.slice s.fO s.fl.length s.fc) := h1.cell 2
  have HB1 := Lib.hid hb1
  have HK1 := Lib.hid h1
  clear hbk hb1 h1
  go_wp2_with fail
  refine (wtLook_any s W1 w (fun _ => False) HB1.out (fun _ h => h.elim)).mono ?_
  rintro e w2 ⟨rfl, hv2, hb2⟩
  have HB2 := Lib.hid (bthen HB1.out hb2)
  have HK2 := Lib.hid (HK1.out.call hb2)
  have HV2 := Lib.hid hv2
  clear hv2 hb2 x0 x1 x2
  generalize W1.heap.size + 2 = P at *
  have hnew := Lib.hid (Bk.new w2 63 #[.pointer (some ⟨P, 0, none⟩)])
  go_upto_region 3 with fail
  refine (show ∀ W3 : World, Below w2.heap.size w2 W3 → Bk W3 w2.heap.size 63 #[.pointer (some ⟨P, 0, none⟩)] → Code.wp _ _ _ _ W3 from fun W3 hb3 h3 => ?_) _ (ba (Below.refl _ _) _) hnew.out
  have HB3 := Lib.hid (bthen HB2.out hb3)
  have HT := Lib.hid h3
  have HV3 := Lib.hid (HV2.out.call hb3)
  have y0 : W3.cell? ⟨w.heap.size, 0, none⟩ = some (.slice s.cO s.cl.length s.cc) := (HK2.out.call hb3).cell 0
  clear hnew hb3 h3
  generalize w2.heap.size = T at *
  go_wp2_with fail
  clear y0
  go_loopw [14] (fun i wr => ∃ k : Nat, k ≤ s.cl.length ∧ i = .int .i64 k ∧ findR (reachC (gone s)) s.cl 0 = findR (reachC (gone s)) (s.cl.drop k) k ∧ Below W3.heap.size W3 wr) (fun i _ => s.cl.length - (intOf i).toNat)
  case atStart => exact ⟨0, by omega, rfl, rfl, Below.refl _ _⟩
  case round =>
    obtain ⟨k, hk, rfl, hf, hB⟩ := hrel
    have HF := Lib.hid hf
    have HBr := Lib.hid hB
    have HB := Lib.hid (bthen HB3.out hB)
    clear hf hB
    by_cases hlt : k < s.cl.length
    · obtain ⟨x, hx⟩ : ∃ x, s.cl[k]? = some x := ⟨_, List.getElem?_eq_getElem hlt⟩
      obtain ⟨b, off, hO, hrg⟩ := rk_range HS.out.gc HB.out hx
      have hdr : s.cl.drop k = x :: s.cl.drop (k + 1) := by
        obtain ⟨h1, rfl⟩ := List.getElem?_eq_some_iff.1 hx
        exact List.drop_eq_getElem_cons h1
      rw [hdr] at HF
      have HX := Lib.hid (HS.out.gcall x (List.mem_of_getElem? hx))
      have HNt := Lib.hid (HM.out.nt x (List.mem_of_getElem? hx))
      have HR := Lib.hid hrg
      have HKz := Lib.hid (Bk.new wr 44 zCo)
      clear hrg hx hdr
      rw [hO]
      go_upto_region 6 with (first | refine get_Co rfl _ rfl b (off + k * 28) x rfl HR.out ?_ | refine box_Co rfl _ _ rfl wr.heap.size x _ rfl rfl HKz.out rfl ?_)
      refine (show ∀ W8 : World, Below wr.heap.size wr W8 → Bk W8 wr.heap.size 44 (coC x).toArray → Code.wp _ _ _ _ W8 from fun W8 hb8 hk8 => ?_) _ (brow (ba (Below.refl _ _) _) (Nat.le_refl _) _) (HKz.out.row _)
      have HB8 := Lib.hid (bthen HB.out hb8)
      have HBr8 := Lib.hid (bthen HBr.out hb8)
      have HK8 := Lib.hid hk8
      clear hb8 hk8 HKz HR HB HBr
      by_cases k0 : k = 0
      · subst k0
        go_wp2_with fail
        go_roundw
        case rel => exact ⟨1, by omega, by go_num, by rw [HF.out]; rfl, HBr8.out⟩
        case measure => simp [intOf]; omega
      · have kb : decide ((0 : Int) < k) = true := by simp; omega
        obtain ⟨mm, rr, hstr⟩ := (HV3.out.call HBr8.out).str
        have HGo := Lib.hid (show ∀ W x, Below W8.heap.size W8 W → I64 x → Calls Tryd.prog 22 (#[.int .i64 x] ++ #[.pointer (some ⟨T, 0, none⟩)]) W fun e W' => e = .returned (.bool (gone s x)) ∧ W = W' from fun W x hb _ =>
          gone_any x (hstr.call hb) ((HT.out.call HBr8.out).call hb) (HS.out.call (bthen HB8.out hb)))
        clear hstr
        go_wp2_with (refine unbox_CoW (by (simp [Region.wanted, yielded]); omega) _ rfl wr.heap.size x rfl HK8.out ?_)
        refine (reaches_any x w W8 (HX.out.call HB8.out) HNt.out (enters_of Tryd.func22 (by kernel_rfl) rfl) HGo.out).mono ?_
        rintro e w9 ⟨rfl, hb9⟩
        have HB9 := Lib.hid (bthen HB8.out hb9)
        have HBr9 := Lib.hid (bthen HBr8.out hb9)
        clear hb9 HB8 HBr8 HK8 HGo
        cases hq : reachC (gone s) x with
        | true =>
          have HRE := Lib.hid (show findR (reachC (gone s)) s.cl 0 = some k by rw [HF.out, findR, if_pos ⟨k0, hq⟩])
          clear hq
          go_wp2_with fail
          go_ret2
          exact ⟨by rw [HRE.out]; rfl, HB9.out⟩
        | false =>
          have HRE := Lib.hid (show findR (reachC (gone s)) s.cl 0 = findR (reachC (gone s)) (s.cl.drop (k + 1)) (k + 1) by rw [HF.out, findR, if_neg (fun h => by rw [hq] at h; cases h.2)])
          clear hq
          go_wp2_with fail
          go_roundw
          case rel => exact ⟨k + 1, by omega, by go_num, HRE.out, HBr9.out⟩
          case measure => simp [intOf]; omega
    · obtain rfl : k = s.cl.length := by omega
      have HRE := Lib.hid (show findR (reachC (gone s)) s.cl 0 = none by rw [HF.out, List.drop_length]; rfl)
      go_wp2_with fail
      go_ret2
      exact ⟨by rw [HRE.out]; rfl, HB.out⟩
end Go.Proofs.YtappjiljmpgjcaaDoor
