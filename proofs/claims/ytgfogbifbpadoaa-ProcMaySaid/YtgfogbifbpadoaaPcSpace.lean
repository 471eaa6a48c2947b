/-
  A house's Space, Begin.
-/
import Derived.Test.YtgfogbifbpadoaaPcOps
namespace Go.Proofs.Ytgfogbifbpadoaa
open Go.RowKit Go.Maps
set_option linter.unusedVariables false
set_option linter.unusedSimpArgs false
variable {w : World} {W : Nat → Prop} {P M K : Nat} {H : Hs}
theorem rf_of_ow {w : World} {B : Nat} {v : Value} {l : List Reg} (h : Ow encG 3 79 w B v l) (hW : ∀ x, W x → x < B) : ∃ O cap, v = .slice O l.length cap ∧ l.length ≤ cap ∧ Rf W w O l := by
  obtain ⟨O, cap, rfl, h1, -, h3⟩ := h.form encG_len
  refine ⟨O, cap, rfl, h1, h3.regs, fun h0 b off e hWb => ?_⟩
  subst e
  have := (h.lt b rfl).1
  have := hW b hWb
  omega
theorem Rf.sub {W W' : Nat → Prop} {w : World} {O : Option Addr} {l : List Reg} (h : Rf W' w O l) (hs : ∀ x, W x → W' x) : Rf W w O l := ⟨h.1, fun h0 b off e hW => h.2 h0 b off e (hs b hW)⟩
theorem Keeps.setRow {F : Nat → Prop} {w : World} {b : Nat} (hb : F b) (cs : Array Value) : Keeps F w (w.setRow b cs) :=
  ⟨rfl, rfl, rfl, by simp, fun k _ hn => setRow_other w b k cs (fun e => hn (by rw [e]; exact hb))⟩
/-- The same space, but for where its row lies. -/
structure SpEq (s s' : Spc) : Prop where
  l : s'.l = s.l
  thr : s'.thr = s.thr
  img : s'.img = s.img
  asid : s'.asid = s.asid
  age : s'.age = s.age
/-- A space that was told. -/
def STold (W : Nat → Prop) (w w' : World) (e : Ending) (s : Spc) (E : Int) : Prop := ∃ s', e = .returned (spV s' E) ∧ SpEq s s' ∧ Rf W w' s'.O s'.l ∧ s'.l.length ≤ s'.cap ∧ Below w.heap.size w w'
theorem STold.none {w w' : World} {E : Int} (h : Below w.heap.size w w') : STold W w w' (.returned (spV Spc.z E)) Spc.z E := ⟨Spc.z, rfl, ⟨rfl, rfl, rfl, rfl, rfl⟩, ⟨fun h0 => by simp [Spc.z] at h0, fun h0 => by simp [Spc.z] at h0⟩, by simp [Spc.z], h⟩
set_option maxHeartbeats 1000000 in
theorem pcSpace_any (n : Int) (hn : I64 n) (h : Hm w W P M K H) :
    Calls Try.prog 12 #[.pointer (some ⟨P, 0, none⟩), .int .i64 n] w fun e w' => STold W w w' e (if sthereB H n then H.sp n.toNat else Spc.z) (if sthereB H n then 0 else 4) := by
  have HK := Lib.hid (Bk.new w 38 (spC Spc.z).toArray)
  have HB := Lib.hid (ba (Below.refl w.heap.size w) (.cells (spC Spc.z).toArray 38))
  have HH := Lib.hid (h.call HB.out)
  have HN := Lib.hid hn
  have HWl := Lib.hid h.lt
  clear h hn
  rcases ht : sthereB H n with _ | _
  · have HT := Lib.hid ht
    clear ht
    go_enter Try.func12, Try.ntmps12
    go_wp2_with fail
    refine (pcSpaceThere_any n HN.out HH.out).mono ?_
    rintro e w1 ⟨rfl, rfl⟩
    rw [HT.out]
    go_wp2_with (refine box_sp rfl _ _ rfl w.heap.size Spc.z _ rfl rfl HK.out rfl ?_)
    refine bodyPost_ret (res_sp (g := w.heap.size) rfl _ _ (spC Spc.z).toArray _ rfl rfl (HK.out.row _) rfl) rfl ?_
    exact STold.none (brow HB.out (Nat.le_refl _) _)
  · obtain ⟨k, rfl, k1, k8, -⟩ := sthereB_some ht
    have HT := Lib.hid ht
    clear ht
    rw [if_pos rfl, if_pos rfl, Int.toNat_natCast]
    go_enter Try.func12, Try.ntmps12
    go_wp2_with fail
    refine (pcSpaceThere_any k HN.out HH.out).mono ?_
    rintro e w1 ⟨rfl, rfl⟩
    rw [HT.out]
    generalize hw1 : w.alloc (.cells (spC Spc.z).toArray 38) = w1 at *
    have HS1 := Lib.hid (show w1.heap.size = w.heap.size + 1 by rw [← hw1]; simp)
    clear hw1
    have HK2 := Lib.hid (Bk.new w1 38 #[.slice none 0 0, .int .i64 0, .int .i64 0, .int .i64 0, .int .i64 0])
    have HB2 := Lib.hid (brow (ba HB.out (.cells #[.slice none 0 0, .int .i64 0, .int .i64 0, .int .i64 0, .int .i64 0] 38)) (g := w1.heap.size) (by have := HS1.out; omega) (spC (H.sp k)).toArray)
    have HX2 := Lib.hid (brow (ba (Below.refl w1.heap.size w1) (.cells #[.slice none 0 0, .int .i64 0, .int .i64 0, .int .i64 0, .int .i64 0] 38)) (g := w1.heap.size) (Nat.le_refl _) (spC (H.sp k)).toArray)
    have HK3 := Lib.hid (HK2.out.row (spC (H.sp k)).toArray)
    have c0 := (HK3.out.cell 0).trans (show (spC (H.sp k)).toArray[0]? = some (.slice (H.sp k).O (H.sp k).l.length (H.sp k).cap) from rfl)
    obtain ⟨⟨hRI, hRW⟩, hrc, hck⟩ := HH.out.rf k (by omega)
    have HRI := Lib.hid (hRI.call HX2.out)
    have h8 := (chk_parts hck).1
    clear hRI hRW hck
    go_wp2_with (first | refine get_sp rfl _ rfl HH.out (n := k) (by omega) rfl ?_ | refine box_sp rfl _ _ rfl w1.heap.size (H.sp k) _ rfl rfl HK2.out rfl ?_)
    refine (srclone_any (H.sp k).O (H.sp k).l.length (H.sp k).cap (H.sp k).l _ HRI.out rfl hrc (by omega)).mono ?_
    rintro e w3 ⟨v, rfl, ho, hb3⟩
    clear c0
    obtain ⟨O', cap', rfl, hc', hrf⟩ := rf_of_ow (W := fun x => W x ∨ x = w.heap.size ∨ x = w1.heap.size) ho (fun x hx => by have h1 := HX2.out.size; have h2 := HS1.out; have h3 : w1.heap.size + 1 ≤ ((w1.alloc (.cells #[.slice none 0 0, .int .i64 0, .int .i64 0, .int .i64 0, .int .i64 0] 38)).setRow w1.heap.size (spC (H.sp k)).toArray).heap.size := (by simp); rcases hx with hx | hx | hx <;> first | omega | (have := HWl.out x hx; omega))
    have HRF := Lib.hid hrf
    have HB3 := Lib.hid (bthen HB2.out hb3)
    have HK4 := Lib.hid (HK3.out.call hb3)
    have HK14 := Lib.hid ((((HK.out.call (ba (Below.refl _ _) _)).farRow (b := w1.heap.size) (by have := HS1.out; omega) _)).call hb3)
    clear ho hb3 hrf
    have f0 := HK4.out.frozen 0
    have c0 := (HK4.out.cell 0).trans (show (spC (H.sp k)).toArray[0]? = some (.slice (H.sp k).O (H.sp k).l.length (H.sp k).cap) from rfl)
    have HK5 := Lib.hid (show Bk (w3.setCell ⟨w1.heap.size, 0, none⟩ (.slice O' (H.sp k).l.length cap')) w1.heap.size 38 (spC ⟨O', cap', (H.sp k).l, (H.sp k).thr, (H.sp k).img, (H.sp k).asid, (H.sp k).age⟩).toArray from HK4.out.set 0 _)
    have HK15 := Lib.hid (HK14.out.far (p := ⟨w1.heap.size, 0, none⟩) (by have := HS1.out; show w.heap.size ≠ w1.heap.size; omega) (.slice O' (H.sp k).l.length cap'))
    have HB5 := Lib.hid (bs HB3.out (p := ⟨w1.heap.size, 0, none⟩) (by have := HS1.out; show w.heap.size ≤ w1.heap.size; omega) (.slice O' (H.sp k).l.length cap'))
    have HRF5 := Lib.hid (((HRF.out.keep (Keeps.setCell (F := fun x => x = w1.heap.size) (p := ⟨w1.heap.size, 0, none⟩) rfl (.slice O' (H.sp k).l.length cap')) (fun x hx => .inr (.inr hx))).keep (Keeps.setRow (F := fun x => x = w.heap.size) rfl (spC ⟨O', cap', (H.sp k).l, (H.sp k).thr, (H.sp k).img, (H.sp k).asid, (H.sp k).age⟩).toArray) (fun x hx => .inr (.inl hx))).sub (W := W) (fun x hx => .inl hx))
    go_wp2_with (first | refine unbox_sp rfl _ rfl w1.heap.size _ rfl HK5.out rfl ?_ | refine box_sp rfl _ _ rfl w.heap.size ⟨O', cap', (H.sp k).l, (H.sp k).thr, (H.sp k).img, (H.sp k).asid, (H.sp k).age⟩ _ rfl rfl HK15.out rfl ?_)
    refine bodyPost_ret (res_sp (g := w.heap.size) rfl _ _ (spC ⟨O', cap', (H.sp k).l, (H.sp k).thr, (H.sp k).img, (H.sp k).asid, (H.sp k).age⟩).toArray _ rfl rfl (HK15.out.row _) rfl) rfl ?_
    exact ⟨_, rfl, ⟨rfl, rfl, rfl, rfl, rfl⟩, HRF5.out, hc', brow HB5.out (Nat.le_refl _) _⟩
end Go.Proofs.Ytgfogbifbpadoaa
