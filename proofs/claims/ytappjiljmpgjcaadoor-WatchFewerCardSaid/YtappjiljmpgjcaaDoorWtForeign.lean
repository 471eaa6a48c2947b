/-
  Layer 29: Foreign.
-/
import Derived.Test.YtappjiljmpgjcaaDoorWtUnlike
namespace Go.Proofs.YtappjiljmpgjcaaDoor
open Go.RowKit Go.Maps Go.Shelf
set_option linter.unusedVariables false
set_option linter.unusedSimpArgs false
/-! ### The tables of the spaces, each once a level -/
def decT (s : Sn) (lv f : Int) (ix : Nat) : Option Int := if de (tb s f ix) lv = 0 ∧ dk (tb s f ix) lv = 1 then some (df (tb s f ix) lv) else none
def insS (sn : Int → Int → Bool) (lv f : Int) : Int → Int → Bool := fun l g => if l = lv ∧ g = f then true else sn l g
/-- A fold over the first n numbers. -/
def foldN {β : Type} (g : Nat → β → β) : Nat → β → β
  | 0, b => b
  | n + 1, b => g n (foldN g n b)
def belowP (s : Sn) : Nat → Int → Int → (Int → Int → Bool) → (Int → Int → Bool)
  | 0, lv, f, sn => if sn lv f = true ∨ thr s f = false then sn else insS sn lv f
  | n + 1, lv, f, sn => if sn lv f = true ∨ thr s f = false then sn else
    foldN (fun ix acc => match decT s lv f ix with | some g => belowP s n (lv + 1) g acc | none => acc) (if lv = 0 then 256 else 512) (insS sn lv f)
def tabsL (s : Sn) : List Int → (Int → Int → Bool) → (Int → Int → Bool)
  | [], sn => sn
  | r :: l, sn => tabsL s l (if r = 0 then sn else belowP s 3 0 r sn)
def tabSeen (s : Sn) : Int → Int → Bool := tabsL s ((s.sl.drop 1).map (·.rt)) fun _ _ => false
def cnt4 (sn : Int → Int → Bool) (f : Int) : Nat := (sn 0 f).toNat + (sn 1 f).toNat + (sn 2 f).toNat + (sn 3 f).toNat
/-- What kind says. -/
def kd (s : Sn) (f : Int) : Int := if thr s f = false then 0 else if fre s f = true then 1 else if f = 0 then 2 else if 0 < cnt4 (tabSeen s) f then 3 else 4
def RtF (s : Sn) (rt : Rt) : Prop := rt = .no ∨ rt = .cnt (cnt4 (tabSeen s))
def KindDo (s : Sn) (w0 : World) : Prop := ∀ (E : Nat → Prop) (W : World) (P : Nat) (rt : Rt) (f : Int), I64 f → RtF s rt → Vx w0 E W P s rt → (∀ y, E y → y < W.heap.size) →
  Calls Tryd.prog 21 #[.pointer (some ⟨P, 0, none⟩), .int .i64 f] W fun e W' => e = .returned (.int .i8 (kd s f)) ∧ ∃ rt', RtF s rt' ∧ Vx w0 E W' P s rt' ∧ Kp E W W'
def for1 (by' : Int → List Int) (s : Sn) (x : Tl) : Bool := decide (0 < (by' x.a).length) && !decide (kd s x.f = 4)
def FoJ (w : World) (U : Nat → Prop) (W1 : World) (P : Nat) (s : Sn) (E : Nat → Prop) (W : World) : Prop := ∃ rt, RtF s rt ∧ Vx w (fun y => E y ∨ (U y ∧ y < W1.heap.size)) W P s rt ∧ Lies U W1 W ∧ W1.heap.size ≤ W.heap.size
structure FoB (U : Nat → Prop) (w : World) (P T5 T6 : Nat) (by' : Int → List Int) : Prop where
  b5 : Bk w T5 63 #[.pointer (some ⟨P, 0, none⟩)]
  b6 : ∃ M, Bk w T6 71 #[.map (some M)] ∧ ByM U w M by'
  g5 : U T5
  g6 : U T6
set_option maxRecDepth 100000 in
set_option maxHeartbeats 2000000 in
theorem for1_any {w0 w W1 : World} {E : Nat → Prop} {P T5 T6 : Nat} {U : Nat → Prop} {s : Sn} {rt : Rt} {by' : Int → List Int} (x : Tl) (hx : x.Given w) (hrt : RtF s rt) (h : Vx w0 E w P s rt) (hE : ∀ y, E y → y < w.heap.size)
    (hBE : ∀ y, U y → y < W1.heap.size → E y) (hW1 : FoB U W1 P T5 T6 by') (hS : Lies U W1 w) (hsz : W1.heap.size ≤ w.heap.size) (hk : (∀ a, by' a = []) ∨ KindDo s w0) :
    Calls Tryd.prog 20 #[.agg #[.int .i64 x.a, .int .u64 x.p, .int .i64 x.f, .bool x.r], .pointer (some ⟨T6, 0, none⟩), .pointer (some ⟨T5, 0, none⟩)] w fun e w' => e = .returned (.bool (for1 by' s x)) ∧ ∃ rt', RtF s rt' ∧ Vx w0 E w' P s rt' ∧ Kp E w w' := by
  have HV := Lib.hid (h.add (.cells #[.int .i64 x.a, .int .u64 x.p, .int .i64 x.f, .bool x.r] 62))
  have hb := Bk.new w 62 #[.int .i64 x.a, .int .u64 x.p, .int .i64 x.f, .bool x.r]
  have HGx := Lib.hid hx
  have HE := Lib.hid hE
  have HBE := Lib.hid hBE
  have HW := Lib.hid hW1
  have HZ := Lib.hid hsz
  have HRT := Lib.hid hrt
  have HK := Lib.hid hk
  have HL := Lib.hid (hS.step hBE hsz (Kp.of_below (ba (Below.refl _ _) (.cells #[.int .i64 x.a, .int .u64 x.p, .int .i64 x.f, .bool x.r] 62))))
  clear h hx hE hBE hW1 hS hsz hrt hk
  go_enter Tryd.func20, Tryd.ntmps20
  go_upto_region 1 with fail
  refine (show ∀ W2 : World, Below w.heap.size w W2 → Bk W2 w.heap.size 62 #[.int .i64 x.a, .int .u64 x.p, .int .i64 x.f, .bool x.r] → Vx w0 (fun y => E y ∨ y = w.heap.size) W2 P s rt → Lies U W1 W2 → Code.wp _ _ _ _ W2 from fun W2 hb2 h2 hv2 hl2 => ?_) _ (ba (Below.refl _ _) _) hb HV.out HL.out
  have HB2 := Lib.hid hb2
  have HV2 := Lib.hid hv2
  obtain ⟨M2, hR0, hR2⟩ := HW.out.b6
  have hR1 : Bk W2 T6 71 #[.map (some M2)] := (hl2 T6 HW.out.g6 hR0.lt).trans hR0
  have h5 : Bk W2 T5 63 #[.pointer (some ⟨P, 0, none⟩)] := (hl2 T5 HW.out.g5 HW.out.b5.lt).trans HW.out.b5
  have c0 : W2.cell? ⟨w.heap.size, 0, none⟩ = some (.int .i64 x.a) := h2.cell 0
  have c2 : W2.cell? ⟨w.heap.size, 2, none⟩ = some (.int .i64 x.f) := h2.cell 2
  have d6 : W2.cell? ⟨T6, 0, none⟩ = some (.map (some M2)) := hR1.cell 0
  have d5 : W2.cell? ⟨T5, 0, none⟩ = some (.pointer (some ⟨P, 0, none⟩)) := h5.cell 0
  obtain ⟨O, cap, hlk2, hrk, hl6, hrI⟩ := hR2.look_at hl2 HGx.out.ga
  have HE2 := Lib.hid (show ∀ y, (E y ∨ y = w.heap.size) → y < W2.heap.size from fun y hy => by
    have := hb2.size
    rcases hy with hy | rfl
    · have := HE.out y hy; omega
    · exact h2.lt)
  have HF := Lib.hid (show for1 by' s x = (decide (0 < (by' x.a).length) && !decide (kd s x.f = 4)) from rfl)
  have HKK := Lib.hid (show (by' x.a).length = 0 ∨ KindDo s w0 from HK.out.imp (fun h => by rw [h]; rfl) id)
  generalize (by' x.a).length = n at *
  clear hb2 h2 hv2 hl2 hb HV hR0 hR1 hR2 hrk hrI HL h5
  by_cases n0 : n = 0
  · subst n0
    go_wp2_with fail
    go_ret
    exact ⟨by rw [HF.out]; rfl, rt, HRT.out, HV2.out.mono (fun y hy => .inl hy), Kp.of_below HB2.out⟩
  · have HKD := Lib.hid (HKK.out.resolve_left n0)
    have nb : decide ((0 : Int) < n) = true := by simp; omega
    go_wp2_with fail
    refine (HKD.out (fun y => E y ∨ y = w.heap.size) W2 P rt x.f HGx.out.gf HRT.out HV2.out HE2.out).mono ?_
    rintro e w3 ⟨rfl, rt', hrt', hv3, hk3⟩
    have HRT3 := Lib.hid hrt'
    have HV3 := Lib.hid hv3
    have HK3 := Lib.hid hk3
    clear hrt' hv3 hk3 c0 c2 d5 d6 hlk2
    have nb2 : decide (0 < n) = true := by simp; omega
    generalize kd s x.f = kk at *
    go_wp2_with fail
    go_ret
    exact ⟨by rw [HF.out, nb2]; simp [bne]; rfl, rt', HRT3.out, HV3.out.mono (fun y hy => .inl hy), (Kp.of_below HB2.out).trans (HK3.out.mono (fun y hy => .inl hy))⟩
theorem foJ_grow {w W1 : World} {U : Nat → Prop} {P : Nat} {s : Sn} : ∀ E E' W W', FoJ w U W1 P s E W → Below W.heap.size W W' → (∀ x, E' x → E x ∨ W.heap.size ≤ x) → FoJ w U W1 P s E' W' := by
  rintro E E' W W' ⟨rt, h0, h1, h2, h3⟩ hb hE
  refine ⟨rt, h0, h1.grow hb (fun x hx => ?_), h2.step (E := fun _ => True) (fun _ _ _ => trivial) h3 (Kp.of_below hb), Nat.le_trans h3 hb.size⟩
  rcases hx with hx | hx
  · exact (hE x hx).imp .inl id
  · exact .inl (.inr hx)
theorem fo_asks {w W1 : World} {P a b T5 T6 : Nat} {s : Sn} {by' : Int → List Int} (hU : FoB (fun y => w.heap.size ≤ y ∧ Oth a b y) W1 P T5 T6 by') (hk : (∀ a, by' a = []) ∨ KindDo s w) :
    Asks w 20 #[.pointer (some ⟨T6, 0, none⟩), .pointer (some ⟨T5, 0, none⟩)] (for1 by' s) (FoJ w (fun y => w.heap.size ≤ y ∧ Oth a b y) W1 P s) where
  enters := enters_of Tryd.func20 (by kernel_rfl) rfl
  call := by
    rintro E W x hE ⟨rt, h0, h1, h2, h3⟩ hx
    have hE' : ∀ y, (fun y => E y ∨ ((w.heap.size ≤ y ∧ Oth a b y) ∧ y < W1.heap.size)) y → y < W.heap.size := fun y hy => by
      rcases hy with hy | ⟨_, hy⟩
      · exact hE y hy
      · omega
    refine (for1_any x hx h0 h1 hE' (fun y h4 h5 => .inr ⟨h4, h5⟩) hU h2 h3 hk).mono ?_
    rintro e W' ⟨rfl, rt', h0', h4, h5⟩
    exact ⟨rfl, ⟨rt', h0', h4, h2.step (fun y h6 h7 => .inr ⟨h6, h7⟩) h3 h5, Nat.le_trans h3 h5.1.size⟩, h5.mono (fun y hy => .inl hy)⟩
  grow := foJ_grow
  below := fun E W ⟨rt, h0, h, _⟩ => h.below
set_option maxRecDepth 100000 in
set_option maxHeartbeats 2000000 in
theorem foreign_any (s : Sn) (w : World) (by' : Int → List Int) (hs : s.Given w) (hm : Sml s) (hr : RootsDo s w by') (hk : (∀ a, by' a = []) ∨ KindDo s w) :
    Calls Tryd.prog 11 #[snA s] w fun e w' => e = .returned (entV (findC (for1 by' s) s.cl 0)) ∧ Below w.heap.size w w' := by
  have HS := Lib.hid hs
  have HM := Lib.hid hm
  have HR := Lib.hid hr
  have HKd := Lib.hid hk
  have hbk := Bk.new w 26 (snR s)
  clear hs hm hr hk
  go_enter Tryd.func11, Tryd.ntmps11
  go_upto_region 1 with fail
  refine fo_region _ s w _ by' w.heap.size HS.out HM.out HR.out (Nat.le_refl _) (ba (Below.refl _ _) _) hbk ?_
  clear hbk
  intro W P a b M M2 T5 T6 hB hK hV hab hY h5 g5 e5 h6 g6 e6
  have HB := Lib.hid hB
  have x0 : W.cell? ⟨w.heap.size, 0, none⟩ = some (.slice s.cO s.cl.length s.cc) := hK.cell 0
  have x1 : W.cell? ⟨w.heap.size, 1, none⟩ = some (.slice s.sO s.sl.length s.sc) := hK.cell 1
  have x2 : W.cell? ⟨w.heap.size, 2, none⟩ = some (.slice s.fO s.fl.length s.fc) := hK.cell 2
  have hU : FoB (fun y => w.heap.size ≤ y ∧ Oth a b y) W P T5 T6 by' := ⟨h5, ⟨M2, h6, hY⟩, ⟨g5, e5⟩, ⟨g6, e6⟩⟩
  have HA := Lib.hid (fo_asks hU HKd.out)
  have HJ := Lib.hid (show FoJ w (fun y => w.heap.size ≤ y ∧ Oth a b y) W P s (fun _ => False) W from ⟨.no, .inl rfl, hV.mono (fun y hy => hy.elim False.elim (fun h => h.1.2)), fun _ _ _ => rfl, Nat.le_refl _⟩)
  clear hB hK hV hab hY h5 g5 e5 h6 g6 e6 hU
  go_wp2_with fail
  refine (entry_any s W (fun _ => False) HA.out HS.out HM.out HJ.out (fun _ h => h.elim)).mono ?_
  rintro e W2 ⟨rfl, hj, hk⟩
  have HB2 := Lib.hid (HA.out.below _ _ hj)
  clear hj hk x0 x1 x2
  cases hf : findC (for1 by' s) s.cl 0 with
  | none =>
    simp only [entV]
    go_wp2_with fail
    go_ret3
    exact ⟨by rw [hf]; rfl, HB2.out⟩
  | some q =>
    obtain ⟨n, i⟩ := q
    simp only [entV]
    go_wp2_with fail
    go_ret3
    exact ⟨by rw [hf]; rfl, HB2.out⟩
end Go.Proofs.YtappjiljmpgjcaaDoor
