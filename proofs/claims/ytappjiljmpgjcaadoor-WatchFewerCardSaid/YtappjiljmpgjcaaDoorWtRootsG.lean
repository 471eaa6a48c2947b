/-
  Layer 29: roots in general.
-/
import Derived.Test.YtappjiljmpgjcaaDoorWtGrp
import Derived.Test.YtappjiljmpgjcaaDoorWtRoots0
namespace Go.Proofs.YtappjiljmpgjcaaDoor
open Go.RowKit Go.Maps Go.Shelf
set_option linter.unusedVariables false
set_option linter.unusedSimpArgs false
attribute [local go_sem] Oper.semAt_some
/-- The roots by ASIDs of pairs, the last pair ahead. -/
def byR : List (Int × Int) → Int → List Int
  | [], _ => []
  | p :: l, x => if p ∈ l then byR l x else if x = p.1 then byR l x ++ [p.2] else byR l x
theorem byR_len : ∀ (l : List (Int × Int)) (x : Int), (byR l x).length ≤ l.length
  | [], x => Nat.le_refl _
  | p :: l, x => by
    have := byR_len l x
    unfold byR
    split
    · simp; omega
    · split
      · simp; omega
      · simp; omega
theorem byR_mem : ∀ (l : List (Int × Int)) (x r : Int), r ∈ byR l x → (x, r) ∈ l
  | [], x, r, h => by cases h
  | p :: l, x, r, h => by
    have ih := byR_mem l x r
    unfold byR at h
    split at h
    · exact List.mem_cons_of_mem _ (ih h)
    · split at h
      · rename_i e
        rcases List.mem_append.1 h with h | h
        · exact List.mem_cons_of_mem _ (ih h)
        · simp at h
          subst h e
          exact List.mem_cons_self
      · exact List.mem_cons_of_mem _ (ih h)
/-- The map of the pairs that were met. -/
def OnM (w : World) (O : Nat) (l : List (Int × Int)) : Prop := ∃ on, Mp 103 w O l.length on ∧ ∀ a r, I64 a → I64 r → (on (.agg #[.int .i64 a, .int .i64 r])).isSome = decide ((a, r) ∈ l)
section
variable {w w' : World} {O : Nat} {l : List (Int × Int)} {F : Nat → Prop}
theorem OnM.keep (h : OnM w O l) (hk : Keeps F w w') (hO : ¬ F O) : OnM w' O l := let ⟨on, h1, h2⟩ := h; ⟨on, h1.keep hk hO, h2⟩
theorem OnM.call (h : OnM w O l) (hb : Below w.heap.size w w') : OnM w' O l := let ⟨on, h1, h2⟩ := h; ⟨on, h1.call hb, h2⟩
theorem OnM.lt (h : OnM w O l) : O < w.heap.size := let ⟨on, h1, h2⟩ := h; h1.lt
theorem OnM.ne_bk {g : Nat} {t : TypeId} {cs : Array Value} (h : OnM w O l) (hb : Bk w g t cs) : g ≠ O := let ⟨on, h1, h2⟩ := h; h1.ne_bk hb
theorem OnM.made (w : World) : OnM (w.alloc (.map #[] 0)) w.heap.size [] := ⟨_, Mp.made _ w, fun _ _ _ _ => rfl⟩
theorem OnM.look (h : OnM w O l) {a r : Int} (ha : I64 a) (hr : I64 r) :
    ∃ u : Value, (Instr.lookup 100 (.map (some O)) (.agg #[.int .i64 a, .int .i64 r]) true).run Tryd.prog w = .ok (.tuple #[u, .bool (decide ((a, r) ∈ l))]) w := by
  obtain ⟨on, h1, h2⟩ := h
  obtain ⟨k, hk⟩ := key_pair ha hr
  have := h1.look_ok kPair Tryd.underlying100 (z := .int .i64 0) (by kernel_rfl) hk
  rw [h2 a r ha hr] at this
  exact ⟨_, this⟩
theorem OnM.same (h : OnM w O l) {p : Int × Int} (hp : p ∈ l) : OnM w O (p :: l) := by
  obtain ⟨on, h1, h2⟩ := h
  refine ⟨on, h1.more (by simp), fun a r ha hr => ?_⟩
  rw [h2 a r ha hr]
  congr 1
  exact propext ⟨fun h => List.mem_cons_of_mem _ h, fun h => by
    rcases List.mem_cons.1 h with h | h
    · rw [h]; exact hp
    · exact h⟩
set_option maxRecDepth 100000 in
theorem OnM.put (h : OnM w O l) {a r : Int} (ha : I64 a) (hr : I64 r) (v : Value) (hl : l.length < 1000) :
    ∃ w', (Instr.mapUpdate 100 (.map (some O)) (.agg #[.int .i64 a, .int .i64 r]) v).run Tryd.prog w = .ok () w' ∧ OnM w' O ((a, r) :: l) ∧ Keeps (fun y => y = O) w w' := by
  obtain ⟨on, h1, h2⟩ := h
  obtain ⟨k, hk⟩ := key_pair ha hr
  obtain ⟨w', hst, hm, hkk⟩ := h1.put kPair Tryd.underlying100 hk v (by omega)
  refine ⟨w', hst, ⟨_, hm, fun a' r' ha' hr' => ?_⟩, hkk⟩
  by_cases e : a' = a ∧ r' = r
  · obtain ⟨rfl, rfl⟩ := e
    rw [updV_same]; simp
  · rw [updV_other _ _ (fun e' => e (by injection e' with e'; simp at e'; exact e')), h2 a' r' ha' hr']
    congr 1
    exact propext ⟨fun h => List.mem_cons_of_mem _ h, fun h => by
      rcases List.mem_cons.1 h with h | h
      · exact absurd (by cases h; exact ⟨rfl, rfl⟩) e
      · exact h⟩
end
theorem Gps.keepB {w w' : World} {B b : Nat} {on : Value → Option Value} {g : Int → List Int} (h : Gps w B on g) (hk : Keeps (fun x => x = b) w w') (hb : b < B) : Gps w' B on g :=
  ⟨fun a ha => (h.own a ha).kept (keeps_grown hk) (by
    cases e : (slOf on a).ownBlock with
    | none => exact .inl rfl
    | some y => exact .inr (fun e' => by cases e'; have := (h.own a ha).lt b e; omega)), h.apart⟩
set_option maxRecDepth 100000 in
set_option maxHeartbeats 4000000 in
theorem roots_any (s : Sn) (w : World) (hs : s.Given w) (hm : Sml s) : Calls Tryd.prog 17 #[snA s] w fun e w' => ∃ M, e = .returned (.map (some M)) ∧ ByM (fun y => w.heap.size ≤ y) w' M (byR (runL s.cl s.cl.length)) ∧ Below w.heap.size w w' := by
  have HS := Lib.hid hs
  have HM := Lib.hid hm
  have hmm := @run_makeMap Tryd.prog
  have hbk := Bk.new w 26 (snR s)
  have hm1 := Mp.made 3 (w.alloc (.cells (snR s) 26))
  have hk2 := Bk.new ((w.alloc (.cells (snR s) 26)).alloc (.map #[] 0)) 71 #[.map (some (w.heap.size + 1))]
  have hm2 := OnM.made (((w.alloc (.cells (snR s) 26)).alloc (.map #[] 0)).alloc (.cells #[.map (some (w.heap.size + 1))] 71))
  have hk3 := Bk.new ((((w.alloc (.cells (snR s) 26)).alloc (.map #[] 0)).alloc (.cells #[.map (some (w.heap.size + 1))] 71)).alloc (.map #[] 0)) 100 #[.map (some (w.heap.size + 1 + 1 + 1))]
  rw [World.size_alloc] at hm1
  simp only [World.size_alloc] at hk2 hm2 hk3
  clear hs hm
  refine callsIn_wide (n := 20).1 ?_
  refine callsIn_of_wp_marks Tryd.func17 rfl trivial ?_ rfl
  refine wpIn_wide.2 ?_
  simp only [Tryd.ntmps17, List.size_toArray, List.length_cons, List.length_nil, Nat.reduceAdd, Nat.reduceSub, Array.replicate_succ, Array.replicate_zero, List.push_toArray, List.append_toArray, List.nil_append, List.cons_append]
  go_upto_region 3 with fail
  refine (show ∀ W3 : World, Below w.heap.size w W3 → Bk W3 w.heap.size 26 (snR s) → Bk W3 (w.heap.size + 2) 71 #[.map (some (w.heap.size + 1))] → Mp 3 W3 (w.heap.size + 1) 0 (fun _ => none) → OnM W3 (w.heap.size + 3) [] → Bk W3 (w.heap.size + 4) 100 #[.map (some (w.heap.size + 3))] → Code.wp _ _ _ _ W3 from fun W3 hb3 h3 h4 h5 h6 h7 => ?_) _ (ba (ba (ba (ba (ba (Below.refl _ _) _) _) _) _) _)
    ((((hbk.call (ba (Below.refl _ _) (.map #[] 0))).call (ba (Below.refl _ _) _)).call (ba (Below.refl _ _) (.map #[] 0))).call (ba (Below.refl _ _) _)) ((hk2.call (ba (Below.refl _ _) (.map #[] 0))).call (ba (Below.refl _ _) _)) (((hm1.call (ba (Below.refl _ _) _)).call (ba (Below.refl _ _) (.map #[] 0))).call (ba (Below.refl _ _) _))
    (hm2.call (ba (Below.refl _ _) _)) hk3
  clear hbk hm1 hk2 hm2 hk3 hmm
  obtain ⟨T2, hT2⟩ : ∃ T2, T2 = w.heap.size + 1 + 1 + 1 + 1 := ⟨_, rfl⟩
  rw [← hT2]
  obtain ⟨O, hO⟩ : ∃ O, O = w.heap.size + 1 + 1 + 1 := ⟨_, rfl⟩
  rw [← hO]
  obtain ⟨T, hT⟩ : ∃ T, T = w.heap.size + 1 + 1 := ⟨_, rfl⟩
  rw [← hT]
  obtain ⟨M, hM⟩ : ∃ M, M = w.heap.size + 1 := ⟨_, rfl⟩
  rw [← hM]
  rw [show w.heap.size + 2 = T from hT.symm, show w.heap.size + 1 = M from hM.symm] at h4
  rw [← hM] at h5
  rw [show w.heap.size + 3 = O from hO.symm] at h6 h7
  rw [show w.heap.size + 4 = T2 from hT2.symm] at h7
  have HB3 := Lib.hid hb3
  have H4 := Lib.hid h4
  have H5 := Lib.hid h5
  have H6 := Lib.hid h6
  have H7 := Lib.hid h7
  have HAD := Lib.hid (show w.heap.size < M ∧ M < T ∧ T < O ∧ O < T2 by omega)
  have x0 : W3.cell? ⟨w.heap.size, 0, none⟩ = some (.slice s.cO s.cl.length s.cc) := h3.cell 0
  have x1 : W3.cell? ⟨w.heap.size, 1, none⟩ = some (.slice s.sO s.sl.length s.sc) := h3.cell 1
  have x2 : W3.cell? ⟨w.heap.size, 2, none⟩ = some (.slice s.fO s.fl.length s.fc) := h3.cell 2
  clear h3 h4 h5 h6 h7 hM hT hO hT2 hb3
  go_wp2_with fail
  refine (running_any s W3).mono ?_
  rintro e W4 ⟨rfl, hb4, hk4⟩
  have HB4 := Lib.hid (bthen HB3.out hb4)
  have H44 := Lib.hid (H4.out.call hb4)
  have H54 := Lib.hid (H5.out.call hb4)
  have H64 := Lib.hid (H6.out.call hb4)
  have H74 := Lib.hid (H7.out.call hb4)
  have HK4 := Lib.hid hk4
  have HT4 := Lib.hid (show W3.heap.size < W4.heap.size from hk4.lt)
  have HT3 := Lib.hid (show T2 < W3.heap.size from H7.out.lt)
  clear hb4 hk4 x0 x1 x2 H4 H5 H6 H7
  generalize W3.heap.size = R at *
  clear HB3
  go_wp2_with fail
  refine (show ∀ a : Go.Act, a = _ → Code.wp _ _ _ a W4 from fun a ha => ?_) _ rfl
  refine (wpIn_wide (n := 20)).1 ?_
  obtain ⟨Z, hZ⟩ : ∃ Z, Z = W4.heap.size := ⟨_, rfl⟩
  obtain ⟨C, hC⟩ : ∃ C : Nat → Prop, C = fun y => y = M ∨ y = O ∨ Z + 2 ≤ y := ⟨_, rfl⟩
  obtain ⟨J, hJ⟩ : ∃ J : List (Int × Int) → World → Prop, J = fun ls X => Below w.heap.size w X ∧ Bk X T 71 #[.map (some M)] ∧ Bk X T2 100 #[.map (some O)] ∧ GpM X M (Z + 2) (byR ls) ls.length ∧ OnM X O ls := ⟨_, rfl⟩
  have HZZ := Lib.hid hZ
  have HC := Lib.hid hC
  have HJ := Lib.hid hJ
  clear hZ hC hJ
  refine range_all (σ := List (Int × Int)) (α := Nat × Co) (gf := 36) (lb := #[.pointer (some ⟨R, 0, none⟩)]) (by rw [ha]; rfl) (enters_of Tryd.func36 (by kernel_rfl) rfl) (fun x => #[.int .i64 x.1, .agg (coC x.2).toArray]) (fun _ => rfl)
    J C (fun x h => ?cc) (fun ls x => ls.length < 6 ∧ I64 x.2.asid ∧ I64 x.2.rt) (fun ls x => (x.2.asid, x.2.rt) :: ls) [] (J (runL s.cl s.cl.length)) ?put1 ?put ?j0 ?round ?it ?done
  case cc =>
    rw [HC.out] at h
    have a1 := HAD.out
    have a2 := HT3.out
    have a3 := HT4.out
    have a4 := HZZ.out
    rcases h with h | h | h
    · exact .inl (by omega)
    · exact .inl (by omega)
    · exact .inr (by omega)
  case put1 =>
    intro X k o hj h1 h2
    have a1 := HAD.out
    have a2 := HT3.out
    have a3 := HT4.out
    have a4 := HZZ.out
    have hkk := keeps_putObj X k o
    rw [HJ.out] at hj ⊢
    obtain ⟨g1, g2, g3, g4, g5⟩ := hj
    exact ⟨hkk.below g1 (fun y e => by omega), g2.keep hkk (fun e => by omega), g3.keep hkk (fun e => by omega), g4.keep hkk (by omega) (by omega), g5.keep hkk (fun e => by omega)⟩
  case put =>
    intro ls X k o hj h1 h2
    have a1 := HAD.out
    have a2 := HT3.out
    have a3 := HT4.out
    have a4 := HZZ.out
    have hkk := keeps_putObj X k o
    rw [HJ.out] at hj ⊢
    obtain ⟨g1, g2, g3, g4, g5⟩ := hj
    exact ⟨hkk.below g1 (fun y e => by omega), g2.keep hkk (fun e => by omega), g3.keep hkk (fun e => by omega), g4.keep hkk (by omega) (by omega), g5.keep hkk (fun e => by omega)⟩
  case j0 =>
    intro o
    have a1 := HAD.out
    have a2 := HT3.out
    have a3 := HT4.out
    have a4 := HZZ.out
    have hb := ba (ba (Below.refl W4.heap.size W4) (.deferred (some []))) o
    rw [HJ.out]
    exact ⟨bthen HB4.out hb, H44.out.call hb, H74.out.call hb, ⟨_, H54.out.call hb, by omega, ⟨fun a ha => Ow.nil _ _ _, fun _ _ _ _ _ => .inl rfl⟩⟩, H64.out.call hb⟩
  case round =>
    rintro m l ls ⟨k, x⟩ X hl ⟨hok1, hok2, hok3⟩ hj hz
    simp only at hok2 hok3
    have Hok1 := Lib.hid hok1
    have Hok2 := Lib.hid hok2
    have Hok3 := Lib.hid hok3
    have Hj := Lib.hid hj
    have HL := Lib.hid hl
    have HKz := Lib.hid (Bk.new X 44 zCo)
    clear hok1 hok2 hok3 hj
    generalize hfa : Array.foldl _ _ _ = fa
    rw [ha] at hfa
    simp at hfa
    subst hfa
    gi_wp2_with (refine box_CoIn rfl _ _ rfl X.heap.size x _ rfl rfl HKz.out rfl ?_)
    have hJ : ∀ ls X, J ls X ↔ (Below w.heap.size w X ∧ Bk X T 71 #[.map (some M)] ∧ Bk X T2 100 #[.map (some O)] ∧ GpM X M (Z + 2) (byR ls) ls.length ∧ OnM X O ls) := fun ls X => by rw [HJ.out]
    have HJI := Lib.hid hJ
    obtain ⟨w₁, hw1, hb1, hk1⟩ : ∃ w₁, w₁ = (X.alloc (.cells zCo 44)).setRow X.heap.size (coC x).toArray ∧ Below X.heap.size X w₁ ∧ Bk w₁ X.heap.size 44 (coC x).toArray := ⟨_, rfl, brow (ba (Below.refl _ _) _) (Nat.le_refl _) _, HKz.out.row _⟩
    refine ⟨?jb, hw1 ▸ (Keeps.of_below (F := fun _ => False) hb1).mono (fun _ h => h.elim), fun w₂ hj2 hk2 => ?_⟩
    case jb =>
      obtain ⟨g1, g2, g3, g4, g5⟩ := (hJ _ _).1 Hj.out
      have := (hJ ls w₁).2 ⟨bthen g1 hb1, g2.call hb1, g3.call hb1, g4.call hb1, g5.call hb1⟩
      rw [hw1] at this
      exact this
    have hk2 : Keeps (fun y => y = l) w₁ w₂ := by rw [hw1]; exact hk2
    clear hw1
    obtain ⟨f1, f2, f3, -, f5⟩ := (hJ _ _).1 hj2
    obtain ⟨g1, g2, g3, ⟨on, m1, m2, m3⟩, g5⟩ := (hJ _ _).1 Hj.out
    have hl' : l = Z + 1 := by rw [HL.out, HZZ.out]
    have hXc : Bk w₂ X.heap.size 44 (coC x).toArray := hk1.keep hk2 (fun e => by omega)
    have hZX : Z + 2 ≤ X.heap.size := by rw [HZZ.out]; exact hz
    have hMl : M < l := by have := HAD.out; have := HT3.out; have := HT4.out; have := HZZ.out; omega
    have k1 : Mp 3 w₁ M ls.length on := m1.call hb1
    have k2 : Mp 3 w₂ M ls.length on := k1.keep hk2 (fun e => by omega)
    have k3 : Gps w₁ (Z + 2) on (byR ls) := m3.call hb1
    have k4 : Gps w₂ (Z + 2) on (byR ls) := k3.keepB hk2 (by omega)
    have kx : ∀ a b, I64 a → (slOf on a).ownBlock = some b → b < X.heap.size := fun a b ha hb => ((m3.own a ha).lt b hb).2
    have HF1 := Lib.hid f1
    have HF2 := Lib.hid f2
    have HF3 := Lib.hid f3
    have HF5 := Lib.hid f5
    have HK2 := Lib.hid k2
    have HK4 := Lib.hid k4
    have HKX := Lib.hid kx
    have HXC := Lib.hid hXc
    have HZX := Lib.hid hZX
    have HMB := Lib.hid m2
    have HS1 := Lib.hid hb1.size
    have HS2 := Lib.hid hk2.size
    obtain ⟨N, hN⟩ : ∃ N, N = Obj.cells #[.int .i64 x.asid, .int .i64 x.rt] 103 := ⟨_, rfl⟩
    have hb5 : Below w₂.heap.size w₂ (w₂.alloc N) := ba (Below.refl _ _) _
    have q5 := f5.call hb5
    obtain ⟨u, hlk⟩ := q5.look Hok2.out Hok3.out
    have HQ5 := Lib.hid q5
    have HB5 := Lib.hid hb5
    have x1 : w₂.cell? ⟨X.heap.size, 1, none⟩ = some (.int .i64 x.asid) := hXc.cell 1
    have x2 : w₂.cell? ⟨X.heap.size, 2, none⟩ = some (.int .i64 x.rt) := hXc.cell 2
    have t1 : w₂.cell? ⟨T, 0, none⟩ = some (.map (some M)) := f2.cell 0
    have t2 : w₂.cell? ⟨T2, 0, none⟩ = some (.map (some O)) := f3.cell 0
    have y1 : T < w₂.heap.size := f2.lt
    have y2 : T2 < w₂.heap.size := f3.lt
    have y3 : X.heap.size < w₂.heap.size := hXc.lt
    clear f1 f2 f3 f5 g1 g2 g3 m1 m2 m3 g5 hXc hZX hMl k1 k2 k3 k4 kx hb1 hk1 hk2 hj2 hJ hl' hb5 q5
    have hXCe := Lib.hid (show X.heap.size = X.heap.size from rfl)
    generalize X.heap.size = XC at *
    by_cases hp : (x.asid, x.rt) ∈ ls
    · rw [decide_eq_true hp] at hlk
      have HP := Lib.hid hp
      clear hp
      rw [hN] at hlk
      gi_wp2
      rw [← hN]
      have hb5 := HB5.out
      refine ⟨(HJI.out _ _).2 ⟨bthen HF1.out hb5, HF2.out.call hb5, HF3.out.call hb5, ⟨on, (HK2.out.more (by simp)).call hb5, HMB.out, ?_⟩, HQ5.out.same HP.out⟩, (Keeps.of_below (F := fun _ => False) hb5).mono (fun _ h => h.elim)⟩
      rw [show byR ((x.asid, x.rt) :: ls) = byR ls from funext fun y => by rw [byR, if_pos HP.out]]
      exact HK4.out.call hb5
    · rw [decide_eq_false hp] at hlk
      have HP := Lib.hid hp
      clear hp
      obtain ⟨W6, hst, q6, k6⟩ := HQ5.out.put Hok2.out Hok3.out (.int .i64 k) (by have := Hok1.out; omega)
      have HQ6 := Lib.hid q6
      have HK6 := Lib.hid k6
      clear q6 k6
      rw [hN] at hlk hst
      gi_wp2
      have hb5 := HB5.out
      have a1 := HAD.out
      have a2 := HT3.out
      have a3 := HT4.out
      have a4 := HZZ.out
      have a5 := HZX.out
      have a6 := HS1.out
      have a7 := HS2.out
      have a8 := hb5.size
      have a9 := HK6.out.size
      have ht := (HF2.out.call hb5).keep HK6.out (by omega)
      have ht2 := (HF3.out.call hb5).keep HK6.out (by omega)
      refine rt_region (w := W6) (M := M) (B := Z + 2) (n := ls.length) (T := T) (X := XC) (c := x) (on := on) (g := byR ls) ⟨(HK2.out.call hb5).keep HK6.out (by omega), HMB.out, (HK4.out.call hb5).keepB HK6.out (by omega), ht, by omega, (HXC.out.call hb5).keep HK6.out (by omega), fun a b ha hb => ?_, by omega, Hok2.out, Hok3.out, by have := Hok1.out; omega, by have := byR_len ls x.asid; have := Hok1.out; omega⟩ m _ _ _ rfl rfl rfl (fun a' w' hg hk => ?_)
      · have := HKX.out a b ha hb
        omega
      · have hcc : ∀ y, C y ↔ (y = M ∨ y = O ∨ Z + 2 ≤ y) := fun y => by rw [HC.out]
        have b6 : Below w.heap.size w W6 := HK6.out.below (bthen HF1.out hb5) (fun y e => by omega)
        refine ⟨rfl, (HJI.out _ _).2 ⟨hk.below b6 (fun y e => by omega), ht.keep hk (by omega), ht2.keep hk (by omega), ?_, HQ6.out.keep hk (by omega)⟩, ?_⟩
        · rw [show byR ((x.asid, x.rt) :: ls) = fun y => if y = x.asid then byR ls y ++ [x.rt] else byR ls y from funext fun y => by rw [byR, if_neg HP.out]]
          exact hg
        · exact (((Keeps.of_below (F := fun _ => False) hb5).mono (fun _ h => h.elim)).after (HK6.out.mono (fun y e => (hcc y).2 (.inr (.inl e))))).after (hk.mono (fun y e => (hcc y).2 (e.imp id (fun e => .inr e))))
  case it =>
    intro l Rec W1 hl hb1 hz1 hj1 hrec hRk hlp hy
    have a1 := HAD.out
    have a2 := HT3.out
    have a3 := HT4.out
    have a4 := HZZ.out
    have hcc : ∀ y, C y ↔ (y = M ∨ y = O ∨ Z + 2 ≤ y) := fun y => by rw [HC.out]
    have hjj : ∀ ls X, J ls X → Below w.heap.size w X := fun ls X h => by rw [HJ.out] at h; exact h.1
    refine callsIn_wide.2 ((running1_any s w W1 R l (fun ls X => J ls X ∧ Rec X ∧ Z + 2 ≤ X.heap.size) (fun y => C y ∨ y = W4.heap.size + 1) HS.out HM.out (hjj _ _ hj1) (HK4.out.call hb1) (fun y hy => ?_) ?_ ⟨hj1, hrec, by omega⟩ ?_).mono ?_)
    · rcases hy with hy | hy
      · rcases (hcc y).1 hy with h | h | h <;> omega
      · omega
    · rintro ls X X' ⟨q1, q2, q3⟩ hb
      refine ⟨?_, hRk (fun _ => False) _ _ q2 (Keeps.of_below hb) (fun h => h) (fun h => h), Nat.le_trans q3 hb.size⟩
      rw [HJ.out] at q1 ⊢
      obtain ⟨g1, g2, g3, g4, g5⟩ := q1
      exact ⟨bthen g1 hb, g2.call hb, g3.call hb, g4.call hb, g5.call hb⟩
    · rintro m ls k x X q1 q2 q3 ⟨q4, q5, q6⟩
      refine YieldAt.mono (hy m ls (k, x) X ⟨q1, q2, q3⟩ q4 q5 (by omega)) ?_
      rintro e X' ⟨g1, g2, g3, g4⟩
      exact ⟨g1, ⟨g2, g3, Nat.le_trans q6 g4.size⟩, g4⟩
    · rintro e X ⟨g1, g2, g3, g4⟩
      exact ⟨g1, g2, g3⟩
  case done =>
    intro X hj hdf
    rw [HJ.out] at hj
    obtain ⟨g1, g2, g3, g4, g5⟩ := hj
    have x3 : X.cell? ⟨T, 0, none⟩ = some (.map (some M)) := g2.cell 0
    have G1 := Lib.hid g1
    have G4 := Lib.hid g4
    have HDF := Lib.hid hdf
    clear g1 g2 g3 g4 g5 hdf
    rw [ha]
    gi_wp2
    go_wp2_with fail
    refine ⟨by simp, .inl ⟨_, _, rfl, run_takeDeferred HDF.out, ?_⟩⟩
    have a1 := HAD.out
    have a2 := HT3.out
    have a3 := HT4.out
    have a4 := HZZ.out
    have hkk := keeps_putObj X W4.heap.size (.deferred none)
    refine ⟨_, results_tmp rfl _ _ _, M, rfl, ?_, hkk.below G1.out (fun y e => by omega)⟩
    obtain ⟨on, m1, m2, m3⟩ := G4.out.keep hkk (by omega) (by omega)
    refine ⟨by omega, _, _, m1, fun a ha => ?_⟩
    have hown := m3.own a ha
    obtain ⟨Oa, cap, e1, -, -, hrk⟩ := hown.form encI_len
    refine ⟨Oa, cap, e1, hrk, ?_, ?_, ?_⟩
    · have := byR_len (runL s.cl s.cl.length) a
      have := runL_len s.cl s.cl.length
      have := HM.out.ncl
      omega
    · rintro b off rfl
      have := hown.lt b (by rw [e1]; rfl)
      have := HB4.out.size
      omega
    · intro r hr
      have := byR_mem _ _ _ hr
      unfold runL at this
      rw [List.mem_reverse, List.mem_map] at this
      obtain ⟨c, hc, e⟩ := this
      cases e
      have hc1 := List.mem_of_mem_drop (List.mem_filter.1 hc).1
      exact (HS.out.gcall c (List.mem_of_mem_take hc1)).grt
end Go.Proofs.YtappjiljmpgjcaaDoor
