/-
  The law MemPlays of layer 8: the walk.
-/
import Derived.Test.YtlhbofgcgfbchaaMemStep
import Derived.Deep.DeepCutAuto
namespace Go.Proofs.Ytlhbofgcgfbchaa
open Go.RowKit Go.Maps
set_option linter.unusedVariables false
set_option linter.unusedSimpArgs false
theorem act_range {w wr : World} {O : Option Addr} {xs : List Ac} {x : Ac} {k : Nat} (h : RK encA 9 w O xs) (hB : Below w.heap.size w wr) (hx : xs[k]? = some x) :
    ∃ b off : Nat, O = some ⟨b, off, none⟩ ∧ wr.rangeAt b (off + k * 9) (encA x) := by
  have h0 : 0 < xs.length := by have := (List.getElem?_eq_some_iff.1 hx).1; omega
  obtain ⟨b, off, e, hc⟩ := (h.call hB) h0
  exact ⟨b, off, e, fun j u hu => hc k x hx j u hu⟩
theorem actInfo : (Try.prog.info? 47).map (·.size) = some 9 := by kernel_rfl
section
variable {w : World} {ops : Array Oper} {rest : List Oper} {o : Oper} {a : Act} {Q : Exit → Act → World → Prop}
theorem get_act (hgd : o.guard = none) (y : Operand) (ho : o.op = .load 47 y) (b off : Nat) (x : Ac) (hx : a.eval y = .pointer (some ⟨b, off, none⟩)) (hr : w.rangeAt b off (encA x))
    (h : wpList Try.prog ops Q rest (a.put o.dst (.agg (encA x).toArray)) w) : wpList Try.prog ops Q (o :: rest) a w :=
  wpList_load_mid hgd 47 y ho b _ hx _ _ hr Try.underlying47 rfl actInfo h
end
/-- What holds at the head of the acts' loop. -/
def PlRel (w0 : World) (q n len : Nat) (v i : Value) (w : World) : Prop :=
  ∃ (p j kk : Nat) (c : Nat → Nat → Int) (F G : Nat → Prop), v = .pointer (some ⟨p, 0, none⟩) ∧ i = .int .i64 j ∧ j ≤ len ∧ kk ≤ j ∧ Pair w0 w p q n c c F G kk ∧ Zout n c
/-- A memory's copy takes its place. -/
theorem Pair.other {w0 w1 w2 w3 : World} {p p' q n k k' : Nat} {c : Nat → Nat → Int} {F F' G : Nat → Prop} (h : Pair w0 w1 p q n c c F G k) (hm : MemS w2 p' n c F' k') (hb : Below w1.heap.size w1 w2) (hF' : ∀ x, F' x → w1.heap.size ≤ x) (hk : Keeps F w2 w3) : Pair w0 w3 p' q n c c F' G k' where
  mem := hm.keep hk (fun b hb' hf => by have := hF' b hb'; have := h.mem.all b hf; omega)
  ref := (h.ref.call hb).keep hk (fun b hg hf => h.ap b hf hg)
  ap := fun y h1 h2 => by have := hF' y h1; have := h.ref.all y h2; omega
  hF := fun y hy => Nat.le_trans h.below.size (hF' y hy)
  hG := h.hG
  below := hk.below (bthen h.below hb) h.hF
set_option maxRecDepth 100000 in
set_option maxHeartbeats 8000000 in
theorem memPlays_any (nn : Int) (O : Option Addr) (cap : Nat) (xs : List Ac) (w : World) (hn : I64 nn) (hX : ActsK w O xs) (hcap : xs.length ≤ cap) (hm : cap ≤ maxLen) :
    Calls Try.prog 5 #[.int .i64 nn, .slice O xs.length cap] w fun e w' => e = .returned (.bool true) ∧ Below w.heap.size w w' := by
  have HX := Lib.hid hX
  have HN := Lib.hid hn
  clear hX hn
  have hmx : cap ≤ 9223372036854775807 := by unfold maxLen at hm; omega
  clear hm
  by_cases hgr : 300 < xs.length
  · go_enter Try.func5, Try.ntmps5
    go_wp2_with fail
    refine (wakes8_any _).mono ?_
    rintro e w1 ⟨rfl, hb⟩
    have HB := Lib.hid hb
    clear hb
    go_wp2_with fail
    go_ret
    exact ⟨rfl, HB.out⟩
  have hlen : xs.length ≤ 300 := by omega
  clear hgr
  by_cases hn1 : 1 ≤ nn ∧ nn ≤ 64
  · obtain ⟨n, rfl⟩ := Int.eq_ofNat_of_zero_le (show 0 ≤ nn by omega)
    have n1 : 1 ≤ n := by omega
    have n64 : n ≤ 64 := by omega
    clear hn1
    go_enter Try.func5, Try.ntmps5
    go_wp2_with fail
    refine (new_yes n _ n1 n64).mono ?_
    rintro e w1 ⟨p, F, rfl, hM, hB, hF⟩
    have HF := Lib.hid hF
    have HB := Lib.hid hB
    have HA := Lib.hid hM.all
    have HM := Lib.hid hM
    clear hF hB hM
    go_wp2_with fail
    refine (rnew_yes n _ n1 n64).mono ?_
    rintro e w2 ⟨q, G, rfl, hN, hB, hG⟩
    have HP := Lib.hid (show Pair w w2 p q n (fun _ _ => 0) (fun _ _ => 0) F G 0 from ⟨HM.out.call hB, hN, fun y h h' => Nat.not_lt.2 (hG y h') (HA.out y h), HF.out, fun y h => Nat.le_trans HB.out.size (hG y h), bthen HB.out hB⟩)
    clear hN hB hG HA HF HB HM
    go_wp2_with fail
    go_loopw [5, 9] (fun v i wr => PlRel w q n xs.length v i wr) (fun _ i _ => xs.length - (intOf i).toNat)
    case atStart => exact ⟨p, 0, 0, _, F, G, rfl, rfl, by omega, by omega, HP.out, fun _ _ _ _ => rfl⟩
    case round =>
      clear HP
      obtain ⟨p, j, kk, c, F, G, rfl, rfl, hj, hkk, hP, hz⟩ := hrel
      have HP := Lib.hid hP
      have HZ := Lib.hid hz
      clear hP hz
      by_cases hlt : j < xs.length
      · obtain ⟨x, hx⟩ : ∃ x, xs[j]? = some x := ⟨_, List.getElem?_eq_getElem hlt⟩
        obtain ⟨bb, off, hO, hrg⟩ := act_range HX.out.1 HP.out.below hx
        subst hO
        have HG := Lib.hid (HX.out.2 x (List.mem_of_getElem? hx))
        have HR := Lib.hid hrg
        have HX2 := Lib.hid hx
        clear hrg hx
        go_wp2_with (refine get_act rfl _ rfl bb (off + j * 9) x rfl HR.out ?_)
        refine (step_any x HG.out w _ p q n kk c F G HP.out HZ.out (by omega) n64).mono ?_
        rintro e w3 ⟨rfl, F1, G1, k1, hP1, hk1⟩
        have HP1 := Lib.hid hP1
        have HZ1 := Lib.hid (HZ.out.do n1 x)
        obtain ⟨c1, hc1⟩ : ∃ c1, doC n c x = c1 := ⟨_, rfl⟩
        rw [hc1] at HP1 HZ1
        clear hP1 hc1 HP HZ
        obtain ⟨bb', off', hO', hrg'⟩ := act_range HX.out.1 HP1.out.below HX2.out
        cases hO'
        have hd : w3.cell? ⟨bb, off + j * 9, none⟩ = some (.int .i64 x.d) := hrg' 0 _ rfl
        clear hrg'
        have hd0 := HG.out.1.1
        have hd1 := HG.out.1.2
        generalize x.d = d at hd hd0 hd1
        by_cases hc0 : d < 0
        · go_wp2_with fail
          refine (copy_any p n k1 c1 F1 _ HP1.out.mem (by omega)).mono ?_
          rintro e w4 ⟨p4, F4, k4, rfl, h4, hk4, hb4, hF4⟩
          have HM4 := Lib.hid h4
          have HB4 := Lib.hid hb4
          have HF4 := Lib.hid hF4
          clear h4 hb4 hF4
          go_wp2_with fail
          refine (mWrite_any (x := 0) (v := 99) (HP1.out.call HB4.out).mem (by omega) n64 ⟨by omega, by omega⟩).mono ?_
          rintro e w5 ⟨rfl, F5, k5, -, -, m3, -, -⟩
          have HP5 := Lib.hid (HP1.out.other HM4.out HB4.out HF4.out m3)
          clear m3 HM4 HB4 HF4 HP1
          go_wp2_with fail
          go_roundw
          case rel => exact ⟨p4, j + 1, k4, c1, F4, G1, rfl, by go_num, by omega, by omega, HP5.out, HZ1.out⟩
          case measure => simp [intOf]; omega
        · have hc0' : 0 ≤ d := by omega
          clear hc0
          by_cases hc4 : 4 < d
          · go_wp2_with fail
            refine (copy_any p n k1 c1 F1 _ HP1.out.mem (by omega)).mono ?_
            rintro e w4 ⟨p4, F4, k4, rfl, h4, hk4, hb4, hF4⟩
            have HM4 := Lib.hid h4
            have HB4 := Lib.hid hb4
            have HF4 := Lib.hid hF4
            clear h4 hb4 hF4
            go_wp2_with fail
            refine (mWrite_any (x := 0) (v := 99) (HP1.out.call HB4.out).mem (by omega) n64 ⟨by omega, by omega⟩).mono ?_
            rintro e w5 ⟨rfl, F5, k5, -, -, m3, -, -⟩
            have HP5 := Lib.hid (HP1.out.other HM4.out HB4.out HF4.out m3)
            clear m3 HM4 HB4 HF4 HP1
            go_wp2_with fail
            go_roundw
            case rel => exact ⟨p4, j + 1, k4, c1, F4, G1, rfl, by go_num, by omega, by omega, HP5.out, HZ1.out⟩
            case measure => simp [intOf]; omega
          · have hc4' : d ≤ 4 := by omega
            clear hc4
            go_wp2_with fail
            go_roundw
            case rel => exact ⟨p, j + 1, k1, c1, F1, G1, rfl, by go_num, by omega, by omega, HP1.out, HZ1.out⟩
            case measure => simp [intOf]; omega
      · obtain rfl : j = xs.length := by omega
        clear hlt
        go_wp2_with fail
        go_loopw [11] (fun i wr => ∃ g : Nat, i = .int .i64 ((g : Int) - 1) ∧ g ≤ n + 2 ∧ Pair w wr p q n c c F G kk) (fun i _ => n + 2 - (intOf i + 1).toNat)
        case atStart => exact ⟨0, rfl, by omega, HP.out⟩
        case round =>
          clear HP
          obtain ⟨g, rfl, hg, hP⟩ := hrel
          have HP := Lib.hid hP
          clear hP
          by_cases hlt : g < n + 2
          · go_wp2_with fail
            refine (mWords_any p n kk ((g : Int) - 1) c F _ HP.out.mem HZ.out n64 (by omega) (by omega)).mono ?_
            rintro e w3 ⟨v1, rfl, hc1, hb⟩
            have HC1 := Lib.hid hc1
            have HP1 := Lib.hid (HP.out.call hb)
            clear hc1 hb HP
            go_wp2_with fail
            refine (rWords_any q n ((g : Int) - 1) c G _ HP1.out.ref n64).mono ?_
            rintro e w4 ⟨v2, rfl, hc2, hb⟩
            have HC2 := Lib.hid hc2
            have HC1b := Lib.hid (HC1.out.call hb)
            have HP2 := Lib.hid (HP1.out.call hb)
            clear hc2 hb HP1 HC1
            go_wp2_with fail
            refine (same_yes _ v1 v2 _ _ _ HC1b.out HC2.out).mono ?_
            rintro e w5 ⟨rfl, hb⟩
            have HP3 := Lib.hid (HP2.out.call hb)
            clear hb HP2 HC2 HC1b
            go_wp2_with fail
            go_roundw
            case rel => exact ⟨g + 1, by go_num, by omega, HP3.out⟩
            case measure => simp [intOf]; omega
          · obtain rfl : g = n + 2 := by omega
            have c0 := HP.out.mem.cell
            go_wp2_with fail
            refine (frames_any p n _ c0).mono ?_
            rintro e w3 ⟨rfl, rfl⟩
            clear c0
            go_wp2_with fail
            refine (wakes8_any _).mono ?_
            rintro e w4 ⟨rfl, hb⟩
            have HB := Lib.hid (bthen HP.out.below hb)
            clear hb
            go_wp2_with fail
            go_ret
            exact ⟨rfl, HB.out⟩
  · have HO := Lib.hid (show nn < 1 ∨ 64 < nn by omega)
    clear hn1
    have hn0 := HN.out.1
    have hn9 := HN.out.2
    go_enter Try.func5, Try.ntmps5
    go_wp2_with fail
    refine (new_no nn _ HO.out).mono ?_
    rintro e w1 ⟨rfl, rfl⟩
    go_wp2_with fail
    refine (rnew_no nn _ HO.out).mono ?_
    rintro e w1 ⟨rfl, rfl⟩
    go_wp2_with fail
    refine wp_loop_rounds 1 ?_
    rw [rounds_succ]
    go_wp2_with fail
    all_goals
      refine wp_loop_rounds 1 ?_
      rw [rounds_succ]
      go_wp2_with fail
    all_goals
      refine (wakes8_any _).mono ?_
      rintro e w4 ⟨rfl, hb⟩
      have HB := Lib.hid hb
      clear hb
      go_wp2_with fail
      go_ret
      exact ⟨rfl, HB.out⟩
end Go.Proofs.Ytlhbofgcgfbchaa
