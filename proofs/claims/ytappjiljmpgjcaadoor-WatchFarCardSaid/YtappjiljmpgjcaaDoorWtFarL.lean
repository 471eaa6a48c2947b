/-
  Layer 29: the plain law of WatchFar; rows written.
-/
import Derived.Test.YtappjiljmpgjcaaDoorWtMaps
import Derived.Test.YtappjiljmpgjcaaDoorWtWakes
import Derived.Test.YtappjiljmpgjcaaDoorRwMore
namespace Go.Proofs.YtappjiljmpgjcaaDoor
open Go.RowKit Go.Maps
set_option linter.unusedVariables false
set_option linter.unusedSimpArgs false
theorem aIdx_at (page l : Int) (h0 : 0 ≤ l) (h3 : l ≤ 3) : ((aIdx page l).toNat : Int) = aIdx page l := by
  have := fGet_9 page (9 * (3 - l) + 8) (9 * (3 - l)) (by omega)
  unfold aIdx
  omega
theorem way_far {s t : Sn} {page place : Int} (hl : t.fl.length = s.fl.length) (ht : ∀ a (i : Nat), (i : Int) ≠ place → tb t a i = tb s a i) (hp : ∀ l : Int, 0 ≤ l → l ≤ 3 → aIdx page l ≠ place) : ∀ n lv a, wayL t page n lv a = wayL s page n lv a := by
  have hthr : ∀ f, thr t f = thr s f := fun f => by unfold thr; rw [hl]
  intro n
  induction n with
  | zero => intro lv a; rfl
  | succ n ih =>
    intro lv a
    simp only [wayL]
    by_cases ha : aOk page lv = true
    · obtain ⟨_, h0, h3⟩ := (aOk_iff _ _).1 ha
      have e : tb t a (aIdx page lv).toNat = tb s a (aIdx page lv).toNat := ht a _ (by rw [aIdx_at page lv h0 h3]; exact hp lv h0 h3)
      rw [e, hthr, hthr, ih]
    · rw [if_neg (fun h => ha h.2), if_neg (fun h => ha h.2)]
theorem maps_far {s t : Sn} {sp page place : Int} (hsl : t.sl = s.sl) (hl : t.fl.length = s.fl.length) (ht : ∀ a (i : Nat), (i : Int) ≠ place → tb t a i = tb s a i) (hp : ∀ l : Int, 0 ≤ l → l ≤ 3 → aIdx page l ≠ place) : mapsP t sp page = mapsP s sp page := by
  unfold mapsP wayP
  rw [hsl, way_far hl ht hp]
theorem tb_set {s : Sn} {k : Nat} {x x' : Fr} {p v : Int} (hx : s.fl[k]? = some x) (hx' : x'.wl = ⟨p, v⟩ :: x.wl) (O : Option Addr) (c : Nat) : ∀ a (i : Nat), (i : Int) ≠ p → tb { s with fO := O, fl := s.fl.set k x', fc := c } a i = tb s a i := by
  intro a i hi
  unfold tb frm
  simp only
  have hk := (List.getElem?_eq_some_iff.1 hx).1
  by_cases e : a.toNat = k
  · rw [e, List.getElem?_set_self hk, hx]
    simp only [Option.getD_some]
    rw [hx', tbl, if_neg hi]
  · rw [List.getElem?_set_ne (fun h => e h.symm)]
theorem RK.put2 {α : Type} {enc : α → List Value} {w : World} {g k : Nat} {xs : List α} {x x' : α} {u0 u1 : Value} (h : RK enc 2 w (some ⟨g, 0, none⟩) xs) (hlen : ∀ x, (enc x).length = 2) (hx : xs[k]? = some x) (he : enc x' = [u0, u1]) :
    RK enc 2 ((w.setCell ⟨g, k * 2, none⟩ u0).setCell ⟨g, k * 2 + 1, none⟩ u1) (some ⟨g, 0, none⟩) (xs.set k x') := fun _ => by
  have hk := (List.getElem?_eq_some_iff.1 hx).1
  obtain ⟨b, off, e, hc⟩ := h (by omega)
  cases e
  refine ⟨g, 0, rfl, fun i y hi j u hu => ?_⟩
  have hj : j < 2 := by have := (List.getElem?_eq_some_iff.1 hu).1; rw [hlen] at this; exact this
  have old : ∀ (i : Nat) (z : α), xs[i]? = some z → ∀ j, j < 2 → ∃ u, w.cell? ⟨g, 0 + i * 2 + j, none⟩ = some u := fun i z hz j hj => ⟨_, hc i z hz j _ (List.getElem?_eq_getElem (by rw [hlen]; exact hj))⟩
  by_cases ei : i = k
  · subst ei
    rw [List.getElem?_set_self hk] at hi
    cases hi
    rw [he] at hu
    obtain ⟨o0, ho0⟩ := old i x hx 0 (by omega)
    obtain ⟨o1, ho1⟩ := old i x hx 1 (by omega)
    rw [Nat.zero_add, Nat.add_zero] at ho0
    rw [Nat.zero_add] at ho1
    match j, hu with
    | 0, hu =>
      simp at hu
      subst hu
      rw [World.cell?_setCell_other _ _ _ _ (by intro e; injection e with _ e; omega), Nat.zero_add, Nat.add_zero]
      exact World.cell?_setCell_same' _ _ _ (by rw [ho0]; rfl)
    | 1, hu =>
      simp at hu
      subst hu
      rw [Nat.zero_add]
      exact World.cell?_setCell_same' _ _ _ (by rw [World.cell?_setCell_other _ _ _ _ (by intro e; injection e with _ e; omega), ho1]; rfl)
  · rw [List.getElem?_set_ne (fun h => ei h.symm)] at hi
    rw [World.cell?_setCell_other _ _ _ _ (by intro e; injection e with _ e; omega), World.cell?_setCell_other _ _ _ _ (by intro e; injection e with _ e; omega)]
    exact hc i y hi j u hu
theorem maps_len (t : Sn) (n : Nat) (hn : t.fl.length = n) (sp page : Int) (w : World) (hs : t.Given w) (h70 : t.fl.length ≤ 1000) (hG : G w) (hp : U64 page) :
    Calls Tryd.prog 9 #[.agg #[.slice t.cO t.cl.length t.cc, .slice t.sO t.sl.length t.sc, .slice t.fO n t.fc], .int .i64 sp, .int .u64 page] w fun e w' => e = .returned (wayV (mapsP t sp page)) ∧ Below w.heap.size w w' := by
  subst hn
  exact maps_any t sp page w hs h70 hG hp
end Go.Proofs.YtappjiljmpgjcaaDoor
