/-
  The plain laws of regions: how many pages, which page is where, behind a call.
-/
import Derived.Test.YtaikkdlphfmgiaaSpChanges
namespace Go.Proofs.Ytaikkdlphfmgiaa
open Go.RowKit
set_option linter.unusedVariables false
set_option linter.unusedSimpArgs false
theorem chain_mono : ∀ {l : List Reg} {a b : Int}, a ≤ b → chainB b l = true → chainB a l = true
  | [], _, _, _, _ => rfl
  | r :: l, a, b, h, hc => by
    simp only [chainB, Bool.and_eq_true, decide_eq_true_eq] at hc ⊢
    exact ⟨hc.1, by omega, hc.2.2⟩
theorem chain_ins (r : Reg) : ∀ (l : List Reg) (a : Int), chainB a l = true → a ≤ r.f → eB r.f r.c = true → ovl l r = false → chainB a (insR l r) = true
  | [], a, _, h1, h2, _ => by simp [insR, chainB, h1, h2]
  | x :: t, a, hc, h1, h2, ho => by
    have ho' : ¬ (x.f < r.f + r.c ∧ r.f < x.f + x.c) ∧ ovl t r = false := by
      unfold ovl at ho ⊢
      simp only [List.any_cons, Bool.or_eq_false_iff] at ho
      refine ⟨fun h => ?_, ho.2⟩
      have := ho.1
      simp [h.1, h.2] at this
    have hr := (eB_iff _ _).1 h2
    have hc' := hc
    simp only [chainB, Bool.and_eq_true, decide_eq_true_eq, eB_iff] at hc'
    unfold insR
    by_cases h : r.f < x.f
    · rw [if_pos h]
      simp only [chainB, Bool.and_eq_true, decide_eq_true_eq]
      have : r.f + r.c ≤ x.f := by omega
      exact ⟨h2, h1, (eB_iff _ _).2 hc'.1, this, hc'.2.2⟩
    · rw [if_neg h]
      simp only [chainB, Bool.and_eq_true, decide_eq_true_eq]
      exact ⟨(eB_iff _ _).2 hc'.1, hc'.2.1, chain_ins r t _ hc'.2.2 (by omega) h2 ho'.2⟩
theorem pgs_ins (r : Reg) : ∀ l : List Reg, pgs (insR l r) = pgs l + r.c
  | [] => by simp [insR, pgs]
  | x :: t => by
    unfold insR
    split
    · simp only [pgs]; omega
    · simp only [pgs, pgs_ins r t]; omega
theorem keep_chain {x : Reg} {ys m : List Reg} {a : Int} (h0 : 0 ≤ x.c) (h1 : x.f + x.c ≤ 34359738368) (h2 : 0 ≤ x.f) (h3 : a ≤ x.f) (h : chainB (x.f + x.c) (keepL ys ++ m) = true) : chainB a (keepL (x :: ys) ++ m) = true := by
  unfold keepL at h ⊢
  by_cases hc : x.c = 0
  · have : hasP x = false := by simp [hasP, hc]
    rw [List.filter_cons_of_neg (by simp [this])]
    exact chain_mono (by omega) h
  · have : hasP x = true := by simpa [hasP] using hc
    rw [List.filter_cons_of_pos this]
    simp only [List.cons_append, chainB, Bool.and_eq_true, decide_eq_true_eq, eB_iff]
    exact ⟨⟨by omega, by omega, by omega⟩, h3, h⟩
theorem pgs_keep : ∀ ys : List Reg, pgs (keepL ys) = pgs ys
  | [] => rfl
  | x :: t => by
    unfold keepL
    have ih := pgs_keep t
    unfold keepL at ih
    by_cases hc : x.c = 0
    · rw [List.filter_cons_of_neg (by simp [hasP, hc]), ih]
      simp [pgs, hc]
    · rw [List.filter_cons_of_pos (by simpa [hasP] using hc)]
      simp only [pgs, ih]
/-- How many pages of a region are in a stretch. -/
def ov (f t : Int) (r : Reg) : Int := paB r f t - paA r f
theorem pgs_pcsU {f t : Int} {r : Reg} : pgs (pcs kpU f t r) = r.c - ov f t r := by
  unfold pcs
  rw [pgs_keep]
  simp only [kpU, pgs, pAhead, pRest, ov]
  omega
theorem pgs_pcsP {wt : Bool} {f t : Int} {r : Reg} : pgs (pcs (kpP wt) f t r) = r.c := by
  unfold pcs
  rw [pgs_keep]
  simp only [kpP, pgs, pAhead, pIn, pRest]
  omega
theorem chain_pcsU {f t a : Int} {r : Reg} {m : List Reg} (hr : Rok r) (ha : a ≤ r.f) (h : chainB (r.f + r.c) m = true) : chainB a (pcs kpU f t r ++ m) = true := by
  obtain ⟨k0, k1, k2⟩ := hr
  have h1 := paA_bd r f ⟨k0, k1, k2⟩
  have h2 := paB_bd r f t ⟨k0, k1, k2⟩
  unfold pcs kpU
  refine keep_chain (by simp only [pAhead]; omega) (by simp only [pAhead]; omega) (by simp only [pAhead]; omega) (by simp only [pAhead]; omega) ?_
  refine keep_chain (by simp only [pRest]; omega) (by simp only [pRest]; omega) (by simp only [pRest]; omega) (by simp only [pRest, pAhead]; omega) ?_
  simp only [keepL, List.filter_nil, List.nil_append]
  exact chain_mono (by simp only [pRest]; omega) h
theorem chain_pcsP {wt : Bool} {f t a : Int} {r : Reg} {m : List Reg} (hr : Rok r) (ha : a ≤ r.f) (h : chainB (r.f + r.c) m = true) : chainB a (pcs (kpP wt) f t r ++ m) = true := by
  obtain ⟨k0, k1, k2⟩ := hr
  have h1 := paA_bd r f ⟨k0, k1, k2⟩
  have h2 := paB_bd r f t ⟨k0, k1, k2⟩
  unfold pcs kpP
  refine keep_chain (by simp only [pAhead]; omega) (by simp only [pAhead]; omega) (by simp only [pAhead]; omega) (by simp only [pAhead]; omega) ?_
  refine keep_chain (by simp only [pIn]; omega) (by simp only [pIn]; omega) (by simp only [pIn]; omega) (by simp only [pIn, pAhead]; omega) ?_
  refine keep_chain (by simp only [pRest]; omega) (by simp only [pRest]; omega) (by simp only [pRest]; omega) (by simp only [pRest, pIn]; omega) ?_
  simp only [keepL, List.filter_nil, List.nil_append]
  exact chain_mono (by simp only [pRest]; omega) h
theorem chain_flat (g : Reg → List Reg) (hg : ∀ (r : Reg) (a : Int) (m : List Reg), Rok r → a ≤ r.f → chainB (r.f + r.c) m = true → chainB a (g r ++ m) = true) : ∀ (l : List Reg) (a : Int), 0 ≤ a → chainB a l = true → chainB a (l.flatMap g) = true
  | [], _, _, _ => rfl
  | r :: l, a, h0, h => by
    simp only [chainB, Bool.and_eq_true, decide_eq_true_eq, eB_iff] at h
    rw [List.flatMap_cons]
    exact hg r a _ ⟨by omega, by omega, by omega⟩ h.2.1 (chain_flat g hg l _ (by omega) h.2.2)
/-- A sum over regions. -/
def sm (h : Reg → Int) : List Reg → Int
  | [] => 0
  | r :: l => h r + sm h l
theorem pgs_flat (g : Reg → List Reg) (h : Reg → Int) (hg : ∀ r, pgs (g r) = r.c - h r) : ∀ l : List Reg, pgs (l.flatMap g) = pgs l - sm h l
  | [] => by simp [pgs, sm]
  | r :: l => by
    rw [List.flatMap_cons, pgs_app, hg, pgs_flat g h hg l]
    simp only [pgs, sm]
    omega
def ind (p : Int) (r : Reg) : Int := if inR p r then 1 else 0
theorem ov_zero (f : Int) (r : Reg) : ov f f r = 0 := by
  unfold ov paB paA
  omega
theorem ov_succ (f : Int) (n : Nat) (r : Reg) (hr : Rok r) : ov f (f + (n + 1 : Nat)) r = ov f (f + n) r + ind (f + n) r := by
  obtain ⟨k0, k1, k2⟩ := hr
  unfold ind inR
  by_cases h : r.f ≤ f + n ∧ f + n < r.f + r.c
  · rw [if_pos (by simp [h.1, h.2])]
    unfold ov paB paA
    omega
  · rw [if_neg (by simpa using fun a => Classical.byContradiction fun b => h ⟨a, by omega⟩)]
    unfold ov paB paA
    omega
theorem sm_zero (h : Reg → Int) (hz : ∀ r, h r = 0) : ∀ l : List Reg, sm h l = 0
  | [] => rfl
  | r :: l => by simp [sm, hz, sm_zero h hz l]
theorem sm_add (h g k : Reg → Int) : ∀ l : List Reg, (∀ r ∈ l, h r = g r + k r) → sm h l = sm g l + sm k l
  | [], _ => by simp [sm]
  | r :: l, hh => by
    simp only [sm]
    rw [hh r (by simp), sm_add h g k l (fun x hx => hh x (by simp [hx]))]
    omega
theorem sm_ind (p : Int) : ∀ (l : List Reg) (a : Int), chainB a l = true → sm (ind p) l = if (l.find? (inR p)).isSome then 1 else 0
  | [], _, _ => by simp [sm]
  | r :: l, a, h => by
    have h' := h
    simp only [chainB, Bool.and_eq_true, decide_eq_true_eq, eB_iff] at h'
    have ih := sm_ind p l _ h'.2.2
    simp only [sm]
    by_cases hp : inR p r = true
    · rw [List.find?_cons_of_pos hp]
      have hn : l.find? (inR p) = none := by
        refine find_none l _ (fun i hi => ?_)
        have := (chain_at l _ h'.2.2 i hi).1
        simp only [inR, Bool.and_eq_true, decide_eq_true_eq] at hp
        simp only [inR, Bool.and_eq_false_iff, decide_eq_false_iff_not]
        left; omega
      rw [ih, hn]
      simp [ind, hp]
    · rw [List.find?_cons_of_neg hp, ih]
      simp [ind, hp]
theorem whB_some {l : List Reg} {f : Int} : ∀ {n : Nat}, whB l f n = true → ∀ k, k < n → (fnd l (f + k)).isSome = true
  | 0, _, k, hk => by omega
  | n + 1, h, k, hk => by
    unfold whB at h
    simp only [Bool.and_eq_true] at h
    by_cases e : k = n
    · rw [e]; exact h.2
    · exact whB_some h.1 k (by omega)
theorem fnd_yes {l : List Reg} {p : Int} (h : chk l = true) : fnd l p = l.find? (inR p) := by unfold fnd; rw [if_pos h]
theorem sm_ov {l : List Reg} {f : Int} (hc : chk l = true) : ∀ n : Nat, whB l f n = true → sm (ov f (f + n)) l = n
  | 0, _ => by
    rw [show f + ((0 : Nat) : Int) = f by simp, sm_zero _ (ov_zero f)]
    rfl
  | n + 1, h => by
    have hs := whB_some h n (by omega)
    have h1 : whB l f n = true := by unfold whB at h; simp only [Bool.and_eq_true] at h; exact h.1
    have hch := (chk_parts hc).2.1
    rw [sm_add _ (ov f (f + n)) (ind (f + n)) l (fun r hr => ov_succ f n r (by
      obtain ⟨i, hi, rfl⟩ := List.mem_iff_getElem.1 hr
      have := rok_of hc i hi
      rwa [rg_get (List.getElem?_eq_getElem hi)] at this)), sm_ov hc n h1, sm_ind _ l 0 hch]
    rw [fnd_yes hc] at hs
    rw [if_pos hs]
    simp
/-- What Unmap and Protect leave: how many pages. -/
theorem pgs_unmap {l : List Reg} {f c : Int} (hc : chk l = true) (hw : whl l f c = true) : pgs (l.flatMap (pcs kpU f (f + c))) = pgs l - c := by
  obtain ⟨h1, h2, h3⟩ := whl_parts hw
  have hB : whB l f c.toNat = true := by unfold whl at hw; simp only [Bool.and_eq_true] at hw; exact hw.2
  have := sm_ov hc _ hB
  rw [show ((c.toNat : Nat) : Int) = c by omega] at this
  rw [pgs_flat _ (ov f (f + c)) (fun r => pgs_pcsU) l, this]
theorem pgs_protect {l : List Reg} {f c : Int} (wt : Bool) : pgs (l.flatMap (pcs (kpP wt) f (f + c))) = pgs l := by
  rw [pgs_flat _ (fun _ => 0) (fun r => by rw [pgs_pcsP]; omega) l, sm_zero _ (fun _ => rfl)]
  omega
/-- What is told is regions that may be. -/
theorem map_ok {l : List Reg} {r : Reg} (h : mapE l r = 0) (hf : 0 ≤ r.f) : chk l = true ∧ eB r.f r.c = true ∧ ovl l r = false ∧ chk (insR l r) = true := by
  unfold mapE at h
  split at h
  · rename_i h1
    split at h
    · rename_i h2
      split at h
      · simp at h
      · rename_i h3
        have h3 : ovl l r = false := by simpa using h3
        split at h
        · rename_i h4
          refine ⟨h1, h2, h3, ?_⟩
          obtain ⟨-, hch, -⟩ := chk_parts h1
          have e1 := chain_ins r l 0 hch hf h2 h3
          have e2 := pgs_ins r l
          have e3 := insR_len r l
          unfold chk
          rw [e1, e2, e3]
          simp; omega
        · simp at h
    · simp at h
  · simp at h
theorem chg_ok {l out : List Reg} {f c : Int} (h : chgE l f c out = 0) : chk l = true ∧ whl l f c = true ∧ out.length ≤ 8 := by
  unfold chgE at h
  split at h
  · rename_i h1
    split at h
    · rename_i h2
      split at h
      · rename_i h3; exact ⟨h1, h2, h3⟩
      · simp at h
    · simp at h
  · simp at h
theorem unmap_ok {l : List Reg} {f c : Int} (h : chgE l f c (l.flatMap (pcs kpU f (f + c))) = 0) : chk (l.flatMap (pcs kpU f (f + c))) = true := by
  obtain ⟨h1, h2, h3⟩ := chg_ok h
  obtain ⟨-, hch, hp⟩ := chk_parts h1
  have e1 := chain_flat (pcs kpU f (f + c)) (fun r a m hr ha hm => chain_pcsU hr ha hm) l 0 (by omega) hch
  have e2 := pgs_unmap h1 h2
  have := (whl_parts h2).1
  unfold chk
  rw [e1, e2]
  simp only [Bool.and_eq_true, decide_eq_true_eq, true_and]
  exact ⟨h3, by omega⟩
theorem protect_ok {l : List Reg} {f c : Int} {wt : Bool} (h : chgE l f c (l.flatMap (pcs (kpP wt) f (f + c))) = 0) : chk (l.flatMap (pcs (kpP wt) f (f + c))) = true := by
  obtain ⟨h1, h2, h3⟩ := chg_ok h
  obtain ⟨-, hch, hp⟩ := chk_parts h1
  have e1 := chain_flat (pcs (kpP wt) f (f + c)) (fun r a m hr ha hm => chain_pcsP hr ha hm) l 0 (by omega) hch
  have e2 := pgs_protect (l := l) (f := f) (c := c) wt
  unfold chk
  rw [e1, e2]
  simp only [Bool.and_eq_true, decide_eq_true_eq, true_and]
  exact ⟨h3, hp⟩
/-- No page of a region that overlaps no other one is mapped. -/
theorem ovl_find {l : List Reg} {r : Reg} (h : ovl l r = false) {p : Int} (hp : inR p r = true) : l.find? (inR p) = none := by
  rw [List.find?_eq_none]
  intro x hx hq
  unfold ovl at h
  rw [List.any_eq_false] at h
  have := h x hx
  simp only [inR, Bool.and_eq_true, decide_eq_true_eq] at hp hq this
  omega
theorem map_whl {l : List Reg} {r : Reg} (h : mapE l r = 0) (hf : 0 ≤ r.f) : whl l r.f r.c = false := by
  obtain ⟨h1, h2, h3, -⟩ := map_ok h hf
  have hr := (eB_iff _ _).1 h2
  have hn : fnd l (r.f + ((0 : Nat) : Int)) = none := by
    rw [fnd_yes h1]
    exact ovl_find h3 (by simp [inR]; omega)
  unfold whl
  rw [whB_no (n := r.c.toNat) (k := 0) (by omega) hn]
  simp
/-- The rights of a page. -/
def fw (l : List Reg) (p : Int) : Option Bool := (l.find? (inR p)).map (·.w)
theorem fw_app (l m : List Reg) (p : Int) : fw (l ++ m) p = (fw l p).or (fw m p) := by
  unfold fw
  rw [List.find?_append]
  cases l.find? (inR p) <;> rfl
theorem fw_cons (x : Reg) (l : List Reg) (p : Int) : fw (x :: l) p = if inR p x then some x.w else fw l p := by
  unfold fw
  by_cases h : inR p x = true
  · rw [List.find?_cons_of_pos h, if_pos h]; rfl
  · rw [List.find?_cons_of_neg h, if_neg h]
theorem fw_keep (p : Int) : ∀ ys : List Reg, (∀ x ∈ ys, 0 ≤ x.c) → fw (keepL ys) p = fw ys p
  | [], _ => rfl
  | x :: t, h => by
    have ih := fw_keep p t (fun y hy => h y (by simp [hy]))
    unfold keepL at ih ⊢
    by_cases hc : x.c = 0
    · rw [List.filter_cons_of_neg (by simp [hasP, hc]), ih, fw_cons, if_neg (by simp [inR, hc])]
    · rw [List.filter_cons_of_pos (by simpa [hasP] using hc), fw_cons, fw_cons, ih]
def inS (f t p : Int) : Bool := decide (f ≤ p) && decide (p < t)
theorem fw_pcsU {f t p : Int} {r : Reg} (hr : Rok r) (hft : f ≤ t) : fw (pcs kpU f t r) p = if inS f t p then none else fw [r] p := by
  obtain ⟨k0, k1, k2⟩ := hr
  have h1 := paA_bd r f ⟨k0, k1, k2⟩
  have h2 := paB_bd r f t ⟨k0, k1, k2⟩
  unfold pcs
  rw [fw_keep p _ (by intro x hx; simp only [kpU, List.mem_cons, List.not_mem_nil, or_false] at hx; rcases hx with rfl | rfl <;> simp only [pAhead, pRest] <;> omega)]
  simp only [kpU, fw_cons, pAhead, pRest, inR, inS, Bool.and_eq_true, decide_eq_true_eq]
  unfold paA paB paA
  have e0 : fw [] p = none := rfl
  rw [e0]
  repeat' split
  all_goals first | rfl | (exfalso; omega)
theorem fw_pcsP {wt : Bool} {f t p : Int} {r : Reg} (hr : Rok r) (hft : f ≤ t) : fw (pcs (kpP wt) f t r) p = if inS f t p then (fw [r] p).map (fun _ => wt) else fw [r] p := by
  obtain ⟨k0, k1, k2⟩ := hr
  have h1 := paA_bd r f ⟨k0, k1, k2⟩
  have h2 := paB_bd r f t ⟨k0, k1, k2⟩
  unfold pcs
  rw [fw_keep p _ (by intro x hx; simp only [kpP, List.mem_cons, List.not_mem_nil, or_false] at hx; rcases hx with rfl | rfl | rfl <;> simp only [pAhead, pIn, pRest] <;> omega)]
  simp only [kpP, fw_cons, pAhead, pIn, pRest, inR, inS, Bool.and_eq_true, decide_eq_true_eq]
  unfold paA paB paA
  have e0 : fw [] p = none := rfl
  rw [e0]
  repeat' split
  all_goals first | rfl | (exfalso; omega)
theorem fw_unmap {f t p : Int} (hft : f ≤ t) : ∀ l : List Reg, (∀ x ∈ l, Rok x) → fw (l.flatMap (pcs kpU f t)) p = if inS f t p then none else fw l p
  | [], _ => by simp [fw]
  | r :: l, h => by
    rw [List.flatMap_cons, fw_app, fw_pcsU (h r (by simp)) hft, fw_unmap hft l (fun x hx => h x (by simp [hx])), fw_cons r l, fw_cons r []]
    by_cases hi : inS f t p = true
    · simp [hi]
    · have e0 : fw [] p = none := rfl
      rw [if_neg hi, if_neg hi, if_neg hi, e0]
      split <;> simp
theorem fw_protect {wt : Bool} {f t p : Int} (hft : f ≤ t) : ∀ l : List Reg, (∀ x ∈ l, Rok x) → fw (l.flatMap (pcs (kpP wt) f t)) p = if inS f t p then (fw l p).map (fun _ => wt) else fw l p
  | [], _ => by simp [fw]
  | r :: l, h => by
    rw [List.flatMap_cons, fw_app, fw_pcsP (h r (by simp)) hft, fw_protect hft l (fun x hx => h x (by simp [hx])), fw_cons r l, fw_cons r []]
    have e0 : fw [] p = none := rfl
    rw [e0]
    by_cases hi : inS f t p = true
    · simp only [hi, if_true]
      split <;> simp
    · rw [if_neg hi, if_neg hi, if_neg hi]
      split <;> simp
theorem fw_ins {r : Reg} {p : Int} : ∀ l : List Reg, ovl l r = false → fw (insR l r) p = if inR p r then some r.w else fw l p
  | [], _ => by simp [insR, fw_cons]
  | x :: t, h => by
    have ht : ovl t r = false := by
      unfold ovl at h ⊢
      simp only [List.any_cons, Bool.or_eq_false_iff] at h
      exact h.2
    unfold insR
    by_cases hx : r.f < x.f
    · rw [if_pos hx, fw_cons]
    · rw [if_neg hx, fw_cons, fw_cons, fw_ins t ht]
      by_cases hp : inR p x = true
      · have : inR p r = false := by
          cases hq : inR p r
          · rfl
          · have := ovl_find h hq
            rw [List.find?_cons_of_pos hp] at this
            cases this
        simp [hp, this]
      · simp [hp]
end Go.Proofs.Ytaikkdlphfmgiaa
