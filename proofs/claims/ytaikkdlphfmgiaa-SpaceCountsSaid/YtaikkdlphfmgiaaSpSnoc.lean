/-
  One region more in a row of the call's own, beside a box that is kept.
-/
import Derived.Test.YtaikkdlphfmgiaaSpMap
import Derived.ArgAppend
namespace Go.Proofs.Ytaikkdlphfmgiaa
open Go.RowKit
set_option linter.unusedVariables false
set_option linter.unusedSimpArgs false
/-- A row of the call's own beside a box of a region. -/
structure Cx (w0 W : World) (v : Value) (xs : List Reg) (bx : Nat) (r : Reg) : Prop where
  o : Ow encG 3 25 W w0.heap.size v xs
  a : Arr W bx [.int .u64 r.f, .int .i64 r.c, .bool r.w]
  n : v.ownBlock ≠ some bx
  b : Below w0.heap.size w0 W
section
variable {w0 W : World} {v : Value} {xs : List Reg} {bx : Nat} {r : Reg}
theorem Cx.drew (h : Cx w0 W v xs bx r) : Cx w0 W.drew v xs bx r := ⟨h.o, h.a.drew, h.n, bd h.b⟩
theorem Cx.call {W' : World} (h : Cx w0 W v xs bx r) (hb : Below W.heap.size W W') : Cx w0 W' v xs bx r := ⟨h.o.call hb, h.a.call hb, h.n, bthen h.b hb⟩
theorem run_snocC (ty : TypeId) (h : Cx w0 W v xs bx r) (y : Reg) (hlen : xs.length ≤ 1000) :
    ∃ v' w', (Builtin.append_ #[22, 22] ty #[v, .slice (some ⟨W.heap.size, 0, none⟩) 1 1]).run Try.prog (W.alloc (.cells #[.int .u64 y.f, .int .i64 y.c, .bool y.w] 25)) = .ok v' w' ∧ Cx w0 w' v' (xs ++ [y]) bx r := by
  obtain ⟨i0, hi0, hz0, hz1, hz2⟩ := info_parts infoReg5
  have hb1 : Below W.heap.size W (W.alloc (.cells #[.int .u64 y.f, .int .i64 y.c, .bool y.w] 25)) := ba (Below.refl _ _) _
  have hC := h.call hb1
  have hNew := Bk.new W 25 #[.int .u64 y.f, .int .i64 y.c, .bool y.w]
  have hsz : (W.alloc (.cells #[.int .u64 y.f, .int .i64 y.c, .bool y.w] 25)).heap.size = W.heap.size + 1 := by simp
  have hbx := h.a.lt
  have hvl := h.o.lt
  generalize W.alloc (.cells #[.int .u64 y.f, .int .i64 y.c, .bool y.w] 25) = W1 at *
  have ad : ∀ (b o j : Nat), (⟨b, o, none⟩ : Addr).add j = ⟨b, o + j, none⟩ := fun b o j => by unfold Addr.add; split <;> simp_all
  have hnews : ∀ j u, (encG y)[j]? = some u → W1.cell? ((⟨W.heap.size, 0, none⟩ : Addr).add j) = some u := fun j u hj => by
    rw [ad, Nat.zero_add, hNew.cell]; simpa [encG] using hj
  have hfl := flat_len encG_len xs
  have hcat : flat encG xs ++ encG y = flat encG (xs ++ [y]) := by rw [flat_snoc]
  have fin : ∀ v' w', w'.ownsRow w0.heap.size 25 3 v' (xs.length + 1) (flat encG xs ++ encG y) → W1.grownBy w' v.ownBlock → v'.ownBlock ≠ some bx → Cx w0 w' v' (xs ++ [y]) bx r := fun v' w' ho hg hn => by
    refine ⟨?_, ?_, hn, ?_⟩
    · unfold Ow
      rw [← hcat, List.length_append]
      exact ho
    · have hk := hg.block bx (by omega) (fun e => h.n e.symm)
      exact ⟨Nat.lt_of_lt_of_le hC.a.lt hg.size, fun i u hi => (World.cell?_of_block (a := ⟨bx, i, none⟩) hk).trans (hC.a.cell i u hi), fun i hi => (World.frozen?_of_block (a := ⟨bx, i, none⟩) hk).trans (hC.a.frozen i hi)⟩
    · exact hC.b.grown hg hC.b.size (fun g hg => (h.o.lt g hg).1)
  have hbig : (xs.length + 1) * 24 ≤ 140737488355328 := by omega
  rcases hC.o.2 with ⟨rfl, hx⟩ | ⟨g, cap, cur, rfl, hB, hh, c1, c2, c3, c4⟩
  · have hx0 : xs = [] := List.eq_nil_of_length_eq_zero hx
    obtain ⟨v', w', hr, ho, hg, -⟩ := run_append_own (P := Try.prog) W1 W1.heap.size 22 ty 25 i0 _ 3 24 Try.underlying22 hi0 hz0 hz1 hz2 rfl (by decide) (.slice none 0 0) 0 [] (World.ownsRow_nil _ _ _ _) ⟨W.heap.size, 0, none⟩ 1 1 (encG y) rfl hnews (encG_one y) (by unfold maxLen; omega) (by omega) (Nat.le_refl _)
    refine ⟨v', w', hr, fin v' w' ?_ hg (fun e => ?_)⟩
    · subst hx0
      have : Ow encG 3 25 w' W1.heap.size v' [y] := by unfold Ow flat; simpa using ho
      have := this.less (B' := w0.heap.size) hC.b.size
      unfold Ow flat at this
      simpa [flat] using this
    · have := (World.ownsRow.lt ho bx e).1
      omega
  · by_cases hroom : xs.length + 1 ≤ cap
    · obtain ⟨v', w', hr, ho, hg, -⟩ := run_append_own (P := Try.prog) W1 w0.heap.size 22 ty 25 i0 _ 3 24 Try.underlying22 hi0 hz0 hz1 hz2 rfl (by decide) _ xs.length (flat encG xs) hC.o ⟨W.heap.size, 0, none⟩ 1 1 (encG y) rfl hnews (encG_one y) (by unfold maxLen; omega) hbig hC.b.size
      refine ⟨v', w', hr, fin v' w' ho hg ?_⟩
      have h3 : (xs.length + 1) * 3 ≤ cap * 3 := Nat.mul_le_mul_right _ hroom
      have hr2 := run_append_room_cells (P := Try.prog) (w := W1) 22 ty 25 i0 Try.underlying22 hi0 g 0 xs.length cap ⟨W.heap.size, 0, none⟩ 1 1 (encG y) (by rw [hz1]; rfl) hnews (encG_one y) hroom
        (fun j hj => by
          rw [encG_len] at hj
          rw [hz1, cell_of_row _ _ _ cur 25 (0, 0) hh, Array.getElem?_eq_getElem (by omega)]; rfl)
        (fun j hj => frozen_of_row _ _ _ cur 25 hh)
      rw [hr] at hr2
      simp only [Result.ok.injEq] at hr2
      rw [hr2.1]
      exact h.n
    · obtain ⟨v', w', hr, ho, hg⟩ := run_append_arg_grows (P := Try.prog) (w := W1) 22 ty 25 i0 _ 3 24 Try.underlying22 hi0 hz0 hz1 hz2 rfl (by decide) ⟨g, 0, none⟩ xs.length cap (flat encG xs) hfl (fun j u hj => World.ownsRow.cells hC.o (g := g) rfl j u hj) ⟨W.heap.size, 0, none⟩ 1 1 (encG y) rfl hnews (by omega) (by unfold maxLen; omega) hbig
      refine ⟨v', w', hr, fin v' w' ?_ ⟨hg.os, hg.tape, hg.output, hg.size, fun k hk hn => hg.block k hk (fun e => by cases e)⟩ (fun e => ?_)⟩
      · obtain ⟨hl, h2⟩ := ho
        exact ⟨hl, h2.imp id fun ⟨g', cap', cur', e, hB', r'⟩ => ⟨g', cap', cur', e, Nat.le_trans hC.b.size hB', r'⟩⟩
      · have := (World.ownsRow.lt ho bx e).1
        omega
theorem wp_snocC {ops : Array Oper} {rest : List Oper} {o : Oper} {a : Go.Act} {Q : Exit → Go.Act → World → Prop} (hgd : o.guard = none) (s x : Operand)
    (ho : o.op = .call { callee := .builtin .append, args := #[s, x], argTypes := #[22, 22] }) (hs : a.eval s = v) (hC : Cx w0 W v xs bx r) (y : Reg) (hx : a.eval x = .slice (some ⟨W.heap.size, 0, none⟩) 1 1) (hlen : xs.length ≤ 1000)
    (h : ∀ v' w', Cx w0 w' v' (xs ++ [y]) bx r → wpList Try.prog ops Q rest (a.put o.dst v') w') : wpList Try.prog ops Q (o :: rest) a (W.alloc (.cells #[.int .u64 y.f, .int .i64 y.c, .bool y.w] 25)) := by
  obtain ⟨v', w', hr, hC'⟩ := run_snocC o.type hC y hlen
  exact Lib.wpList_append_run _ hgd s x 22 22 ho v _ hs hx v' w' hr (h v' w' hC')
end
end Go.Proofs.Ytaikkdlphfmgiaa
