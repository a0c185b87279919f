/-
  CONTRACTS: two rows laid one behind the other (slices.Concat of two).
-/
import Derived.Lib.AppendZeros
import Derived.Test.YtebhefbpkcpnjaaOwn2
namespace Go.Proofs.Ytebhefbpkcpnjaa
open Go.RowKit Go.Flt
set_option linter.unusedVariables false
set_option maxRecDepth 100000
set_option linter.unusedSimpArgs false

theorem grown_row {w : World} {n : Nat} (h0 : 0 < n) (hm : n ≤ maxLen) (e : TypeId) (z : Value) (hz : z.cells.size = 1) :
    RowAt (Value.float .f32) e (w.drew.alloc (.cells (Builtin.zeroCells z.cells n ++ Builtin.zeroCells z.cells (grownCap w n 0 e - n)) e)) w.heap.size (w.heap.size + 1) (.slice (some ⟨w.heap.size, 0, none⟩) 0 (grownCap w n 0 e)) [] := by
  have hge := grownCap_ge w n 0 e
  have hcm : grownCap w n 0 e ≤ maxLen := grownCap_le_maxLen w n 0 e hm
  refine ⟨World.ownsRow_made (base := w.heap.size) (e := e) (size := 1) w.drew _ _ (Nat.le_refl _) hcm ?_, fun k hk => ?_⟩
  · simp only [Array.size_append, size_zeroCells, hz]
    omega
  · simp only [Value.ownBlock, Option.some.injEq] at hk
    omega

/-- Rows of two appends. -/
theorem fl_cells {w : World} {K n : Nat} {b off : Nat} {xs : List Nat} (h : Fl w K (some ⟨b, off, none⟩) n xs) : ∀ j u, (xs.map (Value.float .f32))[j]? = some u → w.cell? ((⟨b, off, none⟩ : Addr).add j) = some u := by
  intro j u hj
  rw [List.getElem?_map, Option.map_eq_some_iff] at hj
  obtain ⟨x, hx, rfl⟩ := hj
  have hn : 0 < n := by have := h.1; have := (List.getElem?_eq_some_iff.1 hx).1; omega
  obtain ⟨b', off', e, _, hc⟩ := h.2 hn
  simp only [Option.some.injEq, Addr.mk.injEq, and_true] at e
  obtain ⟨rfl, rfl⟩ := e
  rw [Addr.add_lit]
  exact hc j x hx

theorem one_cells (xs : List Nat) : ∀ u ∈ xs.map (Value.float .f32), u.oneCell' = true := by
  intro u hu
  obtain ⟨x, _, rfl⟩ := List.mem_map.1 hu
  rfl

/-- What an 'append' of many values leaves. -/
theorem row_app {w0 w w2 : World} {v v' : Value} {xs ys : List Nat} {t : TypeId} (hg0 : Grew w0 w) (hrow : RowAt (Value.float .f32) t w w0.heap.size w.heap.size v xs) (hown : w2.ownsRow w0.heap.size t 1 v' (xs.length + ys.length) (xs.map (Value.float .f32) ++ ys.map (Value.float .f32)))
    (hgr : w.grownBy w2 v.ownBlock) : RowAt (Value.float .f32) t w2 w0.heap.size w2.heap.size v' (xs ++ ys) ∧ Grew w0 w2 := by
  refine ⟨⟨by simpa using hown, fun k hk => (hown.lt k hk).2⟩, hgr.os.trans hg0.os, hgr.tape.trans hg0.tape, hgr.output.trans hg0.output, ?_, fun k hk => ?_⟩
  · have a := hgr.size
    have b := Below.size hg0
    omega
  · have b := Below.size hg0
    rw [hgr.block k (by omega) (fun e => by have := (hrow.1.lt k e.symm).1; omega)]
    exact hg0.block k hk

end Go.Proofs.Ytebhefbpkcpnjaa
