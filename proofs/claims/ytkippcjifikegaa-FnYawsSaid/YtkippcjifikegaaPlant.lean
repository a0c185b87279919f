/-
  CONTRACTS: plants: when they are valid.
-/
import Derived.BigQuiet
import Derived.Deep.QuietTactic
import Derived.Test.YtkippcjifikegaaSl
namespace Go.Proofs.Ytkippcjifikegaa
open Go.RowKit Go.Flt
set_option linter.unusedVariables false
set_option maxRecDepth 100000
set_option linter.unusedSimpArgs false

/-- The numbers of a plant lie from here on. -/
def PlAt (w : World) (b off : Nat) (p : Pl) : Prop :=
  w.cell? ⟨b, off, none⟩ = some (.float .f32 p.i) ∧ w.cell? ⟨b, off + 1, none⟩ = some (.float .f32 p.d) ∧ w.cell? ⟨b, off + 2, none⟩ = some (.float .f32 p.r) ∧ w.cell? ⟨b, off + 3, none⟩ = some (.float .f32 p.l) ∧
  w.cell? ⟨b, off + 4, none⟩ = some (.float .f32 p.m) ∧ w.cell? ⟨b, off + 5, none⟩ = some (.float .f32 p.s) ∧ w.cell? ⟨b, off + 6, none⟩ = some (.float .f32 p.c) ∧ w.cell? ⟨b, off + 7, none⟩ = some (.float .f32 p.e)

def vPlant (p : Pl) : Bool :=
  above (cl .f32 p.i) && least (cl .f32 p.d) && above (cl .f32 p.r) && above (cl .f32 p.l) && fin (cl .f32 p.m) && flt (cl .f32 p.l) (cl .f32 p.m) && above (cl .f32 p.s) && fin (cl .f32 p.c) && flt (cl .f32 p.s) (cl .f32 p.c) && above (cl .f32 p.e)

theorem vPlant_list (p : Pl) : (!([p.i, p.r, p.l, p.m, p.s, p.c, p.e].any fun x => !fin (cl .f32 x) || fle (cl .f32 x) (cl .f32 0))) =
    (above (cl .f32 p.i) && above (cl .f32 p.r) && above (cl .f32 p.l) && above (cl .f32 p.m) && above (cl .f32 p.s) && above (cl .f32 p.c) && above (cl .f32 p.e)) := by
  simp only [List.any_cons, List.any_nil, Bool.or_false, Bool.not_or, Bool.not_not, above_not, Bool.and_assoc]

theorem above_more {x y : Ieee.Datum} (hx : above x = true) (hy : fin y = true) (h : flt x y = true) : above y = true := by
  unfold above at *
  simp only [Bool.and_eq_true] at hx ⊢
  exact ⟨hy, flt_trans_num (by decide) (by rw [← fin_eq]; exact hx.1) (by rw [← fin_eq]; exact hy) hx.2 h⟩

theorem above_fin {x : Ieee.Datum} (hx : above x = true) : fin x = true := by
  unfold above at hx
  simp only [Bool.and_eq_true] at hx
  exact hx.1

theorem vPlant_impl (p : Pl) : (above (cl .f32 p.i) && above (cl .f32 p.r) && above (cl .f32 p.l) && above (cl .f32 p.m) && above (cl .f32 p.s) && above (cl .f32 p.c) && above (cl .f32 p.e)
    && least (cl .f32 p.d) && flt (cl .f32 p.l) (cl .f32 p.m) && flt (cl .f32 p.s) (cl .f32 p.c)) = vPlant p := by
  unfold vPlant
  rw [Bool.eq_iff_iff]
  simp only [Bool.and_eq_true]
  constructor
  · rintro ⟨⟨⟨⟨⟨⟨⟨⟨⟨a, b⟩, c⟩, d⟩, e⟩, f⟩, g⟩, h⟩, i⟩, j⟩
    exact ⟨⟨⟨⟨⟨⟨⟨⟨⟨a, h⟩, b⟩, c⟩, above_fin d⟩, i⟩, e⟩, above_fin f⟩, j⟩, g⟩
  · rintro ⟨⟨⟨⟨⟨⟨⟨⟨⟨a, h⟩, b⟩, c⟩, d⟩, i⟩, e⟩, f⟩, j⟩, g⟩
    exact ⟨⟨⟨⟨⟨⟨⟨⟨⟨a, b⟩, c⟩, above_more c d i⟩, e⟩, above_more e f j⟩, g⟩, h⟩, i⟩, j⟩

end Go.Proofs.Ytkippcjifikegaa
