/-
  CONTRACTS: plants: when they are valid.
-/
import Derived.BigQuiet
import Derived.Deep.QuietTactic
import Derived.Test.YtlakmogclcpgdaaSlMg
namespace Go.Proofs.Ytlakmogclcpgdaa
open Go.RowKit Go.Flt
set_option linter.unusedVariables false
set_option maxRecDepth 100000
set_option linter.unusedSimpArgs false

/-- The numbers of a plant lie from here on. -/
def PlAt (w : World) (b off : Nat) (p : Pl) : Prop :=
  w.cell? ⟨b, off, none⟩ = some (.float .f32 p.i) ∧ w.cell? ⟨b, off + 1, none⟩ = some (.float .f32 p.d) ∧ w.cell? ⟨b, off + 2, none⟩ = some (.float .f32 p.r) ∧ w.cell? ⟨b, off + 3, none⟩ = some (.float .f32 p.l) ∧
  w.cell? ⟨b, off + 4, none⟩ = some (.float .f32 p.m) ∧ w.cell? ⟨b, off + 5, none⟩ = some (.float .f32 p.s) ∧ w.cell? ⟨b, off + 6, none⟩ = some (.float .f32 p.c) ∧ w.cell? ⟨b, off + 7, none⟩ = some (.float .f32 p.e)

def vPlant (p : Pl) : Bool :=
  above (cl .f32 p.i) && least (cl .f32 p.d) && above (cl .f32 p.r) && above (cl .f32 p.l) && fin (cl .f32 p.m) && flt (cl .f32 p.l) (cl .f32 p.m) && above (cl .f32 p.s) && fin (cl .f32 p.c) && flt (cl .f32 p.s) (cl .f32 p.c) && above (cl .f32 p.e)

theorem vPlant_list (p : Pl) : (!([p.i, p.r, p.l, p.m, p.s, p.c, p.e].any fun x => !fin (cl .f32 x) || fle (cl .f32 x) (cl .f32 0))) =
    (above (cl .f32 p.i) && above (cl .f32 p.r) && above (cl .f32 p.l) && above (cl .f32 p.m) && above (cl .f32 p.s) && above (cl .f32 p.c) && above (cl .f32 p.e)) := by
  simp only [List.any_cons, List.any_nil, Bool.or_false, Bool.not_or, Bool.not_not, above_not, Bool.and_assoc]

theorem above_more {x y : Ieee.Datum} (hx : above x = true) (hy : fin y = true) (h : flt x y = true) : above y = true := by
  unfold above at *
  simp only [Bool.and_eq_true] at hx ⊢
  exact ⟨hy, flt_trans_num (by decide) (by rw [← fin_eq]; exact hx.1) (by rw [← fin_eq]; exact hy) hx.2 h⟩

theorem above_fin {x : Ieee.Datum} (hx : above x = true) : fin x = true := by
  unfold above at hx
  simp only [Bool.and_eq_true] at hx
  exact hx.1

theorem vPlant_impl (p : Pl) : (above (cl .f32 p.i) && above (cl .f32 p.r) && above (cl .f32 p.l) && above (cl .f32 p.m) && above (cl .f32 p.s) && above (cl .f32 p.c) && above (cl .f32 p.e)
    && least (cl .f32 p.d) && flt (cl .f32 p.l) (cl .f32 p.m) && flt (cl .f32 p.s) (cl .f32 p.c)) = vPlant p := by
  unfold vPlant
  rw [Bool.eq_iff_iff]
  simp only [Bool.and_eq_true]
  constructor
  · rintro ⟨⟨⟨⟨⟨⟨⟨⟨⟨a, b⟩, c⟩, d⟩, e⟩, f⟩, g⟩, h⟩, i⟩, j⟩
    exact ⟨⟨⟨⟨⟨⟨⟨⟨⟨a, h⟩, b⟩, c⟩, above_fin d⟩, i⟩, e⟩, above_fin f⟩, j⟩, g⟩
  · rintro ⟨⟨⟨⟨⟨⟨⟨⟨⟨a, h⟩, b⟩, c⟩, d⟩, i⟩, e⟩, f⟩, j⟩, g⟩
    exact ⟨⟨⟨⟨⟨⟨⟨⟨⟨a, b⟩, c⟩, above_more c d i⟩, e⟩, above_more e f j⟩, g⟩, h⟩, i⟩, j⟩

end Go.Proofs.Ytlakmogclcpgdaa

/-
  CONTRACTS: drives: when they are valid.
-/
namespace Go.Proofs.Ytlakmogclcpgdaa
open Go.RowKit Go.Flt
set_option linter.unusedVariables false
set_option maxRecDepth 100000
set_option linter.unusedSimpArgs false

def DrAt (w : World) (b off : Nat) (p : Pl) (s : Int) (v q n : Nat) : Prop :=
  PlAt w b off p ∧ w.cell? ⟨b, off + 8, none⟩ = some (.int .i64 s) ∧ w.cell? ⟨b, off + 9, none⟩ = some (.float .f32 v) ∧ w.cell? ⟨b, off + 10, none⟩ = some (.float .f32 q) ∧ w.cell? ⟨b, off + 11, none⟩ = some (.float .f32 n)

def vDrive (p : Pl) (s : Int) (v q n : Nat) : Bool := vPlant p && within s 0 4 && least (cl .f32 v) && fromTo (cl .f32 q) (cl .f32 0) (cl .f32 1065353216) && fin (cl .f32 n)

theorem vDrive_spec (p : Pl) (s : Int) (v q n : Nat) : (vPlant p && within s 0 4 && least (cl .f32 v) && fge (cl .f32 q) (cl .f32 0) && fle (cl .f32 q) (cl .f32 1065353216) && fin (cl .f32 n)) = vDrive p s v q n := by
  unfold vDrive fromTo
  simp only [Bool.and_assoc]

end Go.Proofs.Ytlakmogclcpgdaa

/-
  CONTRACTS: what the grid takes.
-/
namespace Go.Proofs.Ytlakmogclcpgdaa
open Go.RowKit Go.Flt
set_option linter.unusedVariables false
set_option maxRecDepth 100000
set_option linter.unusedSimpArgs false

def grid (p : Pl) (s : Int) (v : Nat) : Ieee.Datum :=
  if s = 2 then if fle (cl .f32 v) (cl .f32 p.m) then fop .quo .f32 (fop .mul .f32 (cl .f32 p.r) (cl .f32 v)) (fop .mul .f32 (cl .f32 p.m) (cl .f32 p.m)) else fop .quo .f32 (cl .f32 p.r) (cl .f32 v)
  else cl .f32 0

theorem c_checked (x : Nat) (w : World) : Calls Try.prog 60 #[.float .f32 x] w fun e w' => e = .returned (.tuple #[.float .f32 (chkW x), .bool (fin (cl .f32 x))]) ∧ ∃ n, w' = w.drewN n := by
  cases h : fin (cl .f32 x)
  all_goals
    go_enter Try.func60, Try.ntmps60
    go_wp2_with (go_at_call 66; refine (c_IsFinite _ _).mono ?_; rintro e w' ⟨rfl, nq, rfl⟩)
    go_ret2
    exact ⟨by simp [chkW, h], _, rfl⟩


end Go.Proofs.Ytlakmogclcpgdaa

