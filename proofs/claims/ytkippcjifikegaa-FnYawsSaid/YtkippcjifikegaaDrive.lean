/-
  CONTRACTS: drives: when they are valid.
-/
import Derived.Test.YtkippcjifikegaaPlant
namespace Go.Proofs.Ytkippcjifikegaa
open Go.RowKit Go.Flt
set_option linter.unusedVariables false
set_option maxRecDepth 100000
set_option linter.unusedSimpArgs false

def DrAt (w : World) (b off : Nat) (p : Pl) (s : Int) (v q n : Nat) : Prop :=
  PlAt w b off p ∧ w.cell? ⟨b, off + 8, none⟩ = some (.int .i64 s) ∧ w.cell? ⟨b, off + 9, none⟩ = some (.float .f32 v) ∧ w.cell? ⟨b, off + 10, none⟩ = some (.float .f32 q) ∧ w.cell? ⟨b, off + 11, none⟩ = some (.float .f32 n)

def vDrive (p : Pl) (s : Int) (v q n : Nat) : Bool := vPlant p && within s 0 4 && least (cl .f32 v) && fromTo (cl .f32 q) (cl .f32 0) (cl .f32 1065353216) && fin (cl .f32 n)

theorem vDrive_spec (p : Pl) (s : Int) (v q n : Nat) : (vPlant p && within s 0 4 && least (cl .f32 v) && fge (cl .f32 q) (cl .f32 0) && fle (cl .f32 q) (cl .f32 1065353216) && fin (cl .f32 n)) = vDrive p s v q n := by
  unfold vDrive fromTo
  simp only [Bool.and_assoc]

end Go.Proofs.Ytkippcjifikegaa
