/-
  CONTRACTS: copies and comparisons of rows of floats.
-/
import Derived.Test.YtlakmogclcpgdaaOwn
import Derived.Test.YtlakmogclcpgdaaFls
namespace Go.Proofs.Ytlakmogclcpgdaa
open Go.RowKit Go.Flt
set_option linter.unusedVariables false
set_option maxRecDepth 100000
set_option linter.unusedSimpArgs false

abbrev FRow (w : World) (lo hi : Nat) (v : Value) (xs : List Nat) : Prop := RowAt (Value.float .f32) 22 w lo hi v xs

theorem c_toF (A : Option Addr) (n cap K : Nat) (xs : List Nat) (w : World) (h : Slc (Value.float .f32) w K A n xs) (hK : K ≤ w.heap.size) (hn : n ≤ 1048576) :
    Calls Try.prog 47 #[.slice A n cap] w fun e w' => ∃ v, e = .returned v ∧ FRow w' w.heap.size w'.heap.size v xs ∧ Grew w w' :=
  (c_toFloat32S A n cap K xs w h hK hn).mono fun e w' ⟨b, he, hb, ho, hg⟩ => by
    have hl := h.1
    subst hl
    exact ⟨_, he, ho.rowAt hb ho.lt (by unfold maxLen; omega), hg⟩

theorem c_eqF (lo hi lo' hi' : Nat) (v v' : Value) (xs ys : List Nat) (w : World) (h : FRow w lo hi v xs) (h' : FRow w lo' hi' v' ys) (he : xs.map (cl .f32) = ys.map (cl .f32)) (hn : xs.length ≤ 1048576) :
    Calls Try.prog 34 #[v, v'] w fun e w' => e = .returned (.bool true) ∧ ∃ n, w' = w.drewN n := by
  obtain ⟨A, c, rfl, h1⟩ := h.slc
  obtain ⟨A', c', rfl, h2⟩ := h'.slc
  exact c_eqFloat32S A A' _ _ c c' (hi + hi') xs ys w (h1.mono (by omega)) (h2.mono (by omega)) he hn

end Go.Proofs.Ytlakmogclcpgdaa
