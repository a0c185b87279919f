/-
  LAWS' LEDGER: rows that a law copies, compares, marks.
-/
import Derived.Test.YtlakmogclcpgdaaOwn2Mg
import Derived.Test.YtlakmogclcpgdaaStatesMg
namespace Go.Proofs.Ytlakmogclcpgdaa
open Go.RowKit Go.Flt
set_option linter.unusedVariables false
set_option maxRecDepth 100000
set_option linter.unusedSimpArgs false

theorem grew_drawn' {w w' : World} (h : ∃ n, w' = w.drewN n) : Grew w w' := by
  obtain ⟨n, rfl⟩ := h
  exact grew_draw _ n (grew_refl w)

theorem c_eqF' (lo hi lo' hi' : Nat) (v v' : Value) (xs ys : List Nat) (w : World) (h : FRow w lo hi v xs) (h' : FRow w lo' hi' v' ys) (he : xs.map (cl .f32) = ys.map (cl .f32)) (hn : xs.length ≤ 1048576) :
    Calls Try.prog 34 #[v, v'] w fun e w' => e = .returned (.bool true) ∧ Grew w w' :=
  (c_eqF lo hi lo' hi' v v' xs ys w h h' he hn).mono fun e w' ⟨a, b⟩ => ⟨a, grew_drawn' b⟩

theorem c_markF' (v : Value) (lo hi : Nat) (xs : List Nat) (k : Int) (w : World) (h : FRow w lo hi v xs) (hn : xs.length ≤ 2097152) (h0 : 0 ≤ k) (h1 : k ≤ 16777216) :
    Calls Try.prog 35 #[v, .int .i64 k] w fun e w' => e = .returned (.int .i64 (k + xs.length)) ∧ FRow w' lo hi v (mrkFloat32S k xs.length) ∧ Wrote lo hi w w' :=
  (c_markFloat32S v lo hi xs k w h hn h0 h1).mono fun e w' ⟨a, b, c⟩ => ⟨a, b, Wrote.of_outside c⟩

theorem c_heldF' (v : Value) (lo hi n : Nat) (k : Int) (w : World) (h : FRow w lo hi v (mrkFloat32S k n)) (hn : n ≤ 2097152) (h0 : 0 ≤ k) (h1 : k ≤ 16777216) :
    Calls Try.prog 36 #[v, .int .i64 k] w fun e w' => e = .returned (.int .i64 (k + n)) ∧ Grew w w' :=
  (c_heldFloat32S v lo hi n k w h hn h0 h1).mono fun e w' ⟨a, b⟩ => ⟨a, grew_drawn' b⟩

/-- Nothing, and no. -/
theorem retRow_nil {α β : Type} {g : α → Value} {t : TypeId} {f : α → β} (w w' : World) (hg : Grew w w') : RetRow g t f [] false w (.returned (.tuple #[.slice none 0 0, .bool false])) w' :=
  ⟨_, [], rfl, rowAt_nil _ _ _, rfl, hg⟩

theorem calls_grew {P : Program} {f : FuncId} {args : Array Value} {D : Ieee.Datum} {b : Bool} {w : World} (h : Calls P f args w (RetFB D b (Drawn w))) : Calls P f args w (RetFB D b (Grew w)) :=
  h.mono fun e w' ⟨r, he, h1, h2, h3⟩ => ⟨r, he, h1, h2, grew_of_drawn h3⟩

end Go.Proofs.Ytlakmogclcpgdaa

