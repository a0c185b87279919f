/-
  LAWS' LEDGER: rows that a law copies, compares, marks.
-/
import Derived.Test.YtkippcjifikegaaLed
import Derived.Test.YtkippcjifikegaaStates
namespace Go.Proofs.Ytkippcjifikegaa
open Go.RowKit Go.Flt
set_option linter.unusedVariables false
set_option maxRecDepth 100000
set_option linter.unusedSimpArgs false

theorem grew_drawn' {w w' : World} (h : ∃ n, w' = w.drewN n) : Grew w w' := by
  obtain ⟨n, rfl⟩ := h
  exact grew_draw _ n (grew_refl w)

/-- Nothing, and no. -/
theorem retRow_nil {α β : Type} {g : α → Value} {t : TypeId} {f : α → β} (w w' : World) (hg : Grew w w') : RetRow g t f [] false w (.returned (.tuple #[.slice none 0 0, .bool false])) w' :=
  ⟨_, [], rfl, rowAt_nil _ _ _, rfl, hg⟩

theorem calls_grew {P : Program} {f : FuncId} {args : Array Value} {D : Ieee.Datum} {b : Bool} {w : World} (h : Calls P f args w (RetFB D b (Drawn w))) : Calls P f args w (RetFB D b (Grew w)) :=
  h.mono fun e w' ⟨r, he, h1, h2, h3⟩ => ⟨r, he, h1, h2, grew_of_drawn h3⟩

end Go.Proofs.Ytkippcjifikegaa
