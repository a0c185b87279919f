/-
  LAWS' LEDGER: rows that a law copies, compares, marks.
-/
import Derived.Test.YtaddjeblcgpnpaaLed
import Derived.Test.YtaddjeblcgpnpaaStates
namespace Go.Proofs.Ytaddjeblcgpnpaa
open Go.RowKit Go.Flt
set_option linter.unusedVariables false
set_option maxRecDepth 100000
set_option linter.unusedSimpArgs false

theorem grew_drawn' {w w' : World} (h : ∃ n, w' = w.drewN n) : Grew w w' := by
  obtain ⟨n, rfl⟩ := h
  exact grew_draw _ n (grew_refl w)

theorem c_toI (A : Option Addr) (n cap K : Nat) (xs : List Int) (w : World) (h : Slc (Value.int .i64) w K A n xs) (hK : K ≤ w.heap.size) (hn : n ≤ 1048576) :
    Calls Try.prog 27 #[.slice A n cap] w fun e w' => ∃ v, e = .returned v ∧ RowAt (Value.int .i64) 2 w' w.heap.size w'.heap.size v xs ∧ Grew w w' :=
  (c_toInt64S A n cap K xs w h hK hn).mono fun e w' ⟨b, he, hb, ho, hg⟩ => by
    have hl := h.1
    subst hl
    exact ⟨_, he, ho.rowAt hb ho.lt (by unfold maxLen; omega), hg⟩

theorem c_eqI' (lo hi lo' hi' : Nat) (v v' : Value) (xs ys : List Int) (w : World) (h : RowAt (Value.int .i64) 2 w lo hi v xs) (h' : RowAt (Value.int .i64) 2 w lo' hi' v' ys) (he : xs.map id = ys.map id) (hn : xs.length ≤ 1048576) :
    Calls Try.prog 29 #[v, v'] w fun e w' => e = .returned (.bool true) ∧ Grew w w' := by
  have e : xs = ys := by simpa using he
  subst e
  obtain ⟨A, c, rfl, h1⟩ := h.slc
  obtain ⟨A', c', rfl, h2⟩ := h'.slc
  refine (c_eqInt64S A A' _ _ c c' (hi + hi') xs xs w (h1.mono (by omega)) (h2.mono (by omega)) hn hn).mono fun e w' ⟨a, b⟩ => ⟨?_, grew_drawn' b⟩
  rw [a]
  simp

theorem c_markI' (v : Value) (lo hi : Nat) (xs : List Int) (k : Int) (w : World) (h : RowAt (Value.int .i64) 2 w lo hi v xs) (hn : xs.length ≤ 2097152) (h0 : 0 ≤ k) (h1 : k ≤ 16777216) :
    Calls Try.prog 36 #[v, .int .i64 k] w fun e w' => e = .returned (.int .i64 (k + xs.length)) ∧ RowAt (Value.int .i64) 2 w' lo hi v (mrkInt64S k xs.length) ∧ Wrote lo hi w w' :=
  (c_markInt64S v lo hi xs k w h hn h0 h1).mono fun e w' ⟨a, b, c⟩ => ⟨a, b, Wrote.of_outside c⟩

theorem c_heldI' (v : Value) (lo hi n : Nat) (k : Int) (w : World) (h : RowAt (Value.int .i64) 2 w lo hi v (mrkInt64S k n)) (hn : n ≤ 2097152) (h0 : 0 ≤ k) (h1 : k ≤ 16777216) :
    Calls Try.prog 37 #[v, .int .i64 k] w fun e w' => e = .returned (.int .i64 (k + n)) ∧ Grew w w' :=
  (c_heldInt64S v lo hi n k w h hn h0 h1).mono fun e w' ⟨a, b⟩ => ⟨a, grew_drawn' b⟩

/-- Nothing, and no. -/
theorem retRow_nil {α β : Type} {g : α → Value} {t : TypeId} {f : α → β} (w w' : World) (hg : Grew w w') : RetRow g t f [] false w (.returned (.tuple #[.slice none 0 0, .bool false])) w' :=
  ⟨_, [], rfl, rowAt_nil _ _ _, rfl, hg⟩

end Go.Proofs.Ytaddjeblcgpnpaa
