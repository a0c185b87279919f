/-
  CONTRACTS: roses that a law copies, compares, marks.
-/
import Derived.Test.YtkippcjifikegaaSz
namespace Go.Proofs.Ytkippcjifikegaa
open Go.RowKit Go.Flt
set_option linter.unusedVariables false
set_option maxRecDepth 100000
set_option linter.unusedSimpArgs false

/-- A rose: the slices lie in rows of their own from block lo on, below block hi, in two blocks. -/
def RoseAt (w : World) (lo hi : Nat) (v : Value) (xs ys : List Nat)  : Prop :=
  ∃ X Y, v = .agg #[X, Y] ∧ FRow w lo hi X xs ∧ FRow w lo hi Y ys ∧ ∀ k, X.ownBlock = some k → Y.ownBlock ≠ some k

/-- The parts of a rose lie in block b. -/
def RoAt (w : World) (b : Nat) (X Y : Value)  : Prop :=
  w.cell? ⟨b, 0, none⟩ = some X ∧ w.cell? ⟨b, 1, none⟩ = some Y

theorem RoAt.grew {w w' : World} {b : Nat} {X Y : Value}  (h : RoAt w b X Y) (hb : b < w.heap.size) (hg : Grew w w') : RoAt w' b X Y := by
  obtain ⟨h0, h1⟩ := h
  have hc := (bcell hg).1
  exact ⟨(hc _ _ hb).trans h0, (hc _ _ hb).trans h1⟩

theorem RoAt.drewN {w : World} {b : Nat} {X Y : Value}  (h : RoAt w b X Y) (n : Nat) : RoAt (w.drewN n) b X Y := h

section
variable {w w' : World} {lo hi : Nat} {v : Value} {xs ys : List Nat} 

theorem RoseAt.grew (h : RoseAt w lo hi v xs ys) (hs : hi ≤ w.heap.size) (hg : Grew w w') : RoseAt w' lo hi v xs ys := by
  obtain ⟨X, Y, e, hx, hy, hd⟩ := h
  exact ⟨X, Y, e, hx.grew hs hg, hy.grew hs hg, hd⟩

theorem RoseAt.drewN (h : RoseAt w lo hi v xs ys) (n : Nat) : RoseAt (w.drewN n) lo hi v xs ys := h

theorem RoseAt.keep (h : RoseAt w lo hi v xs ys) (hk : ∀ k, lo ≤ k → k < hi → w'.heap[k]? = w.heap[k]?) : RoseAt w' lo hi v xs ys := by
  obtain ⟨X, Y, e, hx, hy, hd⟩ := h
  exact ⟨X, Y, e, hx.keep hk, hy.keep hk, hd⟩

theorem RoseAt.wrote {a b : Nat} (h : RoseAt w lo hi v xs ys) (hs : hi ≤ w.heap.size) (ho : Wrote a b w w') (hd : hi ≤ a ∨ b ≤ lo) : RoseAt w' lo hi v xs ys := h.keep fun k h1 h2 => ho.block k (by omega) (by omega)

theorem RoseAt.parts (h : RoseAt w lo hi v xs ys) : ∃ A c A' c', v = .agg #[.slice A xs.length c, .slice A' ys.length c'] ∧ Fl w hi A xs.length xs ∧ Fl w hi A' ys.length ys := by
  obtain ⟨X, Y, rfl, hx, hy, _⟩ := h
  obtain ⟨A, c, rfl, h1⟩ := hx.slc
  obtain ⟨A', c', rfl, h2⟩ := hy.slc
  exact ⟨A, c, A', c', rfl, h1, h2⟩
end

theorem RoseAt.ne {w : World} {lo hi : Nat} {v : Value} {xs ys : List Nat}  (h : RoseAt w lo hi v xs ys) : v ≠ undef := by
  obtain ⟨X, Y, rfl, _⟩ := h
  simp [undef]

/-- A rose of a call's own, made behind block B. -/
def RoseBy (B : Nat) (xs ys : List Nat)  (v : Value) (w' : World) : Prop := ∃ lo, B ≤ lo ∧ RoseAt w' lo w'.heap.size v xs ys

theorem RoseBy.ne {B : Nat} {xs ys : List Nat}  {v : Value} {w' : World} (h : RoseBy B xs ys v w') : v ≠ undef := by
  obtain ⟨_, _, h⟩ := h
  exact h.ne

theorem RoseBy.get {F : List (Tmp × (Value → World → World → Prop))} {w0 w' : World} {k : Tmp} {u : Value} {B : Nat} {xs ys : List Nat}  (h : Lasts F w0 k u w') (hu : u ≠ undef) (e : tabF F k = some (W2 (RoseBy B xs ys))) : ∃ lo hi, B ≤ lo ∧ hi ≤ w'.heap.size ∧ RoseAt w' lo hi u xs ys := by
  obtain ⟨_, w3, _, h1, h2, h3⟩ := h.get hu
  rw [ofOp_some, e] at h3
  obtain ⟨lo, hl, h3⟩ := h3
  exact ⟨lo, _, hl, Below.size h2, h3.grew (Nat.le_refl _) h2⟩

end Go.Proofs.Ytkippcjifikegaa
