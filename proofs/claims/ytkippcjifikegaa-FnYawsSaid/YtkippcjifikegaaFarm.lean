/-
  CONTRACTS: farms that a law copies, compares, marks.
-/
import Derived.Test.YtkippcjifikegaaSz
namespace Go.Proofs.Ytkippcjifikegaa
open Go.RowKit Go.Flt
set_option linter.unusedVariables false
set_option maxRecDepth 100000
set_option linter.unusedSimpArgs false

/-- A farm: the slices lie in rows of their own from block lo on, below block hi, in two blocks. -/
def FarmAt (w : World) (lo hi : Nat) (v : Value) (xs ys : List Nat) (r d s : Nat) : Prop :=
  ∃ X Y, v = .agg #[X, Y, .float .f32 r, .float .f32 d, .float .f32 s] ∧ FRow w lo hi X xs ∧ FRow w lo hi Y ys ∧ ∀ k, X.ownBlock = some k → Y.ownBlock ≠ some k

/-- The parts of a farm lie in block b. -/
def FmAt (w : World) (b : Nat) (X Y : Value) (r d s : Nat) : Prop :=
  w.cell? ⟨b, 0, none⟩ = some X ∧ w.cell? ⟨b, 1, none⟩ = some Y ∧ w.cell? ⟨b, 2, none⟩ = some (.float .f32 r) ∧ w.cell? ⟨b, 3, none⟩ = some (.float .f32 d) ∧ w.cell? ⟨b, 4, none⟩ = some (.float .f32 s)

theorem FmAt.grew {w w' : World} {b : Nat} {X Y : Value} {r d s : Nat} (h : FmAt w b X Y r d s) (hb : b < w.heap.size) (hg : Grew w w') : FmAt w' b X Y r d s := by
  obtain ⟨h0, h1, h2, h3, h4⟩ := h
  have hc := (bcell hg).1
  exact ⟨(hc _ _ hb).trans h0, (hc _ _ hb).trans h1, (hc _ _ hb).trans h2, (hc _ _ hb).trans h3, (hc _ _ hb).trans h4⟩

theorem FmAt.drewN {w : World} {b : Nat} {X Y : Value} {r d s : Nat} (h : FmAt w b X Y r d s) (n : Nat) : FmAt (w.drewN n) b X Y r d s := h

section
variable {w w' : World} {lo hi : Nat} {v : Value} {xs ys : List Nat} {r d s : Nat}

theorem FarmAt.grew (h : FarmAt w lo hi v xs ys r d s) (hs : hi ≤ w.heap.size) (hg : Grew w w') : FarmAt w' lo hi v xs ys r d s := by
  obtain ⟨X, Y, e, hx, hy, hd⟩ := h
  exact ⟨X, Y, e, hx.grew hs hg, hy.grew hs hg, hd⟩

theorem FarmAt.drewN (h : FarmAt w lo hi v xs ys r d s) (n : Nat) : FarmAt (w.drewN n) lo hi v xs ys r d s := h

theorem FarmAt.keep (h : FarmAt w lo hi v xs ys r d s) (hk : ∀ k, lo ≤ k → k < hi → w'.heap[k]? = w.heap[k]?) : FarmAt w' lo hi v xs ys r d s := by
  obtain ⟨X, Y, e, hx, hy, hd⟩ := h
  exact ⟨X, Y, e, hx.keep hk, hy.keep hk, hd⟩

theorem FarmAt.wrote {a b : Nat} (h : FarmAt w lo hi v xs ys r d s) (hs : hi ≤ w.heap.size) (ho : Wrote a b w w') (hd : hi ≤ a ∨ b ≤ lo) : FarmAt w' lo hi v xs ys r d s := h.keep fun k h1 h2 => ho.block k (by omega) (by omega)

theorem FarmAt.parts (h : FarmAt w lo hi v xs ys r d s) : ∃ A c A' c', v = .agg #[.slice A xs.length c, .slice A' ys.length c', .float .f32 r, .float .f32 d, .float .f32 s] ∧ Fl w hi A xs.length xs ∧ Fl w hi A' ys.length ys := by
  obtain ⟨X, Y, rfl, hx, hy, _⟩ := h
  obtain ⟨A, c, rfl, h1⟩ := hx.slc
  obtain ⟨A', c', rfl, h2⟩ := hy.slc
  exact ⟨A, c, A', c', rfl, h1, h2⟩
end

theorem FarmAt.ne {w : World} {lo hi : Nat} {v : Value} {xs ys : List Nat} {r d s : Nat} (h : FarmAt w lo hi v xs ys r d s) : v ≠ undef := by
  obtain ⟨X, Y, rfl, _⟩ := h
  simp [undef]

/-- A farm of a call's own, made behind block B. -/
def FarmBy (B : Nat) (xs ys : List Nat) (r d s : Nat) (v : Value) (w' : World) : Prop := ∃ lo, B ≤ lo ∧ FarmAt w' lo w'.heap.size v xs ys r d s

theorem FarmBy.ne {B : Nat} {xs ys : List Nat} {r d s : Nat} {v : Value} {w' : World} (h : FarmBy B xs ys r d s v w') : v ≠ undef := by
  obtain ⟨_, _, h⟩ := h
  exact h.ne

theorem FarmBy.get {F : List (Tmp × (Value → World → World → Prop))} {w0 w' : World} {k : Tmp} {u : Value} {B : Nat} {xs ys : List Nat} {r d s : Nat} (h : Lasts F w0 k u w') (hu : u ≠ undef) (e : tabF F k = some (W2 (FarmBy B xs ys r d s))) : ∃ lo hi, B ≤ lo ∧ hi ≤ w'.heap.size ∧ FarmAt w' lo hi u xs ys r d s := by
  obtain ⟨_, w3, _, h1, h2, h3⟩ := h.get hu
  rw [ofOp_some, e] at h3
  obtain ⟨lo, hl, h3⟩ := h3
  exact ⟨lo, _, hl, Below.size h2, h3.grew (Nat.le_refl _) h2⟩

end Go.Proofs.Ytkippcjifikegaa
