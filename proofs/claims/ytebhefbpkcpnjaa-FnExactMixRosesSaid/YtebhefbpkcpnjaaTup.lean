/-
  TOLD VALUES: a tuple of a rose and a bool, a fresh box for a rose.
-/
import Derived.Test.YtebhefbpkcpnjaaMix
import Derived.Test.YtebhefbpkcpnjaaEdge
namespace Go.Proofs.Ytebhefbpkcpnjaa
open Go.RowKit Go.Flt
set_option linter.unusedVariables false
set_option maxRecDepth 100000
set_option linter.unusedSimpArgs false

/-- A tuple of a rose of a call's own, made behind block B, and a bool. -/
def TupBy (B : Nat) (D E : List Ieee.Datum) (b : Bool) (v : Value) (w' : World) : Prop := ∃ r zs us lo, v = .tuple #[r, .bool b] ∧ B ≤ lo ∧ RoseAt w' lo w'.heap.size r zs us ∧ zs.map (cl .f32) = D ∧ us.map (cl .f32) = E

theorem TupBy.get {F : List (Tmp × (Value → World → Prop))} {w0 w' : World} {k : Tmp} {u : Value} {B : Nat} {D E : List Ieee.Datum} {b : Bool} (h : Lasts F w0 k u w') (hu : u ≠ undef) (e : tabF F k = some (TupBy B D E b)) :
    ∃ r zs us lo hi, u = .tuple #[r, .bool b] ∧ B ≤ lo ∧ hi ≤ w'.heap.size ∧ RoseAt w' lo hi r zs us ∧ zs.map (cl .f32) = D ∧ us.map (cl .f32) = E := by
  obtain ⟨w3, h1, h2, h3⟩ := h.get hu
  rw [ofOp_some, e] at h3
  obtain ⟨r, zs, us, lo, e1, e2, e3, e4, e5⟩ := h3
  exact ⟨r, zs, us, lo, _, e1, e2, Below.size h2, e3.grew (Nat.le_refl _) h2, e4, e5⟩

theorem TupBy.ne {B : Nat} {D E : List Ieee.Datum} {b : Bool} {v : Value} {w' : World} (h : TupBy B D E b v w') : v ≠ undef := by
  obtain ⟨r, zs, us, lo, rfl, _⟩ := h
  simp [undef]

/-- Block b is a rose's box. -/
def IsBox (w : World) (b : Nat) : Prop := ∃ cs f, w.heap[b]? = some (.cells cs 34 f)

theorem IsBox.grew {w w' : World} {b : Nat} (h : IsBox w b) (hb : b < w.heap.size) (hg : Grew w w') : IsBox w' b := by
  obtain ⟨cs, f, h⟩ := h
  exact ⟨cs, f, (hg.block b hb).trans h⟩

theorem IsBox.set {w : World} {b : Nat} (h : IsBox w b) (b' o : Nat) (u : Value) : IsBox (w.setCell ⟨b', o, none⟩ u) b := by
  obtain ⟨cs, f, h⟩ := h
  unfold IsBox
  simp only [World.setCell, Array.getElem?_modify]
  by_cases hb : b' = b
  · rw [if_pos hb, h]; exact ⟨_, _, rfl⟩
  · rw [if_neg hb]; exact ⟨cs, f, h⟩

theorem FRow.off {w : World} {lo hi b : Nat} {v : Value} {xs : List Nat} (h : FRow w lo hi v xs) (hb : IsBox w b) : v.ownBlock ≠ some b := by
  intro e
  obtain ⟨cs, f, hc⟩ := hb
  rcases h.1.2 with ⟨rfl, _⟩ | ⟨g, cap, cur, rfl, _, hgg, _⟩
  · simp [Value.ownBlock] at e
  · simp only [Value.ownBlock, Option.some.injEq] at e
    subst e
    rw [hgg] at hc
    injection hc with hc
    injection hc with _ h2
    exact absurd h2 (by decide)

/-- A rose's rows stay where a box is written. -/
theorem RoseAt.set {w : World} {lo hi b : Nat} {v : Value} {xs ys : List Nat} (h : RoseAt w lo hi v xs ys) (hb : IsBox w b) (o : Nat) (u : Value) : RoseAt (w.setCell ⟨b, o, none⟩ u) lo hi v xs ys := by
  obtain ⟨X, Y, rfl, hx, hy, hd⟩ := h
  exact ⟨X, Y, rfl, RowAt.touch hx (touch_set w b o u) (fun k e e2 => FRow.off hx hb (e2.trans e.symm)), RowAt.touch hy (touch_set w b o u) (fun k e e2 => FRow.off hy hb (e2.trans e.symm)), hd⟩

/-- A box for a rose, made behind block B. -/
def BoxBy (B : Nat) (v : Value) (w' : World) : Prop := ∃ b, v = .pointer (some ⟨b, 0, none⟩) ∧ B ≤ b ∧ b < w'.heap.size ∧ BoxR w' b (.slice none 0 0) (.slice none 0 0) ∧ IsBox w' b

theorem boxBy_new {B : Nat} {w : World} (hB : B ≤ w.heap.size) : BoxBy B (.pointer (some ⟨w.heap.size, 0, none⟩)) (w.alloc (.cells #[.slice none 0 0, .slice none 0 0] 34)) :=
  ⟨_, rfl, hB, by simp, ⟨⟨by simp, by simp⟩, by simp [go_sem], by simp [go_sem]⟩, ⟨_, _, Array.getElem?_push_size⟩⟩

theorem BoxBy.get {F : List (Tmp × (Value → World → Prop))} {w0 w' : World} {k : Tmp} {u : Value} {B : Nat} (h : Lasts F w0 k u w') (hu : u ≠ undef) (e : tabF F k = some (BoxBy B)) :
    ∃ b, u = .pointer (some ⟨b, 0, none⟩) ∧ B ≤ b ∧ b < w'.heap.size ∧ BoxR w' b (.slice none 0 0) (.slice none 0 0) ∧ IsBox w' b := by
  obtain ⟨w3, h1, h2, h3⟩ := h.get hu
  rw [ofOp_some, e] at h3
  obtain ⟨b, e1, e2, e3, e4, e5⟩ := h3
  exact ⟨b, e1, e2, Nat.lt_of_lt_of_le e3 (Below.size h2), e4.grew e3 h2, e5.grew e3 h2⟩

theorem RoAt.set {w : World} {b b' : Nat} {X Y : Value} (h : RoAt w b X Y) (hb : b' ≠ b) (o : Nat) (u : Value) : RoAt (w.setCell ⟨b', o, none⟩ u) b X Y := by
  have he : (w.setCell ⟨b', o, none⟩ u).heap[b]? = w.heap[b]? := by simp only [World.setCell, Array.getElem?_modify]; rw [if_neg hb]
  exact ⟨(cell_block he 0).1.trans h.1, (cell_block he 1).1.trans h.2⟩

theorem RoAt.put {w : World} {b : Nat} {X Y : Value} (h : RoAt w b X Y) (U V : Value) : RoAt ((w.setCell ⟨b, 0, none⟩ U).setCell ⟨b, 1, none⟩ V) b U V :=
  ⟨(cell_set_other _ _ _ _ _ (by omega)).trans (cell_set_own _ _ _ _ _ h.1), cell_set_own _ _ _ _ _ ((cell_set_other _ _ _ _ _ (by omega)).trans h.2)⟩

theorem Loc.set {lo hi : Nat} {F : World → Prop} {w : World} (h : Loc lo hi F w) (b : Nat) (o : Nat) (u : Value) (hd : b < lo ∨ hi ≤ b) : Loc lo hi F (w.setCell ⟨b, o, none⟩ u) :=
  h.keep (by simp [World.setCell]) fun k h1 h2 => by
    simp only [World.setCell, Array.getElem?_modify]
    rw [if_neg (by omega)]

theorem c_specMix' (lo hi lo' hi' : Nat) (v v' : Value) (xs ys xs' ys' : List Nat) (s : Nat) (w : World) (h : RoseAt w lo hi v xs ys) (h' : RoseAt w lo' hi' v' xs' ys') (hs : hi ≤ w.heap.size) (hs' : hi' ≤ w.heap.size) :
    Calls Try.prog 17 #[v, v', .float .f32 s] w (RetR (if isMix xs ys xs' ys' s then mixL xs xs' s xs.length else []) (if isMix xs ys xs' ys' s then mixL ys ys' s xs.length else []) (isMix xs ys xs' ys' s) w) := by
  obtain ⟨A, a, B, b, rfl, hx, hy⟩ := h.parts
  obtain ⟨A', a', B', b', rfl, hx', hy'⟩ := h'.parts
  exact c_specMixRoses A B A' B' _ a _ b _ a' _ b' w.heap.size xs ys xs' ys' s w (Slc.mono hx hs) (Slc.mono hy hs) (Slc.mono hx' hs') (Slc.mono hy' hs') (Nat.le_refl _)

theorem c_implMix' (lo hi lo' hi' : Nat) (v v' : Value) (xs ys xs' ys' : List Nat) (s : Nat) (w : World) (h : RoseAt w lo hi v xs ys) (h' : RoseAt w lo' hi' v' xs' ys') (hs : hi ≤ w.heap.size) (hs' : hi' ≤ w.heap.size) (l1 : xs.length ≤ 1048576) (l2 : ys.length ≤ 1048576) (l3 : xs'.length ≤ 1048576) (l4 : ys'.length ≤ 1048576) :
    Calls Try.prog 19 #[v, v', .float .f32 s] w (RetR (if isMix xs ys xs' ys' s then mixL xs xs' s xs.length else []) (if isMix xs ys xs' ys' s then mixL ys ys' s xs.length else []) (isMix xs ys xs' ys' s) w) := by
  obtain ⟨A, a, B, b, rfl, hx, hy⟩ := h.parts
  obtain ⟨A', a', B', b', rfl, hx', hy'⟩ := h'.parts
  exact c_implMixRoses A B A' B' _ a _ b _ a' _ b' w.heap.size xs ys xs' ys' s w (Slc.mono hx hs) (Slc.mono hy hs) (Slc.mono hx' hs') (Slc.mono hy' hs') (Nat.le_refl _) (by unfold maxLen; omega) (by unfold maxLen; omega) (by unfold maxLen; omega) (by unfold maxLen; omega)

end Go.Proofs.Ytebhefbpkcpnjaa
