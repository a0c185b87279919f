/-
  CONTRACTS: rows of a call's own: where they lie, how a law marks them and looks at the marks.
-/
import Derived.Laws.AppendOwn
import Derived.Maps.AppendAt
import Derived.Test.YtkippcjifikegaaMono
import Derived.Test.YtkippcjifikegaaInts
namespace Go.Proofs.Ytkippcjifikegaa
open Go.RowKit Go.Flt
set_option linter.unusedVariables false
set_option maxRecDepth 100000
set_option linter.unusedSimpArgs false

/-- The slice v owns the values xs, in a row that lies from block lo on, below block hi (or it is nil, and there are none). -/
def RowAt {α : Type} (g : α → Value) (t : TypeId) (w : World) (lo hi : Nat) (v : Value) (xs : List α) : Prop :=
  w.ownsRow lo t 1 v xs.length (xs.map g) ∧ ∀ k, v.ownBlock = some k → k < hi

/-- Nothing but the blocks from lo on, below hi, has turned. -/
structure Outside (lo hi : Nat) (w w' : World) : Prop where
  os : w'.os = w.os
  tape : w'.tape = w.tape
  output : w'.output = w.output
  size : w'.heap.size = w.heap.size
  block : ∀ k, (k < lo ∨ hi ≤ k) → w'.heap[k]? = w.heap[k]?

/-- Nothing but the block 'row' has turned. -/
structure Touch (row : Option Nat) (w w' : World) : Prop where
  os : w'.os = w.os
  tape : w'.tape = w.tape
  output : w'.output = w.output
  size : w'.heap.size = w.heap.size
  block : ∀ k, some k ≠ row → w'.heap[k]? = w.heap[k]?

theorem Touch.refl (row : Option Nat) (w : World) : Touch row w w := ⟨rfl, rfl, rfl, rfl, fun _ _ => rfl⟩

theorem Touch.trans {row : Option Nat} {a b c : World} (h : Touch row a b) (k : Touch row b c) : Touch row a c :=
  ⟨k.os.trans h.os, k.tape.trans h.tape, k.output.trans h.output, k.size.trans h.size, fun i hi => (k.block i hi).trans (h.block i hi)⟩

theorem touch_set (w : World) (b o : Nat) (v : Value) : Touch (some b) w (w.setCell ⟨b, o, none⟩ v) :=
  ⟨rfl, rfl, rfl, by simp [World.setCell], fun k hk => by
    simp only [World.setCell, Array.getElem?_modify]
    rw [if_neg (fun e => hk (by rw [e]))]⟩

theorem Outside.refl (lo hi : Nat) (w : World) : Outside lo hi w w := ⟨rfl, rfl, rfl, rfl, fun _ _ => rfl⟩

theorem Outside.trans {lo hi : Nat} {a b c : World} (h : Outside lo hi a b) (k : Outside lo hi b c) : Outside lo hi a c :=
  ⟨k.os.trans h.os, k.tape.trans h.tape, k.output.trans h.output, k.size.trans h.size, fun i hi => (k.block i hi).trans (h.block i hi)⟩

theorem Outside.mono {lo hi lo' hi' : Nat} {a b : World} (h : Outside lo hi a b) (h1 : lo' ≤ lo) (h2 : hi ≤ hi') : Outside lo' hi' a b :=
  ⟨h.os, h.tape, h.output, h.size, fun i hi => h.block i (by omega)⟩

theorem Outside.drewN {lo hi : Nat} {a b : World} (h : Outside lo hi a b) (n : Nat) : Outside lo hi a (b.drewN n) := ⟨h.os, h.tape, h.output, h.size, h.block⟩

theorem Outside.below {lo hi B : Nat} {a b c : World} (h : Below B a b) (k : Outside lo hi b c) (hl : B ≤ lo) : Below B a c :=
  ⟨k.os.trans h.os, k.tape.trans h.tape, k.output.trans h.output, by have := h.size; have := k.size; omega, fun i hi => (k.block i (by omega)).trans (h.block i hi)⟩

theorem grew_trans' {a b c : World} {B : Nat} (h : Grew a b) (k : Below B b c) (hB : a.heap.size ≤ B) : Grew a c := Below.trans h (Below.mono k hB)

theorem grew_al {w w' : World} (h : Grew w w') (o : Obj) : Grew w (w'.alloc o) := Below.alloc h (Below.size h) o

/-- Of what was there nothing but the blocks from lo on, below hi, has turned; there may be more. -/
structure Wrote (lo hi : Nat) (w w' : World) : Prop where
  os : w'.os = w.os
  tape : w'.tape = w.tape
  output : w'.output = w.output
  size : w.heap.size ≤ w'.heap.size
  block : ∀ k, k < w.heap.size → (k < lo ∨ hi ≤ k) → w'.heap[k]? = w.heap[k]?

theorem Wrote.trans {lo hi : Nat} {a b c : World} (h : Wrote lo hi a b) (k : Wrote lo hi b c) : Wrote lo hi a c :=
  ⟨k.os.trans h.os, k.tape.trans h.tape, k.output.trans h.output, Nat.le_trans h.size k.size, fun i h1 h2 => (k.block i (Nat.lt_of_lt_of_le h1 h.size) h2).trans (h.block i h1 h2)⟩

theorem Wrote.of_grew {lo hi : Nat} {a b : World} (h : Grew a b) : Wrote lo hi a b := ⟨h.os, h.tape, h.output, Below.size h, fun k hk _ => h.block k hk⟩

theorem Wrote.of_outside {lo hi : Nat} {a b : World} (h : Outside lo hi a b) : Wrote lo hi a b := ⟨h.os, h.tape, h.output, by rw [h.size]; exact Nat.le_refl _, fun k _ hk => h.block k hk⟩

theorem Wrote.below {lo hi B : Nat} {a b c : World} (h : Below B a b) (k : Wrote lo hi b c) (hB : B ≤ a.heap.size) (hl : B ≤ lo) : Below B a c :=
  ⟨k.os.trans h.os, k.tape.trans h.tape, k.output.trans h.output, by have := h.size; have := k.size; omega, fun i hi => (k.block i (by have := h.size; omega) (by omega)).trans (h.block i hi)⟩

theorem Touch.cell {row : Option Nat} {w w' : World} (h : Touch row w w') {b : Nat} (hb : some b ≠ row) (o : Nat) : w'.cell? ⟨b, o, none⟩ = w.cell? ⟨b, o, none⟩ := by
  simp only [World.cell?, h.block b hb]

section
variable {α : Type} {g : α → Value} {t : TypeId} {w w' : World} {lo hi : Nat} {v : Value} {xs : List α}

theorem RowAt.keep (h : RowAt g t w lo hi v xs) (hk : ∀ k, lo ≤ k → k < hi → w'.heap[k]? = w.heap[k]?) : RowAt g t w' lo hi v xs := by
  refine ⟨⟨h.1.1, ?_⟩, h.2⟩
  rcases h.1.2 with hn | ⟨b, cap, cur, rfl, hb, hgg, rest⟩
  · exact .inl hn
  · refine .inr ⟨b, cap, cur, rfl, hb, ?_, rest⟩
    rw [hk b hb (h.2 b rfl)]
    exact hgg

theorem RowAt.grew (h : RowAt g t w lo hi v xs) (hs : hi ≤ w.heap.size) (hg : Grew w w') : RowAt g t w' lo hi v xs := h.keep fun k _ hk => hg.block k (by omega)

theorem RowAt.alloc (h : RowAt g t w lo hi v xs) (o : Obj) : RowAt g t (w.alloc o) lo hi v xs := ⟨h.1.alloc o, h.2⟩

theorem RowAt.drewN (h : RowAt g t w lo hi v xs) (n : Nat) : RowAt g t (w.drewN n) lo hi v xs := h

theorem RowAt.drew (h : RowAt g t w lo hi v xs) : RowAt g t w.drew lo hi v xs := h

theorem RowAt.outside {a b : Nat} (h : RowAt g t w lo hi v xs) (ho : Outside a b w w') (hd : hi ≤ a ∨ b ≤ lo) : RowAt g t w' lo hi v xs := h.keep fun k h1 h2 => ho.block k (by omega)

theorem RowAt.mono {lo' hi' : Nat} (h : RowAt g t w lo hi v xs) (h1 : lo' ≤ lo) (h2 : hi ≤ hi') : RowAt g t w lo' hi' v xs := by
  refine ⟨⟨h.1.1, ?_⟩, fun k hk => Nat.lt_of_lt_of_le (h.2 k hk) h2⟩
  rcases h.1.2 with hn | ⟨b, cap, cur, rfl, hb, rest⟩
  · exact .inl hn
  · exact .inr ⟨b, cap, cur, rfl, Nat.le_trans h1 hb, rest⟩

theorem RowAt.touched {row : Option Nat} {w1 : World} (h : RowAt g t w lo hi v xs) (ht : Touch v.ownBlock w w1) : Outside lo hi w w1 :=
  ⟨ht.os, ht.tape, ht.output, ht.size, fun k hk => ht.block k fun e => by have a := (h.1.lt k e.symm).1; have b := h.2 k e.symm; omega⟩

theorem RowAt.touch {row : Option Nat} (h : RowAt g t w lo hi v xs) (ht : Touch row w w') (hd : ∀ k, row = some k → v.ownBlock ≠ some k) : RowAt g t w' lo hi v xs := by
  refine ⟨⟨h.1.1, ?_⟩, h.2⟩
  rcases h.1.2 with hn | ⟨b, cap, cur, rfl, hb, hgg, rest⟩
  · exact .inl hn
  · refine .inr ⟨b, cap, cur, rfl, hb, ?_, rest⟩
    rw [ht.block b (fun e => hd b e.symm rfl)]
    exact hgg

theorem RowAt.wrote {a b : Nat} (h : RowAt g t w lo hi v xs) (hs : hi ≤ w.heap.size) (ho : Wrote a b w w') (hd : hi ≤ a ∨ b ≤ lo) : RowAt g t w' lo hi v xs := h.keep fun k h1 h2 => ho.block k (by omega) (by omega)

/-- Rows that lie one behind the other lie in two blocks. -/
theorem RowAt.apart {β : Type} {g' : β → Value} {t' : TypeId} {ys : List β} {v' : Value} {lo' hi' : Nat} {w' : World} (h : RowAt g t w lo hi v xs) (h' : RowAt g' t' w' lo' hi' v' ys) (hd : hi ≤ lo') : ∀ k, v.ownBlock = some k → v'.ownBlock ≠ some k := fun k h1 h2 => by
  have a := h.2 k h1
  have b := (h'.1.lt k h2).1
  omega

theorem outside_set (w : World) (b o : Nat) (v : Value) : Outside b (b + 1) w (w.setCell ⟨b, o, none⟩ v) :=
  ⟨rfl, rfl, rfl, by simp [World.setCell], fun k hk => by
    simp only [World.setCell, Array.getElem?_modify]
    rw [if_neg (by omega)]⟩

theorem rowAt_nil (w : World) (lo hi : Nat) : RowAt g t w lo hi (.slice none 0 0) [] := ⟨World.ownsRow_nil w lo t 1, fun k hk => by simp [Value.ownBlock] at hk⟩

/-- What the slice is, and what it reads. -/
theorem RowAt.slc (h : RowAt g t w lo hi v xs) : ∃ A cap, v = .slice A xs.length cap ∧ Slc g w hi A xs.length xs := by
  rcases h.1.2 with ⟨rfl, hn⟩ | ⟨b, cap, cur, rfl, hb, hgg, h1, h2, h3, h4⟩
  · rw [hn]
    exact ⟨none, 0, rfl, ⟨hn, fun h => absurd h (by omega)⟩⟩
  · refine ⟨_, _, rfl, rfl, fun _ => ⟨b, 0, rfl, h.2 b rfl, fun i x hx => ?_⟩⟩
    rw [Nat.zero_add]
    have := h.1.cells (g := b) rfl i (g x) (by rw [List.getElem?_map, hx]; rfl)
    have e : (⟨b, 0, none⟩ : Addr).add i = ⟨b, i, none⟩ := by
      unfold Addr.add
      split
      · rename_i h0; rw [h0]
      · simp
    rwa [e] at this

theorem RowAt.sl (h : RowAt g t w lo hi v xs) : ∃ A n c, v = .slice A n c := by
  obtain ⟨A, c, e, _⟩ := h.slc
  exact ⟨A, _, c, e⟩

theorem Own.rowAt {b : Nat} (h : Own g t w b xs) (h1 : lo ≤ b) (h2 : b < hi) (hm : xs.length ≤ maxLen) : RowAt g t w lo hi (.slice (some ⟨b, 0, none⟩) xs.length xs.length) xs := by
  refine ⟨⟨by simp, .inr ⟨b, xs.length, _, rfl, h1, h, Nat.le_refl _, hm, by simp, ?_⟩⟩, fun k hk => ?_⟩
  · rw [Nat.mul_one, List.take_of_length_le (by simp)]
  · simp only [Value.ownBlock, Option.some.injEq] at hk
    omega

/-- An empty row, just made. -/
theorem row_made (w1 : World) (hg : Grew w w1) : RowAt g t (w1.alloc (.cells #[] t)) w.heap.size (w1.heap.size + 1) (.slice (some ⟨w1.heap.size, 0, none⟩) 0 0) [] ∧ Grew w (w1.alloc (.cells #[] t)) := by
  refine ⟨⟨World.ownsRow_made (base := w.heap.size) (e := t) (size := 1) w1 #[] 0 (Below.size hg) (by simp) (by simp), fun k hk => ?_⟩, Below.alloc hg (Below.size hg) _⟩
  simp only [Value.ownBlock, Option.some.injEq] at hk
  omega

/-- What an 'append' of one value leaves. -/
theorem row_push {w0 w1 w2 : World} {v' : Value} {r : α} {o : Obj} (hg0 : Grew w0 w) (hrow : RowAt g t w w0.heap.size w.heap.size v xs) (hg : Grew w w1) (hown : w2.ownsRow w0.heap.size t 1 v' (xs.length + 1) (xs.map g ++ [g r]))
    (hgr : (w1.alloc o).grownBy w2 v.ownBlock) : RowAt g t w2 w0.heap.size w2.heap.size v' (xs ++ [r]) ∧ Grew w0 w2 := by
  refine ⟨⟨by simpa using hown, fun k hk => (hown.lt k hk).2⟩, ?_⟩
  have h1 := grew_trans hg0 hg
  refine ⟨hgr.os.trans h1.os, hgr.tape.trans h1.tape, hgr.output.trans h1.output, ?_, fun k hk => ?_⟩
  · have a := hgr.size
    have b := Below.size h1
    simp at a
    omega
  · have b := Below.size h1
    rw [hgr.block k (by simp; omega) (fun e => by have := (hrow.1.lt k e.symm).1; omega), heap_alloc_old w1 o (by omega)]
    exact h1.block k hk

/-- What an 'append' of one value to one of two rows leaves. -/
theorem row_push2 {β : Type} {g' : β → Value} {t' : TypeId} {ys : List β} {w2 : World} {v1 v2 v' : Value} {r : α} (h1 : RowAt g t w lo w.heap.size v1 xs) (h2 : RowAt g' t' w lo w.heap.size v2 ys) (hd : ∀ k, v1.ownBlock = some k → v2.ownBlock ≠ some k) (hl : lo ≤ w.heap.size)
    (hown : w2.ownsRow lo t 1 v' (xs.length + 1) (xs.map g ++ [g r])) (hgr : w.grownBy w2 v1.ownBlock) (hat : v'.ownBlock = v1.ownBlock ∨ v'.ownBlock = some w.heap.size) :
    RowAt g t w2 lo w2.heap.size v' (xs ++ [r]) ∧ RowAt g' t' w2 lo w2.heap.size v2 ys ∧ (∀ k, v'.ownBlock = some k → v2.ownBlock ≠ some k) ∧ Below lo w w2 ∧
      ∀ b o, b < lo → w2.cell? ⟨b, o, none⟩ = w.cell? ⟨b, o, none⟩ ∧ w2.frozen? ⟨b, o, none⟩ = w.frozen? ⟨b, o, none⟩ := by
  have hb : Below lo w w2 := ⟨hgr.os, hgr.tape, hgr.output, hgr.size, fun k hk => hgr.block k (by omega) fun e => by have := (h1.1.lt k e.symm).1; omega⟩
  refine ⟨⟨by simpa using hown, fun k hk => (hown.lt k hk).2⟩, ⟨h2.1.kept hgr ?_, fun k hk => Nat.lt_of_lt_of_le (h2.2 k hk) hgr.size⟩, fun k hk e => ?_, hb, fun b o hlt => ⟨hb.cell (p := ⟨b, o, none⟩) hlt, hb.frozen (p := ⟨b, o, none⟩) hlt⟩⟩
  · cases h : v2.ownBlock with
    | none => exact .inl rfl
    | some k => exact .inr fun e => hd k e.symm h
  · rcases hat with h | h
    · exact hd k (h ▸ hk) e
    · rw [h] at hk
      injection hk with hk
      have := h2.2 k e
      omega

theorem one_news {w : World} {b : Nat} {x : Value} (h : w.cell? ⟨b, 0, none⟩ = some x) : ∀ j u, [x][j]? = some u → w.cell? ((⟨b, 0, none⟩ : Addr).add j) = some u := by
  intro j u hj
  match j, hj with
  | 0, hj =>
    simp at hj
    subst hj
    simpa [Addr.add] using h

/-- A row that is not nil: its cells stand, and none of them is frozen. -/
theorem RowAt.row (h : RowAt g t w lo hi v xs) (hn : xs ≠ []) : ∃ b cap, v = .slice (some ⟨b, 0, none⟩) xs.length cap ∧ lo ≤ b ∧ b < hi ∧ (∀ i x, xs[i]? = some x → w.cell? ⟨b, i, none⟩ = some (g x)) ∧ (∀ i, w.frozen? ⟨b, i, none⟩ = false) ∧
    ∀ i x, i < xs.length → RowAt g t (w.setCell ⟨b, i, none⟩ (g x)) lo hi v (xs.set i x) ∧ Touch (some b) w (w.setCell ⟨b, i, none⟩ (g x)) := by
  obtain ⟨A, cp, e0, hs⟩ := h.slc
  rcases h.1.2 with ⟨rfl, hn'⟩ | ⟨b, cap, cur, rfl, hb, hgg, h1, h2, h3, h4⟩
  · exact absurd (List.eq_nil_of_length_eq_zero hn') hn
  · have hbh := h.2 b rfl
    refine ⟨b, cap, rfl, hb, hbh, ?_, fun i => by simp [World.frozen?, hgg], fun i x hi => ⟨⟨⟨by simp, .inr ⟨b, cap, cur.setIfInBounds i (g x), by simp, hb, ?_, by simpa using h1, h2, by simpa using h3, ?_⟩⟩, fun k hk => h.2 k hk⟩, ?_⟩⟩
    · obtain ⟨b', off, e, _, hc⟩ := hs.2 (List.length_pos_iff.2 hn)
      simp only [Value.slice.injEq] at e0
      rw [e] at e0
      simp only [Option.some.injEq, Addr.mk.injEq] at e0
      obtain ⟨⟨rfl, rfl, _⟩, _⟩ := e0
      intro i x hx
      have := hc i x hx
      rwa [Nat.zero_add] at this
    · simp [World.setCell, Array.getElem?_modify, hgg]
    · rw [Array.toList_setIfInBounds, List.map_set, List.length_set, List.take_set, h4]
    · exact touch_set w b i _
end


theorem feq_ofInt (k : FloatKind) (n : Int) : feq (cl k (floatOfInt k n)) (cl k (floatOfInt k n)) = true := by
  rw [feq_self]
  have h : cl k (floatOfInt k n) = rd k (.number (decide (n < 0)) n.natAbs 0) := rfl
  rw [h, rd_num]
  generalize decide (n < 0) = s
  have hr := rung_le k.format (.number s n.natAbs 0)
  generalize rung k.format (.number s n.natAbs 0) = r at hr ⊢
  rcases Nat.lt_or_ge r k.format.infRung with h1 | h1
  · rw [read_rung k.format s h1]; split <;> rfl
  · obtain rfl : r = k.format.infRung := by omega
    rw [read_inf k.format (fmt_inf k)]
    rfl


end Go.Proofs.Ytkippcjifikegaa
