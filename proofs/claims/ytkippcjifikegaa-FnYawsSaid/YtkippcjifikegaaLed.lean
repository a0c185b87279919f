/-
  LAWS' LEDGER: facts that look at some blocks alone, and how they last.
-/
import Derived.Test.YtkippcjifikegaaFarm
import Derived.Test.YtkippcjifikegaaRose
namespace Go.Proofs.Ytkippcjifikegaa
open Go.RowKit Go.Flt
set_option linter.unusedVariables false
set_option maxRecDepth 100000
set_option linter.unusedSimpArgs false

/-- A fact of a world that looks at the blocks from lo on, below hi, alone. -/
structure Loc (lo hi : Nat) (F : World → Prop) (w : World) : Prop where
  le : hi ≤ w.heap.size
  ok : ∀ w' : World, (∀ k, lo ≤ k → k < hi → w'.heap[k]? = w.heap[k]?) → F w'

section
variable {lo hi a b : Nat} {F : World → Prop} {w w' : World}

theorem Loc.now (h : Loc lo hi F w) : F w := h.ok w fun _ _ _ => rfl

theorem Loc.keep (h : Loc lo hi F w) (hs : w.heap.size ≤ w'.heap.size) (hk : ∀ k, lo ≤ k → k < hi → w'.heap[k]? = w.heap[k]?) : Loc lo hi F w' :=
  ⟨Nat.le_trans h.le hs, fun u hu => h.ok u fun k h1 h2 => (hu k h1 h2).trans (hk k h1 h2)⟩

theorem Loc.grew (h : Loc lo hi F w) (hg : Grew w w') : Loc lo hi F w' := h.keep (Below.size hg) fun k _ h2 => hg.block k (Nat.lt_of_lt_of_le h2 h.le)

theorem Loc.wrote (h : Loc lo hi F w) (ho : Wrote a b w w') (hd : hi ≤ a ∨ b ≤ lo) : Loc lo hi F w' := h.keep ho.size fun k h1 h2 => ho.block k (Nat.lt_of_lt_of_le h2 h.le) (by omega)
end

theorem Loc.lt {b : Nat} {F : World → Prop} {w : World} (h : Loc b (b + 1) F w) : b < w.heap.size := h.le

theorem size_al (w : World) (o : Obj) : (w.alloc o).heap.size = w.heap.size + 1 := by simp

theorem cell_same {w w' : World} {b : Nat} (h : w'.heap[b]? = w.heap[b]?) (o : Nat) : w'.cell? ⟨b, o, none⟩ = w.cell? ⟨b, o, none⟩ := by simp only [World.cell?, h]

theorem Loc.row {α : Type} {g : α → Value} {t : TypeId} {w : World} {lo hi : Nat} {v : Value} {xs : List α} (h : RowAt g t w lo hi v xs) (hs : hi ≤ w.heap.size) : Loc lo hi (fun w => RowAt g t w lo hi v xs) w := ⟨hs, fun _ hk => h.keep hk⟩

theorem Loc.rose {w : World} {lo hi : Nat} {v : Value} {xs ys : List Nat} (h : RoseAt w lo hi v xs ys) (hs : hi ≤ w.heap.size) : Loc lo hi (fun w => RoseAt w lo hi v xs ys) w := ⟨hs, fun _ hk => h.keep hk⟩

theorem Loc.farm {w : World} {lo hi : Nat} {v : Value} {xs ys : List Nat} {r d s : Nat} (h : FarmAt w lo hi v xs ys r d s) (hs : hi ≤ w.heap.size) : Loc lo hi (fun w => FarmAt w lo hi v xs ys r d s) w := ⟨hs, fun _ hk => h.keep hk⟩

theorem Loc.ro {w : World} {b : Nat} {X Y : Value} (h : RoAt w b X Y) (hb : b < w.heap.size) : Loc b (b + 1) (fun w => RoAt w b X Y) w :=
  ⟨hb, fun _ hk => by
    have e := hk b (Nat.le_refl _) (Nat.lt_succ_self _)
    exact ⟨(cell_same e 0).trans h.1, (cell_same e 1).trans h.2⟩⟩

theorem Loc.fm {w : World} {b : Nat} {X Y : Value} {r d s : Nat} (h : FmAt w b X Y r d s) (hb : b < w.heap.size) : Loc b (b + 1) (fun w => FmAt w b X Y r d s) w :=
  ⟨hb, fun _ hk => by
    have e := hk b (Nat.le_refl _) (Nat.lt_succ_self _)
    obtain ⟨h0, h1, h2, h3, h4⟩ := h
    exact ⟨(cell_same e 0).trans h0, (cell_same e 1).trans h1, (cell_same e 2).trans h2, (cell_same e 3).trans h3, (cell_same e 4).trans h4⟩⟩

/-- What lies below block K stays. -/
theorem Loc.slc {α : Type} {g : α → Value} {w : World} {K n : Nat} {A : Option Addr} {xs : List α} (h : Slc g w K A n xs) (hK : K ≤ w.heap.size) : Loc 0 K (fun w => Slc g w K A n xs) w :=
  ⟨hK, fun w' hk => h.keep fun b o hb => cell_same (hk b (Nat.zero_le _) hb) o⟩

/-- A rose, whose data are told, and a bool. -/
def RetR (D E : List Ieee.Datum) (b : Bool) (w : World) (e : Ending) (w' : World) : Prop :=
  ∃ v zs us, e = .returned (.tuple #[v, .bool b]) ∧ RoseAt w' w.heap.size w'.heap.size v zs us ∧ zs.map (cl .f32) = D ∧ us.map (cl .f32) = E ∧ Grew w w'

/-- A farm, whose data are told (the numbers as words), and a bool. -/
def RetFm (D E : List Ieee.Datum) (r d s : Nat) (b : Bool) (w : World) (e : Ending) (w' : World) : Prop :=
  ∃ v zs us, e = .returned (.tuple #[v, .bool b]) ∧ FarmAt w' w.heap.size w'.heap.size v zs us r d s ∧ zs.map (cl .f32) = D ∧ us.map (cl .f32) = E ∧ Grew w w'

/-- A row, whose values are told (as f tells them), and a bool. -/
def RetRow {α β : Type} (g : α → Value) (t : TypeId) (f : α → β) (D : List β) (b : Bool) (w : World) (e : Ending) (w' : World) : Prop :=
  ∃ v zs, e = .returned (.tuple #[v, .bool b]) ∧ RowAt g t w' w.heap.size w'.heap.size v zs ∧ zs.map f = D ∧ Grew w w'

theorem len_of_map {α β : Type} {f : α → β} {zs : List α} {D : List β} (h : zs.map f = D) : zs.length = D.length := by rw [← h]; simp

end Go.Proofs.Ytkippcjifikegaa
