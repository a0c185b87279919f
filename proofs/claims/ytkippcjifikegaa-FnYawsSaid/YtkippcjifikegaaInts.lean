/-
  CONTRACTS: slices of integers that a law copies, compares, marks.
-/
import Derived.Test.YtkippcjifikegaaSl
namespace Go.Proofs.Ytkippcjifikegaa
open Go.RowKit Go.Flt
set_option linter.unusedVariables false
set_option maxRecDepth 100000
set_option linter.unusedSimpArgs false

/-- The slice '.slice A n _' holds the values g x of the list, below block K. -/
def Slc {α : Type} (g : α → Value) (w : World) (K : Nat) (A : Option Addr) (n : Nat) (xs : List α) : Prop :=
  xs.length = n ∧ (0 < n → ∃ b off, A = some ⟨b, off, none⟩ ∧ b < K ∧ ∀ i x, xs[i]? = some x → w.cell? ⟨b, off + i, none⟩ = some (g x))

/-- Block b is a row of its own. -/
def Own {α : Type} (g : α → Value) (t : TypeId) (w : World) (b : Nat) (xs : List α) : Prop := w.heap[b]? = some (.cells (xs.map g).toArray t (0, 0))

theorem Slc.keep {α : Type} {g : α → Value} {w w' : World} {K n : Nat} {A : Option Addr} {xs : List α} (h : Slc g w K A n xs) (hk : ∀ b o, b < K → w'.cell? ⟨b, o, none⟩ = w.cell? ⟨b, o, none⟩) : Slc g w' K A n xs :=
  ⟨h.1, fun hn => by
    obtain ⟨b, off, e, hb, hc⟩ := h.2 hn
    exact ⟨b, off, e, hb, fun i x hx => (hk _ _ hb).trans (hc i x hx)⟩⟩

theorem Slc.grew {α : Type} {g : α → Value} {w w' : World} {K n : Nat} {A : Option Addr} {xs : List α} (h : Slc g w K A n xs) (hK : K ≤ w.heap.size) (hb : Grew w w') : Slc g w' K A n xs :=
  h.keep fun _ _ hp => (bcell hb).1 _ _ (by omega)

theorem Slc.drewN {α : Type} {g : α → Value} {w : World} {K n : Nat} {A : Option Addr} {xs : List α} (h : Slc g w K A n xs) (k : Nat) : Slc g (w.drewN k) K A n xs := h

theorem Slc.mono {α : Type} {g : α → Value} {w : World} {K K' n : Nat} {A : Option Addr} {xs : List α} (h : Slc g w K A n xs) (hK : K ≤ K') : Slc g w K' A n xs :=
  ⟨h.1, fun hn => by
    obtain ⟨b, off, e, hb, hc⟩ := h.2 hn
    exact ⟨b, off, e, by omega, hc⟩⟩

section
variable {α : Type} {g : α → Value} {t : TypeId} {w w' : World} {b : Nat} {xs : List α}

theorem Own.cell (h : Own g t w b xs) {i : Nat} {x : α} (hx : xs[i]? = some x) : w.cell? ⟨b, i, none⟩ = some (g x) := by
  rw [cell_of_row w b i _ t (0, 0) h]
  simp [hx]

theorem Own.free (h : Own g t w b xs) (i : Nat) : w.frozen? ⟨b, i, none⟩ = false := by
  unfold Own at h
  simp [World.frozen?, h]

theorem Own.lt (h : Own g t w b xs) : b < w.heap.size := by
  unfold Own at h
  exact (Array.getElem?_eq_some_iff.1 h).1

theorem Own.drewN (h : Own g t w b xs) (n : Nat) : Own g t (w.drewN n) b xs := h

theorem Own.slc (h : Own g t w b xs) {K : Nat} (hK : b < K) : Slc g w K (some ⟨b, 0, none⟩) xs.length xs :=
  ⟨rfl, fun _ => ⟨b, 0, rfl, hK, fun i x hx => by rw [Nat.zero_add]; exact h.cell hx⟩⟩

theorem Own.grew (h : Own g t w b xs) (hg : Grew w w') : Own g t w' b xs := by
  unfold Own at *
  rw [hg.block b (Own.lt (g := g) h)]
  exact h

theorem Own.set (h : Own g t w b xs) (i : Nat) (v : α) : Own g t (w.setCell ⟨b, i, none⟩ (g v)) b (xs.set i v) := by
  unfold Own at *
  simp [World.setCell, h, List.map_set, Array.getElem?_modify]

theorem Own.set_other (h : Own g t w b xs) {b' : Nat} (hb : b ≠ b') (i : Nat) (v : Value) : Own g t (w.setCell ⟨b', i, none⟩ v) b xs := by
  unfold Own at *
  simp only [World.setCell, Array.getElem?_modify]
  rw [if_neg (Ne.symm hb)]
  exact h
end

theorem grew_refl (w : World) : Grew w w := Below.refl _ _

theorem grew_set {w w' : World} {b i : Nat} {v : Value} (h : Grew w w') (hb : w.heap.size ≤ b) : Grew w (w'.setCell ⟨b, i, none⟩ v) := Below.setCell h hb _

theorem madeCells_one (z : Value) (hz : z.cells = #[z]) (n : Nat) : madeCells z.cells n = (List.replicate n z).toArray := by
  rw [hz]
  unfold madeCells
  apply Array.ext
  · simp
  · intro i h1 h2
    simp [Nat.mod_one]

theorem list_grow {α : Type} (xs : List α) (z : α) (k : Nat) (hk : k < xs.length) : (xs.take k ++ List.replicate (xs.length - k) z).set k xs[k] = xs.take (k + 1) ++ List.replicate (xs.length - (k + 1)) z := by
  have h1 : xs.length - k = (xs.length - (k + 1)) + 1 := by omega
  rw [h1, List.replicate_succ, List.set_append_right _ _ (by simp; omega)]
  have h2 : k - (xs.take k).length = 0 := by simp; omega
  rw [h2, List.set_cons_zero, List.take_succ_eq_append_getElem hk, List.append_assoc]
  rfl

theorem list_grow_at {α : Type} (xs : List α) (z : α) (k : Nat) (hk : k < xs.length) : (xs.take k ++ List.replicate (xs.length - k) z)[k]? = some z := by
  have hl : (xs.take k).length = k := by simp; omega
  rw [List.getElem?_append_right (by rw [hl]; exact Nat.le_refl _), hl, Nat.sub_self]
  rw [List.getElem?_replicate, if_pos (by omega)]

theorem made {P : Program} (t e : TypeId) (i : TypeInfo) (z : Value) (ht : P.underlying t = some (.slice e)) (hi : P.info? e = some i) (hz : i.zero = some z) (hs : i.size = 1) (hc : z.cells = #[z]) (hb : i.bytes ≤ 16) (n : Nat) (hn : n ≤ 1048576) (w : World) :
    (Instr.makeSlice t (.int .i64 (n : Int)) (.int .i64 (n : Int))).run P w = .ok (.slice (some ⟨w.heap.size, 0, none⟩) n n) (w.alloc (.cells (List.replicate n z).toArray e)) := by
  have hm : (i.bytes : Int) * (n : Int) ≤ 281474976710656 := by
    have h1 : i.bytes * n ≤ 16 * 1048576 := Nat.mul_le_mul hb hn
    have h2 : ((i.bytes * n : Nat) : Int) ≤ 281474976710656 := by omega
    rwa [Int.natCast_mul] at h2
  rw [run_make w t e i z ht hi hz .i64 .i64 n n (by omega) (Int.le_refl _) hm (by omega)]
  simp only [Int.toNat_natCast, hs, Nat.mul_one]
  rw [madeCells_one z hc]

theorem info_int64 : (Try.prog.info? 2).map (fun i => (i.zero, i.size, i.bytes)) = some (some (.int .i64 0), 1, 8) := by kernel_rfl

theorem info_float32 : (Try.prog.info? 24).map (fun i => (i.zero, i.size, i.bytes)) = some (some (.float .f32 0), 1, 4) := by kernel_rfl


end Go.Proofs.Ytkippcjifikegaa
