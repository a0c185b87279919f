/-
  CONTRACTS: slices of integers that a law copies, compares, marks.
-/
import Derived.Test.YtlakmogclcpgdaaSl
namespace Go.Proofs.Ytlakmogclcpgdaa
open Go.RowKit Go.Flt
set_option linter.unusedVariables false
set_option maxRecDepth 100000
set_option linter.unusedSimpArgs false

/-- The slice '.slice A n _' holds the values g x of the list, below block K. -/
def Slc {α : Type} (g : α → Value) (w : World) (K : Nat) (A : Option Addr) (n : Nat) (xs : List α) : Prop :=
  xs.length = n ∧ (0 < n → ∃ b off, A = some ⟨b, off, none⟩ ∧ b < K ∧ ∀ i x, xs[i]? = some x → w.cell? ⟨b, off + i, none⟩ = some (g x))

/-- Block b is a row of its own. -/
def Own {α : Type} (g : α → Value) (t : TypeId) (w : World) (b : Nat) (xs : List α) : Prop := w.heap[b]? = some (.cells (xs.map g).toArray t (0, 0))

theorem Slc.keep {α : Type} {g : α → Value} {w w' : World} {K n : Nat} {A : Option Addr} {xs : List α} (h : Slc g w K A n xs) (hk : ∀ b o, b < K → w'.cell? ⟨b, o, none⟩ = w.cell? ⟨b, o, none⟩) : Slc g w' K A n xs :=
  ⟨h.1, fun hn => by
    obtain ⟨b, off, e, hb, hc⟩ := h.2 hn
    exact ⟨b, off, e, hb, fun i x hx => (hk _ _ hb).trans (hc i x hx)⟩⟩

theorem Slc.grew {α : Type} {g : α → Value} {w w' : World} {K n : Nat} {A : Option Addr} {xs : List α} (h : Slc g w K A n xs) (hK : K ≤ w.heap.size) (hb : Grew w w') : Slc g w' K A n xs :=
  h.keep fun _ _ hp => (bcell hb).1 _ _ (by omega)

theorem Slc.drewN {α : Type} {g : α → Value} {w : World} {K n : Nat} {A : Option Addr} {xs : List α} (h : Slc g w K A n xs) (k : Nat) : Slc g (w.drewN k) K A n xs := h

theorem Slc.mono {α : Type} {g : α → Value} {w : World} {K K' n : Nat} {A : Option Addr} {xs : List α} (h : Slc g w K A n xs) (hK : K ≤ K') : Slc g w K' A n xs :=
  ⟨h.1, fun hn => by
    obtain ⟨b, off, e, hb, hc⟩ := h.2 hn
    exact ⟨b, off, e, by omega, hc⟩⟩

section
variable {α : Type} {g : α → Value} {t : TypeId} {w w' : World} {b : Nat} {xs : List α}

theorem Own.cell (h : Own g t w b xs) {i : Nat} {x : α} (hx : xs[i]? = some x) : w.cell? ⟨b, i, none⟩ = some (g x) := by
  rw [cell_of_row w b i _ t (0, 0) h]
  simp [hx]

theorem Own.free (h : Own g t w b xs) (i : Nat) : w.frozen? ⟨b, i, none⟩ = false := by
  unfold Own at h
  simp [World.frozen?, h]

theorem Own.lt (h : Own g t w b xs) : b < w.heap.size := by
  unfold Own at h
  exact (Array.getElem?_eq_some_iff.1 h).1

theorem Own.drewN (h : Own g t w b xs) (n : Nat) : Own g t (w.drewN n) b xs := h

theorem Own.slc (h : Own g t w b xs) {K : Nat} (hK : b < K) : Slc g w K (some ⟨b, 0, none⟩) xs.length xs :=
  ⟨rfl, fun _ => ⟨b, 0, rfl, hK, fun i x hx => by rw [Nat.zero_add]; exact h.cell hx⟩⟩

theorem Own.grew (h : Own g t w b xs) (hg : Grew w w') : Own g t w' b xs := by
  unfold Own at *
  rw [hg.block b (Own.lt (g := g) h)]
  exact h

theorem Own.set (h : Own g t w b xs) (i : Nat) (v : α) : Own g t (w.setCell ⟨b, i, none⟩ (g v)) b (xs.set i v) := by
  unfold Own at *
  simp [World.setCell, h, List.map_set, Array.getElem?_modify]

theorem Own.set_other (h : Own g t w b xs) {b' : Nat} (hb : b ≠ b') (i : Nat) (v : Value) : Own g t (w.setCell ⟨b', i, none⟩ v) b xs := by
  unfold Own at *
  simp only [World.setCell, Array.getElem?_modify]
  rw [if_neg (Ne.symm hb)]
  exact h
end

theorem grew_refl (w : World) : Grew w w := Below.refl _ _

theorem grew_set {w w' : World} {b i : Nat} {v : Value} (h : Grew w w') (hb : w.heap.size ≤ b) : Grew w (w'.setCell ⟨b, i, none⟩ v) := Below.setCell h hb _

theorem madeCells_one (z : Value) (hz : z.cells = #[z]) (n : Nat) : madeCells z.cells n = (List.replicate n z).toArray := by
  rw [hz]
  unfold madeCells
  apply Array.ext
  · simp
  · intro i h1 h2
    simp [Nat.mod_one]

theorem list_grow {α : Type} (xs : List α) (z : α) (k : Nat) (hk : k < xs.length) : (xs.take k ++ List.replicate (xs.length - k) z).set k xs[k] = xs.take (k + 1) ++ List.replicate (xs.length - (k + 1)) z := by
  have h1 : xs.length - k = (xs.length - (k + 1)) + 1 := by omega
  rw [h1, List.replicate_succ, List.set_append_right _ _ (by simp; omega)]
  have h2 : k - (xs.take k).length = 0 := by simp; omega
  rw [h2, List.set_cons_zero, List.take_succ_eq_append_getElem hk, List.append_assoc]
  rfl

theorem list_grow_at {α : Type} (xs : List α) (z : α) (k : Nat) (hk : k < xs.length) : (xs.take k ++ List.replicate (xs.length - k) z)[k]? = some z := by
  have hl : (xs.take k).length = k := by simp; omega
  rw [List.getElem?_append_right (by rw [hl]; exact Nat.le_refl _), hl, Nat.sub_self]
  rw [List.getElem?_replicate, if_pos (by omega)]

theorem made {P : Program} (t e : TypeId) (i : TypeInfo) (z : Value) (ht : P.underlying t = some (.slice e)) (hi : P.info? e = some i) (hz : i.zero = some z) (hs : i.size = 1) (hc : z.cells = #[z]) (hb : i.bytes ≤ 16) (n : Nat) (hn : n ≤ 1048576) (w : World) :
    (Instr.makeSlice t (.int .i64 (n : Int)) (.int .i64 (n : Int))).run P w = .ok (.slice (some ⟨w.heap.size, 0, none⟩) n n) (w.alloc (.cells (List.replicate n z).toArray e)) := by
  have hm : (i.bytes : Int) * (n : Int) ≤ 281474976710656 := by
    have h1 : i.bytes * n ≤ 16 * 1048576 := Nat.mul_le_mul hb hn
    have h2 : ((i.bytes * n : Nat) : Int) ≤ 281474976710656 := by omega
    rwa [Int.natCast_mul] at h2
  rw [run_make w t e i z ht hi hz .i64 .i64 n n (by omega) (Int.le_refl _) hm (by omega)]
  simp only [Int.toNat_natCast, hs, Nat.mul_one]
  rw [madeCells_one z hc]


theorem info_float32 : (Try.prog.info? 22).map (fun i => (i.zero, i.size, i.bytes)) = some (some (.float .f32 0), 1, 4) := by kernel_rfl

theorem mk_float32 (n : Nat) (hn : n ≤ 1048576) (w : World) : (Instr.makeSlice 23 (.int .i64 (n : Int)) (.int .i64 (n : Int))).run Try.prog w = .ok (.slice (some ⟨w.heap.size, 0, none⟩) n n) (w.alloc (.cells (List.replicate n (.float .f32 0)).toArray 22)) := by
  obtain ⟨i, hi, hz0, hz1, hz2⟩ := info_parts info_float32
  exact made 23 22 i (.float .f32 0) Try.underlying23 hi hz0 hz1 rfl (by omega) n hn w

theorem c_toFloat32S (A : Option Addr) (n cap K : Nat) (xs : List Nat) (w : World) (h : Slc (Value.float .f32) w K A n xs) (hK : K ≤ w.heap.size) (hn : n ≤ 1048576) :
    Calls Try.prog 47 #[.slice A n cap] w fun e w' => ∃ b, e = .returned (.slice (some ⟨b, 0, none⟩) n n) ∧ w.heap.size ≤ b ∧ Own (Value.float .f32) 22 w' b xs ∧ Grew w w' := by
  have HM := mk_float32 n hn
  obtain rfl := h.1
  have HS := Lib.hid h
  clear h
  go_enter Try.func47, Try.ntmps47
  go_wp2_with fail
  have h0 : Own (Value.float .f32) 22 (w.alloc (.cells (List.replicate xs.length (.float .f32 0)).toArray 22)) w.heap.size (xs.take 0 ++ List.replicate (xs.length - 0) 0) := by
    unfold Own
    simp [heap_push, Array.getElem?_push]
  have H0 := Lib.hid h0
  clear h0 HM
  go_loopw [4] (fun i wr => ∃ k : Nat, k ≤ xs.length ∧ i = .int .i64 k ∧ Hid (Own (Value.float .f32) 22 wr w.heap.size (xs.take k ++ List.replicate (xs.length - k) 0)) ∧ Hid (Grew w wr)) (fun i _ => xs.length - (intOf i).toNat)
  case atStart => exact ⟨0, Nat.zero_le _, rfl, H0, by show Below _ _ _; (repeat (first | exact Below.refl _ _ | refine ext_below ?_ (by first | omega | (simp only [size_ext, heap_push, Array.size_push, World.heap_drewN]; omega) | (simp; omega)) _ _ | refine below_draws ?_ _ | refine Below.alloc ?_ (by first | omega | (simp; done) | (simp; omega)) _ | refine Below.setCell ?_ (by first | omega | (simp; done) | (simp; omega)) _ | refine below_then (by assumption) (by first | omega | (simp; done) | (simp; omega)) ?_))⟩
  case round =>
    obtain ⟨k, hk, rfl, hown, hg⟩ := hrel
    by_cases hlt : k < xs.length
    · obtain ⟨b, off, rfl, hbK, hc⟩ := HS.out.2 (by omega)
      have hbw : b < w.heap.size := Nat.lt_of_lt_of_le hbK hK
      have hcell : wr.cell? ⟨b, off + k, none⟩ = some (Value.float .f32 xs[k]) := ((bcell hg.out).1 b (off + k) hbw).trans (hc k _ (List.getElem?_eq_getElem hlt))
      have hd : wr.cell? ⟨w.heap.size, k, none⟩ = some (Value.float .f32 0) := hown.out.cell (list_grow_at xs 0 k hlt)
      have hf := hown.out.free k
      clear hc
      have hn : Own (Value.float .f32) 22 (wr.setCell ⟨w.heap.size, k, none⟩ (Value.float .f32 xs[k])) w.heap.size (xs.take (k + 1) ++ List.replicate (xs.length - (k + 1)) 0) := by
        rw [← list_grow xs 0 k hlt]
        exact hown.out.set k _
      have HN := Lib.hid hn
      clear hn
      go_wp2_with fail
      go_roundw
      case rel => exact ⟨k + 1, by omega, by go_num, HN, grew_set hg.out (Nat.le_refl _)⟩
      case measure => simp [intOf]; omega
    · go_wp2_with fail
      go_ret
      obtain rfl : k = xs.length := by omega
      have hE := hown.out
      simp only [List.take_length, Nat.sub_self, List.replicate_zero, List.append_nil] at hE
      exact ⟨_, rfl, Nat.le_refl _, hE, hg.out⟩

end Go.Proofs.Ytlakmogclcpgdaa
