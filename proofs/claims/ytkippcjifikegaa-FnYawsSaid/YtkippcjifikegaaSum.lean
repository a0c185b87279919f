/-
  CONTRACTS: sums of rows, from left to right; copies of rows (slices.Clone).
-/
import Derived.Lib.SliceRun
import Derived.Test.YtkippcjifikegaaLed
import Derived.Test.YtkippcjifikegaaTail
import Derived.Test.YtkippcjifikegaaConcat
namespace Go.Proofs.Ytkippcjifikegaa
open Go.RowKit Go.Flt
set_option linter.unusedVariables false
set_option maxRecDepth 100000
set_option linter.unusedSimpArgs false

/-- The sum of the first k numbers. -/
def sumTo (xs : List Nat) : Nat → Ieee.Datum
  | 0 => cl .f32 0
  | k + 1 => fop .add .f32 (sumTo xs k) (cl .f32 (xs.getD k 0))

theorem sum_step {xs : List Nat} {k r z : Nat} (hz : cl .f32 z = sumTo xs k) (hr : cl .f32 r = fop .add .f32 (cl .f32 z) (cl .f32 (xs.getD k 0))) : cl .f32 r = sumTo xs (k + 1) := by
  rw [hr, hz]
  rfl

theorem c_sum (A : Option Addr) (n cap K : Nat) (xs : List Nat) (w : World) (h : Fl w K A n xs) (hn : n ≤ maxLen) :
    Calls Try.prog 69 #[.slice A n cap] w (RetF (sumTo xs xs.length) (Drawn w)) := by
  unfold maxLen at hn
  obtain rfl := h.1
  have HS := Lib.hid h
  clear h
  go_enter Try.func69, Try.ntmps69
  go_wp2_with fail
  go_loopw [3, 8] (fun s i wr => ∃ k z : Nat, k ≤ xs.length ∧ i = .int .i64 k ∧ s = .float .f32 z ∧ Hid (cl .f32 z = sumTo xs k) ∧ Hid (fits z) ∧ ∃ m, wr = w.drewN m) (fun _ i _ => xs.length - (intOf i).toNat)
  case atStart => exact ⟨0, 0, Nat.zero_le _, rfl, rfl, rfl, fits_zero, 0, rfl⟩
  case round =>
    obtain ⟨k, z, hk, rfl, rfl, hz, hf, m, rfl⟩ := hrel
    by_cases hlt : k < xs.length
    · obtain ⟨b, off, rfl, _, hc⟩ := HS.out.2 (by omega)
      have hcell := hc k (xs.getD k 0) (by simp [hlt])
      clear hc
      have i3 : (0 : Int) ≤ (k : Int) := by omega
      have i4 : (k : Int) < (xs.length : Int) := by omega
      have hT := Lib.hid (fun r => sum_step (xs := xs) (k := k) (r := r) hz.out)
      generalize xs.getD k 0 = x at *
      go_wp2_with (refine upon_fbin rfl _ _ _ _ ?_; intro z n hz hzw)
      go_roundw
      case rel => exact ⟨k + 1, _, by omega, by go_num, rfl, hT.out _ (by assumption), by assumption, by (first | exact ⟨_, rfl⟩ | exact ⟨0, rfl⟩ | exact ⟨_, World.drewN_drewN _ _ _⟩ | (simp only [World.drewN_drewN]; exact ⟨_, rfl⟩))⟩
      case measure => simp [intOf]; omega
    · obtain rfl : k = xs.length := by omega
      go_wp2_with fail
      go_ret
      exact ⟨_, rfl, hz.out, hf.out, by (first | exact ⟨_, rfl⟩ | exact ⟨0, rfl⟩ | exact ⟨_, World.drewN_drewN _ _ _⟩ | (simp only [World.drewN_drewN]; exact ⟨_, rfl⟩))⟩

/-- slices.Clone of a row that is not empty. -/
theorem c_Clone (A : Option Addr) (n cap K : Nat) (xs : List Nat) (w : World) (h : Fl w K A n xs) (hK : K ≤ w.heap.size) (h0 : 0 < n) (hn : n ≤ 1048576) :
    Calls Try.prog 78 #[.slice A n cap] w fun e w' => ∃ v, e = .returned v ∧ FRow w' w.heap.size w'.heap.size v xs ∧ Grew w w' := by
  obtain rfl := h.1
  obtain ⟨b, off, rfl, hb, _⟩ := h.2 h0
  obtain ⟨i, hi, hz0, hz1, hz2⟩ := info_parts info_float32
  have HI := Lib.hid hi
  have HI0 := Lib.hid hz0
  have HI1 := Lib.hid hz1
  have HI2 := Lib.hid hz2
  have HR := Lib.hid (row_made (g := Value.float .f32) (t := 24) w (grw_refl w))
  have HC := Lib.hid (fun w' hg => fl_cells (Slc.grew (g := Value.float .f32) (w' := w') h hK hg))
  have q : ∀ (w : World) (a : Option Addr) (n c n' c' : Nat), (binOp .eql 31 (.slice a n c) (.slice none n' c')).run Try.prog w = .ok (.bool a.isNone) w := fun w a n c n' c' => Lib.run_eql_slice_nil w _ _ a n c n' c' Try.underlying31
  clear h hi hz0 hz1 hz2
  go_enter Try.func78, Try.ntmps78
  go_wp2_with (at_builtin; (refine wpList_append_own _ rfl _ _ 31 rfl w.heap.size 24 i (.float .f32 0) 1 4 Try.underlying31 HI.out HI0.out HI1.out HI2.out rfl (by decide) (.slice (some ⟨w.heap.size, 0, none⟩) 0 0) 0 [] rfl HR.out.1.1 ⟨b, off, none⟩ xs.length _ (xs.map (Value.float .f32)) rfl (by simp) (HC.out _ HR.out.2) (one_cells xs) (by unfold maxLen; omega) (by omega) (by simp) ?_; rintro v2 w2 hown hgr _; have hra := Lib.hid (row_app (xs := []) (ys := xs) HR.out.2 (by simpa using HR.out.1) (by simpa using hown) hgr); clear hown hgr))
  go_ret
  exact ⟨_, rfl, by simpa using hra.out.1, hra.out.2⟩

/-- A row that a call has made between two worlds. -/
def RowNew (xs : List Nat) (v : Value) (wb w3 : World) : Prop := ∃ A c, v = .slice A xs.length c ∧ FRow w3 wb.heap.size w3.heap.size v xs

theorem rowNew_of {xs : List Nat} {v : Value} {wb w3 : World} (h : FRow w3 wb.heap.size w3.heap.size v xs) : RowNew xs v wb w3 := by
  obtain ⟨A, c, e, _⟩ := h.slc
  exact ⟨A, c, e, h⟩

/-- Two rows made in a region. -/
theorem rows_new {D : List Tmp} {F : List (Tmp × (Value → World → World → Prop))} {w0 w' : World} {a : Act} (h : AllApart D F w0 a w') {d d' : Tmp} (hd : d ∈ D) (hd' : d' ∈ D) (hne : d ≠ d') {xs ys : List Nat} (e : tabF F d = some (RowNew xs)) (e' : tabF F d' = some (RowNew ys))
    (hu : a.tmps.getD d undef ≠ undef) (hu' : a.tmps.getD d' undef ≠ undef) :
    FRow w' w0.heap.size w'.heap.size (a.tmps.getD d undef) xs ∧ FRow w' w0.heap.size w'.heap.size (a.tmps.getD d' undef) ys ∧ ∀ k, (a.tmps.getD d undef).ownBlock = some k → (a.tmps.getD d' undef).ownBlock ≠ some k := by
  obtain ⟨B, E, hB, hA⟩ := h
  obtain ⟨g1, g2, g3, g4⟩ := hB d hd
  obtain ⟨k1, k2, k3, k4⟩ := hB d' hd'
  have f1 := g4.resolve_left hu
  have f2 := k4.resolve_left hu'
  rw [ofOp_some, e] at f1
  rw [ofOp_some, e'] at f2
  obtain ⟨_, _, _, r1⟩ := f1
  obtain ⟨_, _, _, r2⟩ := f2
  refine ⟨RowAt.mono (r1.grew (Nat.le_refl _) g3) (Below.size g1) (Below.size g3), RowAt.mono (r2.grew (Nat.le_refl _) k3) (Below.size k1) (Below.size k3), ?_⟩
  rcases hA d d' hd hd' hne with h | h
  · exact r1.apart r2 h
  · exact fun k h1 h2 => r2.apart r1 h k h2 h1

/-- What an 'append' of many values to one of two rows leaves. -/
theorem row_app2 {α β : Type} {g : α → Value} {t : TypeId} {w : World} {lo : Nat} {xs rs : List α} {g' : β → Value} {t' : TypeId} {ys : List β} {w2 : World} {v1 v2 v' : Value} (h1 : RowAt g t w lo w.heap.size v1 xs) (h2 : RowAt g' t' w lo w.heap.size v2 ys) (hd : ∀ k, v1.ownBlock = some k → v2.ownBlock ≠ some k) (hl : lo ≤ w.heap.size)
    (hown : w2.ownsRow lo t 1 v' (xs.length + rs.length) (xs.map g ++ rs.map g)) (hgr : w.grownBy w2 v1.ownBlock) (hat : v'.ownBlock = v1.ownBlock ∨ v'.ownBlock = some w.heap.size) :
    RowAt g t w2 lo w2.heap.size v' (xs ++ rs) ∧ RowAt g' t' w2 lo w2.heap.size v2 ys ∧ (∀ k, v'.ownBlock = some k → v2.ownBlock ≠ some k) ∧ Below lo w w2 := by
  have hb : Below lo w w2 := ⟨hgr.os, hgr.tape, hgr.output, hgr.size, fun k hk => hgr.block k (by omega) fun e => by have := (h1.1.lt k e.symm).1; omega⟩
  refine ⟨⟨by simpa using hown, fun k hk => (hown.lt k hk).2⟩, ⟨h2.1.kept hgr ?_, fun k hk => Nat.lt_of_lt_of_le (h2.2 k hk) hgr.size⟩, fun k hk e => ?_, hb⟩
  · cases h : v2.ownBlock with
    | none => exact .inl rfl
    | some k => exact .inr fun e => hd k e.symm h
  · rcases hat with h | h
    · exact hd k (h ▸ hk) e
    · rw [h] at hk
      injection hk with hk
      have := h2.2 k e
      omega

end Go.Proofs.Ytkippcjifikegaa
