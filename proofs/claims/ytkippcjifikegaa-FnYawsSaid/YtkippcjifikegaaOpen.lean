/-
  ARGUMENTS OPENED: structs of floats, slices of floats.
-/
import Derived.Test.YtkippcjifikegaaRows
import Derived.Test.YtkippcjifikegaaInts
import Derived.ChangeSlices
import Derived.WalkKit
import Derived.ProofKit
import Derived.OpenShut
import Derived.ShutString
import Derived.ChangeOld
import Derived.Below
namespace Go.Proofs.Ytkippcjifikegaa
open Go.ChangeShapes Go.WideShapes Go.ChangeAt Go.RowKit Go.Flt
set_option linter.unusedVariables false
set_option maxRecDepth 100000
set_option linter.unusedSimpArgs false

theorem own : ownKnob Try.prog.godebug = none := by kernel_rfl

theorem laidOut : laidOutB Try.prog = true := by kernel_rfl

section
variable {H : Type} {enc : TypeId × Value → H} {P : Program} {w : World} {base : Nat} {spare : Nat → Bool} {held : Bool} {fuel : Nat} {t : TypeId} {cs : List Value} {x : DataW H × List MemPlace}

theorem trod_float {k : FloatKind} (ht : P.underlying t = some (.float k)) (h : DataW.trod enc P w base spare held fuel t cs = some x) : ∃ n, cs = [.float k n] ∧ (Lit.float k n).wf = true := by
  cases fuel with
  | zero => simp [DataW.trod] at h
  | succ n =>
    unfold DataW.trod at h
    rw [ht] at h
    split at h <;> simp_all

theorem field_float {xs : List (DataW H × List MemPlace)} {i : Nat} {k : FloatKind} (ht : P.underlying t = some (.float k)) (h : DataW.trod enc P w base spare held fuel t cs = xs[i]?) (hi : i < xs.length) : ∃ n, cs = [.float k n] ∧ (Lit.float k n).wf = true :=
  trod_float ht (h.trans (List.getElem?_eq_getElem hi))

theorem field_int {xs : List (DataW H × List MemPlace)} {i : Nat} {k : IntKind} (ht : P.underlying t = some (.int k)) (h : DataW.trod enc P w base spare held fuel t cs = xs[i]?) (hi : i < xs.length) : ∃ n, cs = [.int k n] ∧ (Lit.int k n).wf = true := by
  obtain ⟨n, h1, _, h2⟩ := DataW.trod_int ht (h.trans (List.getElem?_eq_getElem hi))
  exact ⟨n, h1, h2⟩
end

section
variable {H : Type} {enc : TypeId × Value → H} {w : World} {base : Nat} {spare : Nat → Bool} {held : Bool} {fuel : Nat} {cs : List Value} {x : DataW H × List MemPlace}

theorem cells_f32 : Try.prog.cellsOf 24 = 1 := by kernel_rfl
end
section
variable {H : Type} {enc : TypeId × Value → H} {P : Program} {w : World} {base : Nat} {spare : Nat → Bool} {held : Bool}
/-- A slice that came in, of elements of one cell. -/
theorem trod_slc {α : Type} {g : α → Value} {p : α → Prop} {t e : TypeId} {fuel : Nat} {cs : List Value} {x : DataW H × List MemPlace} (ht : P.underlying t = some (.slice e)) (hc : P.cellsOf e = 1)
    (he : ∀ n cs x, DataW.trod enc P w base spare held n e cs = some x → ∃ v, cs = [g v] ∧ p v) (h : DataW.trod enc P w base spare held fuel t cs = some x) :
    ∃ A len cap xs, cs = [.slice A len cap] ∧ Slc g w w.heap.size A len xs ∧ len ≤ maxLen ∧ ∀ v ∈ xs, p v := by
  rcases DataW.trod_slice ht h with ⟨rfl, _⟩ | ⟨a, len, cap, elems, rest, n, _, rfl, _, _, hl, hm, hlen, hel, _, _⟩
  · exact ⟨none, 0, 0, [], rfl, ⟨rfl, fun h => absurd h (by omega)⟩, by unfold maxLen; omega, fun _ h => by cases h⟩
  have each : ∀ i, i < len → ∃ v, w.cell? (a.add i) = some (g v) ∧ p v := by
    intro i hi
    have h1 := hel i hi
    rw [hc, Nat.mul_one, List.getElem?_eq_getElem (by rw [hlen]; exact hi), Option.bind_eq_some_iff] at h1
    obtain ⟨cs', hcs, hy'⟩ := h1
    obtain ⟨v, rfl, hp⟩ := he _ _ _ hy'
    exact ⟨v, cell_of_cells?_one hcs, hp⟩
  have mk : ∀ m, m ≤ len → ∃ xs : List α, xs.length = m ∧ (∀ i v, xs[i]? = some v → w.cell? (a.add i) = some (g v)) ∧ ∀ v ∈ xs, p v := by
    intro m
    induction m with
    | zero => exact fun _ => ⟨[], rfl, fun i v h => by simp at h, fun _ h => by cases h⟩
    | succ m ih =>
      intro hm
      obtain ⟨xs, h1, h2, h3⟩ := ih (by omega)
      obtain ⟨v, h4, h5⟩ := each m (by omega)
      refine ⟨xs ++ [v], by simp [h1], fun i u hu => ?_, fun u hu => ?_⟩
      · rw [List.getElem?_append] at hu
        split at hu
        · exact h2 i u hu
        · have : i = m := by
            have := (List.getElem?_eq_some_iff.1 hu).1
            simp at this
            omega
          subst this
          simp [h1] at hu
          rw [← hu]
          exact h4
      · simp at hu
        rcases hu with hu | rfl
        · exact h3 u hu
        · exact h5
  obtain ⟨xs, h1, h2, h3⟩ := mk len (Nat.le_refl _)
  refine ⟨some a, len, cap, xs, rfl, ⟨h1, fun hpos => ?_⟩, Nat.le_trans hl hm, h3⟩
  obtain ⟨ab, ao, sp⟩ := a
  have hx : xs[0]? = some xs[0] := List.getElem?_eq_getElem (by omega)
  have h0 := h2 0 _ hx
  have hs : sp = none := by
    cases sp with
    | none => rfl
    | some s =>
      simp only [World.cell?, Addr.add] at h0
      split at h0 <;> simp at h0
  subst hs
  have ad : ∀ i : Nat, (Addr.mk ab ao none).add i = ⟨ab, ao + i, none⟩ := fun i => by
    unfold Addr.add
    split
    · rename_i h; subst h; rfl
    · rfl
  refine ⟨ab, ao, rfl, ?_, fun i x hx => by rw [← ad]; exact h2 i x hx⟩
  rw [ad] at h0
  rcases Nat.lt_or_ge ab w.heap.size with hlt | hge
  · exact hlt
  · simp [World.cell?, Array.getElem?_eq_none hge] at h0
end
section
variable {H : Type} {enc : TypeId × Value → H} {w : World} {base : Nat} {spare : Nat → Bool} {held : Bool}

theorem cells_i64' : Try.prog.cellsOf 2 = 1 := by kernel_rfl

theorem open_i64s {r : Reach} {b0 : Nat} {v : Value} {d : DataW H} {q : List MemPlace} (hv : Value.okWide Try.prog w r b0 38 v) (h : DataW.Trod enc Try.prog w base spare held 38 v d q) :
    ∃ A len cap xs, v = .slice A len cap ∧ Slc (Value.int .i64) w w.heap.size A len xs ∧ len ≤ maxLen := by
  obtain ⟨A, len, cap, rfl⟩ := okWide_slice Try.underlying38 hv
  obtain ⟨fuel, hf⟩ := h
  obtain ⟨A', len', cap', xs, hc, h1, h2, _⟩ := trod_slc (g := Value.int .i64) (p := fun _ => True) Try.underlying38 cells_i64' (fun n cs x hx => by
    obtain ⟨m, e, _, _⟩ := DataW.trod_int Try.underlying2 hx
    exact ⟨m, e, trivial⟩) hf
  simp [Value.cells] at hc
  obtain ⟨rfl, rfl, rfl⟩ := hc
  exact ⟨_, _, _, xs, rfl, h1, h2⟩

theorem cells_u8 : Try.prog.cellsOf 5 = 1 := by kernel_rfl

theorem open_bytes {r : Reach} {b0 : Nat} {v : Value} {d : DataW H} {q : List MemPlace} (hv : Value.okWide Try.prog w r b0 22 v) (h : DataW.Trod enc Try.prog w base spare held 22 v d q) :
    ∃ A len cap xs, v = .slice A len cap ∧ Slc (fun n : Nat => Value.int .u8 (n : Int)) w w.heap.size A len xs ∧ len ≤ maxLen ∧ ∀ x ∈ xs, x < 256 := by
  obtain ⟨A, len, cap, rfl⟩ := okWide_slice Try.underlying22 hv
  obtain ⟨fuel, hf⟩ := h
  obtain ⟨A', len', cap', xs, hc, h1, h2, h3⟩ := trod_slc (g := fun n : Nat => Value.int .u8 (n : Int)) (p := fun n => n < 256) Try.underlying22 cells_u8 (fun n cs x hx => by
    obtain ⟨m, e, _, hw⟩ := DataW.trod_int Try.underlying5 hx
    have hb : 0 ≤ m ∧ m < 256 := by
      have h1 : IntKind.u8.min = 0 := by decide
      have h2 : IntKind.u8.max = 255 := by decide
      simp [Lit.wf, h1, h2] at hw
      omega
    refine ⟨m.toNat, ?_, by omega⟩
    have : ((m.toNat : Nat) : Int) = m := by omega
    rw [e]
    show _ = [Value.int .u8 ((m.toNat : Nat) : Int)]
    rw [this]) hf
  simp [Value.cells] at hc
  obtain ⟨rfl, rfl, rfl⟩ := hc
  exact ⟨_, _, _, xs, rfl, h1, h2, h3⟩

theorem open_floats {r : Reach} {b0 : Nat} {v : Value} {d : DataW H} {q : List MemPlace} (hv : Value.okWide Try.prog w r b0 31 v) (h : DataW.Trod enc Try.prog w base spare held 31 v d q) :
    ∃ A len cap xs, v = .slice A len cap ∧ Slc (Value.float .f32) w w.heap.size A len xs ∧ len ≤ maxLen ∧ ∀ x ∈ xs, fits x := by
  obtain ⟨A, len, cap, rfl⟩ := okWide_slice Try.underlying31 hv
  obtain ⟨fuel, hf⟩ := h
  obtain ⟨A', len', cap', xs, hc, h1, h2, h3⟩ := trod_slc (g := Value.float .f32) (p := fits) Try.underlying31 cells_f32 (fun n cs x hx => trod_float Try.underlying24 hx) hf
  simp [Value.cells] at hc
  obtain ⟨rfl, rfl, rfl⟩ := hc
  exact ⟨_, _, _, xs, rfl, h1, h2, h3⟩

theorem cells_sl : Try.prog.cellsOf 31 = 1 := by kernel_rfl

theorem trod_floats {fuel : Nat} {cs : List Value} {x : DataW H × List MemPlace} (h : DataW.trod enc Try.prog w base spare held fuel 31 cs = some x) :
    ∃ A len cap xs, cs = [.slice A len cap] ∧ Slc (Value.float .f32) w w.heap.size A len xs ∧ len ≤ maxLen ∧ ∀ v ∈ xs, fits v :=
  trod_slc (g := Value.float .f32) (p := fits) Try.underlying31 cells_f32 (fun n cs x hx => trod_float Try.underlying24 hx) h
end

end Go.Proofs.Ytkippcjifikegaa
