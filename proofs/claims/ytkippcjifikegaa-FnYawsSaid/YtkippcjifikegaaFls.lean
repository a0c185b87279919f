/-
  CONTRACTS: how a law compares two slices of floats; a float32 widened where the order is drawn.
-/
import Derived.Test.YtkippcjifikegaaSameF
import Derived.Test.YtkippcjifikegaaInts
import Derived.Test.YtkippcjifikegaaGrow
namespace Go.Flt
open Go Ieee
section
variable {P : Program} {T : FuncId → Array Value → Value → Prop} {C : World → Prop}
/-- float64(x) in a region that draws its order. -/
theorem free_wid {o : Oper} {a : Act} {K : Act → Prop} {src dst : TypeId} {e : Operand} (hCn : ∀ w n, C w → C (w.drewN n)) (hop : o.op = .convert src dst e) (x : Nat)
    (hx : a.eval e = .float .f32 x) (hs : (P.underlying src).isSome = true) (hd : P.underlying dst = some (.float .f64))
    (h : ∀ z, cl .f64 z = wid (cl .f32 x) → (Lit.float .f64 z).wf = true → K (a.put o.dst (.float .f64 z))) : Free P T C o a K := by
  intro w hw
  obtain ⟨z, n, h1, h2, h3⟩ := run_widen (P := P) w src dst x hs hd
  simp only [execOp, hop, hx, Sem.run_bind, h1, Result.andThen_ok, Sem.run_pure]
  exact ⟨hCn _ _ hw, h z h2 h3⟩
end
section
variable {P : Program} {ops : Array Oper} {D : List Tmp} {F : List (Tmp × (Value → World → World → Prop))} {w0 : World}
theorem gG_wid {o : Oper} {a : Act} {K : Act → Prop} {src dst : TypeId} {e : Operand} (hop : o.op = .convert src dst e) (x : Nat)
    (hx : a.eval e = .float .f32 x) (hs : (P.underlying src).isSome = true) (hd : P.underlying dst = some (.float .f64)) (hu : told F o.dst = none)
    (h : ∀ z, cl .f64 z = wid (cl .f32 x) → (Lit.float .f64 z).wf = true → K (a.put o.dst (.float .f64 z))) : GG P ops D F w0 o a K := by
  intro w hw _
  obtain ⟨z, n, h1, h2, h3⟩ := run_widen (P := P) w src dst x hs hd
  simp only [execOp, hop, hx, Sem.run_bind, h1, Result.andThen_ok, Sem.run_pure]
  exact ⟨grew_draw _ n (grw_refl w), by unfold OfOp; rw [hu]; trivial, h z h2 h3⟩
end
end Go.Flt

namespace Go.Proofs.Ytkippcjifikegaa
open Go.RowKit Go.Flt
set_option linter.unusedVariables false
set_option maxRecDepth 100000
set_option linter.unusedSimpArgs false

theorem map_at {xs ys : List Nat} (he : xs.map (cl .f32) = ys.map (cl .f32)) {k : Nat} (h1 : k < xs.length) (h2 : k < ys.length) : cl .f32 xs[k] = cl .f32 ys[k] := by
  have h3 : (xs.map (cl .f32))[k]? = (ys.map (cl .f32))[k]? := by rw [he]
  rw [List.getElem?_map, List.getElem?_map, List.getElem?_eq_getElem h1, List.getElem?_eq_getElem h2] at h3
  exact Option.some.inj h3

end Go.Proofs.Ytkippcjifikegaa
