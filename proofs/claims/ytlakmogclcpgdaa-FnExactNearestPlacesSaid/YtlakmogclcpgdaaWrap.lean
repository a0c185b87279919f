/-
  CONTRACTS: floors; angles without whole turns.
-/
import Derived.Test.YtlakmogclcpgdaaFlo
import Derived.Test.YtlakmogclcpgdaaSl
namespace Go.Flt
open Go Ieee

section
variable {P : Program} (w : World)
theorem run_narrow (src dst : TypeId) (x : Nat) (hs : (P.underlying src).isSome = true) (hd : P.underlying dst = some (.float .f32)) (hx : isNum (cl .f64 x) = true) (hr : isNum (nar (cl .f64 x)) = true) :
    ∃ z, (convert src dst (.float .f64 x)).run P w = .ok (.float .f32 z) w ∧ cl .f32 z = nar (cl .f64 x) ∧ (Lit.float .f32 z).wf = true := by
  obtain ⟨u, hs'⟩ := Option.isSome_iff_exists.1 hs
  have hrun : (convert src dst (.float .f64 x)).run P w = (Conv.floatToFloat .f64 x .f32).run P w := by
    cases u <;> simp [convert, run_underlying hs', run_underlying hd]
  rw [hrun]
  unfold Conv.floatToFloat
  rw [if_neg (by decide)]
  rcases cl_or .f64 x with ⟨s, t, _, h'⟩ | ⟨h', _⟩
  · rw [h'] at hx; cases hx
  · rw [h'] at hx hr ⊢
    cases hd' : FloatKind.f64.decode x with
    | nan s t => rw [hd'] at hx; cases hx
    | infinity s => rw [hd'] at hx; cases hx
    | number s m e =>
      rw [hd'] at hr
      have hnar : nar (.number s m e) = cl .f32 (FloatKind.f32.encode (.number s m e)) := rfl
      rw [hnar] at hr ⊢
      refine ⟨FloatKind.f32.encode (.number s m e), ?_, rfl, encode_wf .f32 (.number s m e)⟩
      have : (FloatKind.f32.decode (FloatKind.f32.encode (.number s m e))).isInfinity = false := by
        rcases cl_or .f32 (FloatKind.f32.encode (.number s m e)) with ⟨s', t', h1, h2⟩ | ⟨h1, _⟩
        · rw [h1]; rfl
        · rw [← h1]
          cases hc : cl .f32 (FloatKind.f32.encode (.number s m e)) with
          | number => rfl
          | nan => rfl
          | infinity => rw [hc] at hr; cases hr
      simp only [this, Bool.false_eq_true, if_false]
      rfl
end
section
variable {P : Program} {o : Oper} {a : Act} {K : Act → World → Prop} {Q : Exit → Act → World → Prop} {w : World}
theorem upon_narrow (src dst : TypeId) (x : Nat) (hs : (P.underlying src).isSome = true) (hd : P.underlying dst = some (.float .f32)) (hx : isNum (cl .f64 x) = true) (hr : isNum (nar (cl .f64 x)) = true)
    (h : ∀ z, cl .f32 z = nar (cl .f64 x) → (Lit.float .f32 z).wf = true → K (a.put o.dst (.float .f32 z)) w) :
    Oper.upon P o a K Q (((convert src dst (.float .f64 x)).run P w).andThen fun v w' => .ok (.value v) w') := by
  obtain ⟨z, h1, h2, h3⟩ := run_narrow (P := P) w src dst x hs hd hx hr
  rw [h1]
  exact h z h2 h3
end
end Go.Flt

namespace Go.Proofs.Ytlakmogclcpgdaa
open Go.RowKit Go.Flt
set_option linter.unusedVariables false
set_option maxRecDepth 100000
set_option linter.unusedSimpArgs false

/-- An angle from -1/2 to less than 1/2. -/
def wrp (x : Ieee.Datum) : Ieee.Datum :=
  if (flt (cl .f32 1056964608) (nar (left (wid x))) || feq (nar (left (wid x))) (cl .f32 1056964608)) then cl .f32 3204448256 else nar (left (wid x))

theorem fits_mhalf : fits 3204448256 := rfl

theorem c_l01Narrow (z : Nat) (w : World) (h1 : isNum (cl .f64 z) = true) (h2 : isNum (nar (cl .f64 z)) = true) : Calls Try.prog 91 #[.float .f64 z] w (RetF (nar (cl .f64 z)) (Drawn w)) := by
  have H1 := Lib.hid h1
  have H2 := Lib.hid h2
  clear h1 h2
  go_enter Try.func91, Try.ntmps91
  go_wp2_with (refine upon_narrow _ _ _ some_f64 Try.underlying22 (H1.out ) ( H2.out) ?_; intro z hz hzw)
  go_ret
  exact ⟨_, rfl, by assumption, by assumption, by (first | exact ⟨_, rfl⟩ | exact ⟨0, rfl⟩ | exact ⟨_, World.drewN_drewN _ _ _⟩ | (simp only [World.drewN_drewN]; exact ⟨_, rfl⟩))⟩

end Go.Proofs.Ytlakmogclcpgdaa
