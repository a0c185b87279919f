/-
  CONTRACTS: floors; angles without whole turns.
-/
import Derived.Test.YtkippcjifikegaaFlo
import Derived.Test.YtkippcjifikegaaSl
namespace Go.Flt
open Go Ieee

section
variable {P : Program} (w : World)
theorem run_narrow (src dst : TypeId) (x : Nat) (hs : (P.underlying src).isSome = true) (hd : P.underlying dst = some (.float .f32)) (hx : isNum (cl .f64 x) = true) (hr : isNum (nar (cl .f64 x)) = true) :
    ∃ z, (convert src dst (.float .f64 x)).run P w = .ok (.float .f32 z) w ∧ cl .f32 z = nar (cl .f64 x) ∧ (Lit.float .f32 z).wf = true := by
  obtain ⟨u, hs'⟩ := Option.isSome_iff_exists.1 hs
  have hrun : (convert src dst (.float .f64 x)).run P w = (Conv.floatToFloat .f64 x .f32).run P w := by
    cases u <;> simp [convert, run_underlying hs', run_underlying hd]
  rw [hrun]
  unfold Conv.floatToFloat
  rw [if_neg (by decide)]
  rcases cl_or .f64 x with ⟨s, t, _, h'⟩ | ⟨h', _⟩
  · rw [h'] at hx; cases hx
  · rw [h'] at hx hr ⊢
    cases hd' : FloatKind.f64.decode x with
    | nan s t => rw [hd'] at hx; cases hx
    | infinity s => rw [hd'] at hx; cases hx
    | number s m e =>
      rw [hd'] at hr
      have hnar : nar (.number s m e) = cl .f32 (FloatKind.f32.encode (.number s m e)) := rfl
      rw [hnar] at hr ⊢
      refine ⟨FloatKind.f32.encode (.number s m e), ?_, rfl, encode_wf .f32 (.number s m e)⟩
      have : (FloatKind.f32.decode (FloatKind.f32.encode (.number s m e))).isInfinity = false := by
        rcases cl_or .f32 (FloatKind.f32.encode (.number s m e)) with ⟨s', t', h1, h2⟩ | ⟨h1, _⟩
        · rw [h1]; rfl
        · rw [← h1]
          cases hc : cl .f32 (FloatKind.f32.encode (.number s m e)) with
          | number => rfl
          | nan => rfl
          | infinity => rw [hc] at hr; cases hr
      simp only [this, Bool.false_eq_true, if_false]
      rfl
end
section
variable {P : Program} {o : Oper} {a : Act} {K : Act → World → Prop} {Q : Exit → Act → World → Prop} {w : World}
theorem upon_narrow (src dst : TypeId) (x : Nat) (hs : (P.underlying src).isSome = true) (hd : P.underlying dst = some (.float .f32)) (hx : isNum (cl .f64 x) = true) (hr : isNum (nar (cl .f64 x)) = true)
    (h : ∀ z, cl .f32 z = nar (cl .f64 x) → (Lit.float .f32 z).wf = true → K (a.put o.dst (.float .f32 z)) w) :
    Oper.upon P o a K Q (((convert src dst (.float .f64 x)).run P w).andThen fun v w' => .ok (.value v) w') := by
  obtain ⟨z, h1, h2, h3⟩ := run_narrow (P := P) w src dst x hs hd hx hr
  rw [h1]
  exact h z h2 h3
end
end Go.Flt

namespace Go.Proofs.Ytkippcjifikegaa
open Go.RowKit Go.Flt
set_option linter.unusedVariables false
set_option maxRecDepth 100000
set_option linter.unusedSimpArgs false

theorem ext_archFloor (z : Nat) (w : World) (h : isNum (cl .f64 z) = true) : (callFunc 72 #[.float .f64 z]).run Try.prog w = .ok (.value (.float .f64 (FloatKind.f64.encode ((FloatKind.f64.decode z).integral .down)))) w := by
  rw [run_callFunc_extern Try.func72 (by kernel_rfl) (by kernel_rfl) (by kernel_rfl) (show Extern.find Try.f72 = some (Extern.MathFloor.toIntegral "math.archFloor" .down) by kernel_rfl)]
  obtain ⟨X, hX⟩ : ∃ X : Bool → Nat → Sem Value, Extern.MathFloor.toIntegral "math.archFloor" .down #[.float .f64 z] = (match FloatKind.f64.decode z with
    | .nan s t => X s t
    | d => pure (.float .f64 (FloatKind.f64.encode (d.integral .down)))) := ⟨_, rfl⟩
  rw [hX]
  rcases cl_or .f64 z with ⟨s, t, _, h'⟩ | ⟨h', hn⟩
  · rw [h'] at h; cases h
  · cases hd : FloatKind.f64.decode z with
    | nan s t => exact absurd hd (hn s t)
    | infinity s => rfl
    | number s m e => rfl

theorem c_Floor (z : Nat) (w : World) (h : isNum (cl .f64 z) = true) : Calls Try.prog 49 #[.float .f64 z] w fun e w' => ∃ r, e = .returned (.float .f64 r) ∧ cl .f64 r = flo (cl .f64 z) ∧ (Lit.float .f64 r).wf = true ∧ ∃ n, w' = w.drewN n := by
  have hx := fun w => ext_archFloor z w h
  have hf : Hid (cl .f64 (FloatKind.f64.encode ((FloatKind.f64.decode z).integral .down)) = flo (cl .f64 z)) := by
    rcases cl_or .f64 z with ⟨s, t, _, h'⟩ | ⟨h', hn⟩
    · rw [h'] at h; cases h
    · show cl .f64 _ = flo _
      rw [h']
      cases hd : FloatKind.f64.decode z with
      | nan s t => exact absurd hd (hn s t)
      | infinity s => rfl
      | number s m e => rfl
  have hw : Hid ((Lit.float .f64 (FloatKind.f64.encode ((FloatKind.f64.decode z).integral .down))).wf = true) := encode_wf .f64 _
  clear h
  go_enter Try.func49, Try.ntmps49
  go_wp2_with fail
  go_ret
  exact ⟨_, rfl, hf.out, hw.out, 0, rfl⟩

/-- An angle from -1/2 to less than 1/2. -/
def wrp (x : Ieee.Datum) : Ieee.Datum :=
  if (flt (cl .f32 1056964608) (nar (left (wid x))) || feq (nar (left (wid x))) (cl .f32 1056964608)) then cl .f32 3204448256 else nar (left (wid x))

theorem fits_mhalf : fits 3204448256 := rfl

theorem c_l01Narrow (z : Nat) (w : World) (h1 : isNum (cl .f64 z) = true) (h2 : isNum (nar (cl .f64 z)) = true) : Calls Try.prog 66 #[.float .f64 z] w (RetF (nar (cl .f64 z)) (Drawn w)) := by
  have H1 := Lib.hid h1
  have H2 := Lib.hid h2
  clear h1 h2
  go_enter Try.func66, Try.ntmps66
  go_wp2_with (refine upon_narrow _ _ _ some_f64 Try.underlying24 (H1.out ) ( H2.out) ?_; intro z hz hzw)
  go_ret
  exact ⟨_, rfl, by assumption, by assumption, by (first | exact ⟨_, rfl⟩ | exact ⟨0, rfl⟩ | exact ⟨_, World.drewN_drewN _ _ _⟩ | (simp only [World.drewN_drewN]; exact ⟨_, rfl⟩))⟩

theorem c_wrapAngle (x : Nat) (w : World) (h : fin (cl .f32 x) = true) : Calls Try.prog 65 #[.float .f32 x] w (RetF (wrp (cl .f32 x)) (Drawn w)) := by
  rw [fin_eq] at h
  obtain ⟨h1, h2, h3⟩ := left_ok x h
  have hl : left (wid (cl .f32 x)) = fop .sub .f64 (wid (cl .f32 x)) (flo (fop .add .f64 (wid (cl .f32 x)) (cl .f64 4602678819172646912))) := rfl
  have hw : wrp (cl .f32 x) = if (flt (cl .f32 1056964608) (nar (left (wid (cl .f32 x)))) || feq (nar (left (wid (cl .f32 x)))) (cl .f32 1056964608)) then cl .f32 3204448256 else nar (left (wid (cl .f32 x))) := rfl
  rw [hl] at h2 h3 hw
  have H1 := Lib.hid h1
  have H2 := Lib.hid h2
  have H3 := Lib.hid h3
  have HW := Lib.hid hw
  clear h1 h2 h3 h hl hw
  cases g1 : flt (cl .f32 1056964608) (nar (fop .sub .f64 (wid (cl .f32 x)) (flo (fop .add .f64 (wid (cl .f32 x)) (cl .f64 4602678819172646912)))))
  case' false => cases g2 : feq (nar (fop .sub .f64 (wid (cl .f32 x)) (flo (fop .add .f64 (wid (cl .f32 x)) (cl .f64 4602678819172646912))))) (cl .f32 1056964608)
  all_goals
    go_enter Try.func65, Try.ntmps65
    go_wp2_with (first | (refine upon_widen _ _ _ some_f32 Try.underlying29 ?_; intro z n hz hzw) | (refine upon_fbin rfl _ _ _ _ ?_; intro z n hz hzw) | (go_at_call 49; refine (c_Floor _ _ (by simp only [*]; exact H1.out)).mono ?_; rintro e w' ⟨r, rfl, hr, hrf, nq, rfl⟩) | (refine upon_narrow _ _ _ some_f64 Try.underlying24 (by simp only [*]; exact H2.out ) ( by simp only [*]; exact H3.out) ?_; intro z hz hzw))
    go_ret
    first
      | exact ⟨_, rfl, by rw [HW.out]; simp [*], by assumption, by (first | exact ⟨_, rfl⟩ | exact ⟨0, rfl⟩ | exact ⟨_, World.drewN_drewN _ _ _⟩ | (simp only [World.drewN_drewN]; exact ⟨_, rfl⟩))⟩
      | exact ⟨_, rfl, by rw [HW.out]; simp [*], fits_mhalf, by (first | exact ⟨_, rfl⟩ | exact ⟨0, rfl⟩ | exact ⟨_, World.drewN_drewN _ _ _⟩ | (simp only [World.drewN_drewN]; exact ⟨_, rfl⟩))⟩

theorem c_l02Wrap (x : Nat) (w : World) (h : fin (cl .f32 x) = true) : Calls Try.prog 37 #[.float .f32 x] w (RetF (wrp (cl .f32 x)) (Drawn w)) := by
  rw [fin_eq] at h
  obtain ⟨h1, h2, h3⟩ := left_ok x h
  have hl : left (wid (cl .f32 x)) = fop .sub .f64 (wid (cl .f32 x)) (flo (fop .add .f64 (wid (cl .f32 x)) (cl .f64 4602678819172646912))) := rfl
  have hw : wrp (cl .f32 x) = if (flt (cl .f32 1056964608) (nar (left (wid (cl .f32 x)))) || feq (nar (left (wid (cl .f32 x)))) (cl .f32 1056964608)) then cl .f32 3204448256 else nar (left (wid (cl .f32 x))) := rfl
  rw [hl] at h2 h3 hw
  have H1 := Lib.hid h1
  have H2 := Lib.hid h2
  have H3 := Lib.hid h3
  have HW := Lib.hid hw
  clear h1 h2 h3 h hl hw
  cases g1 : flt (cl .f32 1056964608) (nar (fop .sub .f64 (wid (cl .f32 x)) (flo (fop .add .f64 (wid (cl .f32 x)) (cl .f64 4602678819172646912)))))
  case' false => cases g2 : feq (nar (fop .sub .f64 (wid (cl .f32 x)) (flo (fop .add .f64 (wid (cl .f32 x)) (cl .f64 4602678819172646912))))) (cl .f32 1056964608)
  all_goals
    go_enter Try.func37, Try.ntmps37
    go_wp2_with (first | (refine upon_widen _ _ _ some_f32 Try.underlying29 ?_; intro z n hz hzw) | (refine upon_fbin rfl _ _ _ _ ?_; intro z n hz hzw) | (go_at_call 49; refine (c_Floor _ _ (by simp only [*]; exact H1.out)).mono ?_; rintro e w' ⟨r, rfl, hr, hrf, nq, rfl⟩) | (go_at_call 66; refine (c_l01Narrow _ _ (by simp only [*]; exact H2.out) (by simp only [*]; exact H3.out)).mono ?_; rintro e w' ⟨r, rfl, hr, hrf, nq, rfl⟩))
    go_ret
    first
      | exact ⟨_, rfl, by rw [HW.out]; simp [*], by assumption, by (first | exact ⟨_, rfl⟩ | exact ⟨0, rfl⟩ | exact ⟨_, World.drewN_drewN _ _ _⟩ | (simp only [World.drewN_drewN]; exact ⟨_, rfl⟩))⟩
      | exact ⟨_, rfl, by rw [HW.out]; simp [*], fits_mhalf, by (first | exact ⟨_, rfl⟩ | exact ⟨0, rfl⟩ | exact ⟨_, World.drewN_drewN _ _ _⟩ | (simp only [World.drewN_drewN]; exact ⟨_, rfl⟩))⟩

end Go.Proofs.Ytkippcjifikegaa
