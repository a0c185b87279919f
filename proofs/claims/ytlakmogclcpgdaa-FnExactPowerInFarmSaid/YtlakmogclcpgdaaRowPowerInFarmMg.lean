/- The law of PowerInFarm holds for all farms, turns, speeds and densities: the program returns what the reference returns. -/
import Derived.Test.YtlakmogclcpgdaaOpenMg
import Derived.Test.YtlakmogclcpgdaaPowLMg
namespace Go.Proofs.Ytlakmogclcpgdaa
open Go.ChangeShapes Go.WideShapes Go.ChangeAt Go.RowKit Go.Flt
set_option linter.unusedVariables false
set_option maxRecDepth 100000

namespace fnExactPowerInFarm
set_option maxRecDepth 100000 in
theorem lifted (os : Os) (started : os.Started) (H : Type) (enc : TypeId × Value → H) :
    ReturnsInHanded {} Try.checked os 11 .any (Rows.fnExactPowerInFarmSpec.pre6 enc Try.prog Try.f11 Rows.fnExactPowerInFarmRow.domain false) (Rows.fnExactPowerInFarmSpec.post enc Try.prog Try.f11 false true false false) := by
  refine returnsInHanded_of_change (C := Try.checked) own started (by kernel_rfl) Try.func11
    (ChangeSpec.witness6 (enc := enc) (C := Try.checked) false ⟨#[], #[.agg #[.slice none 0 0, .slice none 0 0, .float .f32 0, .float .f32 0, .float .f32 0], .float .f32 0, .float .f32 0, .float .f32 0], []⟩ 8 (by kernel_rfl) (by kernel_rfl) (by kernel_rfl) (by kernel_rfl)) ?_
  intro W base args ds gs before hval0 hW hcnd hreach
  have hval : ∀ (j : Nat) t v, Try.f11.params[j]? = some t → args[j]? = some v → Value.okWide Try.prog W .any base t v := hval0
  have hW' := hW
  obtain ⟨p, q, hA0, hV, rfl, hfz, hnd⟩ := hW
  have hA : DataW.TrodAll enc Try.prog W 0 (fun _ => true) true Try.f11.params.toList args.toList ds p := hA0
  rw [Try.params11] at hA hval
  obtain ⟨v0, vs0, d0, ds0, pp0, q0, hargs, rfl, rfl, k0, t0⟩ := trodAll_cons hA
  obtain ⟨v1, vs1, d1, ds1, pp1, q1, rfl, rfl, rfl, k1, t1⟩ := trodAll_cons t0
  obtain ⟨v2, vs2, d2, ds2, pp2, q2, rfl, rfl, rfl, k2, t2⟩ := trodAll_cons t1
  obtain ⟨v3, vs3, d3, ds3, pp3, q3, rfl, rfl, rfl, k3, t3⟩ := trodAll_cons t2
  obtain ⟨rfl, rfl, rfl⟩ := trodAll_nil t3
  obtain rfl : args = #[v0, v1, v2, v3] := by cases args; simp_all
  obtain ⟨rfl, rfl⟩ := trodVars_none hV
  have lt0 : ∀ x ∈ pp0, x.block < W.heap.size := by obtain ⟨m, hm⟩ := k0; exact DataW.trod_lt m _ _ _ hm
  have lt1 : ∀ x ∈ pp1, x.block < W.heap.size := by obtain ⟨m, hm⟩ := k1; exact DataW.trod_lt m _ _ _ hm
  have lt2 : ∀ x ∈ pp2, x.block < W.heap.size := by obtain ⟨m, hm⟩ := k2; exact DataW.trod_lt m _ _ _ hm
  have lt3 : ∀ x ∈ pp3, x.block < W.heap.size := by obtain ⟨m, hm⟩ := k3; exact DataW.trod_lt m _ _ _ hm
  obtain ⟨A0, l0, c0, xs0, B0, m0, e0, ys0, f0, g0, o0, rfl, x0, y0, z0, u0, s0, w0, n0, h0, j0⟩ := open_farm (hval 0 31 v0 rfl rfl) k0
  obtain ⟨a1, rfl, _, _, x1⟩ := open_float Try.underlying22 (hval 1 22 v1 rfl rfl) k1
  obtain ⟨a2, rfl, _, _, x2⟩ := open_float Try.underlying22 (hval 2 22 v2 rfl rfl) k2
  obtain ⟨a3, rfl, _, _, x3⟩ := open_float Try.underlying22 (hval 3 22 v3 rfl rfl) k3
  clear hA0 hval0
  refine (walk_PowerInFarm A0 l0 c0 xs0 B0 m0 e0 ys0 f0 g0 o0 a1 a2 a3 W x0 y0 z0 u0 s0 w0 n0 h0 j0 x1 x2 x3).mono fun e W' ⟨he, bel⟩ => ?_
  subst he
  exact ⟨_, rfl, _, _, _, [], _, [], hW', trodAll_mk1 (shut_bool Try.underlying4 _), (trodAll_cons_mk (Below.trod laidOut (by kernel_rfl) (of_decide_eq_true (by kernel_rfl)) k0 bel lt0) (trodAll_cons_mk (Below.trod laidOut (by kernel_rfl) (of_decide_eq_true (by kernel_rfl)) k1 bel lt1) (trodAll_cons_mk (Below.trod laidOut (by kernel_rfl) (of_decide_eq_true (by kernel_rfl)) k2 bel lt2) (trodAll_cons_mk (Below.trod laidOut (by kernel_rfl) (of_decide_eq_true (by kernel_rfl)) k3 bel lt3) trodAll_mk0)))), rfl, bel.frame _, fun h => by cases h⟩
theorem over : Rows.fnExactPowerInFarmRow.holds Try.pinned (OpenSpec.ofChange Rows.fnExactPowerInFarmSpec) :=
  OpenClaim.holds_of_wide 11 Try.f11 rfl rfl rfl rfl rfl rfl rfl ⟨rfl, rfl, rfl, rfl, rfl⟩ rfl rfl rfl rfl rfl (by kernel_rfl) Try.func11 (by kernel_rfl)
    (of_decide_eq_true (by kernel_rfl)) (by unfold Func.isWrapper; first | (rw [if_pos (by decide +kernel)]; kernel_rfl) | (rw [if_neg (by decide +kernel)]; exact ⟨rfl, rfl⟩))
    (fun os started H enc _ => lifted os started H enc)
theorem proved : Rows.FnExactPowerInFarmSaid := over
end fnExactPowerInFarm

end Go.Proofs.Ytlakmogclcpgdaa

