/-
  CONTRACTS: square roots, narrowed.
-/
import Derived.Test.YtkippcjifikegaaWrap
namespace Go.Flt
open Go Ieee

/-- The square root in 64 bits. -/
def sqD (d : Datum) : Datum := rnd .f64 (d.root 54)

theorem rootFrom_lt (n : Nat) : ∀ t r, Datum.rootFrom n t r < r + 2 ^ t
  | 0, r => by simp [Datum.rootFrom]
  | t + 1, r => by
    have e : (1 <<< t : Nat) = 2 ^ t := by simp [Nat.shiftLeft_eq]
    have p : 2 ^ (t + 1) = 2 ^ t + 2 ^ t := by rw [Nat.pow_succ]; omega
    show Datum.rootFrom n t (if (r + 1 <<< t) * (r + 1 <<< t) ≤ n then r + 1 <<< t else r) < r + 2 ^ (t + 1)
    rw [e, p]
    have h := rootFrom_lt n t (if (r + 2 ^ t) * (r + 2 ^ t) ≤ n then r + 2 ^ t else r)
    generalize (2 ^ t : Nat) = P at *
    by_cases c : (r + P) * (r + P) ≤ n
    · rw [if_pos c] at h ⊢; omega
    · rw [if_neg c] at h ⊢; omega

theorem root_num (m : Nat) (i : Int) (hm : m ≠ 0) (hi : -1074 ≤ i) (hb : (m.log2 : Int) + i ≤ 130) :
    ∃ (q T : Nat) (j : Int), (Datum.number false m i).root 54 = some (.number false q j) ∧ -1074 ≤ j ∧ q < 2 ^ T ∧ (T : Int) + j ≤ 70 := by
  unfold Datum.root
  simp only [hm, if_false, Bool.false_eq_true]
  obtain ⟨M, hM⟩ : ∃ M, M = 2 * 54 - m.log2 + ((i - ((2 * 54 - m.log2 : Nat) : Int)) % 2).toNat := ⟨_, rfl⟩
  rw [← hM]
  have hM1 : M ≤ 109 := by omega
  have hlog : (m <<< M).log2 = m.log2 + M := by rw [Nat.shiftLeft_eq, log2_shift m M hm]
  have hr := rootFrom_lt (m <<< M) ((m <<< M).log2 / 2 + 1) 0
  rw [hlog] at hr ⊢
  generalize Datum.rootFrom (m <<< M) ((m.log2 + M) / 2 + 1) 0 = W at hr ⊢
  refine ⟨_, (m.log2 + M) / 2 + 2, _, rfl, by omega, ?_, by omega⟩
  have p : 2 ^ ((m.log2 + M) / 2 + 2) = 2 * 2 ^ ((m.log2 + M) / 2 + 1) := by rw [Nat.pow_succ]; omega
  rw [p]
  have hb : (W * W != m <<< M).toNat ≤ 1 := by cases (W * W != m <<< M) <;> simp
  omega

theorem tw_log {m : Nat} (hm : m ≠ 0) : tw m.log2 ≤ m := Nat.log2_self_le hm

/-- A square root of a number of 32 bits is none too great for 32 bits. -/
theorem sq_ok (b : Nat) (h : isNum (sqD (wid (cl .f32 b))) = true) : isNum (nar (sqD (wid (cl .f32 b)))) = true := by
  have key : ∀ d : Datum, isNum d = true → place (-1074) d → 0 ≤ iv (-1074) d → iv (-1074) d ≤ (tw 1144 : Int) → isNum (nar (rd .f64 d)) = true := by
    intro d nd pd h0 h1
    have nlo : isNum (cl .f64 14404763408144531456) = true := by rw [c_lo]; rfl
    have nhi : isNum (cl .f64 5181391371289755648) = true := by rw [c_hi]; rfl
    have ilo : iv (-1074) (cl .f64 14404763408144531456) = -(6755399441055744 * tw 1149 : Int) := by rw [c_lo, iv_of true _ 75 1149 (by omega)]; simp
    have ihi : iv (-1074) (cl .f64 5181391371289755648) = (6755399441055744 * tw 1149 : Int) := by rw [c_hi, iv_of false _ 75 1149 (by omega)]; simp
    have t1 : (tw 1144 : Int) ≤ (tw 1149 : Int) := by have := tw_le (a := 1144) (b := 1149) (by omega); omega
    have t2 : (0 : Int) < (tw 1149 : Int) := by have := tw_pos 1149; omega
    obtain ⟨nD, d1, d2⟩ := rd_between .f64 nd nlo nhi ((leF_iv nlo nd (place64 _) pd).2 (by rw [ilo]; omega)) ((leF_iv nd nhi pd (place64 _)).2 (by rw [ihi]; omega))
    have pD : place (-1074) (rd .f64 d) := place64 _
    have d1 := (leF_iv nlo nD (place64 _) pD).1 d1
    have d2 := (leF_iv nD nhi pD (place64 _)).1 d2
    rw [nar_rd nD]
    have nlo32 : isNum (cl .f32 4282384384) = true := by rw [c_lo32]; rfl
    have nhi32 : isNum (cl .f32 2134900736) = true := by rw [c_hi32]; rfl
    have ilo32 : iv (-1074) (cl .f32 4282384384) = -(12582912 * tw 1178 : Int) := by rw [c_lo32, iv_of true _ 104 1178 (by omega)]; simp
    have ihi32 : iv (-1074) (cl .f32 2134900736) = (12582912 * tw 1178 : Int) := by rw [c_hi32, iv_of false _ 104 1178 (by omega)]; simp
    have tt : tw 1178 = tw 29 * tw 1149 := tw_add 29 1149
    have t29 : tw 29 = 536870912 := by decide
    rw [t29] at tt
    exact (rd_between .f32 nD nlo32 nhi32 ((leF_iv nlo32 nD (place32 _) pD).2 (by rw [ilo32]; omega)) ((leF_iv nD nhi32 pD (place32 _)).2 (by rw [ihi32]; omega))).1
  cases hn : isNum (cl .f32 b)
  · exfalso
    cases hc : cl .f32 b with
    | number s m e => rw [hc] at hn; cases hn
    | nan s t => rw [hc] at h; cases h
    | infinity s =>
      rw [hc] at h
      have e : wid (.infinity s) = .infinity s := by cases s <;> decide +kernel
      rw [e] at h
      cases s <;> revert h <;> decide +kernel
  · have hb := wid_bound b hn
    have hw := wid_isNum b hn
    obtain ⟨w64, hw64⟩ := wid_fix b hn
    have hp : place (-1074) (wid (cl .f32 b)) := by rw [hw64]; exact place64 _
    generalize wid (cl .f32 b) = W at h hb hw hp ⊢
    cases W <;> simp only [isNum] at hw <;> first | (cases hw; done) | skip
    rename_i s m i
    by_cases hm : m = 0
    · subst hm
      have e : sqD (.number s 0 i) = rd .f64 (.number s 0 i) := by unfold sqD Datum.root; simp [rnd, rd]
      rw [e]
      refine key _ rfl hp ?_ ?_
      · simp [iv, signed]
      · have := tw_pos 1144; simp [iv, signed]
    · cases s
      · have hi : -1074 ≤ i := hp
        obtain ⟨k, hk⟩ : ∃ k : Nat, i + 1074 = k := ⟨(i + 1074).toNat, by omega⟩
        rw [iv_of false m i k hk] at hb
        have hb1 : m * tw k < tw 1202 := by have := tw_pos 1178; have := hb.1; simp at this; omega
        have hlog : m.log2 + k < 1202 := by
          refine Nat.lt_of_not_le fun hc => ?_
          have a1 := Nat.mul_le_mul_right (tw k) (tw_log hm)
          rw [← tw_add] at a1
          have a2 := tw_le hc
          omega
        obtain ⟨q, T, j, hr, hj, hq, hT⟩ := root_num m i hm hi (by omega)
        have e : sqD (.number false m i) = rd .f64 (.number false q j) := by unfold sqD; rw [hr]; rfl
        rw [e]
        obtain ⟨kj, hkj⟩ : ∃ kj : Nat, j + 1074 = kj := ⟨(j + 1074).toNat, by omega⟩
        refine key _ rfl hj ?_ ?_
        · rw [iv_of false q j kj hkj]; simp; exact Int.mul_nonneg (Int.natCast_nonneg _) (Int.natCast_nonneg _)
        · rw [iv_of false q j kj hkj]
          have a1 : q * tw kj ≤ tw T * tw kj := Nat.mul_le_mul_right _ (Nat.le_of_lt hq)
          rw [← tw_add] at a1
          have a2 := tw_le (a := T + kj) (b := 1144) (by omega)
          simp only [Bool.false_eq_true, if_false]
          omega
      · exfalso
        unfold sqD Datum.root at h
        simp [hm, rnd] at h
        cases h

section
variable {P : Program} (w : World)
theorem run_narrow_any (src dst : TypeId) (x : Nat) (hs : (P.underlying src).isSome = true) (hd : P.underlying dst = some (.float .f32)) (hr : isNum (cl .f64 x) = true → isNum (nar (cl .f64 x)) = true) :
    ∃ z n, (convert src dst (.float .f64 x)).run P w = .ok (.float .f32 z) (w.drewN n) ∧ cl .f32 z = nar (cl .f64 x) ∧ (Lit.float .f32 z).wf = true := by
  cases hn : isNum (cl .f64 x)
  · obtain ⟨u, hs'⟩ := Option.isSome_iff_exists.1 hs
    have hrun : (convert src dst (.float .f64 x)).run P w = (Conv.floatToFloat .f64 x .f32).run P w := by
      cases u <;> simp [convert, run_underlying hs', run_underlying hd]
    rw [hrun]
    unfold Conv.floatToFloat
    rw [if_neg (by decide)]
    cases hd' : FloatKind.f64.decode x with
    | nan s t =>
      obtain ⟨r, h1, h2, h3⟩ := run_nanConv (P := P) w .f32 x
      refine ⟨r, 1, ?_, ?_, h3⟩
      · simp only [Sem.run_bind, h1, Result.andThen_ok, Sem.run_pure]
      · have e : cl .f64 x = NaN := by unfold cl; rw [hd']
        rw [h2, e]; rfl
    | infinity s =>
      refine ⟨FloatKind.f32.encode (.infinity s), 0, rfl, ?_, encode_wf .f32 (.infinity s)⟩
      have e : cl .f64 x = .infinity s := by unfold cl; rw [hd']
      rw [e]; rfl
    | number s m e =>
      have e : cl .f64 x = .number s m e := by unfold cl; rw [hd']
      rw [e] at hn; cases hn
  · obtain ⟨z, h1, h2, h3⟩ := run_narrow (P := P) w src dst x hs hd hn (hr hn)
    exact ⟨z, 0, h1, h2, h3⟩
end
section
variable {P : Program} {o : Oper} {a : Act} {K : Act → World → Prop} {Q : Exit → Act → World → Prop} {w : World}
theorem upon_narrow_any (src dst : TypeId) (x : Nat) (hs : (P.underlying src).isSome = true) (hd : P.underlying dst = some (.float .f32)) (hr : isNum (cl .f64 x) = true → isNum (nar (cl .f64 x)) = true)
    (h : ∀ z n, cl .f32 z = nar (cl .f64 x) → (Lit.float .f32 z).wf = true → K (a.put o.dst (.float .f32 z)) (w.drewN n)) :
    Oper.upon P o a K Q (((convert src dst (.float .f64 x)).run P w).andThen fun v w' => .ok (.value v) w') := by
  obtain ⟨z, n, h1, h2, h3⟩ := run_narrow_any (P := P) w src dst x hs hd hr
  rw [h1]
  exact h z n h2 h3
end

end Go.Flt

namespace Go.Proofs.Ytkippcjifikegaa
open Go.RowKit Go.Flt
set_option linter.unusedVariables false
set_option maxRecDepth 100000
set_option linter.unusedSimpArgs false

theorem ext_sqrt (z : Nat) (w : World) : ∃ r n, (callFunc 83 #[.float .f64 z]).run Try.prog w = .ok (.value (.float .f64 r)) (w.drewN n) ∧ cl .f64 r = sqD (cl .f64 z) ∧ (Lit.float .f64 r).wf = true := by
  rw [run_callFunc_extern Try.func83 (by kernel_rfl) (by kernel_rfl) (by kernel_rfl) (show Extern.find Try.f83 = some Extern.MathSqrt.sqrt by kernel_rfl)]
  have hsq : FloatKind.f64.format.sqrt z = ((FloatKind.f64.decode z).root 54).map FloatKind.f64.encode := rfl
  have hcl : sqD (cl .f64 z) = rnd .f64 ((FloatKind.f64.decode z).root 54) := by
    rcases cl_or .f64 z with ⟨s, t, h1, h2⟩ | ⟨h1, _⟩
    · rw [h1, h2]; rfl
    · rw [h1]; rfl
  have hS : Extern.MathSqrt.sqrt #[.float .f64 z] = (match FloatKind.f64.format.sqrt z with
    | some r => pure (.float .f64 r)
    | none => do pure (.float .f64 (← choose (.nanBits .f64 z z)))) := rfl
  rw [hS, hcl, hsq]
  cases (FloatKind.f64.decode z).root 54 with
  | some d => exact ⟨FloatKind.f64.encode d, 0, rfl, rfl, encode_wf .f64 d⟩
  | none =>
    obtain ⟨r, h1, h2, h3⟩ := run_nanBits (P := Try.prog) w .f64 z z
    refine ⟨r, 1, ?_, h2, h3⟩
    simp only [Option.map_none, Sem.run_bind, h1, Result.andThen_ok, Sem.run_pure]

theorem c_Sqrt (z : Nat) (w : World) : Calls Try.prog 70 #[.float .f64 z] w fun e w' => ∃ r, e = .returned (.float .f64 r) ∧ cl .f64 r = sqD (cl .f64 z) ∧ (Lit.float .f64 r).wf = true ∧ ∃ n, w' = w.drewN n := by
  obtain ⟨r, n, h1, h2, h3⟩ := ext_sqrt z w
  have H2 := Lib.hid h2
  have H3 := Lib.hid h3
  clear h2 h3
  go_enter Try.func70, Try.ntmps70
  go_wp2_with fail
  go_ret
  exact ⟨_, rfl, H2.out, H3.out, _, rfl⟩

/-- The square root of a number of 32 bits. -/
def rootD (x : Ieee.Datum) : Ieee.Datum := nar (sqD (wid x))

theorem c_RootNumber (x : Nat) (w : World) : Calls Try.prog 45 #[.float .f32 x] w (RetF (rootD (cl .f32 x)) (Drawn w)) := by
  have HO := Lib.hid (sq_ok x)
  go_enter Try.func45, Try.ntmps45
  go_wp2_with (first | (refine upon_widen _ _ _ some_f32 Try.underlying29 ?_; intro z n hz hzw) | (go_at_call 70; refine (c_Sqrt _ _).mono ?_; rintro e w' ⟨r, rfl, hr, hrf, nq, rfl⟩) | (refine upon_narrow_any _ _ _ some_f64 Try.underlying24 (by simp only [*]; exact HO.out) ?_; intro z2 n2 hz2 hzw2))
  go_ret
  exact ⟨_, rfl, by unfold rootD; simp only [*], by assumption, by (first | exact ⟨_, rfl⟩ | exact ⟨0, rfl⟩ | exact ⟨_, World.drewN_drewN _ _ _⟩ | (simp only [World.drewN_drewN]; exact ⟨_, rfl⟩))⟩

theorem c_l01NarrowA (z : Nat) (w : World) (h : isNum (cl .f64 z) = true → isNum (nar (cl .f64 z)) = true) : Calls Try.prog 66 #[.float .f64 z] w (RetF (nar (cl .f64 z)) (Drawn w)) := by
  have HO := Lib.hid h
  clear h
  go_enter Try.func66, Try.ntmps66
  go_wp2_with (refine upon_narrow_any _ _ _ some_f64 Try.underlying24 HO.out ?_; intro z2 n2 hz2 hzw2)
  go_ret
  exact ⟨_, rfl, by assumption, by assumption, by (first | exact ⟨_, rfl⟩ | exact ⟨0, rfl⟩ | exact ⟨_, World.drewN_drewN _ _ _⟩ | (simp only [World.drewN_drewN]; exact ⟨_, rfl⟩))⟩

end Go.Proofs.Ytkippcjifikegaa
