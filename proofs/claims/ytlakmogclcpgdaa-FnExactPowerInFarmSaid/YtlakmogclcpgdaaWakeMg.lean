/-
  WAKES: their data; the reference's sine in 32 bits; the reference's wake.
-/
import Derived.Deep.Cut
import Derived.Test.YtlakmogclcpgdaaSineQMg
import Derived.Test.YtlakmogclcpgdaaNearDMg
import Derived.Test.YtlakmogclcpgdaaTurn2Mg
namespace Go.Flt
open Go Ieee
set_option linter.unusedVariables false

theorem leF_same {x y : Datum} {v : Nat} (hx : isNum x = true) (hy : isNum y = true) (px : place (-1074) x) (py : place (-1074) y) (h : iv (-1074) x = iv (-1074) y) : leF x (cl .f32 v) = leF y (cl .f32 v) := by
  have pv : place (-1074) (cl .f32 v) := place32 v
  cases hv : cl .f32 v with
  | number s m i =>
    rw [hv] at pv
    rw [leF_num (-1074) hx rfl px pv, leF_num (-1074) hy rfl py pv, h]
  | infinity s =>
    cases x <;> simp only [isNum] at hx <;> first | (cases hx; done) | skip
    cases y <;> simp only [isNum] at hy <;> first | (cases hy; done) | skip
    cases s <;> simp [leF, flt, feq, Datum.order]
  | nan s t =>
    cases x <;> simp only [isNum] at hx <;> first | (cases hx; done) | skip
    cases y <;> simp only [isNum] at hy <;> first | (cases hy; done) | skip
    simp [leF, flt, feq, Datum.order]

/-- The absolute values of the program and of the reference: alike in a test. -/
theorem leF_size {b v : Nat} (hb : (Lit.float .f32 b).wf = true) : leF (sizeD (cl .f32 b)) (cl .f32 v) = leF (absD (cl .f32 b)) (cl .f32 v) := by
  cases hn : isNum (cl .f32 b)
  · have e : sizeD (cl .f32 b) = absD (cl .f32 b) := by
      rcases cl_or .f32 b with ⟨s, t, _, h'⟩ | ⟨h', hh⟩
      · rw [h']; decide +kernel
      · rw [h'] at hn ⊢
        cases hd : FloatKind.f32.decode b with
        | nan s t => exact absurd hd (hh s t)
        | number s m i => rw [hd] at hn; cases hn
        | infinity s => cases s <;> decide +kernel
    rw [e]
  · obtain ⟨a1, a2, a3⟩ := abs_iv hb hn
    obtain ⟨s1, s2, s3⟩ := size_iv hb hn
    exact leF_same s1 a1 s2 a2 (by omega)

end Go.Flt

namespace Go.Proofs.Ytlakmogclcpgdaa
open Go.RowKit Go.Flt
set_option linter.unusedVariables false
set_option maxRecDepth 100000
set_option linter.unusedSimpArgs false

def wkU (x x1 : Nat) : Ieee.Datum := fop .sub .f32 (cl .f32 x) (cl .f32 x1)
def wkC (t : Nat) : Ieee.Datum := turnD (fop .add .f32 (cl .f32 t) (cl .f32 1048576000))
def wkAl (x1 y1 x y t : Nat) : Ieee.Datum := fop .add .f32 (fop .mul .f32 (wkU x x1) (wkC t)) (fop .mul .f32 (wkU y y1) (turnD (cl .f32 t)))
def wkAc (x1 y1 x y t : Nat) : Ieee.Datum := fop .sub .f32 (fop .mul .f32 (wkU y y1) (wkC t)) (fop .mul .f32 (wkU x x1) (turnD (cl .f32 t)))
def wkW (x1 y1 r s x y t : Nat) : Ieee.Datum := fop .add .f32 (cl .f32 r) (fop .mul .f32 (cl .f32 s) (wkAl x1 y1 x y t))
def wkB (x1 y1 r s x y t : Nat) : Bool := flt (cl .f32 0) (wkAl x1 y1 x y t) && leF (absD (wkAc x1 y1 x y t)) (wkW x1 y1 r s x y t)
def wkQ (x1 y1 r s x y t : Nat) : Ieee.Datum := fop .quo .f32 (cl .f32 r) (wkW x1 y1 r s x y t)

/-- What a rotor at x1, y1 takes from the wind at x, y. -/
def wakeV (x1 y1 r d s x y t : Nat) : Ieee.Datum := if wkB x1 y1 r s x y t then fop .mul .f32 (fop .mul .f32 (fop .mul .f32 (cl .f32 1073741824) (cl .f32 d)) (wkQ x1 y1 r s x y t)) (wkQ x1 y1 r s x y t) else cl .f32 0

def wakeD (xs ys : List Nat) (r d s i x y t : Nat) : Ieee.Datum := wakeV (xs.getD i 0) (ys.getD i 0) r d s x y t

theorem nar_wide (x : Nat) : nar (wideD (wid (cl .f32 x))) = turnD (cl .f32 x) := by
  unfold turnD wideD
  rw [fin_eq]
  have hn : isNum (wid (cl .f32 x)) = isNum (cl .f32 x) := by
    cases h : isNum (cl .f32 x)
    · cases hc : cl .f32 x with
      | number s m i => rw [hc] at h; cases h
      | nan s t => rfl
      | infinity s => cases s <;> decide +kernel
    · exact wid_isNum x h
  rw [hn]
  cases isNum (cl .f32 x)
  · rfl
  · simp only [if_true]
    cases hug (wid (cl .f32 x))
    · rfl
    · simp only [if_true]; decide +kernel

theorem c_l01Sine (x : Nat) (w : World) : Calls Try.prog 82 #[.float .f32 x] w (RetF (turnD (cl .f32 x)) (Drawn w)) := by
  have HT := Lib.hid (nar_wide x)
  have HO : Hid (isNum (wideD (wid (cl .f32 x))) = true → isNum (nar (wideD (wid (cl .f32 x)))) = true) := by
    intro h
    unfold wideD at h ⊢
    have hn : isNum (wid (cl .f32 x)) = true := by
      cases hh : isNum (wid (cl .f32 x))
      · rw [hh] at h; cases h
      · rfl
    rw [hn] at h ⊢
    simp only [if_true] at h ⊢
    cases hg : hug (wid (cl .f32 x))
    · rw [hg] at h
      simp only [Bool.false_eq_true, if_false] at h ⊢
      have hx : isNum (cl .f32 x) = true := by
        cases hh : isNum (cl .f32 x)
        · cases hc : cl .f32 x with
          | number s m i => rw [hc] at hh; cases hh
          | nan s t => rw [hc] at hn; cases hn
          | infinity s => rw [hc] at hn; revert hn; cases s <;> decide +kernel
        · rfl
      obtain ⟨w0, hw0⟩ := wid_nums x hx
      rw [hw0] at hn hg ⊢
      exact (sin_nar hn hg).2
    · simp only [if_true]; decide +kernel
  generalize turnD (cl .f32 x) = T at *
  go_enter Try.func82, Try.ntmps82
  go_wp2_with (first | (refine upon_widen _ _ _ some_f32 Try.underlying43 ?_; intro z n hz hzw) | (go_at_call 93; refine (c_l01SineWide _ _).mono ?_; rintro e w' ⟨r, rfl, hr, hrf, nq, rfl⟩) | (go_at_call 91; refine (c_l01NarrowA _ _ (by rw [hr, hz]; exact HO.out)).mono ?_; rintro e w' ⟨r2, rfl, hr2, hrf2, nq2, rfl⟩))
  go_ret
  exact ⟨_, rfl, by rw [hr2, hr, hz]; exact HT.out, by assumption, by (first | exact ⟨_, rfl⟩ | exact ⟨0, rfl⟩ | exact ⟨_, World.drewN_drewN _ _ _⟩ | (simp only [World.drewN_drewN]; exact ⟨_, rfl⟩))⟩

end Go.Proofs.Ytlakmogclcpgdaa

/-
  CONTRACTS: what a rotor takes from the wind, in the reference.
-/
namespace Go.Proofs.Ytlakmogclcpgdaa
open Go.RowKit Go.Flt
set_option linter.unusedVariables false
set_option maxRecDepth 100000
set_option linter.unusedSimpArgs false

set_option maxHeartbeats 4000000 in
theorem c_l06Wake (b : Nat) (A C : Option Addr) (n cA m cC K : Nat) (xs ys : List Nat) (r d s i x y t : Nat) (w : World) (hf : FmAt w b (.slice A n cA) (.slice C m cC) r d s) (hx : Fl w K A n xs) (hy : Fl w K C m ys) (hn : n ≤ 1048576) (hm : m = n) (hi : i < n) :
    Calls Try.prog 58 #[.pointer (some ⟨b, 0, none⟩), .int .i64 i, .float .f32 x, .float .f32 y, .float .f32 t] w (RetF (wakeD xs ys r d s i x y t) (Drawn w)) := by
  obtain rfl := hx.1
  have hl := hy.1
  subst hm
  obtain ⟨p0, p1, p2, p3, p4⟩ := hf
  obtain ⟨bx, ox, rfl, hbx, hcx⟩ := hx.2 (by omega)
  obtain ⟨by', oy, rfl, hby, hcy⟩ := hy.2 (by omega)
  have c1 := hcx i (xs.getD i 0) (by simp [hi])
  have c2 := hcy i (ys.getD i 0) (by simp [show i < ys.length by omega])
  have HT := Lib.hid (show wakeD xs ys r d s i x y t = wakeV (xs.getD i 0) (ys.getD i 0) r d s x y t from rfl)
  generalize wakeD xs ys r d s i x y t = T at *
  clear hx hy hcx hcy hl
  generalize xs.getD i 0 = x1 at *
  generalize ys.getD i 0 = y1 at *
  have HV := Lib.hid (show wakeV x1 y1 r d s x y t = if flt (cl .f32 0) (wkAl x1 y1 x y t) && leF (absD (wkAc x1 y1 x y t)) (wkW x1 y1 r s x y t) then fop .mul .f32 (fop .mul .f32 (fop .mul .f32 (cl .f32 1073741824) (cl .f32 d)) (wkQ x1 y1 r s x y t)) (wkQ x1 y1 r s x y t) else cl .f32 0 from rfl)
  have HQ := Lib.hid (show wkQ x1 y1 r s x y t = fop .quo .f32 (cl .f32 r) (wkW x1 y1 r s x y t) from rfl)
  have HW := Lib.hid (show wkW x1 y1 r s x y t = fop .add .f32 (cl .f32 r) (fop .mul .f32 (cl .f32 s) (wkAl x1 y1 x y t)) from rfl)
  have HAL := Lib.hid (show wkAl x1 y1 x y t = fop .add .f32 (fop .mul .f32 (wkU x x1) (wkC t)) (fop .mul .f32 (wkU y y1) (turnD (cl .f32 t))) from rfl)
  have HAC := Lib.hid (show wkAc x1 y1 x y t = fop .sub .f32 (fop .mul .f32 (wkU y y1) (wkC t)) (fop .mul .f32 (wkU x x1) (turnD (cl .f32 t))) from rfl)
  have HC := Lib.hid (show wkC t = turnD (fop .add .f32 (cl .f32 t) (cl .f32 1048576000)) from rfl)
  have HU := Lib.hid (show wkU x x1 = fop .sub .f32 (cl .f32 x) (cl .f32 x1) from rfl)
  have HY := Lib.hid (show wkU y y1 = fop .sub .f32 (cl .f32 y) (cl .f32 y1) from rfl)
  generalize wakeV x1 y1 r d s x y t = V at *
  generalize wkQ x1 y1 r s x y t = QQ at *
  generalize wkW x1 y1 r s x y t = WW at *
  generalize wkAl x1 y1 x y t = AL at *
  generalize wkAc x1 y1 x y t = AC at *
  generalize wkC t = CC at *
  generalize wkU x x1 = U at *
  generalize wkU y y1 = Y at *
  have i3 : (0 : Int) ≤ (i : Int) := by omega
  have i4 : (i : Int) < (xs.length : Int) := by omega
  have i6 : IntKind.i64.wrap (i : Int) = (i : Int) := by rw [IntKind.wrap_i64]; omega
  clear hn hi hbx hby
  go_enter Try.func58, Try.ntmps58
  go_upto_region 2 with (refine upon_fbin rfl _ _ _ _ ?_; intro z n hz hzw)
  have HU1 := Lib.hid (show cl .f32 z = U by rw [HU.out, hz])
  clear hz
  go_upto_region 3 with (refine upon_fbin rfl _ _ _ _ ?_; intro z n hz hzw)
  have HY1 := Lib.hid (show cl .f32 z = Y by rw [HY.out, hz])
  clear hz
  go_upto_region 4 with (first | (refine upon_fbin rfl _ _ _ _ ?_; intro z n hz hzw) | (go_at_call 82; refine (c_l01Sine _ _).mono ?_; rintro e w' ⟨r1, rfl, hr1, hrf1, nq1, rfl⟩))
  have HC1 := Lib.hid (show cl .f32 r1 = CC by rw [HC.out, hr1, hz])
  clear hz hr1
  go_upto_region 5 with (first | (refine upon_fbin rfl _ _ _ _ ?_; intro z n hz hzw) | (go_at_call 82; refine (c_l01Sine _ _).mono ?_; rintro e w' ⟨r2, rfl, hr2, hrf2, nq2, rfl⟩))
  have HS1 := Lib.hid (show cl .f32 r2 = turnD (cl .f32 t) from hr2)
  clear hr2
  generalize turnD (cl .f32 t) = SS at *
  go_upto_region 6 with (refine upon_fbin rfl _ _ _ _ ?_; intro z n hz hzw)
  have HAL1 := Lib.hid (show cl .f32 z = AL by rw [HAL.out, ← HU1.out, ← HC1.out, ← HY1.out, ← HS1.out]; simp only [*])
  clear hz
  obtain ⟨al, hal⟩ : ∃ q, q = z := ⟨_, rfl⟩
  subst hal
  go_upto_region 7 with (refine upon_fbin rfl _ _ _ _ ?_; intro z n hz hzw)
  have HAC1 := Lib.hid (show cl .f32 z = AC by rw [HAC.out, ← HU1.out, ← HC1.out, ← HY1.out, ← HS1.out]; simp only [*])
  have HAW := Lib.hid hzw
  clear hz
  obtain ⟨ac, hac⟩ : ∃ q, q = z := ⟨_, rfl⟩
  subst hac
  have HSZ := Lib.hid (show sizeD AC = if leF (cl .f32 ac) (cl .f32 0) then fop .sub .f32 (cl .f32 0) (cl .f32 ac) else cl .f32 ac by rw [← HAC1.out]; rfl)
  have HLS := Lib.hid (fun v => leF_size (v := v) HAW.out)
  rw [HAC1.out] at HLS
  generalize sizeD AC = SZ at *
  clear HU HY HC HAL HAC HU1 HY1 HC1 HS1 p0 p1 c1 c2 i3 i4 i6
  cases h1 : leF (cl .f32 ac) (cl .f32 0)
  all_goals
    rw [h1] at HSZ
    have hsz := HSZ.out
    simp only [Bool.false_eq_true, if_false, if_true] at hsz
    have HSQ := Lib.hid hsz
    clear hsz HSZ
    go_upto_region 9 with (refine upon_fbin rfl _ _ _ _ ?_; intro z n hz hzw)
  all_goals
    have hs2 := HSQ.out
    clear HSQ h1 HAW HAC1
    first
      | (rw [← hz] at hs2; obtain ⟨sq, hsq⟩ : ∃ q, q = z := ⟨_, rfl⟩; subst hsq)
      | (obtain ⟨sq, hsq⟩ : ∃ q, q = ac := ⟨_, rfl⟩; subst hsq)
    subst hs2
    clear hz
    have hal := HAL1.out
    subst hal
    clear HAL1
    try simp only [List.append_eq, List.cons_append, List.nil_append]
    refine wp_region_drawnC (by kernel_rfl) (by kernel_rfl) ?_
    repeat (first | (refine wpFree_skip rfl ?_; try go_simp) | (refine wpFree_want rfl (fun K hK => ?_); first | (refine free_fbin drawn_draw rfl rfl _ _ _ rfl rfl ?_; intro z hz hzw; go_simp; refine hK _ ?_; clear hK K) | (intro wq hq; obtain ⟨hqc, hqf, hqh⟩ := drawn_cells hq; go_simp; first | (refine hK _ ?_; clear hK K; try clear hqc hqf; try clear hqh; try clear hq; try clear wq) | fail)))
    refine wpFree_nil ?_
    intro wq hq
    obtain ⟨nq, rfl⟩ := hq
    have hw1 : cl .f32 z = WW := by rw [HW.out]; simp only [*]
    have HV2 := HV.out
    rw [← hw1, ← HLS.out z] at HV2
    have HQ2 := HQ.out
    rw [← hw1] at HQ2
    have HVV := Lib.hid (HT.out.trans HV2)
    have HQQ := Lib.hid HQ2
    clear HV2 HQ2 HV HQ HW HLS hw1 HT hz
    cases h2 : flt (cl .f32 0) (cl .f32 al)
    case' true => cases h3 : leF (cl .f32 sq) (cl .f32 z)
    all_goals
      have HE := HVV.out
      simp only [h2, Bool.false_and, Bool.true_and, Bool.and_false, Bool.and_true, Bool.false_eq_true, if_false, if_true] at HE
      try simp only [h3, Bool.false_eq_true, if_false, if_true] at HE
      have HF := Lib.hid HE
      clear HE HVV
      go_wp2_with (refine upon_fbin rfl _ _ _ _ ?_; intro z n hz hzw)
      go_ret
      first
        | exact ⟨_, rfl, HF.out.symm, fits_zero, by (first | exact ⟨_, rfl⟩ | exact ⟨0, rfl⟩ | exact ⟨_, World.drewN_drewN _ _ _⟩ | (simp only [World.drewN_drewN]; exact ⟨_, rfl⟩))⟩
        | exact ⟨_, rfl, by rw [HF.out, HQQ.out]; simp only [*], by assumption, by (first | exact ⟨_, rfl⟩ | exact ⟨0, rfl⟩ | exact ⟨_, World.drewN_drewN _ _ _⟩ | (simp only [World.drewN_drewN]; exact ⟨_, rfl⟩))⟩

end Go.Proofs.Ytlakmogclcpgdaa

