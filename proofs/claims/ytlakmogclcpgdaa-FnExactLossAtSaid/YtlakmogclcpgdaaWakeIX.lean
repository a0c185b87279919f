/-
  CONTRACTS: what a rotor takes from the wind, in the program.
-/
import Derived.Test.YtlakmogclcpgdaaWakeX
import Derived.Test.YtlakmogclcpgdaaYawX
namespace Go.Proofs.Ytlakmogclcpgdaa
open Go.RowKit Go.Flt
set_option linter.unusedVariables false
set_option maxRecDepth 100000
set_option linter.unusedSimpArgs false

set_option maxHeartbeats 4000000 in
theorem c_wakeAt (A C : Option Addr) (n cA m cC K : Nat) (xs ys : List Nat) (r d s i x y t : Nat) (w : World) (hx : Fl w K A n xs) (hy : Fl w K C m ys) (hK : K ≤ w.heap.size) (hn : n ≤ 1048576) (hm : m = n) (hi : i < n) :
    Calls Try.prog 61 #[.agg #[.slice A n cA, .slice C m cC, .float .f32 r, .float .f32 d, .float .f32 s], .int .i64 i, .float .f32 x, .float .f32 y, .float .f32 t] w (RetF (wakeD xs ys r d s i x y t) (Grew w)) := by
  obtain rfl := hx.1
  have hl := hy.1
  subst hm
  obtain ⟨bx, ox, rfl, hbx, hcx⟩ := hx.2 (by omega)
  obtain ⟨by', oy, rfl, hby, hcy⟩ := hy.2 (by omega)
  have c1 := hcx i (xs.getD i 0) (by simp [hi])
  have c2 := hcy i (ys.getD i 0) (by simp [show i < ys.length by omega])
  have HT := Lib.hid (show wakeD xs ys r d s i x y t = wakeV (xs.getD i 0) (ys.getD i 0) r d s x y t from rfl)
  generalize wakeD xs ys r d s i x y t = T at *
  clear hx hy hcx hcy hl
  generalize xs.getD i 0 = x1 at *
  generalize ys.getD i 0 = y1 at *
  have HV := Lib.hid (show wakeV x1 y1 r d s x y t = if flt (cl .f32 0) (wkAl x1 y1 x y t) && leF (absD (wkAc x1 y1 x y t)) (wkW x1 y1 r s x y t) then fop .mul .f32 (fop .mul .f32 (fop .mul .f32 (cl .f32 1073741824) (cl .f32 d)) (wkQ x1 y1 r s x y t)) (wkQ x1 y1 r s x y t) else cl .f32 0 from rfl)
  have HQ := Lib.hid (show wkQ x1 y1 r s x y t = fop .quo .f32 (cl .f32 r) (wkW x1 y1 r s x y t) from rfl)
  have HW := Lib.hid (show wkW x1 y1 r s x y t = fop .add .f32 (cl .f32 r) (fop .mul .f32 (cl .f32 s) (wkAl x1 y1 x y t)) from rfl)
  have HAL := Lib.hid (show wkAl x1 y1 x y t = fop .add .f32 (fop .mul .f32 (wkU x x1) (wkC t)) (fop .mul .f32 (wkU y y1) (turnD (cl .f32 t))) from rfl)
  have HAC := Lib.hid (show wkAc x1 y1 x y t = fop .sub .f32 (fop .mul .f32 (wkU y y1) (wkC t)) (fop .mul .f32 (wkU x x1) (turnD (cl .f32 t))) from rfl)
  have HC := Lib.hid (show wkC t = turnD (fop .add .f32 (cl .f32 t) (cl .f32 1048576000)) from rfl)
  have HU := Lib.hid (show wkU x x1 = fop .sub .f32 (cl .f32 x) (cl .f32 x1) from rfl)
  have HY := Lib.hid (show wkU y y1 = fop .sub .f32 (cl .f32 y) (cl .f32 y1) from rfl)
  generalize wakeV x1 y1 r d s x y t = V at *
  generalize wkQ x1 y1 r s x y t = QQ at *
  generalize wkW x1 y1 r s x y t = WW at *
  generalize wkAl x1 y1 x y t = AL at *
  generalize wkAc x1 y1 x y t = AC at *
  generalize wkC t = CC at *
  generalize wkU x x1 = U at *
  generalize wkU y y1 = Y at *
  have i3 : (0 : Int) ≤ (i : Int) := by omega
  have i4 : (i : Int) < (xs.length : Int) := by omega
  have i6 : IntKind.i64.wrap (i : Int) = (i : Int) := by rw [IntKind.wrap_i64]; omega
  have i7 : bx < w.heap.size := by omega
  have i8 : by' < w.heap.size := by omega
  clear hn hi hbx hby hK
  go_enter Try.func61, Try.ntmps61
  go_upto_region 1 with fail
  have hG : Grew w (w.alloc (.cells #[.slice (some ⟨bx, ox, none⟩) xs.length cA, .slice (some ⟨by', oy, none⟩) xs.length cC, .float .f32 r, .float .f32 d, .float .f32 s] 25)) := by (show Below _ _ _; (repeat (first | exact Below.refl _ _ | refine ext_below ?_ (by first | omega | (simp only [size_ext, heap_push, Array.size_push, World.heap_drewN]; omega) | (simp; omega)) _ _ | refine below_draws ?_ _ | refine Below.alloc ?_ (by first | omega | (simp; done) | (simp; omega)) _ | refine Below.setCell ?_ (by first | omega | (simp; done) | (simp; omega)) _ | refine below_then (by assumption) (by first | omega | (simp; done) | (simp; omega)) ?_)))
  have A1 : FmAt (w.alloc (.cells #[.slice (some ⟨bx, ox, none⟩) xs.length cA, .slice (some ⟨by', oy, none⟩) xs.length cC, .float .f32 r, .float .f32 d, .float .f32 s] 25)) w.heap.size (.slice (some ⟨bx, ox, none⟩) xs.length cA) (.slice (some ⟨by', oy, none⟩) xs.length cC) r d s := by unfold FmAt; simp [go_sem]
  replace c1 := ((bcell hG).1 bx (ox + i) i7).trans c1
  replace c2 := ((bcell hG).1 by' (oy + i) i8).trans c2
  have G1 := Lib.hid hG
  clear hG i7 i8
  generalize w.alloc (.cells #[.slice (some ⟨bx, ox, none⟩) xs.length cA, .slice (some ⟨by', oy, none⟩) xs.length cC, .float .f32 r, .float .f32 d, .float .f32 s] 25) = w1 at *
  obtain ⟨p0, p1, p2, p3, p4⟩ := A1
  try simp only [List.append_eq, List.cons_append, List.nil_append]
  refine wp_region_drawnC (by kernel_rfl) (by kernel_rfl) ?_
  repeat (first | (refine wpFree_skip rfl ?_; try go_simp) | (refine wpFree_want rfl (fun K hK => ?_); first | (refine free_fbin drawn_draw rfl rfl _ _ _ rfl rfl ?_; intro z hz hzw; go_simp; refine hK _ ?_; clear hK K) | (intro wq hq; obtain ⟨hqc, hqf, hqh⟩ := drawn_cells hq; go_simp; first | (refine hK _ ?_; clear hK K; try clear hqc hqf; try clear hqh; try clear hq; try clear wq) | fail)))
  refine wpFree_nil ?_
  intro wq hq
  obtain ⟨nq, rfl⟩ := hq
  have HU1 := Lib.hid ((fun q (h : cl .f32 q = fop .sub .f32 (cl .f32 x) (cl .f32 x1)) => show cl .f32 q = U from h.trans HU.out.symm) _ (by assumption))
  have HY1 := Lib.hid ((fun q (h : cl .f32 q = fop .sub .f32 (cl .f32 y) (cl .f32 y1)) => show cl .f32 q = Y from h.trans HY.out.symm) _ (by assumption))
  rename_i zu hzu hzuw
  clear hz hzu
  go_upto_region 3 with (first | (refine upon_fbin rfl _ _ _ _ ?_; intro z n hz hzw) | (go_at_call 84; refine (c_SineTurns _ _).mono ?_; rintro e w' ⟨r, rfl, hr, hrf, nq, rfl⟩))
  have HC1 := Lib.hid ((fun q (h : cl .f32 q = turnD (cl .f32 z)) => show cl .f32 q = CC from h.trans (by rw [HC.out, hz])) _ (by assumption))
  have HS1 := Lib.hid ((fun q (h : cl .f32 q = turnD (cl .f32 t)) => h) _ (by assumption))
  rename_i rc hrc hrcf nrc KK aa
  clear hz hr hrc
  generalize turnD (cl .f32 t) = SS at *
  go_upto_region 4 with (first | (refine upon_fbin rfl _ _ _ _ ?_; intro z n hz hzw) | (go_at_call 85; refine (c_absolute _ _ hzw).mono ?_; rintro e w' ⟨ac, rfl, hac, hacw, nac, rfl⟩))
  rename_i z1 n1 hz1 hzw1 z2 n2 hz2 hzw2 z3 n3 hz3 hzw3 z4 n4 hz4 hzw4 z5 n5 hz5 hzw5 KK aa
  have HAL1 := Lib.hid (show cl .f32 z3 = AL by rw [hz3, hz1, hz2, HAL.out, HU1.out, HC1.out, HY1.out, HS1.out])
  have HAC1 := Lib.hid (show cl .f32 ac = absD AC by rw [hac, hz, hz4, hz5, HAC.out, HU1.out, HC1.out, HY1.out, HS1.out])
  clear hac HU HY HC HAL HAC HU1 HY1 HC1 HS1 p0 p1 c1 c2 i3 i4 i6 hz hz1 hz2 hz3 hz4 hz5
  go_upto_region 5 with (refine upon_fbin rfl _ _ _ _ ?_; intro z n hz hzw)
  have hw1 : cl .f32 z = WW := by rw [HW.out, ← HAL1.out]; simp only [*]
  have HV2 := HV.out
  rw [← hw1, ← HAC1.out, ← HAL1.out] at HV2
  have HQ2 := HQ.out
  rw [← hw1] at HQ2
  have HVV := Lib.hid (HT.out.trans HV2)
  have HQQ := Lib.hid HQ2
  clear HV2 HQ2 HV HQ HW hw1 HT hz HAL1 HAC1
  cases h2 : flt (cl .f32 0) (cl .f32 z3)
  case' true => cases h3 : leF (cl .f32 ac) (cl .f32 z)
  all_goals
    have HE := HVV.out
    simp only [h2, Bool.false_and, Bool.true_and, Bool.and_false, Bool.and_true, Bool.false_eq_true, if_false, if_true] at HE
    try simp only [h3, Bool.false_eq_true, if_false, if_true] at HE
    have HF := Lib.hid HE
    clear HE HVV
    go_wp2_with (refine upon_fbin rfl _ _ _ _ ?_; intro z n hz hzw)
    go_ret
    first
      | exact ⟨_, rfl, HF.out.symm, fits_zero, grew_draw _ _ G1.out⟩
      | exact ⟨_, rfl, by rw [HF.out, HQQ.out]; simp only [*], by assumption, grew_draw _ _ G1.out⟩

end Go.Proofs.Ytlakmogclcpgdaa

/-
  CONTRACTS: WakeAt, in the reference and in the program.
-/
namespace Go.Proofs.Ytlakmogclcpgdaa
open Go.RowKit Go.Flt
set_option linter.unusedVariables false
set_option maxRecDepth 100000
set_option linter.unusedSimpArgs false

def fin3 (x y t : Nat) : Bool := fin (cl .f32 x) && fin (cl .f32 y) && fin (cl .f32 t)

def okW (xs ys : List Nat) (r d s : Nat) (i : Int) (x y t : Nat) : Bool := vFarm xs ys r d s && within i 0 ((xs.length : Int) - 1) && fin3 x y t

theorem c_l06Can (b : Nat) (A C : Option Addr) (n cA m cC K : Nat) (xs ys : List Nat) (r d s x y t : Nat) (w : World) (hf : FmAt w b (.slice A n cA) (.slice C m cC) r d s) (hx : Fl w K A n xs) (hy : Fl w K C m ys) (hn : n ≤ maxLen) (hm : m ≤ maxLen) :
    Calls Try.prog 56 #[.pointer (some ⟨b, 0, none⟩), .float .f32 x, .float .f32 y, .float .f32 t] w fun e w' => e = .returned (.bool (vFarm xs ys r d s && fin3 x y t)) ∧ ∃ n, w' = w.drewN n := by
  have V := Lib.hid (c_l06Is b A C n cA m cC K xs ys r d s w hf hx hy hn hm)
  clear hf hx hy hn hm
  have HF := Lib.hid (show fin3 x y t = (fin (cl .f32 x) && fin (cl .f32 y) && fin (cl .f32 t)) from rfl)
  generalize fin3 x y t = F3 at *
  generalize vFarm xs ys r d s = VF at *
  cases VF
  case' true => cases h1 : fin (cl .f32 x)
  case' true.true => cases h2 : fin (cl .f32 y)
  all_goals
    go_enter Try.func56, Try.ntmps56
    go_wp2_with (first | (go_at_call 45; refine V.out.mono ?_; rintro e w' ⟨rfl, nq, rfl⟩) | (go_at_call 54; refine (c_l01Finite _ _).mono ?_; rintro e w' ⟨rfl, nq, rfl⟩))
    go_ret
    exact ⟨by rw [HF.out]; simp [*], by (first | exact ⟨_, rfl⟩ | exact ⟨0, rfl⟩ | exact ⟨_, World.drewN_drewN _ _ _⟩ | (simp only [World.drewN_drewN]; exact ⟨_, rfl⟩))⟩

theorem c_fin3 (x y t : Nat) : ∀ w cap b, Fl w (b + 1) (some ⟨b, 0, none⟩) 3 [x, y, t] → Calls Try.prog 59 #[.slice (some ⟨b, 0, none⟩) 3 cap] w fun e w' => e = .returned (.bool (fin3 x y t)) ∧ ∃ n, w' = w.drewN n := by
  intro w cap b h
  have := c_impl.areFinite _ 3 cap _ _ w h (by simp [maxLen])
  have e : ([x, y, t].all fun x => fin (cl .f32 x)) = fin3 x y t := by simp [fin3, Bool.and_assoc]
  rw [e] at this
  exact this

set_option maxHeartbeats 2000000 in
theorem c_specWakeAt (lo hi : Nat) (v : Value) (xs ys : List Nat) (r d s : Nat) (i : Int) (x y t : Nat) (w : World) (h : FarmAt w lo hi v xs ys r d s) (hK : hi ≤ w.heap.size) (hn : xs.length ≤ 1048576) (hm : ys.length ≤ 1048576) :
    Calls Try.prog 28 #[v, .int .i64 i, .float .f32 x, .float .f32 y, .float .f32 t] w (RetFB (num (okW xs ys r d s i x y t) (wakeD xs ys r d s i.toNat x y t)) (okW xs ys r d s i x y t && fin (wakeD xs ys r d s i.toNat x y t)) (Grew w)) := by
  obtain ⟨A, cA, C, cC, rfl, hx, hy⟩ := h.parts
  have HX := Lib.hid (fun w' (hg : Grew w w') => Slc.grew (g := Value.float .f32) (w' := w') hx hK hg)
  have HY := Lib.hid (fun w' (hg : Grew w w') => Slc.grew (g := Value.float .f32) (w' := w') hy hK hg)
  have V1 := Lib.hid (fun w' b hf (hg : Grew w w') => c_l06Can b A C xs.length cA ys.length cC hi xs ys r d s x y t w' hf (HX.out w' hg) (HY.out w' hg) (by unfold maxLen; omega) (by unfold maxLen; omega))
  have V2 := Lib.hid (fun w' b hf (hg : Grew w w') => c_l06Has b A C xs.length cA ys.length cC hi xs ys r d s i w' hf (HX.out w' hg) (HY.out w' hg) hn hm)
  clear h hx hy
  have HO := Lib.hid (show okW xs ys r d s i x y t = (vFarm xs ys r d s && within i 0 ((xs.length : Int) - 1) && fin3 x y t) from rfl)
  have HH := Lib.hid (show hasR xs ys r d s i = (vFarm xs ys r d s && within i 0 ((xs.length : Int) - 1)) from rfl)
  cases k1 : okW xs ys r d s i x y t
  · have hA := HO.out.symm.trans k1
    clear HO hn hm k1
    generalize wakeD xs ys r d s i.toNat x y t = D at *
    rw [HH.out] at V2
    clear HH
    generalize vFarm xs ys r d s = VF at *
    generalize within i 0 ((xs.length : Int) - 1) = WI at *
    generalize fin3 x y t = F3 at *
    cases VF <;> cases F3 <;> cases WI <;> simp only [Bool.and_true, Bool.and_false, Bool.true_and, Bool.false_and, Bool.true_eq_false] at V1 V2 hA
    all_goals
      clear hA
      go_enter Try.func28, Try.ntmps28
      go_wp2_with (first | (go_at_call 56; refine (V1.out _ _ (by unfold FmAt; simp [go_sem]) (by (show Below _ _ _; (repeat (first | exact Below.refl _ _ | refine ext_below ?_ (by first | omega | (simp only [size_ext, heap_push, Array.size_push, World.heap_drewN]; omega) | (simp; omega)) _ _ | refine below_draws ?_ _ | refine Below.alloc ?_ (by first | omega | (simp; done) | (simp; omega)) _ | refine Below.setCell ?_ (by first | omega | (simp; done) | (simp; omega)) _ | refine below_then (by assumption) (by first | omega | (simp; done) | (simp; omega)) ?_))))).mono ?_; rintro e w' ⟨rfl, nq, rfl⟩) | (go_at_call 50; refine (V2.out _ _ (by unfold FmAt; simp [go_sem]) (by (show Below _ _ _; (repeat (first | exact Below.refl _ _ | refine ext_below ?_ (by first | omega | (simp only [size_ext, heap_push, Array.size_push, World.heap_drewN]; omega) | (simp; omega)) _ _ | refine below_draws ?_ _ | refine Below.alloc ?_ (by first | omega | (simp; done) | (simp; omega)) _ | refine Below.setCell ?_ (by first | omega | (simp; done) | (simp; omega)) _ | refine below_then (by assumption) (by first | omega | (simp; done) | (simp; omega)) ?_))))).mono ?_; rintro e w' ⟨rfl, nq, rfl⟩))
      refine bodyPost_ret (v := .tuple #[.float .f32 0, .bool false]) (by simp [results, Try.results28, go_sem]) rfl ?_
      exact ⟨0, rfl, rfl, fits_zero, by (show Below _ _ _; (repeat (first | exact Below.refl _ _ | refine ext_below ?_ (by first | omega | (simp only [size_ext, heap_push, Array.size_push, World.heap_drewN]; omega) | (simp; omega)) _ _ | refine below_draws ?_ _ | refine Below.alloc ?_ (by first | omega | (simp; done) | (simp; omega)) _ | refine Below.setCell ?_ (by first | omega | (simp; done) | (simp; omega)) _ | refine below_then (by assumption) (by first | omega | (simp; done) | (simp; omega)) ?_)))⟩
  · have hA := HO.out.symm.trans k1
    simp only [Bool.and_eq_true] at hA
    obtain ⟨⟨k2, k3⟩, k4⟩ := hA
    have k5 := HH.out
    rw [k2, k3] at k5
    obtain ⟨k, rfl, hkx, hky, h12, hxy⟩ := has_parts k5
    have V3 := Lib.hid (fun w' b hf (hg : Grew w w') => c_l06Wake b A C xs.length cA ys.length cC hi xs ys r d s k x y t w' hf (HX.out w' hg) (HY.out w' hg) hn hxy hkx)
    rw [k2, k4] at V1
    rw [k5] at V2
    simp only [Int.toNat_natCast]
    generalize wakeD xs ys r d s k x y t = D at *
    clear HO HH k1 k2 k3 k4 k5 hkx hky h12 hn hm hxy
    go_enter Try.func28, Try.ntmps28
    go_wp2_with (first | (go_at_call 56; refine (V1.out _ _ (by unfold FmAt; simp [go_sem]) (by (show Below _ _ _; (repeat (first | exact Below.refl _ _ | refine ext_below ?_ (by first | omega | (simp only [size_ext, heap_push, Array.size_push, World.heap_drewN]; omega) | (simp; omega)) _ _ | refine below_draws ?_ _ | refine Below.alloc ?_ (by first | omega | (simp; done) | (simp; omega)) _ | refine Below.setCell ?_ (by first | omega | (simp; done) | (simp; omega)) _ | refine below_then (by assumption) (by first | omega | (simp; done) | (simp; omega)) ?_))))).mono ?_; rintro e w' ⟨rfl, nq, rfl⟩) | (go_at_call 50; refine (V2.out _ _ (by unfold FmAt; simp [go_sem]) (by (show Below _ _ _; (repeat (first | exact Below.refl _ _ | refine ext_below ?_ (by first | omega | (simp only [size_ext, heap_push, Array.size_push, World.heap_drewN]; omega) | (simp; omega)) _ _ | refine below_draws ?_ _ | refine Below.alloc ?_ (by first | omega | (simp; done) | (simp; omega)) _ | refine Below.setCell ?_ (by first | omega | (simp; done) | (simp; omega)) _ | refine below_then (by assumption) (by first | omega | (simp; done) | (simp; omega)) ?_))))).mono ?_; rintro e w' ⟨rfl, nq, rfl⟩) | (go_at_call 58; refine (V3.out _ _ (by unfold FmAt; simp [go_sem]) (by (show Below _ _ _; (repeat (first | exact Below.refl _ _ | refine ext_below ?_ (by first | omega | (simp only [size_ext, heap_push, Array.size_push, World.heap_drewN]; omega) | (simp; omega)) _ _ | refine below_draws ?_ _ | refine Below.alloc ?_ (by first | omega | (simp; done) | (simp; omega)) _ | refine Below.setCell ?_ (by first | omega | (simp; done) | (simp; omega)) _ | refine below_then (by assumption) (by first | omega | (simp; done) | (simp; omega)) ?_))))).mono ?_; rintro e w' ⟨z, rfl, hz, hzf, nz, rfl⟩; have HZ := Lib.hid hz; have HZF := Lib.hid hzf; clear hz hzf) | (go_at_call 57; refine (c_l02Number _ _).mono ?_; rintro e w' ⟨rfl, nq, rfl⟩))
    refine bodyPost_ret (v := .tuple #[.float .f32 (chkW z), .bool (fin (cl .f32 z))]) (by simp [results, Try.results28, go_sem]) rfl ?_
    exact ⟨chkW z, by rw [HZ.out]; rfl, by rw [cl_chkW, HZ.out]; simp [chk, num], fits_chkW HZF.out, by (show Below _ _ _; (repeat (first | exact Below.refl _ _ | refine ext_below ?_ (by first | omega | (simp only [size_ext, heap_push, Array.size_push, World.heap_drewN]; omega) | (simp; omega)) _ _ | refine below_draws ?_ _ | refine Below.alloc ?_ (by first | omega | (simp; done) | (simp; omega)) _ | refine Below.setCell ?_ (by first | omega | (simp; done) | (simp; omega)) _ | refine below_then (by assumption) (by first | omega | (simp; done) | (simp; omega)) ?_)))⟩

end Go.Proofs.Ytlakmogclcpgdaa

/-
  CONTRACTS: WakeAt, in the program.
-/
namespace Go.Proofs.Ytlakmogclcpgdaa
open Go.RowKit Go.Flt
set_option linter.unusedVariables false
set_option maxRecDepth 100000
set_option linter.unusedSimpArgs false

set_option maxHeartbeats 2000000 in
theorem c_implWakeAt (lo hi : Nat) (v : Value) (xs ys : List Nat) (r d s : Nat) (i : Int) (x y t : Nat) (w : World) (h : FarmAt w lo hi v xs ys r d s) (hK : hi ≤ w.heap.size) (hn : xs.length ≤ 1048576) (hm : ys.length ≤ 1048576) :
    Calls Try.prog 29 #[v, .int .i64 i, .float .f32 x, .float .f32 y, .float .f32 t] w (RetFB (num (okW xs ys r d s i x y t) (wakeD xs ys r d s i.toNat x y t)) (okW xs ys r d s i x y t && fin (wakeD xs ys r d s i.toNat x y t)) (Grew w)) := by
  have V1 := Lib.hid (fun w' (hg : Grew w w') => c_implValidFarm' lo hi v xs ys r d s w' (h.grew hK hg) (Nat.le_trans hK (Below.size hg)))
  obtain ⟨A, cA, C, cC, rfl, hx, hy⟩ := h.parts
  have V2 := Lib.hid (fun w' => c_isRotor A C xs.length cA ys.length cC r d s i w' hn)
  have HX := Lib.hid (fun w' (hg : Grew w w') => Slc.grew (g := Value.float .f32) (w' := w') hx hK hg)
  have HY := Lib.hid (fun w' (hg : Grew w w') => Slc.grew (g := Value.float .f32) (w' := w') hy hK hg)
  have V3 := Lib.hid (c_fin3 x y t)
  clear h hx hy
  have HO := Lib.hid (show okW xs ys r d s i x y t = (vFarm xs ys r d s && within i 0 ((xs.length : Int) - 1) && fin3 x y t) from rfl)
  have HH := Lib.hid (show hasR xs ys r d s i = (vFarm xs ys r d s && within i 0 ((xs.length : Int) - 1)) from rfl)
  cases k1 : okW xs ys r d s i x y t
  · have hA := HO.out.symm.trans k1
    clear HO HH hn hm k1 hK
    generalize wakeD xs ys r d s i.toNat x y t = D at *
    generalize vFarm xs ys r d s = VF at *
    generalize within i 0 ((xs.length : Int) - 1) = WI at *
    generalize fin3 x y t = F3 at *
    cases VF <;> cases WI <;> cases F3 <;> simp only [Bool.and_true, Bool.and_false, Bool.true_and, Bool.false_and, Bool.true_eq_false] at hA
    all_goals
      clear hA
      go_enter Try.func29, Try.ntmps29
      go_wp2_with fail
      refine (V1.out _ (by (show Below _ _ _; (repeat (first | exact Below.refl _ _ | refine ext_below ?_ (by first | omega | (simp only [size_ext, heap_push, Array.size_push, World.heap_drewN]; omega) | (simp; omega)) _ _ | refine below_draws ?_ _ | refine Below.alloc ?_ (by first | omega | (simp; done) | (simp; omega)) _ | refine Below.setCell ?_ (by first | omega | (simp; done) | (simp; omega)) _ | refine below_then (by assumption) (by first | omega | (simp; done) | (simp; omega)) ?_))))).mono ?_
      rintro e w1 ⟨rfl, hg1⟩
      have G1 := Lib.hid (grew_trans (show Grew w _ by (show Below _ _ _; (repeat (first | exact Below.refl _ _ | refine ext_below ?_ (by first | omega | (simp only [size_ext, heap_push, Array.size_push, World.heap_drewN]; omega) | (simp; omega)) _ _ | refine below_draws ?_ _ | refine Below.alloc ?_ (by first | omega | (simp; done) | (simp; omega)) _ | refine Below.setCell ?_ (by first | omega | (simp; done) | (simp; omega)) _ | refine below_then (by assumption) (by first | omega | (simp; done) | (simp; omega)) ?_)))) hg1)
      have A1 : Hid (FmAt w1 w.heap.size (.slice A xs.length cA) (.slice C ys.length cC) r d s) := Lib.hid (FmAt.grew (by unfold FmAt; simp [go_sem]) (by simp <;> omega) hg1)
      have z0 : w.heap.size < w1.heap.size := by have := Below.size hg1; simp at this; omega
      clear hg1 V1
      obtain ⟨p0, p1, p2, p3, p4⟩ := A1.out
      go_wp2_with (first | (go_at_call 51; refine (V2.out _).mono ?_; rintro e w2 ⟨rfl, hg2⟩; have A2 := Lib.hid (A1.out.grew z0 hg2); have G2 := Lib.hid (grew_trans G1.out hg2); clear hg2 p0 p1 p2 p3 p4) | (go_at_call 59; refine (V3.out _ _ _ (fl_new _ [x, y, t] _ _ _ (by simp) rfl)).mono ?_; rintro e w' ⟨rfl, nq, rfl⟩))
      refine bodyPost_ret (v := .tuple #[.float .f32 0, .bool false]) (by simp [results, Try.results29, go_sem]) rfl ?_
      exact ⟨0, rfl, rfl, fits_zero, by first | exact G1.out | exact G2.out | exact grew_draw _ _ (grew_al G2.out _)⟩
  · have hA := HO.out.symm.trans k1
    simp only [Bool.and_eq_true] at hA
    obtain ⟨⟨k2, k3⟩, k4⟩ := hA
    have k5 := HH.out
    rw [k2, k3] at k5
    obtain ⟨k, rfl, hkx, hky, h12, hxy⟩ := has_parts k5
    have V4 := Lib.hid (fun w' (hg : Grew w w') => c_wakeAt A C xs.length cA ys.length cC hi xs ys r d s k x y t w' (HX.out w' hg) (HY.out w' hg) (Nat.le_trans hK (Below.size hg)) hn hxy hkx)
    rw [k2] at V1
    rw [k3] at V2
    rw [k4] at V3
    simp only [Int.toNat_natCast]
    generalize wakeD xs ys r d s k x y t = D at *
    clear HO HH k1 k2 k3 k4 k5 hkx hky h12 hn hm hxy
    go_enter Try.func29, Try.ntmps29
    go_wp2_with fail
    refine (V1.out _ (by (show Below _ _ _; (repeat (first | exact Below.refl _ _ | refine ext_below ?_ (by first | omega | (simp only [size_ext, heap_push, Array.size_push, World.heap_drewN]; omega) | (simp; omega)) _ _ | refine below_draws ?_ _ | refine Below.alloc ?_ (by first | omega | (simp; done) | (simp; omega)) _ | refine Below.setCell ?_ (by first | omega | (simp; done) | (simp; omega)) _ | refine below_then (by assumption) (by first | omega | (simp; done) | (simp; omega)) ?_))))).mono ?_
    rintro e w1 ⟨rfl, hg1⟩
    have G1 := Lib.hid (grew_trans (show Grew w _ by (show Below _ _ _; (repeat (first | exact Below.refl _ _ | refine ext_below ?_ (by first | omega | (simp only [size_ext, heap_push, Array.size_push, World.heap_drewN]; omega) | (simp; omega)) _ _ | refine below_draws ?_ _ | refine Below.alloc ?_ (by first | omega | (simp; done) | (simp; omega)) _ | refine Below.setCell ?_ (by first | omega | (simp; done) | (simp; omega)) _ | refine below_then (by assumption) (by first | omega | (simp; done) | (simp; omega)) ?_)))) hg1)
    have A1 : Hid (FmAt w1 w.heap.size (.slice A xs.length cA) (.slice C ys.length cC) r d s) := Lib.hid (FmAt.grew (by unfold FmAt; simp [go_sem]) (by simp <;> omega) hg1)
    have z0 : w.heap.size < w1.heap.size := by have := Below.size hg1; simp at this; omega
    clear hg1 V1
    obtain ⟨p0, p1, p2, p3, p4⟩ := A1.out
    go_wp2_with fail
    refine (V2.out _).mono ?_
    rintro e w2 ⟨rfl, hg2⟩
    have A2 := Lib.hid (A1.out.grew z0 hg2)
    have G2 := Lib.hid (grew_trans G1.out hg2)
    have z2 : w.heap.size < w2.heap.size := by have := Below.size hg2; omega
    clear hg2 V2 p0 p1 p2 p3 p4
    obtain ⟨p0, p1, p2, p3, p4⟩ := A2.out
    go_wp2_with fail
    refine (V3.out _ _ _ (fl_new _ [x, y, t] _ _ _ (by simp) rfl)).mono ?_
    rintro e w3 ⟨rfl, nq, hw3⟩
    have hg3 : Grew w2 w3 := by rw [hw3]; exact grew_draw _ _ (grew_al (grew_refl _) _)
    have A3 := Lib.hid (A2.out.grew z2 hg3)
    have G3 := Lib.hid (grew_trans G2.out hg3)
    clear hg3 hw3 V3 p0 p1 p2 p3 p4
    obtain ⟨p0, p1, p2, p3, p4⟩ := A3.out
    go_wp2_with (first | (go_at_call 61; refine (V4.out _ G3.out).mono ?_; rintro e w4 ⟨z, rfl, hz, hzf, hg4⟩; have G4 := Lib.hid (grew_trans G3.out hg4); have HZ := Lib.hid hz; have HZF := Lib.hid hzf; clear hz hzf hg4) | (go_at_call 60; refine (c_checked _ _).mono ?_; rintro e w' ⟨rfl, nq, rfl⟩))
    refine bodyPost_ret (v := .tuple #[.float .f32 (chkW z), .bool (fin (cl .f32 z))]) (by simp [results, Try.results29, go_sem]) rfl ?_
    exact ⟨chkW z, by rw [HZ.out]; rfl, by rw [cl_chkW, HZ.out]; simp [chk, num], fits_chkW HZF.out, grew_draw _ _ G4.out⟩

end Go.Proofs.Ytlakmogclcpgdaa

/-
  CONTRACTS: what all rotors take from the wind, in the reference and in the program.
-/
namespace Go.Proofs.Ytlakmogclcpgdaa
open Go.RowKit Go.Flt
set_option linter.unusedVariables false
set_option maxRecDepth 100000
set_option linter.unusedSimpArgs false

def lsS (xs ys : List Nat) (r d s x y t : Nat) : Nat → Ieee.Datum
  | 0 => cl .f32 0
  | k + 1 => fop .add .f32 (lsS xs ys r d s x y t k) (fop .mul .f32 (wakeD xs ys r d s k x y t) (wakeD xs ys r d s k x y t))

def capD (x : Ieee.Datum) : Ieee.Datum := if flt (cl .f32 1065353216) x then cl .f32 1065353216 else x

/-- What all rotors take from the wind. -/
def lossD (xs ys : List Nat) (r d s x y t : Nat) : Ieee.Datum := capD (rootD (lsS xs ys r d s x y t xs.length))

theorem fits_one : fits 1065353216 := rfl

set_option maxHeartbeats 2000000 in
theorem c_l06Loss (b : Nat) (A C : Option Addr) (n cA m cC K : Nat) (xs ys : List Nat) (r d s x y t : Nat) (w : World) (hf : FmAt w b (.slice A n cA) (.slice C m cC) r d s) (hx : Fl w K A n xs) (hy : Fl w K C m ys) (hn : n ≤ 1048576) (hm : m = n) :
    Calls Try.prog 62 #[.pointer (some ⟨b, 0, none⟩), .float .f32 x, .float .f32 y, .float .f32 t] w (RetF (lossD xs ys r d s x y t) (Drawn w)) := by
  obtain rfl := hx.1
  have HW := Lib.hid (fun (k : Nat) w' (hk : k < xs.length) (hd : Drawn w w') => c_l06Wake b A C xs.length cA m cC K xs ys r d s k x y t w' (by obtain ⟨q, rfl⟩ := hd; exact hf) (by obtain ⟨q, rfl⟩ := hd; exact Fl.drewN hx q) (by obtain ⟨q, rfl⟩ := hd; exact Fl.drewN hy q) hn hm hk)
  obtain ⟨p0, _, _, _, _⟩ := hf
  have HT := Lib.hid (show lossD xs ys r d s x y t = capD (rootD (lsS xs ys r d s x y t xs.length)) from rfl)
  have H0 := Lib.hid (show lsS xs ys r d s x y t 0 = cl .f32 0 from rfl)
  have HS := Lib.hid (show ∀ k, lsS xs ys r d s x y t (k + 1) = fop .add .f32 (lsS xs ys r d s x y t k) (fop .mul .f32 (wakeD xs ys r d s k x y t) (wakeD xs ys r d s k x y t)) from fun _ => rfl)
  generalize lossD xs ys r d s x y t = T at *
  generalize lsS xs ys r d s x y t = L at *
  have hWD : ∃ WD : Nat → Ieee.Datum, ∀ k, WD k = wakeD xs ys r d s k x y t := ⟨fun k => wakeD xs ys r d s k x y t, fun _ => rfl⟩
  obtain ⟨WD, hWD⟩ := hWD
  simp only [← hWD] at HW HS
  clear hWD hx hy hm
  have NN := Lib.hid hn
  clear hn
  go_enter Try.func62, Try.ntmps62
  go_wp2_with fail
  go_loopw [9, 10] (fun sz si wr => ∃ (k z : Nat), k ≤ xs.length ∧ sz = .float .f32 z ∧ si = .int .i64 (k : Int) ∧ Hid (cl .f32 z = L k) ∧ Hid (Drawn w wr)) (fun _ si _ => xs.length - (intOf si).toNat)
  case atStart => exact ⟨0, 0, Nat.zero_le _, rfl, rfl, H0.out.symm, ⟨0, rfl⟩⟩
  case round =>
    obtain ⟨k, z, hk, rfl, rfl, hzk, hDr⟩ := hrel
    have q0 : wr.cell? ⟨b, 0, none⟩ = some (.slice A xs.length cA) := by obtain ⟨q, rfl⟩ := hDr.out; exact p0
    by_cases hlt : k < xs.length
    · have i3 : (0 : Int) ≤ (k : Int) := by omega
      have i4 : (k : Int) < (xs.length : Int) := by omega
      have HWR := Lib.hid (show wrap64 ((k : Int) + 1) = (k : Int) + 1 by have := NN.out; unfold wrap64; omega)
      go_wp2_with (first | (refine upon_fbin rfl _ _ _ _ ?_; intro z n hz hzw) | (go_at_call 58; refine (HW.out k _ hlt (by exact hDr.out)).mono ?_; rintro e w' ⟨zw, rfl, hzw1, hzf1, nz, rfl⟩))
      go_roundw
      case rel => exact ⟨k + 1, _, by omega, rfl, by have e := HWR.out; simp [e], by show cl _ _ = _; rw [HS.out, ← hzk.out]; simp only [*], drawn_trans hDr.out ⟨_, rfl⟩⟩
      case measure => have e := HWR.out; exact meas_less hlt e
    · obtain rfl : k = xs.length := by omega
      have i4 : ¬ (xs.length : Int) < (xs.length : Int) := by omega
      have hT := HT.out
      rw [← hzk.out] at hT
      have HTT := Lib.hid (show T = if flt (cl .f32 1065353216) (rootD (cl .f32 z)) then cl .f32 1065353216 else rootD (cl .f32 z) from hT)
      clear hT HT
      cases h1 : flt (cl .f32 1065353216) (rootD (cl .f32 z))
      all_goals
        rw [h1] at HTT
        have hE := HTT.out
        simp only [Bool.false_eq_true, if_false, if_true] at hE
        have HE := Lib.hid hE
        clear hE HTT
        go_wp2_with (first | (refine upon_fbin rfl _ _ _ _ ?_; intro z n hz hzw) | (go_at_call 80; refine (c_l01Sqrt _ _).mono ?_; rintro e w' ⟨r, rfl, hr, hrf, nq, rfl⟩))
        go_ret
        first
          | exact ⟨_, rfl, HE.out.symm, fits_one, drawn_trans hDr.out ⟨_, rfl⟩⟩
          | exact ⟨_, rfl, by rw [HE.out]; assumption, by assumption, drawn_trans hDr.out ⟨_, rfl⟩⟩

set_option maxHeartbeats 2000000 in
theorem c_lossAt (A C : Option Addr) (n cA m cC K : Nat) (xs ys : List Nat) (r d s x y t : Nat) (w : World) (hx : Fl w K A n xs) (hy : Fl w K C m ys) (hK : K ≤ w.heap.size) (hn : n ≤ 1048576) (hm : m = n) :
    Calls Try.prog 63 #[.agg #[.slice A n cA, .slice C m cC, .float .f32 r, .float .f32 d, .float .f32 s], .float .f32 x, .float .f32 y, .float .f32 t] w (RetF (lossD xs ys r d s x y t) (Grew w)) := by
  obtain rfl := hx.1
  have HX := fun w' (hg : Grew w w') => Slc.grew (g := Value.float .f32) (w' := w') hx hK hg
  have HY := fun w' (hg : Grew w w') => Slc.grew (g := Value.float .f32) (w' := w') hy hK hg
  have HW := Lib.hid (fun (k : Nat) w' (hk : k < xs.length) (hg : Grew w w') => c_wakeAt A C xs.length cA m cC K xs ys r d s k x y t w' (HX w' hg) (HY w' hg) (Nat.le_trans hK (Below.size hg)) hn hm hk)
  have HT := Lib.hid (show lossD xs ys r d s x y t = capD (rootD (lsS xs ys r d s x y t xs.length)) from rfl)
  have H0 := Lib.hid (show lsS xs ys r d s x y t 0 = cl .f32 0 from rfl)
  have HS := Lib.hid (show ∀ k, lsS xs ys r d s x y t (k + 1) = fop .add .f32 (lsS xs ys r d s x y t k) (fop .mul .f32 (wakeD xs ys r d s k x y t) (wakeD xs ys r d s k x y t)) from fun _ => rfl)
  generalize lossD xs ys r d s x y t = T at *
  generalize lsS xs ys r d s x y t = L at *
  have hWD : ∃ WD : Nat → Ieee.Datum, ∀ k, WD k = wakeD xs ys r d s k x y t := ⟨fun k => wakeD xs ys r d s k x y t, fun _ => rfl⟩
  obtain ⟨WD, hWD⟩ := hWD
  simp only [← hWD] at HW HS
  clear hWD HX HY hx hy hm hK
  have NN := Lib.hid hn
  clear hn
  go_enter Try.func63, Try.ntmps63
  go_upto_region 1 with fail
  have hG : Grew w (w.alloc (.cells #[.slice A xs.length cA, .slice C m cC, .float .f32 r, .float .f32 d, .float .f32 s] 25)) := by (show Below _ _ _; (repeat (first | exact Below.refl _ _ | refine ext_below ?_ (by first | omega | (simp only [size_ext, heap_push, Array.size_push, World.heap_drewN]; omega) | (simp; omega)) _ _ | refine below_draws ?_ _ | refine Below.alloc ?_ (by first | omega | (simp; done) | (simp; omega)) _ | refine Below.setCell ?_ (by first | omega | (simp; done) | (simp; omega)) _ | refine below_then (by assumption) (by first | omega | (simp; done) | (simp; omega)) ?_)))
  have A1 : FmAt (w.alloc (.cells #[.slice A xs.length cA, .slice C m cC, .float .f32 r, .float .f32 d, .float .f32 s] 25)) w.heap.size (.slice A xs.length cA) (.slice C m cC) r d s := by unfold FmAt; simp [go_sem]
  have hsz : w.heap.size < (w.alloc (.cells #[.slice A xs.length cA, .slice C m cC, .float .f32 r, .float .f32 d, .float .f32 s] 25)).heap.size := by simp
  have G1 := Lib.hid hG
  have HA := Lib.hid A1
  have HZ := Lib.hid hsz
  clear hG A1 hsz
  generalize w.alloc (.cells #[.slice A xs.length cA, .slice C m cC, .float .f32 r, .float .f32 d, .float .f32 s] 25) = w1 at *
  obtain ⟨p0, p1, p2, p3, p4⟩ := HA.out
  go_wp2_with fail
  clear p0 p1 p2 p3 p4
  go_loopw [9, 16] (fun sz si wr => ∃ (k z : Nat), k ≤ xs.length ∧ sz = .float .f32 z ∧ si = .int .i64 (k : Int) ∧ Hid (cl .f32 z = L k) ∧ Hid (Grew w1 wr)) (fun _ si _ => xs.length - (intOf si).toNat)
  case atStart => exact ⟨0, 0, Nat.zero_le _, rfl, rfl, H0.out.symm, grew_refl _⟩
  case round =>
    obtain ⟨k, z, hk, rfl, rfl, hzk, hDr⟩ := hrel
    obtain ⟨p0, p1, p2, p3, p4⟩ := HA.out.grew HZ.out hDr.out
    by_cases hlt : k < xs.length
    · have i3 : (0 : Int) ≤ (k : Int) := by omega
      have i4 : (k : Int) < (xs.length : Int) := by omega
      have HWR := Lib.hid (show wrap64 ((k : Int) + 1) = (k : Int) + 1 by have := NN.out; unfold wrap64; omega)
      go_wp2_with (first | (refine upon_fbin rfl _ _ _ _ ?_; intro z n hz hzw) | (go_at_call 61; refine (HW.out k _ hlt (grew_trans G1.out hDr.out)).mono ?_; rintro e w2 ⟨zw, rfl, hzw1, hzf1, hg2⟩; have G2 := Lib.hid (grew_trans hDr.out hg2); clear hg2 p0 p1 p2 p3 p4))
      go_roundw
      case rel => exact ⟨k + 1, _, by omega, rfl, by have e := HWR.out; simp [e], by show cl _ _ = _; rw [HS.out, ← hzk.out]; simp only [*], grew_draw _ _ G2.out⟩
      case measure => have e := HWR.out; exact meas_less hlt e
    · obtain rfl : k = xs.length := by omega
      have i4 : ¬ (xs.length : Int) < (xs.length : Int) := by omega
      have hT := HT.out
      rw [← hzk.out] at hT
      have HTT := Lib.hid (show T = if flt (cl .f32 1065353216) (rootD (cl .f32 z)) then cl .f32 1065353216 else rootD (cl .f32 z) from hT)
      clear hT HT p0 p1 p2 p3 p4
      have G3 := Lib.hid (grew_trans G1.out hDr.out)
      cases h1 : flt (cl .f32 1065353216) (rootD (cl .f32 z))
      all_goals
        rw [h1] at HTT
        have hE := HTT.out
        simp only [Bool.false_eq_true, if_false, if_true] at hE
        have HE := Lib.hid hE
        clear hE HTT
        go_wp2_with (first | (refine upon_fbin rfl _ _ _ _ ?_; intro z n hz hzw) | (go_at_call 55; refine (c_RootNumber _ _).mono ?_; rintro e w' ⟨r, rfl, hr, hrf, nq, rfl⟩))
        go_ret
        first
          | exact ⟨_, rfl, HE.out.symm, fits_one, grew_draw _ _ G3.out⟩
          | exact ⟨_, rfl, by rw [HE.out]; assumption, by assumption, grew_draw _ _ G3.out⟩

end Go.Proofs.Ytlakmogclcpgdaa

/-
  CONTRACTS: LossAt, in the reference and in the program.
-/
namespace Go.Proofs.Ytlakmogclcpgdaa
open Go.RowKit Go.Flt
set_option linter.unusedVariables false
set_option maxRecDepth 100000
set_option linter.unusedSimpArgs false

def okL (xs ys : List Nat) (r d s x y t : Nat) : Bool := vFarm xs ys r d s && fin3 x y t

set_option maxHeartbeats 2000000 in
theorem c_specLossAt (lo hi : Nat) (v : Value) (xs ys : List Nat) (r d s x y t : Nat) (w : World) (h : FarmAt w lo hi v xs ys r d s) (hK : hi ≤ w.heap.size) (hn : xs.length ≤ 1048576) (hm : ys.length ≤ 1048576) :
    Calls Try.prog 30 #[v, .float .f32 x, .float .f32 y, .float .f32 t] w (RetFB (num (okL xs ys r d s x y t) (lossD xs ys r d s x y t)) (okL xs ys r d s x y t && fin (lossD xs ys r d s x y t)) (Grew w)) := by
  obtain ⟨A, cA, C, cC, rfl, hx, hy⟩ := h.parts
  have HX := Lib.hid (fun w' (hg : Grew w w') => Slc.grew (g := Value.float .f32) (w' := w') hx hK hg)
  have HY := Lib.hid (fun w' (hg : Grew w w') => Slc.grew (g := Value.float .f32) (w' := w') hy hK hg)
  have V1 := Lib.hid (fun w' b hf (hg : Grew w w') => c_l06Can b A C xs.length cA ys.length cC hi xs ys r d s x y t w' hf (HX.out w' hg) (HY.out w' hg) (by unfold maxLen; omega) (by unfold maxLen; omega))
  clear h hx hy
  have HO := Lib.hid (show okL xs ys r d s x y t = (vFarm xs ys r d s && fin3 x y t) from rfl)
  rw [← HO.out] at V1
  cases k1 : okL xs ys r d s x y t
  · rw [k1] at V1
    clear HO hn hm k1
    generalize lossD xs ys r d s x y t = D at *
    go_enter Try.func30, Try.ntmps30
    go_wp2_with (go_at_call 56; refine (V1.out _ _ (by unfold FmAt; simp [go_sem]) (by (show Below _ _ _; (repeat (first | exact Below.refl _ _ | refine ext_below ?_ (by first | omega | (simp only [size_ext, heap_push, Array.size_push, World.heap_drewN]; omega) | (simp; omega)) _ _ | refine below_draws ?_ _ | refine Below.alloc ?_ (by first | omega | (simp; done) | (simp; omega)) _ | refine Below.setCell ?_ (by first | omega | (simp; done) | (simp; omega)) _ | refine below_then (by assumption) (by first | omega | (simp; done) | (simp; omega)) ?_))))).mono ?_; rintro e w' ⟨rfl, nq, rfl⟩)
    refine bodyPost_ret (v := .tuple #[.float .f32 0, .bool false]) (by simp [results, Try.results30, go_sem]) rfl ?_
    exact ⟨0, rfl, rfl, fits_zero, by (show Below _ _ _; (repeat (first | exact Below.refl _ _ | refine ext_below ?_ (by first | omega | (simp only [size_ext, heap_push, Array.size_push, World.heap_drewN]; omega) | (simp; omega)) _ _ | refine below_draws ?_ _ | refine Below.alloc ?_ (by first | omega | (simp; done) | (simp; omega)) _ | refine Below.setCell ?_ (by first | omega | (simp; done) | (simp; omega)) _ | refine below_then (by assumption) (by first | omega | (simp; done) | (simp; omega)) ?_)))⟩
  · rw [k1] at V1
    have hA := HO.out.symm.trans k1
    simp only [Bool.and_eq_true] at hA
    obtain ⟨n1, n2, n3, _, _⟩ := vFarm_near hA.1
    have V3 := Lib.hid (fun w' b hf (hg : Grew w w') => c_l06Loss b A C xs.length cA ys.length cC hi xs ys r d s x y t w' hf (HX.out w' hg) (HY.out w' hg) hn n3)
    generalize lossD xs ys r d s x y t = D at *
    clear HO k1 hA n1 n2 n3 hn hm
    go_enter Try.func30, Try.ntmps30
    go_wp2_with (first | (go_at_call 56; refine (V1.out _ _ (by unfold FmAt; simp [go_sem]) (by (show Below _ _ _; (repeat (first | exact Below.refl _ _ | refine ext_below ?_ (by first | omega | (simp only [size_ext, heap_push, Array.size_push, World.heap_drewN]; omega) | (simp; omega)) _ _ | refine below_draws ?_ _ | refine Below.alloc ?_ (by first | omega | (simp; done) | (simp; omega)) _ | refine Below.setCell ?_ (by first | omega | (simp; done) | (simp; omega)) _ | refine below_then (by assumption) (by first | omega | (simp; done) | (simp; omega)) ?_))))).mono ?_; rintro e w' ⟨rfl, nq, rfl⟩) | (go_at_call 62; refine (V3.out _ _ (by unfold FmAt; simp [go_sem]) (by (show Below _ _ _; (repeat (first | exact Below.refl _ _ | refine ext_below ?_ (by first | omega | (simp only [size_ext, heap_push, Array.size_push, World.heap_drewN]; omega) | (simp; omega)) _ _ | refine below_draws ?_ _ | refine Below.alloc ?_ (by first | omega | (simp; done) | (simp; omega)) _ | refine Below.setCell ?_ (by first | omega | (simp; done) | (simp; omega)) _ | refine below_then (by assumption) (by first | omega | (simp; done) | (simp; omega)) ?_))))).mono ?_; rintro e w' ⟨z, rfl, hz, hzf, nz, rfl⟩; have HZ := Lib.hid hz; have HZF := Lib.hid hzf; clear hz hzf) | (go_at_call 57; refine (c_l02Number _ _).mono ?_; rintro e w' ⟨rfl, nq, rfl⟩))
    refine bodyPost_ret (v := .tuple #[.float .f32 (chkW z), .bool (fin (cl .f32 z))]) (by simp [results, Try.results30, go_sem]) rfl ?_
    exact ⟨chkW z, by rw [HZ.out]; rfl, by rw [cl_chkW, HZ.out]; simp [chk, num], fits_chkW HZF.out, by (show Below _ _ _; (repeat (first | exact Below.refl _ _ | refine ext_below ?_ (by first | omega | (simp only [size_ext, heap_push, Array.size_push, World.heap_drewN]; omega) | (simp; omega)) _ _ | refine below_draws ?_ _ | refine Below.alloc ?_ (by first | omega | (simp; done) | (simp; omega)) _ | refine Below.setCell ?_ (by first | omega | (simp; done) | (simp; omega)) _ | refine below_then (by assumption) (by first | omega | (simp; done) | (simp; omega)) ?_)))⟩

set_option maxHeartbeats 2000000 in
theorem c_implLossAt (lo hi : Nat) (v : Value) (xs ys : List Nat) (r d s x y t : Nat) (w : World) (h : FarmAt w lo hi v xs ys r d s) (hK : hi ≤ w.heap.size) (hn : xs.length ≤ 1048576) (hm : ys.length ≤ 1048576) :
    Calls Try.prog 31 #[v, .float .f32 x, .float .f32 y, .float .f32 t] w (RetFB (num (okL xs ys r d s x y t) (lossD xs ys r d s x y t)) (okL xs ys r d s x y t && fin (lossD xs ys r d s x y t)) (Grew w)) := by
  have V1 := Lib.hid (fun w' (hg : Grew w w') => c_implValidFarm' lo hi v xs ys r d s w' (h.grew hK hg) (Nat.le_trans hK (Below.size hg)))
  obtain ⟨A, cA, C, cC, rfl, hx, hy⟩ := h.parts
  have HX := Lib.hid (fun w' (hg : Grew w w') => Slc.grew (g := Value.float .f32) (w' := w') hx hK hg)
  have HY := Lib.hid (fun w' (hg : Grew w w') => Slc.grew (g := Value.float .f32) (w' := w') hy hK hg)
  have V3 := Lib.hid (c_fin3 x y t)
  clear h hx hy
  have HO := Lib.hid (show okL xs ys r d s x y t = (vFarm xs ys r d s && fin3 x y t) from rfl)
  cases k1 : okL xs ys r d s x y t
  · have hA := HO.out.symm.trans k1
    clear HO hn hm k1 hK
    generalize lossD xs ys r d s x y t = D at *
    generalize vFarm xs ys r d s = VF at *
    generalize fin3 x y t = F3 at *
    cases VF <;> cases F3 <;> simp only [Bool.and_true, Bool.and_false, Bool.true_and, Bool.false_and, Bool.true_eq_false] at hA
    all_goals
      clear hA
      go_enter Try.func31, Try.ntmps31
      go_wp2_with fail
      refine (V1.out _ (by (show Below _ _ _; (repeat (first | exact Below.refl _ _ | refine ext_below ?_ (by first | omega | (simp only [size_ext, heap_push, Array.size_push, World.heap_drewN]; omega) | (simp; omega)) _ _ | refine below_draws ?_ _ | refine Below.alloc ?_ (by first | omega | (simp; done) | (simp; omega)) _ | refine Below.setCell ?_ (by first | omega | (simp; done) | (simp; omega)) _ | refine below_then (by assumption) (by first | omega | (simp; done) | (simp; omega)) ?_))))).mono ?_
      rintro e w1 ⟨rfl, hg1⟩
      have G1 := Lib.hid (grew_trans (show Grew w _ by (show Below _ _ _; (repeat (first | exact Below.refl _ _ | refine ext_below ?_ (by first | omega | (simp only [size_ext, heap_push, Array.size_push, World.heap_drewN]; omega) | (simp; omega)) _ _ | refine below_draws ?_ _ | refine Below.alloc ?_ (by first | omega | (simp; done) | (simp; omega)) _ | refine Below.setCell ?_ (by first | omega | (simp; done) | (simp; omega)) _ | refine below_then (by assumption) (by first | omega | (simp; done) | (simp; omega)) ?_)))) hg1)
      clear hg1 V1
      go_wp2_with (first | (go_at_call 59; refine (V3.out _ _ _ (fl_new _ [x, y, t] _ _ _ (by simp) rfl)).mono ?_; rintro e w' ⟨rfl, nq, rfl⟩))
      refine bodyPost_ret (v := .tuple #[.float .f32 0, .bool false]) (by simp [results, Try.results31, go_sem]) rfl ?_
      exact ⟨0, rfl, rfl, fits_zero, by first | exact G1.out | exact grew_draw _ _ (grew_al G1.out _)⟩
  · have hA := HO.out.symm.trans k1
    simp only [Bool.and_eq_true] at hA
    obtain ⟨k2, k4⟩ := hA
    obtain ⟨n1, n2, n3, _, _⟩ := vFarm_near k2
    have V4 := Lib.hid (fun w' (hg : Grew w w') => c_lossAt A C xs.length cA ys.length cC hi xs ys r d s x y t w' (HX.out w' hg) (HY.out w' hg) (Nat.le_trans hK (Below.size hg)) hn n3)
    rw [k2] at V1
    rw [k4] at V3
    generalize lossD xs ys r d s x y t = D at *
    clear HO k1 k2 k4 n1 n2 n3 hn hm
    go_enter Try.func31, Try.ntmps31
    go_wp2_with fail
    refine (V1.out _ (by (show Below _ _ _; (repeat (first | exact Below.refl _ _ | refine ext_below ?_ (by first | omega | (simp only [size_ext, heap_push, Array.size_push, World.heap_drewN]; omega) | (simp; omega)) _ _ | refine below_draws ?_ _ | refine Below.alloc ?_ (by first | omega | (simp; done) | (simp; omega)) _ | refine Below.setCell ?_ (by first | omega | (simp; done) | (simp; omega)) _ | refine below_then (by assumption) (by first | omega | (simp; done) | (simp; omega)) ?_))))).mono ?_
    rintro e w1 ⟨rfl, hg1⟩
    have G1 := Lib.hid (grew_trans (show Grew w _ by (show Below _ _ _; (repeat (first | exact Below.refl _ _ | refine ext_below ?_ (by first | omega | (simp only [size_ext, heap_push, Array.size_push, World.heap_drewN]; omega) | (simp; omega)) _ _ | refine below_draws ?_ _ | refine Below.alloc ?_ (by first | omega | (simp; done) | (simp; omega)) _ | refine Below.setCell ?_ (by first | omega | (simp; done) | (simp; omega)) _ | refine below_then (by assumption) (by first | omega | (simp; done) | (simp; omega)) ?_)))) hg1)
    have A1 : Hid (FmAt w1 w.heap.size (.slice A xs.length cA) (.slice C ys.length cC) r d s) := Lib.hid (FmAt.grew (by unfold FmAt; simp [go_sem]) (by simp <;> omega) hg1)
    have z0 : w.heap.size < w1.heap.size := by have := Below.size hg1; simp at this; omega
    clear hg1 V1
    obtain ⟨p0, p1, p2, p3, p4⟩ := A1.out
    go_wp2_with fail
    refine (V3.out _ _ _ (fl_new _ [x, y, t] _ _ _ (by simp) rfl)).mono ?_
    rintro e w3 ⟨rfl, nq, hw3⟩
    have hg3 : Grew w1 w3 := by rw [hw3]; exact grew_draw _ _ (grew_al (grew_refl _) _)
    have A3 := Lib.hid (A1.out.grew z0 hg3)
    have G3 := Lib.hid (grew_trans G1.out hg3)
    clear hg3 hw3 V3 p0 p1 p2 p3 p4
    obtain ⟨p0, p1, p2, p3, p4⟩ := A3.out
    go_wp2_with (first | (go_at_call 63; refine (V4.out _ G3.out).mono ?_; rintro e w4 ⟨z, rfl, hz, hzf, hg4⟩; have G4 := Lib.hid (grew_trans G3.out hg4); have HZ := Lib.hid hz; have HZF := Lib.hid hzf; clear hz hzf hg4) | (go_at_call 60; refine (c_checked _ _).mono ?_; rintro e w' ⟨rfl, nq, rfl⟩))
    refine bodyPost_ret (v := .tuple #[.float .f32 (chkW z), .bool (fin (cl .f32 z))]) (by simp [results, Try.results31, go_sem]) rfl ?_
    exact ⟨chkW z, by rw [HZ.out]; rfl, by rw [cl_chkW, HZ.out]; simp [chk, num], fits_chkW HZF.out, grew_draw _ _ G4.out⟩

end Go.Proofs.Ytlakmogclcpgdaa

/-
  WALK: the law of LossAt.
-/
namespace Go.Proofs.Ytlakmogclcpgdaa
open Go.RowKit Go.Flt
set_option linter.unusedVariables false
set_option maxRecDepth 100000
set_option linter.unusedSimpArgs false

set_option maxHeartbeats 4000000 in
theorem walk_LossAt_ok (A0 : Option Addr) (n0 c0 : Nat) (xs0 : List Nat) (B0 : Option Addr) (m0 e0 : Nat) (ys0 : List Nat) (r0 d0 s0 : Nat) (a1 : Nat) (a2 : Nat) (a3 : Nat) (w : World) (hx0 : Slc (Value.float .f32) w w.heap.size A0 n0 xs0) (hn0 : n0 ≤ maxLen) (fx0 : ∀ x ∈ xs0, fits x) (hy0 : Slc (Value.float .f32) w w.heap.size B0 m0 ys0) (hm0 : m0 ≤ maxLen) (fy0 : ∀ x ∈ ys0, fits x) (fr0 : fits r0) (fd0 : fits d0) (fs0 : fits s0) (fa1 : fits a1) (fa2 : fits a2) (fa3 : fits a3) (g0 : ((n0 + m0 : Nat) : Int) ≤ 1048576) :
    Calls Try.prog 9 #[.agg #[.slice A0 n0 c0, .slice B0 m0 e0, .float .f32 r0, .float .f32 d0, .float .f32 s0], .float .f32 a1, .float .f32 a2, .float .f32 a3] w fun e w' => e = .returned (.bool true) ∧ Below w.heap.size w w' := by
  obtain rfl := hx0.1
  obtain rfl := hy0.1
  have lx0 : Hid (xs0.length ≤ 1048576) := by show _ ≤ _; omega
  have ly0 : Hid (ys0.length ≤ 1048576) := by show _ ≤ _; omega
  have SA0 := Lib.hid (fun w => c_szFarm' A0 B0 _ c0 _ e0 r0 d0 s0 1048576 w hn0 hm0 (by omega) (by omega))
  rw [sz_ok g0] at SA0
  generalize hleft0 : ((1048576 : Int) - ((xs0.length + ys0.length : Nat) : Int)) = left0 at *
  have dl0 : decide (left0 < 0) = false := by simp; omega
  have TA0 := Lib.hid (fun w' (hg : Grew w w') => c_toFarm A0 B0 _ c0 _ e0 r0 d0 s0 xs0 ys0 w' (Slc.mono (Slc.grew hx0 (Nat.le_refl _) hg) (Below.size hg)) (Slc.mono (Slc.grew hy0 (Nat.le_refl _) hg) (Below.size hg)) lx0.out ly0.out)
  have CS := Lib.hid (fun lo0 hi0 v0 (w : World) (h0 : FarmAt w lo0 hi0 v0 xs0 ys0 r0 d0 s0) (k0 : hi0 ≤ w.heap.size) => c_specLossAt lo0 hi0 v0 xs0 ys0 r0 d0 s0 a1 a2 a3 w h0 k0 lx0.out ly0.out)
  have CI := Lib.hid (fun lo0 hi0 v0 (w : World) (h0 : FarmAt w lo0 hi0 v0 xs0 ys0 r0 d0 s0) (k0 : hi0 ≤ w.heap.size) => c_implLossAt lo0 hi0 v0 xs0 ys0 r0 d0 s0 a1 a2 a3 w h0 k0 lx0.out ly0.out)
  generalize (num (okL xs0 ys0 r0 d0 s0 a1 a2 a3) (lossD xs0 ys0 r0 d0 s0 a1 a2 a3)) = D at CS CI
  generalize (okL xs0 ys0 r0 d0 s0 a1 a2 a3 && fin (lossD xs0 ys0 r0 d0 s0 a1 a2 a3)) = S at CS CI
  clear hx0 hn0 fx0 hy0 hm0 fy0 fr0 fd0 fs0 fa1 fa2 fa3 g0
  have G : Hid (Grew w w) := grew_refl w
  have W0 : Hid (Grew w (w.alloc (.cells #[.slice A0 xs0.length c0, .slice B0 ys0.length e0, .float .f32 r0, .float .f32 d0, .float .f32 s0] 31))) := by show Grew _ _; (show Below _ _ _; (repeat (first | exact Below.refl _ _ | refine ext_below ?_ (by first | omega | (simp only [size_ext, heap_push, Array.size_push, World.heap_drewN]; omega) | (simp; omega)) _ _ | refine below_draws ?_ _ | refine Below.alloc ?_ (by first | omega | (simp; done) | (simp; omega)) _ | refine Below.setCell ?_ (by first | omega | (simp; done) | (simp; omega)) _ | refine below_then (by assumption) (by first | omega | (simp; done) | (simp; omega)) ?_)))
  clear hleft0
  go_enter Try.func9, Try.ntmps9
  go_wp2_with fail
  refine (SA0.out _).mono ?_
  rintro e w1 ⟨rfl, hg0⟩
  have hg : Grew w w1 := grew_trans W0.out hg0
  replace G := Lib.hid (grew_trans G.out hg)
  have A0b := Lib.hid ((Loc.fm (w := (w.alloc (.cells #[.slice A0 xs0.length c0, .slice B0 ys0.length e0, .float .f32 r0, .float .f32 d0, .float .f32 s0] 31))) (b := w.heap.size) (X := .slice A0 xs0.length c0) (Y := .slice B0 ys0.length e0) (r := r0) (d := d0) (s := s0) (by unfold FmAt; simp) (by simp <;> omega)).grew hg0)
  have N1 : Hid (w.heap.size + 1 ≤ w1.heap.size) := by have := Below.size hg0; (try simp at this); show _ ≤ _; omega
  clear hg hg0
  clear W0
  clear SA0
  obtain ⟨a0b_0, a0b_1, a0b_2, a0b_3, a0b_4⟩ := A0b.out.now
  have a0b_b := A0b.out.lt
  go_wp2_with fail
  refine (TA0.out _ G.out).mono ?_
  rintro e w2 ⟨v, rfl, hr, hg0⟩
  clear a0b_0 a0b_1 a0b_2 a0b_3 a0b_4 a0b_b
  have hg : Grew w1 w2 := hg0
  replace A0b := Lib.hid (A0b.out.grew hg)
  replace G := Lib.hid (grew_trans G.out hg)
  have N2 : Hid (w1.heap.size ≤ w2.heap.size) := by have := Below.size hg0; (try simp at this); show _ ≤ _; omega
  try rw [size_al] at hr
  clear hg hg0
  obtain ⟨XT0, xT0, YT0, yT0, rfl, _, _⟩ := hr.parts
  have T0 := Lib.hid (Loc.farm hr (Nat.le_refl _))
  clear hr
  go_wp2_with fail
  refine (CS.out _ _ _ _ T0.out.now T0.out.le).mono ?_
  rintro e w3 ⟨rF, rfl, hz, hfit, hg0⟩
  have hg : Grew w2 w3 := hg0
  replace A0b := Lib.hid (A0b.out.grew hg)
  replace T0 := Lib.hid (T0.out.grew hg)
  replace G := Lib.hid (grew_trans G.out hg)
  have N3 : Hid (w2.heap.size ≤ w3.heap.size) := by have := Below.size hg0; (try simp at this); show _ ≤ _; omega
  clear hg hg0
  clear T0
  have ZF := Lib.hid hz
  have IF := Lib.hid hfit
  clear hz hfit
  obtain ⟨a0b_0, a0b_1, a0b_2, a0b_3, a0b_4⟩ := A0b.out.now
  have a0b_b := A0b.out.lt
  go_wp2_with fail
  refine (TA0.out _ G.out).mono ?_
  rintro e w4 ⟨v, rfl, hr, hg0⟩
  clear a0b_0 a0b_1 a0b_2 a0b_3 a0b_4 a0b_b
  have hg : Grew w3 w4 := hg0
  replace A0b := Lib.hid (A0b.out.grew hg)
  replace G := Lib.hid (grew_trans G.out hg)
  have N4 : Hid (w3.heap.size ≤ w4.heap.size) := by have := Below.size hg0; (try simp at this); show _ ≤ _; omega
  try rw [size_al] at hr
  clear hg hg0
  obtain ⟨XC0, xC0, YC0, yC0, rfl, _, _⟩ := hr.parts
  have C0 := Lib.hid (Loc.farm hr (Nat.le_refl _))
  clear hr
  go_wp2_with fail
  have hal : Grew w4 (w4.alloc (.cells #[.slice XC0 xs0.length xC0, .slice YC0 ys0.length yC0, .float .f32 r0, .float .f32 d0, .float .f32 s0] 25)) := grew_al (grew_refl _) _
  refine (CI.out _ _ _ _ (C0.out.grew hal).now (C0.out.grew hal).le).mono ?_
  rintro e w5 ⟨rV, rfl, hz, hfit, hg0⟩
  have hg : Grew w4 w5 := grew_trans hal hg0
  replace A0b := Lib.hid (A0b.out.grew hg)
  replace C0 := Lib.hid (C0.out.grew hg)
  replace G := Lib.hid (grew_trans G.out hg)
  have Q0 := Lib.hid ((Loc.fm (w := (w4.alloc (.cells #[.slice XC0 xs0.length xC0, .slice YC0 ys0.length yC0, .float .f32 r0, .float .f32 d0, .float .f32 s0] 25))) (b := w4.heap.size) (X := .slice XC0 xs0.length xC0) (Y := .slice YC0 ys0.length yC0) (r := r0) (d := d0) (s := s0) (by unfold FmAt; simp) (by simp <;> omega)).grew hg0)
  have N5 : Hid (w4.heap.size + 1 ≤ w5.heap.size) := by have := Below.size hg0; (try simp at this); show _ ≤ _; omega
  clear hg hg0 hal
  have ZV := Lib.hid hz
  have IV := Lib.hid hfit
  clear hz hfit
  have ss : (S != S) = false := by simp
  have sf : cl .f32 rV = cl .f32 rF := ZV.out.trans ZF.out.symm
  go_wp2_with (first | (refine upon_widen _ _ _ some_f32 Try.underlying43 ?_; intro z n hz hzw) | (go_at_call 27; refine (c_sameFloat _ _ _ (by simp only [*])).mono ?_; rintro e w6 ⟨rfl, hw⟩; have hg : Grew w5 w6 := grew_trans (grew_draw _ _ (grew_refl _)) (grew_drawn' hw); replace A0b := Lib.hid (A0b.out.grew hg); replace C0 := Lib.hid (C0.out.grew hg); replace Q0 := Lib.hid (Q0.out.grew hg); replace G := Lib.hid (grew_trans G.out hg); have N6 : Hid (w5.heap.size ≤ w6.heap.size) := Below.size hg; clear hw hg sf; obtain ⟨a0b_0, a0b_1, a0b_2, a0b_3, a0b_4⟩ := A0b.out.now; have a0b_b := A0b.out.lt; obtain ⟨q0_0, q0_1, q0_2, q0_3, q0_4⟩ := Q0.out.now; have q0_b := Q0.out.lt))
  try simp only [List.append_eq, List.cons_append, List.nil_append]
  refine wp_region_grow [52] [(52, W2 <| FarmBy w6.heap.size xs0 ys0 r0 d0 s0), (53, W2 <| Is (.bool true))] (by kernel_rfl) (by kernel_rfl) (by kernel_rfl) (by kernel_rfl) ?_
  repeat (first | (refine wpG_skip rfl ?_; try go_simp) | (refine wpG_want rfl (fun K hK => ?_); first | (refine gG_fbin rfl rfl _ _ _ rfl rfl rfl ?_; intro z hz hzw; go_simp; refine hK _ ?_; clear hK K) | (intro wq hq hp; obtain ⟨hqc, hqf⟩ := bcell hq; go_simp; first | (refine hK _ ?_; clear hK K; try clear hp; try clear hqc hqf; try clear hq; try clear wq) | ((with_reducible refine g_at 19 ?_); refine ⟨(TA0.out wq (grew_trans G.out hq)).mono fun e w3 ⟨v, he, h, hg⟩ => ⟨v, he, ⟨_, Below.size hq, h⟩, hg⟩, ?_⟩; rintro v w3 hg3 hfa; refine hK _ ?_; clear hK K; try clear hp; try clear hqc hqf; try clear hq; try clear wq) | ((with_reducible refine g_at 14 ?_); obtain ⟨lo, hi, _, hs, h1⟩ := FarmBy.get (hp 52 (by simp) (by decide)) hfa.ne rfl; refine ⟨(c_eqFarm _ _ lo hi _ _ xs0 ys0 xs0 ys0 r0 d0 s0 r0 d0 s0 wq (C0.out.grew hq).now h1 rfl rfl rfl rfl rfl lx0.out ly0.out).mono fun e w3 ⟨he, hg⟩ => ⟨_, he, rfl, hg⟩, ?_⟩; rintro v w3 hg3 rfl; refine hK _ ?_; clear hK K; try clear hp; try clear hqc hqf; try clear hq; try clear wq))))
  refine wpG_nil ?_
  intro w7 hq hal hap
  obtain ⟨hqc, hqf⟩ := bcell hq
  have hqs := Below.size hq
  try simp at hqs
  clear hap
  clear a0b_0 a0b_1 a0b_2 a0b_3 a0b_4 a0b_b q0_0 q0_1 q0_2 q0_3 q0_4 q0_b
  clear hqc hqf hal
  replace A0b := Lib.hid (A0b.out.grew hq)
  replace C0 := Lib.hid (C0.out.grew hq)
  replace Q0 := Lib.hid (Q0.out.grew hq)
  replace G := Lib.hid (grew_trans G.out hq)
  have N7 : Hid (w6.heap.size ≤ w7.heap.size) := Below.size hq
  clear hq hqs
  go_wp2_with fail
  go_ret
  exact ⟨rfl, G.out⟩

set_option maxHeartbeats 4000000 in
theorem walk_LossAt_bad0 (A0 : Option Addr) (n0 c0 : Nat) (xs0 : List Nat) (B0 : Option Addr) (m0 e0 : Nat) (ys0 : List Nat) (r0 d0 s0 : Nat) (a1 : Nat) (a2 : Nat) (a3 : Nat) (w : World) (hx0 : Slc (Value.float .f32) w w.heap.size A0 n0 xs0) (hn0 : n0 ≤ maxLen) (fx0 : ∀ x ∈ xs0, fits x) (hy0 : Slc (Value.float .f32) w w.heap.size B0 m0 ys0) (hm0 : m0 ≤ maxLen) (fy0 : ∀ x ∈ ys0, fits x) (fr0 : fits r0) (fd0 : fits d0) (fs0 : fits s0) (fa1 : fits a1) (fa2 : fits a2) (fa3 : fits a3)  (g0 : ¬ (((n0 + m0 : Nat) : Int) ≤ 1048576)) :
    Calls Try.prog 9 #[.agg #[.slice A0 n0 c0, .slice B0 m0 e0, .float .f32 r0, .float .f32 d0, .float .f32 s0], .float .f32 a1, .float .f32 a2, .float .f32 a3] w fun e w' => e = .returned (.bool true) ∧ Below w.heap.size w w' := by
  obtain rfl := hx0.1
  obtain rfl := hy0.1
  have SA0 := Lib.hid (fun w => c_szFarm' A0 B0 _ c0 _ e0 r0 d0 s0 1048576 w hn0 hm0 (by omega) (by omega))
  rw [sz_no g0] at SA0
  have G : Hid (Grew w w) := grew_refl w
  clear hx0 hy0
  have W0 : Hid (Grew w (w.alloc (.cells #[.slice A0 xs0.length c0, .slice B0 ys0.length e0, .float .f32 r0, .float .f32 d0, .float .f32 s0] 31))) := by show Grew _ _; (show Below _ _ _; (repeat (first | exact Below.refl _ _ | refine ext_below ?_ (by first | omega | (simp only [size_ext, heap_push, Array.size_push, World.heap_drewN]; omega) | (simp; omega)) _ _ | refine below_draws ?_ _ | refine Below.alloc ?_ (by first | omega | (simp; done) | (simp; omega)) _ | refine Below.setCell ?_ (by first | omega | (simp; done) | (simp; omega)) _ | refine below_then (by assumption) (by first | omega | (simp; done) | (simp; omega)) ?_)))
  clear g0
  go_enter Try.func9, Try.ntmps9
  go_wp2_with fail
  refine (SA0.out _).mono ?_
  rintro e w1 ⟨rfl, hg0⟩
  have hg : Grew w w1 := grew_trans W0.out hg0
  replace G := Lib.hid (grew_trans G.out hg)
  have A0b := Lib.hid ((Loc.fm (w := (w.alloc (.cells #[.slice A0 xs0.length c0, .slice B0 ys0.length e0, .float .f32 r0, .float .f32 d0, .float .f32 s0] 31))) (b := w.heap.size) (X := .slice A0 xs0.length c0) (Y := .slice B0 ys0.length e0) (r := r0) (d := d0) (s := s0) (by unfold FmAt; simp) (by simp <;> omega)).grew hg0)
  have N1 : Hid (w.heap.size + 1 ≤ w1.heap.size) := by have := Below.size hg0; (try simp at this); show _ ≤ _; omega
  clear hg hg0
  go_wp2_with fail
  go_ret
  exact ⟨rfl, G.out⟩

set_option maxHeartbeats 4000000 in
theorem walk_LossAt (A0 : Option Addr) (n0 c0 : Nat) (xs0 : List Nat) (B0 : Option Addr) (m0 e0 : Nat) (ys0 : List Nat) (r0 d0 s0 : Nat) (a1 : Nat) (a2 : Nat) (a3 : Nat) (w : World) (hx0 : Slc (Value.float .f32) w w.heap.size A0 n0 xs0) (hn0 : n0 ≤ maxLen) (fx0 : ∀ x ∈ xs0, fits x) (hy0 : Slc (Value.float .f32) w w.heap.size B0 m0 ys0) (hm0 : m0 ≤ maxLen) (fy0 : ∀ x ∈ ys0, fits x) (fr0 : fits r0) (fd0 : fits d0) (fs0 : fits s0) (fa1 : fits a1) (fa2 : fits a2) (fa3 : fits a3)  :
    Calls Try.prog 9 #[.agg #[.slice A0 n0 c0, .slice B0 m0 e0, .float .f32 r0, .float .f32 d0, .float .f32 s0], .float .f32 a1, .float .f32 a2, .float .f32 a3] w fun e w' => e = .returned (.bool true) ∧ Below w.heap.size w w' := by
  by_cases g0 : ((n0 + m0 : Nat) : Int) ≤ 1048576
  case neg => exact walk_LossAt_bad0 A0 n0 c0 xs0 B0 m0 e0 ys0 r0 d0 s0 a1 a2 a3 w hx0 hn0 fx0 hy0 hm0 fy0 fr0 fd0 fs0 fa1 fa2 fa3  g0
  exact walk_LossAt_ok A0 n0 c0 xs0 B0 m0 e0 ys0 r0 d0 s0 a1 a2 a3 w hx0 hn0 fx0 hy0 hm0 fy0 fr0 fd0 fs0 fa1 fa2 fa3 g0


end Go.Proofs.Ytlakmogclcpgdaa

