/-
  CONTRACTS: what a rotor takes from the wind, in the program.
-/
import Derived.Test.YtlakmogclcpgdaaWakeX
import Derived.Test.YtlakmogclcpgdaaYawX
namespace Go.Proofs.Ytlakmogclcpgdaa
open Go.RowKit Go.Flt
set_option linter.unusedVariables false
set_option maxRecDepth 100000
set_option linter.unusedSimpArgs false

set_option maxHeartbeats 4000000 in
theorem c_wakeAt (A C : Option Addr) (n cA m cC K : Nat) (xs ys : List Nat) (r d s i x y t : Nat) (w : World) (hx : Fl w K A n xs) (hy : Fl w K C m ys) (hK : K ≤ w.heap.size) (hn : n ≤ 1048576) (hm : m = n) (hi : i < n) :
    Calls Try.prog 61 #[.agg #[.slice A n cA, .slice C m cC, .float .f32 r, .float .f32 d, .float .f32 s], .int .i64 i, .float .f32 x, .float .f32 y, .float .f32 t] w (RetF (wakeD xs ys r d s i x y t) (Grew w)) := by
  obtain rfl := hx.1
  have hl := hy.1
  subst hm
  obtain ⟨bx, ox, rfl, hbx, hcx⟩ := hx.2 (by omega)
  obtain ⟨by', oy, rfl, hby, hcy⟩ := hy.2 (by omega)
  have c1 := hcx i (xs.getD i 0) (by simp [hi])
  have c2 := hcy i (ys.getD i 0) (by simp [show i < ys.length by omega])
  have HT := Lib.hid (show wakeD xs ys r d s i x y t = wakeV (xs.getD i 0) (ys.getD i 0) r d s x y t from rfl)
  generalize wakeD xs ys r d s i x y t = T at *
  clear hx hy hcx hcy hl
  generalize xs.getD i 0 = x1 at *
  generalize ys.getD i 0 = y1 at *
  have HV := Lib.hid (show wakeV x1 y1 r d s x y t = if flt (cl .f32 0) (wkAl x1 y1 x y t) && leF (absD (wkAc x1 y1 x y t)) (wkW x1 y1 r s x y t) then fop .mul .f32 (fop .mul .f32 (fop .mul .f32 (cl .f32 1073741824) (cl .f32 d)) (wkQ x1 y1 r s x y t)) (wkQ x1 y1 r s x y t) else cl .f32 0 from rfl)
  have HQ := Lib.hid (show wkQ x1 y1 r s x y t = fop .quo .f32 (cl .f32 r) (wkW x1 y1 r s x y t) from rfl)
  have HW := Lib.hid (show wkW x1 y1 r s x y t = fop .add .f32 (cl .f32 r) (fop .mul .f32 (cl .f32 s) (wkAl x1 y1 x y t)) from rfl)
  have HAL := Lib.hid (show wkAl x1 y1 x y t = fop .add .f32 (fop .mul .f32 (wkU x x1) (wkC t)) (fop .mul .f32 (wkU y y1) (turnD (cl .f32 t))) from rfl)
  have HAC := Lib.hid (show wkAc x1 y1 x y t = fop .sub .f32 (fop .mul .f32 (wkU y y1) (wkC t)) (fop .mul .f32 (wkU x x1) (turnD (cl .f32 t))) from rfl)
  have HC := Lib.hid (show wkC t = turnD (fop .add .f32 (cl .f32 t) (cl .f32 1048576000)) from rfl)
  have HU := Lib.hid (show wkU x x1 = fop .sub .f32 (cl .f32 x) (cl .f32 x1) from rfl)
  have HY := Lib.hid (show wkU y y1 = fop .sub .f32 (cl .f32 y) (cl .f32 y1) from rfl)
  generalize wakeV x1 y1 r d s x y t = V at *
  generalize wkQ x1 y1 r s x y t = QQ at *
  generalize wkW x1 y1 r s x y t = WW at *
  generalize wkAl x1 y1 x y t = AL at *
  generalize wkAc x1 y1 x y t = AC at *
  generalize wkC t = CC at *
  generalize wkU x x1 = U at *
  generalize wkU y y1 = Y at *
  have i3 : (0 : Int) ≤ (i : Int) := by omega
  have i4 : (i : Int) < (xs.length : Int) := by omega
  have i6 : IntKind.i64.wrap (i : Int) = (i : Int) := by rw [IntKind.wrap_i64]; omega
  have i7 : bx < w.heap.size := by omega
  have i8 : by' < w.heap.size := by omega
  clear hn hi hbx hby hK
  go_enter Try.func61, Try.ntmps61
  go_upto_region 1 with fail
  have hG : Grew w (w.alloc (.cells #[.slice (some ⟨bx, ox, none⟩) xs.length cA, .slice (some ⟨by', oy, none⟩) xs.length cC, .float .f32 r, .float .f32 d, .float .f32 s] 25)) := by (show Below _ _ _; (repeat (first | exact Below.refl _ _ | refine ext_below ?_ (by first | omega | (simp only [size_ext, heap_push, Array.size_push, World.heap_drewN]; omega) | (simp; omega)) _ _ | refine below_draws ?_ _ | refine Below.alloc ?_ (by first | omega | (simp; done) | (simp; omega)) _ | refine Below.setCell ?_ (by first | omega | (simp; done) | (simp; omega)) _ | refine below_then (by assumption) (by first | omega | (simp; done) | (simp; omega)) ?_)))
  have A1 : FmAt (w.alloc (.cells #[.slice (some ⟨bx, ox, none⟩) xs.length cA, .slice (some ⟨by', oy, none⟩) xs.length cC, .float .f32 r, .float .f32 d, .float .f32 s] 25)) w.heap.size (.slice (some ⟨bx, ox, none⟩) xs.length cA) (.slice (some ⟨by', oy, none⟩) xs.length cC) r d s := by unfold FmAt; simp [go_sem]
  replace c1 := ((bcell hG).1 bx (ox + i) i7).trans c1
  replace c2 := ((bcell hG).1 by' (oy + i) i8).trans c2
  have G1 := Lib.hid hG
  clear hG i7 i8
  generalize w.alloc (.cells #[.slice (some ⟨bx, ox, none⟩) xs.length cA, .slice (some ⟨by', oy, none⟩) xs.length cC, .float .f32 r, .float .f32 d, .float .f32 s] 25) = w1 at *
  obtain ⟨p0, p1, p2, p3, p4⟩ := A1
  try simp only [List.append_eq, List.cons_append, List.nil_append]
  refine wp_region_drawnC (by kernel_rfl) (by kernel_rfl) ?_
  repeat (first | (refine wpFree_skip rfl ?_; try go_simp) | (refine wpFree_want rfl (fun K hK => ?_); first | (refine free_fbin drawn_draw rfl rfl _ _ _ rfl rfl ?_; intro z hz hzw; go_simp; refine hK _ ?_; clear hK K) | (intro wq hq; obtain ⟨hqc, hqf, hqh⟩ := drawn_cells hq; go_simp; first | (refine hK _ ?_; clear hK K; try clear hqc hqf; try clear hqh; try clear hq; try clear wq) | fail)))
  refine wpFree_nil ?_
  intro wq hq
  obtain ⟨nq, rfl⟩ := hq
  have HU1 := Lib.hid ((fun q (h : cl .f32 q = fop .sub .f32 (cl .f32 x) (cl .f32 x1)) => show cl .f32 q = U from h.trans HU.out.symm) _ (by assumption))
  have HY1 := Lib.hid ((fun q (h : cl .f32 q = fop .sub .f32 (cl .f32 y) (cl .f32 y1)) => show cl .f32 q = Y from h.trans HY.out.symm) _ (by assumption))
  rename_i zu hzu hzuw
  clear hz hzu
  go_upto_region 3 with (first | (refine upon_fbin rfl _ _ _ _ ?_; intro z n hz hzw) | (go_at_call 84; refine (c_SineTurns _ _).mono ?_; rintro e w' ⟨r, rfl, hr, hrf, nq, rfl⟩))
  have HC1 := Lib.hid ((fun q (h : cl .f32 q = turnD (cl .f32 z)) => show cl .f32 q = CC from h.trans (by rw [HC.out, hz])) _ (by assumption))
  have HS1 := Lib.hid ((fun q (h : cl .f32 q = turnD (cl .f32 t)) => h) _ (by assumption))
  rename_i rc hrc hrcf nrc KK aa
  clear hz hr hrc
  generalize turnD (cl .f32 t) = SS at *
  go_upto_region 4 with (first | (refine upon_fbin rfl _ _ _ _ ?_; intro z n hz hzw) | (go_at_call 85; refine (c_absolute _ _ hzw).mono ?_; rintro e w' ⟨ac, rfl, hac, hacw, nac, rfl⟩))
  rename_i z1 n1 hz1 hzw1 z2 n2 hz2 hzw2 z3 n3 hz3 hzw3 z4 n4 hz4 hzw4 z5 n5 hz5 hzw5 KK aa
  have HAL1 := Lib.hid (show cl .f32 z3 = AL by rw [hz3, hz1, hz2, HAL.out, HU1.out, HC1.out, HY1.out, HS1.out])
  have HAC1 := Lib.hid (show cl .f32 ac = absD AC by rw [hac, hz, hz4, hz5, HAC.out, HU1.out, HC1.out, HY1.out, HS1.out])
  clear hac HU HY HC HAL HAC HU1 HY1 HC1 HS1 p0 p1 c1 c2 i3 i4 i6 hz hz1 hz2 hz3 hz4 hz5
  go_upto_region 5 with (refine upon_fbin rfl _ _ _ _ ?_; intro z n hz hzw)
  have hw1 : cl .f32 z = WW := by rw [HW.out, ← HAL1.out]; simp only [*]
  have HV2 := HV.out
  rw [← hw1, ← HAC1.out, ← HAL1.out] at HV2
  have HQ2 := HQ.out
  rw [← hw1] at HQ2
  have HVV := Lib.hid (HT.out.trans HV2)
  have HQQ := Lib.hid HQ2
  clear HV2 HQ2 HV HQ HW hw1 HT hz HAL1 HAC1
  cases h2 : flt (cl .f32 0) (cl .f32 z3)
  case' true => cases h3 : leF (cl .f32 ac) (cl .f32 z)
  all_goals
    have HE := HVV.out
    simp only [h2, Bool.false_and, Bool.true_and, Bool.and_false, Bool.and_true, Bool.false_eq_true, if_false, if_true] at HE
    try simp only [h3, Bool.false_eq_true, if_false, if_true] at HE
    have HF := Lib.hid HE
    clear HE HVV
    go_wp2_with (refine upon_fbin rfl _ _ _ _ ?_; intro z n hz hzw)
    go_ret
    first
      | exact ⟨_, rfl, HF.out.symm, fits_zero, grew_draw _ _ G1.out⟩
      | exact ⟨_, rfl, by rw [HF.out, HQQ.out]; simp only [*], by assumption, grew_draw _ _ G1.out⟩

end Go.Proofs.Ytlakmogclcpgdaa

/-
  CONTRACTS: WakeAt, in the reference and in the program.
-/
namespace Go.Proofs.Ytlakmogclcpgdaa
open Go.RowKit Go.Flt
set_option linter.unusedVariables false
set_option maxRecDepth 100000
set_option linter.unusedSimpArgs false

def fin3 (x y t : Nat) : Bool := fin (cl .f32 x) && fin (cl .f32 y) && fin (cl .f32 t)

def okW (xs ys : List Nat) (r d s : Nat) (i : Int) (x y t : Nat) : Bool := vFarm xs ys r d s && within i 0 ((xs.length : Int) - 1) && fin3 x y t

theorem c_l06Can (b : Nat) (A C : Option Addr) (n cA m cC K : Nat) (xs ys : List Nat) (r d s x y t : Nat) (w : World) (hf : FmAt w b (.slice A n cA) (.slice C m cC) r d s) (hx : Fl w K A n xs) (hy : Fl w K C m ys) (hn : n ≤ maxLen) (hm : m ≤ maxLen) :
    Calls Try.prog 56 #[.pointer (some ⟨b, 0, none⟩), .float .f32 x, .float .f32 y, .float .f32 t] w fun e w' => e = .returned (.bool (vFarm xs ys r d s && fin3 x y t)) ∧ ∃ n, w' = w.drewN n := by
  have V := Lib.hid (c_l06Is b A C n cA m cC K xs ys r d s w hf hx hy hn hm)
  clear hf hx hy hn hm
  have HF := Lib.hid (show fin3 x y t = (fin (cl .f32 x) && fin (cl .f32 y) && fin (cl .f32 t)) from rfl)
  generalize fin3 x y t = F3 at *
  generalize vFarm xs ys r d s = VF at *
  cases VF
  case' true => cases h1 : fin (cl .f32 x)
  case' true.true => cases h2 : fin (cl .f32 y)
  all_goals
    go_enter Try.func56, Try.ntmps56
    go_wp2_with (first | (go_at_call 45; refine V.out.mono ?_; rintro e w' ⟨rfl, nq, rfl⟩) | (go_at_call 54; refine (c_l01Finite _ _).mono ?_; rintro e w' ⟨rfl, nq, rfl⟩))
    go_ret
    exact ⟨by rw [HF.out]; simp [*], by (first | exact ⟨_, rfl⟩ | exact ⟨0, rfl⟩ | exact ⟨_, World.drewN_drewN _ _ _⟩ | (simp only [World.drewN_drewN]; exact ⟨_, rfl⟩))⟩

theorem c_fin3 (x y t : Nat) : ∀ w cap b, Fl w (b + 1) (some ⟨b, 0, none⟩) 3 [x, y, t] → Calls Try.prog 59 #[.slice (some ⟨b, 0, none⟩) 3 cap] w fun e w' => e = .returned (.bool (fin3 x y t)) ∧ ∃ n, w' = w.drewN n := by
  intro w cap b h
  have := c_impl.areFinite _ 3 cap _ _ w h (by simp [maxLen])
  have e : ([x, y, t].all fun x => fin (cl .f32 x)) = fin3 x y t := by simp [fin3, Bool.and_assoc]
  rw [e] at this
  exact this

set_option maxHeartbeats 2000000 in
theorem c_specWakeAt (lo hi : Nat) (v : Value) (xs ys : List Nat) (r d s : Nat) (i : Int) (x y t : Nat) (w : World) (h : FarmAt w lo hi v xs ys r d s) (hK : hi ≤ w.heap.size) (hn : xs.length ≤ 1048576) (hm : ys.length ≤ 1048576) :
    Calls Try.prog 28 #[v, .int .i64 i, .float .f32 x, .float .f32 y, .float .f32 t] w (RetFB (num (okW xs ys r d s i x y t) (wakeD xs ys r d s i.toNat x y t)) (okW xs ys r d s i x y t && fin (wakeD xs ys r d s i.toNat x y t)) (Grew w)) := by
  obtain ⟨A, cA, C, cC, rfl, hx, hy⟩ := h.parts
  have HX := Lib.hid (fun w' (hg : Grew w w') => Slc.grew (g := Value.float .f32) (w' := w') hx hK hg)
  have HY := Lib.hid (fun w' (hg : Grew w w') => Slc.grew (g := Value.float .f32) (w' := w') hy hK hg)
  have V1 := Lib.hid (fun w' b hf (hg : Grew w w') => c_l06Can b A C xs.length cA ys.length cC hi xs ys r d s x y t w' hf (HX.out w' hg) (HY.out w' hg) (by unfold maxLen; omega) (by unfold maxLen; omega))
  have V2 := Lib.hid (fun w' b hf (hg : Grew w w') => c_l06Has b A C xs.length cA ys.length cC hi xs ys r d s i w' hf (HX.out w' hg) (HY.out w' hg) hn hm)
  clear h hx hy
  have HO := Lib.hid (show okW xs ys r d s i x y t = (vFarm xs ys r d s && within i 0 ((xs.length : Int) - 1) && fin3 x y t) from rfl)
  have HH := Lib.hid (show hasR xs ys r d s i = (vFarm xs ys r d s && within i 0 ((xs.length : Int) - 1)) from rfl)
  cases k1 : okW xs ys r d s i x y t
  · have hA := HO.out.symm.trans k1
    clear HO hn hm k1
    generalize wakeD xs ys r d s i.toNat x y t = D at *
    rw [HH.out] at V2
    clear HH
    generalize vFarm xs ys r d s = VF at *
    generalize within i 0 ((xs.length : Int) - 1) = WI at *
    generalize fin3 x y t = F3 at *
    cases VF <;> cases F3 <;> cases WI <;> simp only [Bool.and_true, Bool.and_false, Bool.true_and, Bool.false_and, Bool.true_eq_false] at V1 V2 hA
    all_goals
      clear hA
      go_enter Try.func28, Try.ntmps28
      go_wp2_with (first | (go_at_call 56; refine (V1.out _ _ (by unfold FmAt; simp [go_sem]) (by (show Below _ _ _; (repeat (first | exact Below.refl _ _ | refine ext_below ?_ (by first | omega | (simp only [size_ext, heap_push, Array.size_push, World.heap_drewN]; omega) | (simp; omega)) _ _ | refine below_draws ?_ _ | refine Below.alloc ?_ (by first | omega | (simp; done) | (simp; omega)) _ | refine Below.setCell ?_ (by first | omega | (simp; done) | (simp; omega)) _ | refine below_then (by assumption) (by first | omega | (simp; done) | (simp; omega)) ?_))))).mono ?_; rintro e w' ⟨rfl, nq, rfl⟩) | (go_at_call 50; refine (V2.out _ _ (by unfold FmAt; simp [go_sem]) (by (show Below _ _ _; (repeat (first | exact Below.refl _ _ | refine ext_below ?_ (by first | omega | (simp only [size_ext, heap_push, Array.size_push, World.heap_drewN]; omega) | (simp; omega)) _ _ | refine below_draws ?_ _ | refine Below.alloc ?_ (by first | omega | (simp; done) | (simp; omega)) _ | refine Below.setCell ?_ (by first | omega | (simp; done) | (simp; omega)) _ | refine below_then (by assumption) (by first | omega | (simp; done) | (simp; omega)) ?_))))).mono ?_; rintro e w' ⟨rfl, nq, rfl⟩))
      refine bodyPost_ret (v := .tuple #[.float .f32 0, .bool false]) (by simp [results, Try.results28, go_sem]) rfl ?_
      exact ⟨0, rfl, rfl, fits_zero, by (show Below _ _ _; (repeat (first | exact Below.refl _ _ | refine ext_below ?_ (by first | omega | (simp only [size_ext, heap_push, Array.size_push, World.heap_drewN]; omega) | (simp; omega)) _ _ | refine below_draws ?_ _ | refine Below.alloc ?_ (by first | omega | (simp; done) | (simp; omega)) _ | refine Below.setCell ?_ (by first | omega | (simp; done) | (simp; omega)) _ | refine below_then (by assumption) (by first | omega | (simp; done) | (simp; omega)) ?_)))⟩
  · have hA := HO.out.symm.trans k1
    simp only [Bool.and_eq_true] at hA
    obtain ⟨⟨k2, k3⟩, k4⟩ := hA
    have k5 := HH.out
    rw [k2, k3] at k5
    obtain ⟨k, rfl, hkx, hky, h12, hxy⟩ := has_parts k5
    have V3 := Lib.hid (fun w' b hf (hg : Grew w w') => c_l06Wake b A C xs.length cA ys.length cC hi xs ys r d s k x y t w' hf (HX.out w' hg) (HY.out w' hg) hn hxy hkx)
    rw [k2, k4] at V1
    rw [k5] at V2
    simp only [Int.toNat_natCast]
    generalize wakeD xs ys r d s k x y t = D at *
    clear HO HH k1 k2 k3 k4 k5 hkx hky h12 hn hm hxy
    go_enter Try.func28, Try.ntmps28
    go_wp2_with (first | (go_at_call 56; refine (V1.out _ _ (by unfold FmAt; simp [go_sem]) (by (show Below _ _ _; (repeat (first | exact Below.refl _ _ | refine ext_below ?_ (by first | omega | (simp only [size_ext, heap_push, Array.size_push, World.heap_drewN]; omega) | (simp; omega)) _ _ | refine below_draws ?_ _ | refine Below.alloc ?_ (by first | omega | (simp; done) | (simp; omega)) _ | refine Below.setCell ?_ (by first | omega | (simp; done) | (simp; omega)) _ | refine below_then (by assumption) (by first | omega | (simp; done) | (simp; omega)) ?_))))).mono ?_; rintro e w' ⟨rfl, nq, rfl⟩) | (go_at_call 50; refine (V2.out _ _ (by unfold FmAt; simp [go_sem]) (by (show Below _ _ _; (repeat (first | exact Below.refl _ _ | refine ext_below ?_ (by first | omega | (simp only [size_ext, heap_push, Array.size_push, World.heap_drewN]; omega) | (simp; omega)) _ _ | refine below_draws ?_ _ | refine Below.alloc ?_ (by first | omega | (simp; done) | (simp; omega)) _ | refine Below.setCell ?_ (by first | omega | (simp; done) | (simp; omega)) _ | refine below_then (by assumption) (by first | omega | (simp; done) | (simp; omega)) ?_))))).mono ?_; rintro e w' ⟨rfl, nq, rfl⟩) | (go_at_call 58; refine (V3.out _ _ (by unfold FmAt; simp [go_sem]) (by (show Below _ _ _; (repeat (first | exact Below.refl _ _ | refine ext_below ?_ (by first | omega | (simp only [size_ext, heap_push, Array.size_push, World.heap_drewN]; omega) | (simp; omega)) _ _ | refine below_draws ?_ _ | refine Below.alloc ?_ (by first | omega | (simp; done) | (simp; omega)) _ | refine Below.setCell ?_ (by first | omega | (simp; done) | (simp; omega)) _ | refine below_then (by assumption) (by first | omega | (simp; done) | (simp; omega)) ?_))))).mono ?_; rintro e w' ⟨z, rfl, hz, hzf, nz, rfl⟩; have HZ := Lib.hid hz; have HZF := Lib.hid hzf; clear hz hzf) | (go_at_call 57; refine (c_l02Number _ _).mono ?_; rintro e w' ⟨rfl, nq, rfl⟩))
    refine bodyPost_ret (v := .tuple #[.float .f32 (chkW z), .bool (fin (cl .f32 z))]) (by simp [results, Try.results28, go_sem]) rfl ?_
    exact ⟨chkW z, by rw [HZ.out]; rfl, by rw [cl_chkW, HZ.out]; simp [chk, num], fits_chkW HZF.out, by (show Below _ _ _; (repeat (first | exact Below.refl _ _ | refine ext_below ?_ (by first | omega | (simp only [size_ext, heap_push, Array.size_push, World.heap_drewN]; omega) | (simp; omega)) _ _ | refine below_draws ?_ _ | refine Below.alloc ?_ (by first | omega | (simp; done) | (simp; omega)) _ | refine Below.setCell ?_ (by first | omega | (simp; done) | (simp; omega)) _ | refine below_then (by assumption) (by first | omega | (simp; done) | (simp; omega)) ?_)))⟩

end Go.Proofs.Ytlakmogclcpgdaa

/-
  CONTRACTS: WakeAt, in the program.
-/
namespace Go.Proofs.Ytlakmogclcpgdaa
open Go.RowKit Go.Flt
set_option linter.unusedVariables false
set_option maxRecDepth 100000
set_option linter.unusedSimpArgs false

set_option maxHeartbeats 2000000 in
theorem c_implWakeAt (lo hi : Nat) (v : Value) (xs ys : List Nat) (r d s : Nat) (i : Int) (x y t : Nat) (w : World) (h : FarmAt w lo hi v xs ys r d s) (hK : hi ≤ w.heap.size) (hn : xs.length ≤ 1048576) (hm : ys.length ≤ 1048576) :
    Calls Try.prog 29 #[v, .int .i64 i, .float .f32 x, .float .f32 y, .float .f32 t] w (RetFB (num (okW xs ys r d s i x y t) (wakeD xs ys r d s i.toNat x y t)) (okW xs ys r d s i x y t && fin (wakeD xs ys r d s i.toNat x y t)) (Grew w)) := by
  have V1 := Lib.hid (fun w' (hg : Grew w w') => c_implValidFarm' lo hi v xs ys r d s w' (h.grew hK hg) (Nat.le_trans hK (Below.size hg)))
  obtain ⟨A, cA, C, cC, rfl, hx, hy⟩ := h.parts
  have V2 := Lib.hid (fun w' => c_isRotor A C xs.length cA ys.length cC r d s i w' hn)
  have HX := Lib.hid (fun w' (hg : Grew w w') => Slc.grew (g := Value.float .f32) (w' := w') hx hK hg)
  have HY := Lib.hid (fun w' (hg : Grew w w') => Slc.grew (g := Value.float .f32) (w' := w') hy hK hg)
  have V3 := Lib.hid (c_fin3 x y t)
  clear h hx hy
  have HO := Lib.hid (show okW xs ys r d s i x y t = (vFarm xs ys r d s && within i 0 ((xs.length : Int) - 1) && fin3 x y t) from rfl)
  have HH := Lib.hid (show hasR xs ys r d s i = (vFarm xs ys r d s && within i 0 ((xs.length : Int) - 1)) from rfl)
  cases k1 : okW xs ys r d s i x y t
  · have hA := HO.out.symm.trans k1
    clear HO HH hn hm k1 hK
    generalize wakeD xs ys r d s i.toNat x y t = D at *
    generalize vFarm xs ys r d s = VF at *
    generalize within i 0 ((xs.length : Int) - 1) = WI at *
    generalize fin3 x y t = F3 at *
    cases VF <;> cases WI <;> cases F3 <;> simp only [Bool.and_true, Bool.and_false, Bool.true_and, Bool.false_and, Bool.true_eq_false] at hA
    all_goals
      clear hA
      go_enter Try.func29, Try.ntmps29
      go_wp2_with fail
      refine (V1.out _ (by (show Below _ _ _; (repeat (first | exact Below.refl _ _ | refine ext_below ?_ (by first | omega | (simp only [size_ext, heap_push, Array.size_push, World.heap_drewN]; omega) | (simp; omega)) _ _ | refine below_draws ?_ _ | refine Below.alloc ?_ (by first | omega | (simp; done) | (simp; omega)) _ | refine Below.setCell ?_ (by first | omega | (simp; done) | (simp; omega)) _ | refine below_then (by assumption) (by first | omega | (simp; done) | (simp; omega)) ?_))))).mono ?_
      rintro e w1 ⟨rfl, hg1⟩
      have G1 := Lib.hid (grew_trans (show Grew w _ by (show Below _ _ _; (repeat (first | exact Below.refl _ _ | refine ext_below ?_ (by first | omega | (simp only [size_ext, heap_push, Array.size_push, World.heap_drewN]; omega) | (simp; omega)) _ _ | refine below_draws ?_ _ | refine Below.alloc ?_ (by first | omega | (simp; done) | (simp; omega)) _ | refine Below.setCell ?_ (by first | omega | (simp; done) | (simp; omega)) _ | refine below_then (by assumption) (by first | omega | (simp; done) | (simp; omega)) ?_)))) hg1)
      have A1 : Hid (FmAt w1 w.heap.size (.slice A xs.length cA) (.slice C ys.length cC) r d s) := Lib.hid (FmAt.grew (by unfold FmAt; simp [go_sem]) (by simp <;> omega) hg1)
      have z0 : w.heap.size < w1.heap.size := by have := Below.size hg1; simp at this; omega
      clear hg1 V1
      obtain ⟨p0, p1, p2, p3, p4⟩ := A1.out
      go_wp2_with (first | (go_at_call 51; refine (V2.out _).mono ?_; rintro e w2 ⟨rfl, hg2⟩; have A2 := Lib.hid (A1.out.grew z0 hg2); have G2 := Lib.hid (grew_trans G1.out hg2); clear hg2 p0 p1 p2 p3 p4) | (go_at_call 59; refine (V3.out _ _ _ (fl_new _ [x, y, t] _ _ _ (by simp) rfl)).mono ?_; rintro e w' ⟨rfl, nq, rfl⟩))
      refine bodyPost_ret (v := .tuple #[.float .f32 0, .bool false]) (by simp [results, Try.results29, go_sem]) rfl ?_
      exact ⟨0, rfl, rfl, fits_zero, by first | exact G1.out | exact G2.out | exact grew_draw _ _ (grew_al G2.out _)⟩
  · have hA := HO.out.symm.trans k1
    simp only [Bool.and_eq_true] at hA
    obtain ⟨⟨k2, k3⟩, k4⟩ := hA
    have k5 := HH.out
    rw [k2, k3] at k5
    obtain ⟨k, rfl, hkx, hky, h12, hxy⟩ := has_parts k5
    have V4 := Lib.hid (fun w' (hg : Grew w w') => c_wakeAt A C xs.length cA ys.length cC hi xs ys r d s k x y t w' (HX.out w' hg) (HY.out w' hg) (Nat.le_trans hK (Below.size hg)) hn hxy hkx)
    rw [k2] at V1
    rw [k3] at V2
    rw [k4] at V3
    simp only [Int.toNat_natCast]
    generalize wakeD xs ys r d s k x y t = D at *
    clear HO HH k1 k2 k3 k4 k5 hkx hky h12 hn hm hxy
    go_enter Try.func29, Try.ntmps29
    go_wp2_with fail
    refine (V1.out _ (by (show Below _ _ _; (repeat (first | exact Below.refl _ _ | refine ext_below ?_ (by first | omega | (simp only [size_ext, heap_push, Array.size_push, World.heap_drewN]; omega) | (simp; omega)) _ _ | refine below_draws ?_ _ | refine Below.alloc ?_ (by first | omega | (simp; done) | (simp; omega)) _ | refine Below.setCell ?_ (by first | omega | (simp; done) | (simp; omega)) _ | refine below_then (by assumption) (by first | omega | (simp; done) | (simp; omega)) ?_))))).mono ?_
    rintro e w1 ⟨rfl, hg1⟩
    have G1 := Lib.hid (grew_trans (show Grew w _ by (show Below _ _ _; (repeat (first | exact Below.refl _ _ | refine ext_below ?_ (by first | omega | (simp only [size_ext, heap_push, Array.size_push, World.heap_drewN]; omega) | (simp; omega)) _ _ | refine below_draws ?_ _ | refine Below.alloc ?_ (by first | omega | (simp; done) | (simp; omega)) _ | refine Below.setCell ?_ (by first | omega | (simp; done) | (simp; omega)) _ | refine below_then (by assumption) (by first | omega | (simp; done) | (simp; omega)) ?_)))) hg1)
    have A1 : Hid (FmAt w1 w.heap.size (.slice A xs.length cA) (.slice C ys.length cC) r d s) := Lib.hid (FmAt.grew (by unfold FmAt; simp [go_sem]) (by simp <;> omega) hg1)
    have z0 : w.heap.size < w1.heap.size := by have := Below.size hg1; simp at this; omega
    clear hg1 V1
    obtain ⟨p0, p1, p2, p3, p4⟩ := A1.out
    go_wp2_with fail
    refine (V2.out _).mono ?_
    rintro e w2 ⟨rfl, hg2⟩
    have A2 := Lib.hid (A1.out.grew z0 hg2)
    have G2 := Lib.hid (grew_trans G1.out hg2)
    have z2 : w.heap.size < w2.heap.size := by have := Below.size hg2; omega
    clear hg2 V2 p0 p1 p2 p3 p4
    obtain ⟨p0, p1, p2, p3, p4⟩ := A2.out
    go_wp2_with fail
    refine (V3.out _ _ _ (fl_new _ [x, y, t] _ _ _ (by simp) rfl)).mono ?_
    rintro e w3 ⟨rfl, nq, hw3⟩
    have hg3 : Grew w2 w3 := by rw [hw3]; exact grew_draw _ _ (grew_al (grew_refl _) _)
    have A3 := Lib.hid (A2.out.grew z2 hg3)
    have G3 := Lib.hid (grew_trans G2.out hg3)
    clear hg3 hw3 V3 p0 p1 p2 p3 p4
    obtain ⟨p0, p1, p2, p3, p4⟩ := A3.out
    go_wp2_with (first | (go_at_call 61; refine (V4.out _ G3.out).mono ?_; rintro e w4 ⟨z, rfl, hz, hzf, hg4⟩; have G4 := Lib.hid (grew_trans G3.out hg4); have HZ := Lib.hid hz; have HZF := Lib.hid hzf; clear hz hzf hg4) | (go_at_call 60; refine (c_checked _ _).mono ?_; rintro e w' ⟨rfl, nq, rfl⟩))
    refine bodyPost_ret (v := .tuple #[.float .f32 (chkW z), .bool (fin (cl .f32 z))]) (by simp [results, Try.results29, go_sem]) rfl ?_
    exact ⟨chkW z, by rw [HZ.out]; rfl, by rw [cl_chkW, HZ.out]; simp [chk, num], fits_chkW HZF.out, grew_draw _ _ G4.out⟩

end Go.Proofs.Ytlakmogclcpgdaa

/-
  WALK: the law of WakeAt.
-/
namespace Go.Proofs.Ytlakmogclcpgdaa
open Go.RowKit Go.Flt
set_option linter.unusedVariables false
set_option maxRecDepth 100000
set_option linter.unusedSimpArgs false

set_option maxHeartbeats 4000000 in
theorem walk_WakeAt_ok (A0 : Option Addr) (n0 c0 : Nat) (xs0 : List Nat) (B0 : Option Addr) (m0 e0 : Nat) (ys0 : List Nat) (r0 d0 s0 : Nat) (a1 : Int) (a2 : Nat) (a3 : Nat) (a4 : Nat) (w : World) (hx0 : Slc (Value.float .f32) w w.heap.size A0 n0 xs0) (hn0 : n0 ≤ maxLen) (fx0 : ∀ x ∈ xs0, fits x) (hy0 : Slc (Value.float .f32) w w.heap.size B0 m0 ys0) (hm0 : m0 ≤ maxLen) (fy0 : ∀ x ∈ ys0, fits x) (fr0 : fits r0) (fd0 : fits d0) (fs0 : fits s0) (fa1 : (Lit.int .i64 a1).wf = true) (fa2 : fits a2) (fa3 : fits a3) (fa4 : fits a4) (g0 : ((n0 + m0 : Nat) : Int) ≤ 1048576) :
    Calls Try.prog 8 #[.agg #[.slice A0 n0 c0, .slice B0 m0 e0, .float .f32 r0, .float .f32 d0, .float .f32 s0], .int .i64 a1, .float .f32 a2, .float .f32 a3, .float .f32 a4] w fun e w' => e = .returned (.bool true) ∧ Below w.heap.size w w' := by
  obtain rfl := hx0.1
  obtain rfl := hy0.1
  have lx0 : Hid (xs0.length ≤ 1048576) := by show _ ≤ _; omega
  have ly0 : Hid (ys0.length ≤ 1048576) := by show _ ≤ _; omega
  have SA0 := Lib.hid (fun w => c_szFarm' A0 B0 _ c0 _ e0 r0 d0 s0 1048576 w hn0 hm0 (by omega) (by omega))
  rw [sz_ok g0] at SA0
  generalize hleft0 : ((1048576 : Int) - ((xs0.length + ys0.length : Nat) : Int)) = left0 at *
  have dl0 : decide (left0 < 0) = false := by simp; omega
  have TA0 := Lib.hid (fun w' (hg : Grew w w') => c_toFarm A0 B0 _ c0 _ e0 r0 d0 s0 xs0 ys0 w' (Slc.mono (Slc.grew hx0 (Nat.le_refl _) hg) (Below.size hg)) (Slc.mono (Slc.grew hy0 (Nat.le_refl _) hg) (Below.size hg)) lx0.out ly0.out)
  have CS := Lib.hid (fun lo0 hi0 v0 (w : World) (h0 : FarmAt w lo0 hi0 v0 xs0 ys0 r0 d0 s0) (k0 : hi0 ≤ w.heap.size) => c_specWakeAt lo0 hi0 v0 xs0 ys0 r0 d0 s0 a1 a2 a3 a4 w h0 k0 lx0.out ly0.out)
  have CI := Lib.hid (fun lo0 hi0 v0 (w : World) (h0 : FarmAt w lo0 hi0 v0 xs0 ys0 r0 d0 s0) (k0 : hi0 ≤ w.heap.size) => c_implWakeAt lo0 hi0 v0 xs0 ys0 r0 d0 s0 a1 a2 a3 a4 w h0 k0 lx0.out ly0.out)
  generalize (num (okW xs0 ys0 r0 d0 s0 a1 a2 a3 a4) (wakeD xs0 ys0 r0 d0 s0 a1.toNat a2 a3 a4)) = D at CS CI
  generalize (okW xs0 ys0 r0 d0 s0 a1 a2 a3 a4 && fin (wakeD xs0 ys0 r0 d0 s0 a1.toNat a2 a3 a4)) = S at CS CI
  clear hx0 hn0 fx0 hy0 hm0 fy0 fr0 fd0 fs0 fa1 fa2 fa3 fa4 g0
  have G : Hid (Grew w w) := grew_refl w
  have W0 : Hid (Grew w (w.alloc (.cells #[.slice A0 xs0.length c0, .slice B0 ys0.length e0, .float .f32 r0, .float .f32 d0, .float .f32 s0] 31))) := by show Grew _ _; (show Below _ _ _; (repeat (first | exact Below.refl _ _ | refine ext_below ?_ (by first | omega | (simp only [size_ext, heap_push, Array.size_push, World.heap_drewN]; omega) | (simp; omega)) _ _ | refine below_draws ?_ _ | refine Below.alloc ?_ (by first | omega | (simp; done) | (simp; omega)) _ | refine Below.setCell ?_ (by first | omega | (simp; done) | (simp; omega)) _ | refine below_then (by assumption) (by first | omega | (simp; done) | (simp; omega)) ?_)))
  clear hleft0
  go_enter Try.func8, Try.ntmps8
  go_wp2_with fail
  refine (SA0.out _).mono ?_
  rintro e w1 ⟨rfl, hg0⟩
  have hg : Grew w w1 := grew_trans W0.out hg0
  replace G := Lib.hid (grew_trans G.out hg)
  have A0b := Lib.hid ((Loc.fm (w := (w.alloc (.cells #[.slice A0 xs0.length c0, .slice B0 ys0.length e0, .float .f32 r0, .float .f32 d0, .float .f32 s0] 31))) (b := w.heap.size) (X := .slice A0 xs0.length c0) (Y := .slice B0 ys0.length e0) (r := r0) (d := d0) (s := s0) (by unfold FmAt; simp) (by simp <;> omega)).grew hg0)
  have N1 : Hid (w.heap.size + 1 ≤ w1.heap.size) := by have := Below.size hg0; (try simp at this); show _ ≤ _; omega
  clear hg hg0
  clear W0
  clear SA0
  obtain ⟨a0b_0, a0b_1, a0b_2, a0b_3, a0b_4⟩ := A0b.out.now
  have a0b_b := A0b.out.lt
  go_wp2_with fail
  refine (TA0.out _ G.out).mono ?_
  rintro e w2 ⟨v, rfl, hr, hg0⟩
  clear a0b_0 a0b_1 a0b_2 a0b_3 a0b_4 a0b_b
  have hg : Grew w1 w2 := hg0
  replace A0b := Lib.hid (A0b.out.grew hg)
  replace G := Lib.hid (grew_trans G.out hg)
  have N2 : Hid (w1.heap.size ≤ w2.heap.size) := by have := Below.size hg0; (try simp at this); show _ ≤ _; omega
  try rw [size_al] at hr
  clear hg hg0
  obtain ⟨XT0, xT0, YT0, yT0, rfl, _, _⟩ := hr.parts
  have T0 := Lib.hid (Loc.farm hr (Nat.le_refl _))
  clear hr
  go_wp2_with fail
  refine (CS.out _ _ _ _ T0.out.now T0.out.le).mono ?_
  rintro e w3 ⟨rF, rfl, hz, hfit, hg0⟩
  have hg : Grew w2 w3 := hg0
  replace A0b := Lib.hid (A0b.out.grew hg)
  replace T0 := Lib.hid (T0.out.grew hg)
  replace G := Lib.hid (grew_trans G.out hg)
  have N3 : Hid (w2.heap.size ≤ w3.heap.size) := by have := Below.size hg0; (try simp at this); show _ ≤ _; omega
  clear hg hg0
  clear T0
  have ZF := Lib.hid hz
  have IF := Lib.hid hfit
  clear hz hfit
  obtain ⟨a0b_0, a0b_1, a0b_2, a0b_3, a0b_4⟩ := A0b.out.now
  have a0b_b := A0b.out.lt
  go_wp2_with fail
  refine (TA0.out _ G.out).mono ?_
  rintro e w4 ⟨v, rfl, hr, hg0⟩
  clear a0b_0 a0b_1 a0b_2 a0b_3 a0b_4 a0b_b
  have hg : Grew w3 w4 := hg0
  replace A0b := Lib.hid (A0b.out.grew hg)
  replace G := Lib.hid (grew_trans G.out hg)
  have N4 : Hid (w3.heap.size ≤ w4.heap.size) := by have := Below.size hg0; (try simp at this); show _ ≤ _; omega
  try rw [size_al] at hr
  clear hg hg0
  obtain ⟨XC0, xC0, YC0, yC0, rfl, _, _⟩ := hr.parts
  have C0 := Lib.hid (Loc.farm hr (Nat.le_refl _))
  clear hr
  go_wp2_with fail
  have hal : Grew w4 (w4.alloc (.cells #[.slice XC0 xs0.length xC0, .slice YC0 ys0.length yC0, .float .f32 r0, .float .f32 d0, .float .f32 s0] 25)) := grew_al (grew_refl _) _
  refine (CI.out _ _ _ _ (C0.out.grew hal).now (C0.out.grew hal).le).mono ?_
  rintro e w5 ⟨rV, rfl, hz, hfit, hg0⟩
  have hg : Grew w4 w5 := grew_trans hal hg0
  replace A0b := Lib.hid (A0b.out.grew hg)
  replace C0 := Lib.hid (C0.out.grew hg)
  replace G := Lib.hid (grew_trans G.out hg)
  have Q0 := Lib.hid ((Loc.fm (w := (w4.alloc (.cells #[.slice XC0 xs0.length xC0, .slice YC0 ys0.length yC0, .float .f32 r0, .float .f32 d0, .float .f32 s0] 25))) (b := w4.heap.size) (X := .slice XC0 xs0.length xC0) (Y := .slice YC0 ys0.length yC0) (r := r0) (d := d0) (s := s0) (by unfold FmAt; simp) (by simp <;> omega)).grew hg0)
  have N5 : Hid (w4.heap.size + 1 ≤ w5.heap.size) := by have := Below.size hg0; (try simp at this); show _ ≤ _; omega
  clear hg hg0 hal
  have ZV := Lib.hid hz
  have IV := Lib.hid hfit
  clear hz hfit
  have ss : (S != S) = false := by simp
  have sf : cl .f32 rV = cl .f32 rF := ZV.out.trans ZF.out.symm
  go_wp2_with (first | (refine upon_widen _ _ _ some_f32 Try.underlying43 ?_; intro z n hz hzw) | (go_at_call 27; refine (c_sameFloat _ _ _ (by simp only [*])).mono ?_; rintro e w6 ⟨rfl, hw⟩; have hg : Grew w5 w6 := grew_trans (grew_draw _ _ (grew_refl _)) (grew_drawn' hw); replace A0b := Lib.hid (A0b.out.grew hg); replace C0 := Lib.hid (C0.out.grew hg); replace Q0 := Lib.hid (Q0.out.grew hg); replace G := Lib.hid (grew_trans G.out hg); have N6 : Hid (w5.heap.size ≤ w6.heap.size) := Below.size hg; clear hw hg sf; obtain ⟨a0b_0, a0b_1, a0b_2, a0b_3, a0b_4⟩ := A0b.out.now; have a0b_b := A0b.out.lt; obtain ⟨q0_0, q0_1, q0_2, q0_3, q0_4⟩ := Q0.out.now; have q0_b := Q0.out.lt))
  try simp only [List.append_eq, List.cons_append, List.nil_append]
  refine wp_region_grow [56] [(56, W2 <| FarmBy w6.heap.size xs0 ys0 r0 d0 s0), (57, W2 <| Is (.bool true))] (by kernel_rfl) (by kernel_rfl) (by kernel_rfl) (by kernel_rfl) ?_
  repeat (first | (refine wpG_skip rfl ?_; try go_simp) | (refine wpG_want rfl (fun K hK => ?_); first | (refine gG_fbin rfl rfl _ _ _ rfl rfl rfl ?_; intro z hz hzw; go_simp; refine hK _ ?_; clear hK K) | (intro wq hq hp; obtain ⟨hqc, hqf⟩ := bcell hq; go_simp; first | (refine hK _ ?_; clear hK K; try clear hp; try clear hqc hqf; try clear hq; try clear wq) | ((with_reducible refine g_at 19 ?_); refine ⟨(TA0.out wq (grew_trans G.out hq)).mono fun e w3 ⟨v, he, h, hg⟩ => ⟨v, he, ⟨_, Below.size hq, h⟩, hg⟩, ?_⟩; rintro v w3 hg3 hfa; refine hK _ ?_; clear hK K; try clear hp; try clear hqc hqf; try clear hq; try clear wq) | ((with_reducible refine g_at 14 ?_); obtain ⟨lo, hi, _, hs, h1⟩ := FarmBy.get (hp 56 (by simp) (by decide)) hfa.ne rfl; refine ⟨(c_eqFarm _ _ lo hi _ _ xs0 ys0 xs0 ys0 r0 d0 s0 r0 d0 s0 wq (C0.out.grew hq).now h1 rfl rfl rfl rfl rfl lx0.out ly0.out).mono fun e w3 ⟨he, hg⟩ => ⟨_, he, rfl, hg⟩, ?_⟩; rintro v w3 hg3 rfl; refine hK _ ?_; clear hK K; try clear hp; try clear hqc hqf; try clear hq; try clear wq))))
  refine wpG_nil ?_
  intro w7 hq hal hap
  obtain ⟨hqc, hqf⟩ := bcell hq
  have hqs := Below.size hq
  try simp at hqs
  clear hap
  clear a0b_0 a0b_1 a0b_2 a0b_3 a0b_4 a0b_b q0_0 q0_1 q0_2 q0_3 q0_4 q0_b
  clear hqc hqf hal
  replace A0b := Lib.hid (A0b.out.grew hq)
  replace C0 := Lib.hid (C0.out.grew hq)
  replace Q0 := Lib.hid (Q0.out.grew hq)
  replace G := Lib.hid (grew_trans G.out hq)
  have N7 : Hid (w6.heap.size ≤ w7.heap.size) := Below.size hq
  clear hq hqs
  go_wp2_with fail
  go_ret
  exact ⟨rfl, G.out⟩

set_option maxHeartbeats 4000000 in
theorem walk_WakeAt_bad0 (A0 : Option Addr) (n0 c0 : Nat) (xs0 : List Nat) (B0 : Option Addr) (m0 e0 : Nat) (ys0 : List Nat) (r0 d0 s0 : Nat) (a1 : Int) (a2 : Nat) (a3 : Nat) (a4 : Nat) (w : World) (hx0 : Slc (Value.float .f32) w w.heap.size A0 n0 xs0) (hn0 : n0 ≤ maxLen) (fx0 : ∀ x ∈ xs0, fits x) (hy0 : Slc (Value.float .f32) w w.heap.size B0 m0 ys0) (hm0 : m0 ≤ maxLen) (fy0 : ∀ x ∈ ys0, fits x) (fr0 : fits r0) (fd0 : fits d0) (fs0 : fits s0) (fa1 : (Lit.int .i64 a1).wf = true) (fa2 : fits a2) (fa3 : fits a3) (fa4 : fits a4)  (g0 : ¬ (((n0 + m0 : Nat) : Int) ≤ 1048576)) :
    Calls Try.prog 8 #[.agg #[.slice A0 n0 c0, .slice B0 m0 e0, .float .f32 r0, .float .f32 d0, .float .f32 s0], .int .i64 a1, .float .f32 a2, .float .f32 a3, .float .f32 a4] w fun e w' => e = .returned (.bool true) ∧ Below w.heap.size w w' := by
  obtain rfl := hx0.1
  obtain rfl := hy0.1
  have SA0 := Lib.hid (fun w => c_szFarm' A0 B0 _ c0 _ e0 r0 d0 s0 1048576 w hn0 hm0 (by omega) (by omega))
  rw [sz_no g0] at SA0
  have G : Hid (Grew w w) := grew_refl w
  clear hx0 hy0
  have W0 : Hid (Grew w (w.alloc (.cells #[.slice A0 xs0.length c0, .slice B0 ys0.length e0, .float .f32 r0, .float .f32 d0, .float .f32 s0] 31))) := by show Grew _ _; (show Below _ _ _; (repeat (first | exact Below.refl _ _ | refine ext_below ?_ (by first | omega | (simp only [size_ext, heap_push, Array.size_push, World.heap_drewN]; omega) | (simp; omega)) _ _ | refine below_draws ?_ _ | refine Below.alloc ?_ (by first | omega | (simp; done) | (simp; omega)) _ | refine Below.setCell ?_ (by first | omega | (simp; done) | (simp; omega)) _ | refine below_then (by assumption) (by first | omega | (simp; done) | (simp; omega)) ?_)))
  clear g0
  go_enter Try.func8, Try.ntmps8
  go_wp2_with fail
  refine (SA0.out _).mono ?_
  rintro e w1 ⟨rfl, hg0⟩
  have hg : Grew w w1 := grew_trans W0.out hg0
  replace G := Lib.hid (grew_trans G.out hg)
  have A0b := Lib.hid ((Loc.fm (w := (w.alloc (.cells #[.slice A0 xs0.length c0, .slice B0 ys0.length e0, .float .f32 r0, .float .f32 d0, .float .f32 s0] 31))) (b := w.heap.size) (X := .slice A0 xs0.length c0) (Y := .slice B0 ys0.length e0) (r := r0) (d := d0) (s := s0) (by unfold FmAt; simp) (by simp <;> omega)).grew hg0)
  have N1 : Hid (w.heap.size + 1 ≤ w1.heap.size) := by have := Below.size hg0; (try simp at this); show _ ≤ _; omega
  clear hg hg0
  go_wp2_with fail
  go_ret
  exact ⟨rfl, G.out⟩

set_option maxHeartbeats 4000000 in
theorem walk_WakeAt (A0 : Option Addr) (n0 c0 : Nat) (xs0 : List Nat) (B0 : Option Addr) (m0 e0 : Nat) (ys0 : List Nat) (r0 d0 s0 : Nat) (a1 : Int) (a2 : Nat) (a3 : Nat) (a4 : Nat) (w : World) (hx0 : Slc (Value.float .f32) w w.heap.size A0 n0 xs0) (hn0 : n0 ≤ maxLen) (fx0 : ∀ x ∈ xs0, fits x) (hy0 : Slc (Value.float .f32) w w.heap.size B0 m0 ys0) (hm0 : m0 ≤ maxLen) (fy0 : ∀ x ∈ ys0, fits x) (fr0 : fits r0) (fd0 : fits d0) (fs0 : fits s0) (fa1 : (Lit.int .i64 a1).wf = true) (fa2 : fits a2) (fa3 : fits a3) (fa4 : fits a4)  :
    Calls Try.prog 8 #[.agg #[.slice A0 n0 c0, .slice B0 m0 e0, .float .f32 r0, .float .f32 d0, .float .f32 s0], .int .i64 a1, .float .f32 a2, .float .f32 a3, .float .f32 a4] w fun e w' => e = .returned (.bool true) ∧ Below w.heap.size w w' := by
  by_cases g0 : ((n0 + m0 : Nat) : Int) ≤ 1048576
  case neg => exact walk_WakeAt_bad0 A0 n0 c0 xs0 B0 m0 e0 ys0 r0 d0 s0 a1 a2 a3 a4 w hx0 hn0 fx0 hy0 hm0 fy0 fr0 fd0 fs0 fa1 fa2 fa3 fa4  g0
  exact walk_WakeAt_ok A0 n0 c0 xs0 B0 m0 e0 ys0 r0 d0 s0 a1 a2 a3 a4 w hx0 hn0 fx0 hy0 hm0 fy0 fr0 fd0 fs0 fa1 fa2 fa3 fa4 g0


end Go.Proofs.Ytlakmogclcpgdaa

