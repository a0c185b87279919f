/-
  CONTRACTS: what a rotor takes from the wind, in the program.
-/
import Derived.Test.YtlakmogclcpgdaaWakeMg
import Derived.Test.YtlakmogclcpgdaaYawMg
namespace Go.Proofs.Ytlakmogclcpgdaa
open Go.RowKit Go.Flt
set_option linter.unusedVariables false
set_option maxRecDepth 100000
set_option linter.unusedSimpArgs false

set_option maxHeartbeats 4000000 in
theorem c_wakeAt (A C : Option Addr) (n cA m cC K : Nat) (xs ys : List Nat) (r d s i x y t : Nat) (w : World) (hx : Fl w K A n xs) (hy : Fl w K C m ys) (hK : K ≤ w.heap.size) (hn : n ≤ 1048576) (hm : m = n) (hi : i < n) :
    Calls Try.prog 61 #[.agg #[.slice A n cA, .slice C m cC, .float .f32 r, .float .f32 d, .float .f32 s], .int .i64 i, .float .f32 x, .float .f32 y, .float .f32 t] w (RetF (wakeD xs ys r d s i x y t) (Grew w)) := by
  obtain rfl := hx.1
  have hl := hy.1
  subst hm
  obtain ⟨bx, ox, rfl, hbx, hcx⟩ := hx.2 (by omega)
  obtain ⟨by', oy, rfl, hby, hcy⟩ := hy.2 (by omega)
  have c1 := hcx i (xs.getD i 0) (by simp [hi])
  have c2 := hcy i (ys.getD i 0) (by simp [show i < ys.length by omega])
  have HT := Lib.hid (show wakeD xs ys r d s i x y t = wakeV (xs.getD i 0) (ys.getD i 0) r d s x y t from rfl)
  generalize wakeD xs ys r d s i x y t = T at *
  clear hx hy hcx hcy hl
  generalize xs.getD i 0 = x1 at *
  generalize ys.getD i 0 = y1 at *
  have HV := Lib.hid (show wakeV x1 y1 r d s x y t = if flt (cl .f32 0) (wkAl x1 y1 x y t) && leF (absD (wkAc x1 y1 x y t)) (wkW x1 y1 r s x y t) then fop .mul .f32 (fop .mul .f32 (fop .mul .f32 (cl .f32 1073741824) (cl .f32 d)) (wkQ x1 y1 r s x y t)) (wkQ x1 y1 r s x y t) else cl .f32 0 from rfl)
  have HQ := Lib.hid (show wkQ x1 y1 r s x y t = fop .quo .f32 (cl .f32 r) (wkW x1 y1 r s x y t) from rfl)
  have HW := Lib.hid (show wkW x1 y1 r s x y t = fop .add .f32 (cl .f32 r) (fop .mul .f32 (cl .f32 s) (wkAl x1 y1 x y t)) from rfl)
  have HAL := Lib.hid (show wkAl x1 y1 x y t = fop .add .f32 (fop .mul .f32 (wkU x x1) (wkC t)) (fop .mul .f32 (wkU y y1) (turnD (cl .f32 t))) from rfl)
  have HAC := Lib.hid (show wkAc x1 y1 x y t = fop .sub .f32 (fop .mul .f32 (wkU y y1) (wkC t)) (fop .mul .f32 (wkU x x1) (turnD (cl .f32 t))) from rfl)
  have HC := Lib.hid (show wkC t = turnD (fop .add .f32 (cl .f32 t) (cl .f32 1048576000)) from rfl)
  have HU := Lib.hid (show wkU x x1 = fop .sub .f32 (cl .f32 x) (cl .f32 x1) from rfl)
  have HY := Lib.hid (show wkU y y1 = fop .sub .f32 (cl .f32 y) (cl .f32 y1) from rfl)
  generalize wakeV x1 y1 r d s x y t = V at *
  generalize wkQ x1 y1 r s x y t = QQ at *
  generalize wkW x1 y1 r s x y t = WW at *
  generalize wkAl x1 y1 x y t = AL at *
  generalize wkAc x1 y1 x y t = AC at *
  generalize wkC t = CC at *
  generalize wkU x x1 = U at *
  generalize wkU y y1 = Y at *
  have i3 : (0 : Int) ≤ (i : Int) := by omega
  have i4 : (i : Int) < (xs.length : Int) := by omega
  have i6 : IntKind.i64.wrap (i : Int) = (i : Int) := by rw [IntKind.wrap_i64]; omega
  have i7 : bx < w.heap.size := by omega
  have i8 : by' < w.heap.size := by omega
  clear hn hi hbx hby hK
  go_enter Try.func61, Try.ntmps61
  go_upto_region 1 with fail
  have hG : Grew w (w.alloc (.cells #[.slice (some ⟨bx, ox, none⟩) xs.length cA, .slice (some ⟨by', oy, none⟩) xs.length cC, .float .f32 r, .float .f32 d, .float .f32 s] 25)) := by (show Below _ _ _; (repeat (first | exact Below.refl _ _ | refine ext_below ?_ (by first | omega | (simp only [size_ext, heap_push, Array.size_push, World.heap_drewN]; omega) | (simp; omega)) _ _ | refine below_draws ?_ _ | refine Below.alloc ?_ (by first | omega | (simp; done) | (simp; omega)) _ | refine Below.setCell ?_ (by first | omega | (simp; done) | (simp; omega)) _ | refine below_then (by assumption) (by first | omega | (simp; done) | (simp; omega)) ?_)))
  have A1 : FmAt (w.alloc (.cells #[.slice (some ⟨bx, ox, none⟩) xs.length cA, .slice (some ⟨by', oy, none⟩) xs.length cC, .float .f32 r, .float .f32 d, .float .f32 s] 25)) w.heap.size (.slice (some ⟨bx, ox, none⟩) xs.length cA) (.slice (some ⟨by', oy, none⟩) xs.length cC) r d s := by unfold FmAt; simp [go_sem]
  replace c1 := ((bcell hG).1 bx (ox + i) i7).trans c1
  replace c2 := ((bcell hG).1 by' (oy + i) i8).trans c2
  have G1 := Lib.hid hG
  clear hG i7 i8
  generalize w.alloc (.cells #[.slice (some ⟨bx, ox, none⟩) xs.length cA, .slice (some ⟨by', oy, none⟩) xs.length cC, .float .f32 r, .float .f32 d, .float .f32 s] 25) = w1 at *
  obtain ⟨p0, p1, p2, p3, p4⟩ := A1
  try simp only [List.append_eq, List.cons_append, List.nil_append]
  refine wp_region_drawnC (by kernel_rfl) (by kernel_rfl) ?_
  repeat (first | (refine wpFree_skip rfl ?_; try go_simp) | (refine wpFree_want rfl (fun K hK => ?_); first | (refine free_fbin drawn_draw rfl rfl _ _ _ rfl rfl ?_; intro z hz hzw; go_simp; refine hK _ ?_; clear hK K) | (intro wq hq; obtain ⟨hqc, hqf, hqh⟩ := drawn_cells hq; go_simp; first | (refine hK _ ?_; clear hK K; try clear hqc hqf; try clear hqh; try clear hq; try clear wq) | fail)))
  refine wpFree_nil ?_
  intro wq hq
  obtain ⟨nq, rfl⟩ := hq
  have HU1 := Lib.hid ((fun q (h : cl .f32 q = fop .sub .f32 (cl .f32 x) (cl .f32 x1)) => show cl .f32 q = U from h.trans HU.out.symm) _ (by assumption))
  have HY1 := Lib.hid ((fun q (h : cl .f32 q = fop .sub .f32 (cl .f32 y) (cl .f32 y1)) => show cl .f32 q = Y from h.trans HY.out.symm) _ (by assumption))
  rename_i zu hzu hzuw
  clear hz hzu
  go_upto_region 3 with (first | (refine upon_fbin rfl _ _ _ _ ?_; intro z n hz hzw) | (go_at_call 84; refine (c_SineTurns _ _).mono ?_; rintro e w' ⟨r, rfl, hr, hrf, nq, rfl⟩))
  have HC1 := Lib.hid ((fun q (h : cl .f32 q = turnD (cl .f32 z)) => show cl .f32 q = CC from h.trans (by rw [HC.out, hz])) _ (by assumption))
  have HS1 := Lib.hid ((fun q (h : cl .f32 q = turnD (cl .f32 t)) => h) _ (by assumption))
  rename_i rc hrc hrcf nrc KK aa
  clear hz hr hrc
  generalize turnD (cl .f32 t) = SS at *
  go_upto_region 4 with (first | (refine upon_fbin rfl _ _ _ _ ?_; intro z n hz hzw) | (go_at_call 85; refine (c_absolute _ _ hzw).mono ?_; rintro e w' ⟨ac, rfl, hac, hacw, nac, rfl⟩))
  rename_i z1 n1 hz1 hzw1 z2 n2 hz2 hzw2 z3 n3 hz3 hzw3 z4 n4 hz4 hzw4 z5 n5 hz5 hzw5 KK aa
  have HAL1 := Lib.hid (show cl .f32 z3 = AL by rw [hz3, hz1, hz2, HAL.out, HU1.out, HC1.out, HY1.out, HS1.out])
  have HAC1 := Lib.hid (show cl .f32 ac = absD AC by rw [hac, hz, hz4, hz5, HAC.out, HU1.out, HC1.out, HY1.out, HS1.out])
  clear hac HU HY HC HAL HAC HU1 HY1 HC1 HS1 p0 p1 c1 c2 i3 i4 i6 hz hz1 hz2 hz3 hz4 hz5
  go_upto_region 5 with (refine upon_fbin rfl _ _ _ _ ?_; intro z n hz hzw)
  have hw1 : cl .f32 z = WW := by rw [HW.out, ← HAL1.out]; simp only [*]
  have HV2 := HV.out
  rw [← hw1, ← HAC1.out, ← HAL1.out] at HV2
  have HQ2 := HQ.out
  rw [← hw1] at HQ2
  have HVV := Lib.hid (HT.out.trans HV2)
  have HQQ := Lib.hid HQ2
  clear HV2 HQ2 HV HQ HW hw1 HT hz HAL1 HAC1
  cases h2 : flt (cl .f32 0) (cl .f32 z3)
  case' true => cases h3 : leF (cl .f32 ac) (cl .f32 z)
  all_goals
    have HE := HVV.out
    simp only [h2, Bool.false_and, Bool.true_and, Bool.and_false, Bool.and_true, Bool.false_eq_true, if_false, if_true] at HE
    try simp only [h3, Bool.false_eq_true, if_false, if_true] at HE
    have HF := Lib.hid HE
    clear HE HVV
    go_wp2_with (refine upon_fbin rfl _ _ _ _ ?_; intro z n hz hzw)
    go_ret
    first
      | exact ⟨_, rfl, HF.out.symm, fits_zero, grew_draw _ _ G1.out⟩
      | exact ⟨_, rfl, by rw [HF.out, HQQ.out]; simp only [*], by assumption, grew_draw _ _ G1.out⟩

end Go.Proofs.Ytlakmogclcpgdaa

/-
  CONTRACTS: WakeAt, in the reference and in the program.
-/
namespace Go.Proofs.Ytlakmogclcpgdaa
open Go.RowKit Go.Flt
set_option linter.unusedVariables false
set_option maxRecDepth 100000
set_option linter.unusedSimpArgs false

def fin3 (x y t : Nat) : Bool := fin (cl .f32 x) && fin (cl .f32 y) && fin (cl .f32 t)

def okW (xs ys : List Nat) (r d s : Nat) (i : Int) (x y t : Nat) : Bool := vFarm xs ys r d s && within i 0 ((xs.length : Int) - 1) && fin3 x y t

theorem c_l06Can (b : Nat) (A C : Option Addr) (n cA m cC K : Nat) (xs ys : List Nat) (r d s x y t : Nat) (w : World) (hf : FmAt w b (.slice A n cA) (.slice C m cC) r d s) (hx : Fl w K A n xs) (hy : Fl w K C m ys) (hn : n ≤ maxLen) (hm : m ≤ maxLen) :
    Calls Try.prog 56 #[.pointer (some ⟨b, 0, none⟩), .float .f32 x, .float .f32 y, .float .f32 t] w fun e w' => e = .returned (.bool (vFarm xs ys r d s && fin3 x y t)) ∧ ∃ n, w' = w.drewN n := by
  have V := Lib.hid (c_l06Is b A C n cA m cC K xs ys r d s w hf hx hy hn hm)
  clear hf hx hy hn hm
  have HF := Lib.hid (show fin3 x y t = (fin (cl .f32 x) && fin (cl .f32 y) && fin (cl .f32 t)) from rfl)
  generalize fin3 x y t = F3 at *
  generalize vFarm xs ys r d s = VF at *
  cases VF
  case' true => cases h1 : fin (cl .f32 x)
  case' true.true => cases h2 : fin (cl .f32 y)
  all_goals
    go_enter Try.func56, Try.ntmps56
    go_wp2_with (first | (go_at_call 45; refine V.out.mono ?_; rintro e w' ⟨rfl, nq, rfl⟩) | (go_at_call 54; refine (c_l01Finite _ _).mono ?_; rintro e w' ⟨rfl, nq, rfl⟩))
    go_ret
    exact ⟨by rw [HF.out]; simp [*], by (first | exact ⟨_, rfl⟩ | exact ⟨0, rfl⟩ | exact ⟨_, World.drewN_drewN _ _ _⟩ | (simp only [World.drewN_drewN]; exact ⟨_, rfl⟩))⟩

theorem c_fin3 (x y t : Nat) : ∀ w cap b, Fl w (b + 1) (some ⟨b, 0, none⟩) 3 [x, y, t] → Calls Try.prog 59 #[.slice (some ⟨b, 0, none⟩) 3 cap] w fun e w' => e = .returned (.bool (fin3 x y t)) ∧ ∃ n, w' = w.drewN n := by
  intro w cap b h
  have := c_impl.areFinite _ 3 cap _ _ w h (by simp [maxLen])
  have e : ([x, y, t].all fun x => fin (cl .f32 x)) = fin3 x y t := by simp [fin3, Bool.and_assoc]
  rw [e] at this
  exact this

set_option maxHeartbeats 2000000 in
theorem c_specWakeAt (lo hi : Nat) (v : Value) (xs ys : List Nat) (r d s : Nat) (i : Int) (x y t : Nat) (w : World) (h : FarmAt w lo hi v xs ys r d s) (hK : hi ≤ w.heap.size) (hn : xs.length ≤ 1048576) (hm : ys.length ≤ 1048576) :
    Calls Try.prog 28 #[v, .int .i64 i, .float .f32 x, .float .f32 y, .float .f32 t] w (RetFB (num (okW xs ys r d s i x y t) (wakeD xs ys r d s i.toNat x y t)) (okW xs ys r d s i x y t && fin (wakeD xs ys r d s i.toNat x y t)) (Grew w)) := by
  obtain ⟨A, cA, C, cC, rfl, hx, hy⟩ := h.parts
  have HX := Lib.hid (fun w' (hg : Grew w w') => Slc.grew (g := Value.float .f32) (w' := w') hx hK hg)
  have HY := Lib.hid (fun w' (hg : Grew w w') => Slc.grew (g := Value.float .f32) (w' := w') hy hK hg)
  have V1 := Lib.hid (fun w' b hf (hg : Grew w w') => c_l06Can b A C xs.length cA ys.length cC hi xs ys r d s x y t w' hf (HX.out w' hg) (HY.out w' hg) (by unfold maxLen; omega) (by unfold maxLen; omega))
  have V2 := Lib.hid (fun w' b hf (hg : Grew w w') => c_l06Has b A C xs.length cA ys.length cC hi xs ys r d s i w' hf (HX.out w' hg) (HY.out w' hg) hn hm)
  clear h hx hy
  have HO := Lib.hid (show okW xs ys r d s i x y t = (vFarm xs ys r d s && within i 0 ((xs.length : Int) - 1) && fin3 x y t) from rfl)
  have HH := Lib.hid (show hasR xs ys r d s i = (vFarm xs ys r d s && within i 0 ((xs.length : Int) - 1)) from rfl)
  cases k1 : okW xs ys r d s i x y t
  · have hA := HO.out.symm.trans k1
    clear HO hn hm k1
    generalize wakeD xs ys r d s i.toNat x y t = D at *
    rw [HH.out] at V2
    clear HH
    generalize vFarm xs ys r d s = VF at *
    generalize within i 0 ((xs.length : Int) - 1) = WI at *
    generalize fin3 x y t = F3 at *
    cases VF <;> cases F3 <;> cases WI <;> simp only [Bool.and_true, Bool.and_false, Bool.true_and, Bool.false_and, Bool.true_eq_false] at V1 V2 hA
    all_goals
      clear hA
      go_enter Try.func28, Try.ntmps28
      go_wp2_with (first | (go_at_call 56; refine (V1.out _ _ (by unfold FmAt; simp [go_sem]) (by (show Below _ _ _; (repeat (first | exact Below.refl _ _ | refine ext_below ?_ (by first | omega | (simp only [size_ext, heap_push, Array.size_push, World.heap_drewN]; omega) | (simp; omega)) _ _ | refine below_draws ?_ _ | refine Below.alloc ?_ (by first | omega | (simp; done) | (simp; omega)) _ | refine Below.setCell ?_ (by first | omega | (simp; done) | (simp; omega)) _ | refine below_then (by assumption) (by first | omega | (simp; done) | (simp; omega)) ?_))))).mono ?_; rintro e w' ⟨rfl, nq, rfl⟩) | (go_at_call 50; refine (V2.out _ _ (by unfold FmAt; simp [go_sem]) (by (show Below _ _ _; (repeat (first | exact Below.refl _ _ | refine ext_below ?_ (by first | omega | (simp only [size_ext, heap_push, Array.size_push, World.heap_drewN]; omega) | (simp; omega)) _ _ | refine below_draws ?_ _ | refine Below.alloc ?_ (by first | omega | (simp; done) | (simp; omega)) _ | refine Below.setCell ?_ (by first | omega | (simp; done) | (simp; omega)) _ | refine below_then (by assumption) (by first | omega | (simp; done) | (simp; omega)) ?_))))).mono ?_; rintro e w' ⟨rfl, nq, rfl⟩))
      refine bodyPost_ret (v := .tuple #[.float .f32 0, .bool false]) (by simp [results, Try.results28, go_sem]) rfl ?_
      exact ⟨0, rfl, rfl, fits_zero, by (show Below _ _ _; (repeat (first | exact Below.refl _ _ | refine ext_below ?_ (by first | omega | (simp only [size_ext, heap_push, Array.size_push, World.heap_drewN]; omega) | (simp; omega)) _ _ | refine below_draws ?_ _ | refine Below.alloc ?_ (by first | omega | (simp; done) | (simp; omega)) _ | refine Below.setCell ?_ (by first | omega | (simp; done) | (simp; omega)) _ | refine below_then (by assumption) (by first | omega | (simp; done) | (simp; omega)) ?_)))⟩
  · have hA := HO.out.symm.trans k1
    simp only [Bool.and_eq_true] at hA
    obtain ⟨⟨k2, k3⟩, k4⟩ := hA
    have k5 := HH.out
    rw [k2, k3] at k5
    obtain ⟨k, rfl, hkx, hky, h12, hxy⟩ := has_parts k5
    have V3 := Lib.hid (fun w' b hf (hg : Grew w w') => c_l06Wake b A C xs.length cA ys.length cC hi xs ys r d s k x y t w' hf (HX.out w' hg) (HY.out w' hg) hn hxy hkx)
    rw [k2, k4] at V1
    rw [k5] at V2
    simp only [Int.toNat_natCast]
    generalize wakeD xs ys r d s k x y t = D at *
    clear HO HH k1 k2 k3 k4 k5 hkx hky h12 hn hm hxy
    go_enter Try.func28, Try.ntmps28
    go_wp2_with (first | (go_at_call 56; refine (V1.out _ _ (by unfold FmAt; simp [go_sem]) (by (show Below _ _ _; (repeat (first | exact Below.refl _ _ | refine ext_below ?_ (by first | omega | (simp only [size_ext, heap_push, Array.size_push, World.heap_drewN]; omega) | (simp; omega)) _ _ | refine below_draws ?_ _ | refine Below.alloc ?_ (by first | omega | (simp; done) | (simp; omega)) _ | refine Below.setCell ?_ (by first | omega | (simp; done) | (simp; omega)) _ | refine below_then (by assumption) (by first | omega | (simp; done) | (simp; omega)) ?_))))).mono ?_; rintro e w' ⟨rfl, nq, rfl⟩) | (go_at_call 50; refine (V2.out _ _ (by unfold FmAt; simp [go_sem]) (by (show Below _ _ _; (repeat (first | exact Below.refl _ _ | refine ext_below ?_ (by first | omega | (simp only [size_ext, heap_push, Array.size_push, World.heap_drewN]; omega) | (simp; omega)) _ _ | refine below_draws ?_ _ | refine Below.alloc ?_ (by first | omega | (simp; done) | (simp; omega)) _ | refine Below.setCell ?_ (by first | omega | (simp; done) | (simp; omega)) _ | refine below_then (by assumption) (by first | omega | (simp; done) | (simp; omega)) ?_))))).mono ?_; rintro e w' ⟨rfl, nq, rfl⟩) | (go_at_call 58; refine (V3.out _ _ (by unfold FmAt; simp [go_sem]) (by (show Below _ _ _; (repeat (first | exact Below.refl _ _ | refine ext_below ?_ (by first | omega | (simp only [size_ext, heap_push, Array.size_push, World.heap_drewN]; omega) | (simp; omega)) _ _ | refine below_draws ?_ _ | refine Below.alloc ?_ (by first | omega | (simp; done) | (simp; omega)) _ | refine Below.setCell ?_ (by first | omega | (simp; done) | (simp; omega)) _ | refine below_then (by assumption) (by first | omega | (simp; done) | (simp; omega)) ?_))))).mono ?_; rintro e w' ⟨z, rfl, hz, hzf, nz, rfl⟩; have HZ := Lib.hid hz; have HZF := Lib.hid hzf; clear hz hzf) | (go_at_call 57; refine (c_l02Number _ _).mono ?_; rintro e w' ⟨rfl, nq, rfl⟩))
    refine bodyPost_ret (v := .tuple #[.float .f32 (chkW z), .bool (fin (cl .f32 z))]) (by simp [results, Try.results28, go_sem]) rfl ?_
    exact ⟨chkW z, by rw [HZ.out]; rfl, by rw [cl_chkW, HZ.out]; simp [chk, num], fits_chkW HZF.out, by (show Below _ _ _; (repeat (first | exact Below.refl _ _ | refine ext_below ?_ (by first | omega | (simp only [size_ext, heap_push, Array.size_push, World.heap_drewN]; omega) | (simp; omega)) _ _ | refine below_draws ?_ _ | refine Below.alloc ?_ (by first | omega | (simp; done) | (simp; omega)) _ | refine Below.setCell ?_ (by first | omega | (simp; done) | (simp; omega)) _ | refine below_then (by assumption) (by first | omega | (simp; done) | (simp; omega)) ?_)))⟩

end Go.Proofs.Ytlakmogclcpgdaa

/-
  CONTRACTS: WakeAt, in the program.
-/
namespace Go.Proofs.Ytlakmogclcpgdaa
open Go.RowKit Go.Flt
set_option linter.unusedVariables false
set_option maxRecDepth 100000
set_option linter.unusedSimpArgs false

set_option maxHeartbeats 2000000 in
theorem c_implWakeAt (lo hi : Nat) (v : Value) (xs ys : List Nat) (r d s : Nat) (i : Int) (x y t : Nat) (w : World) (h : FarmAt w lo hi v xs ys r d s) (hK : hi ≤ w.heap.size) (hn : xs.length ≤ 1048576) (hm : ys.length ≤ 1048576) :
    Calls Try.prog 29 #[v, .int .i64 i, .float .f32 x, .float .f32 y, .float .f32 t] w (RetFB (num (okW xs ys r d s i x y t) (wakeD xs ys r d s i.toNat x y t)) (okW xs ys r d s i x y t && fin (wakeD xs ys r d s i.toNat x y t)) (Grew w)) := by
  have V1 := Lib.hid (fun w' (hg : Grew w w') => c_implValidFarm' lo hi v xs ys r d s w' (h.grew hK hg) (Nat.le_trans hK (Below.size hg)))
  obtain ⟨A, cA, C, cC, rfl, hx, hy⟩ := h.parts
  have V2 := Lib.hid (fun w' => c_isRotor A C xs.length cA ys.length cC r d s i w' hn)
  have HX := Lib.hid (fun w' (hg : Grew w w') => Slc.grew (g := Value.float .f32) (w' := w') hx hK hg)
  have HY := Lib.hid (fun w' (hg : Grew w w') => Slc.grew (g := Value.float .f32) (w' := w') hy hK hg)
  have V3 := Lib.hid (c_fin3 x y t)
  clear h hx hy
  have HO := Lib.hid (show okW xs ys r d s i x y t = (vFarm xs ys r d s && within i 0 ((xs.length : Int) - 1) && fin3 x y t) from rfl)
  have HH := Lib.hid (show hasR xs ys r d s i = (vFarm xs ys r d s && within i 0 ((xs.length : Int) - 1)) from rfl)
  cases k1 : okW xs ys r d s i x y t
  · have hA := HO.out.symm.trans k1
    clear HO HH hn hm k1 hK
    generalize wakeD xs ys r d s i.toNat x y t = D at *
    generalize vFarm xs ys r d s = VF at *
    generalize within i 0 ((xs.length : Int) - 1) = WI at *
    generalize fin3 x y t = F3 at *
    cases VF <;> cases WI <;> cases F3 <;> simp only [Bool.and_true, Bool.and_false, Bool.true_and, Bool.false_and, Bool.true_eq_false] at hA
    all_goals
      clear hA
      go_enter Try.func29, Try.ntmps29
      go_wp2_with fail
      refine (V1.out _ (by (show Below _ _ _; (repeat (first | exact Below.refl _ _ | refine ext_below ?_ (by first | omega | (simp only [size_ext, heap_push, Array.size_push, World.heap_drewN]; omega) | (simp; omega)) _ _ | refine below_draws ?_ _ | refine Below.alloc ?_ (by first | omega | (simp; done) | (simp; omega)) _ | refine Below.setCell ?_ (by first | omega | (simp; done) | (simp; omega)) _ | refine below_then (by assumption) (by first | omega | (simp; done) | (simp; omega)) ?_))))).mono ?_
      rintro e w1 ⟨rfl, hg1⟩
      have G1 := Lib.hid (grew_trans (show Grew w _ by (show Below _ _ _; (repeat (first | exact Below.refl _ _ | refine ext_below ?_ (by first | omega | (simp only [size_ext, heap_push, Array.size_push, World.heap_drewN]; omega) | (simp; omega)) _ _ | refine below_draws ?_ _ | refine Below.alloc ?_ (by first | omega | (simp; done) | (simp; omega)) _ | refine Below.setCell ?_ (by first | omega | (simp; done) | (simp; omega)) _ | refine below_then (by assumption) (by first | omega | (simp; done) | (simp; omega)) ?_)))) hg1)
      have A1 : Hid (FmAt w1 w.heap.size (.slice A xs.length cA) (.slice C ys.length cC) r d s) := Lib.hid (FmAt.grew (by unfold FmAt; simp [go_sem]) (by simp <;> omega) hg1)
      have z0 : w.heap.size < w1.heap.size := by have := Below.size hg1; simp at this; omega
      clear hg1 V1
      obtain ⟨p0, p1, p2, p3, p4⟩ := A1.out
      go_wp2_with (first | (go_at_call 51; refine (V2.out _).mono ?_; rintro e w2 ⟨rfl, hg2⟩; have A2 := Lib.hid (A1.out.grew z0 hg2); have G2 := Lib.hid (grew_trans G1.out hg2); clear hg2 p0 p1 p2 p3 p4) | (go_at_call 59; refine (V3.out _ _ _ (fl_new _ [x, y, t] _ _ _ (by simp) rfl)).mono ?_; rintro e w' ⟨rfl, nq, rfl⟩))
      refine bodyPost_ret (v := .tuple #[.float .f32 0, .bool false]) (by simp [results, Try.results29, go_sem]) rfl ?_
      exact ⟨0, rfl, rfl, fits_zero, by first | exact G1.out | exact G2.out | exact grew_draw _ _ (grew_al G2.out _)⟩
  · have hA := HO.out.symm.trans k1
    simp only [Bool.and_eq_true] at hA
    obtain ⟨⟨k2, k3⟩, k4⟩ := hA
    have k5 := HH.out
    rw [k2, k3] at k5
    obtain ⟨k, rfl, hkx, hky, h12, hxy⟩ := has_parts k5
    have V4 := Lib.hid (fun w' (hg : Grew w w') => c_wakeAt A C xs.length cA ys.length cC hi xs ys r d s k x y t w' (HX.out w' hg) (HY.out w' hg) (Nat.le_trans hK (Below.size hg)) hn hxy hkx)
    rw [k2] at V1
    rw [k3] at V2
    rw [k4] at V3
    simp only [Int.toNat_natCast]
    generalize wakeD xs ys r d s k x y t = D at *
    clear HO HH k1 k2 k3 k4 k5 hkx hky h12 hn hm hxy
    go_enter Try.func29, Try.ntmps29
    go_wp2_with fail
    refine (V1.out _ (by (show Below _ _ _; (repeat (first | exact Below.refl _ _ | refine ext_below ?_ (by first | omega | (simp only [size_ext, heap_push, Array.size_push, World.heap_drewN]; omega) | (simp; omega)) _ _ | refine below_draws ?_ _ | refine Below.alloc ?_ (by first | omega | (simp; done) | (simp; omega)) _ | refine Below.setCell ?_ (by first | omega | (simp; done) | (simp; omega)) _ | refine below_then (by assumption) (by first | omega | (simp; done) | (simp; omega)) ?_))))).mono ?_
    rintro e w1 ⟨rfl, hg1⟩
    have G1 := Lib.hid (grew_trans (show Grew w _ by (show Below _ _ _; (repeat (first | exact Below.refl _ _ | refine ext_below ?_ (by first | omega | (simp only [size_ext, heap_push, Array.size_push, World.heap_drewN]; omega) | (simp; omega)) _ _ | refine below_draws ?_ _ | refine Below.alloc ?_ (by first | omega | (simp; done) | (simp; omega)) _ | refine Below.setCell ?_ (by first | omega | (simp; done) | (simp; omega)) _ | refine below_then (by assumption) (by first | omega | (simp; done) | (simp; omega)) ?_)))) hg1)
    have A1 : Hid (FmAt w1 w.heap.size (.slice A xs.length cA) (.slice C ys.length cC) r d s) := Lib.hid (FmAt.grew (by unfold FmAt; simp [go_sem]) (by simp <;> omega) hg1)
    have z0 : w.heap.size < w1.heap.size := by have := Below.size hg1; simp at this; omega
    clear hg1 V1
    obtain ⟨p0, p1, p2, p3, p4⟩ := A1.out
    go_wp2_with fail
    refine (V2.out _).mono ?_
    rintro e w2 ⟨rfl, hg2⟩
    have A2 := Lib.hid (A1.out.grew z0 hg2)
    have G2 := Lib.hid (grew_trans G1.out hg2)
    have z2 : w.heap.size < w2.heap.size := by have := Below.size hg2; omega
    clear hg2 V2 p0 p1 p2 p3 p4
    obtain ⟨p0, p1, p2, p3, p4⟩ := A2.out
    go_wp2_with fail
    refine (V3.out _ _ _ (fl_new _ [x, y, t] _ _ _ (by simp) rfl)).mono ?_
    rintro e w3 ⟨rfl, nq, hw3⟩
    have hg3 : Grew w2 w3 := by rw [hw3]; exact grew_draw _ _ (grew_al (grew_refl _) _)
    have A3 := Lib.hid (A2.out.grew z2 hg3)
    have G3 := Lib.hid (grew_trans G2.out hg3)
    clear hg3 hw3 V3 p0 p1 p2 p3 p4
    obtain ⟨p0, p1, p2, p3, p4⟩ := A3.out
    go_wp2_with (first | (go_at_call 61; refine (V4.out _ G3.out).mono ?_; rintro e w4 ⟨z, rfl, hz, hzf, hg4⟩; have G4 := Lib.hid (grew_trans G3.out hg4); have HZ := Lib.hid hz; have HZF := Lib.hid hzf; clear hz hzf hg4) | (go_at_call 60; refine (c_checked _ _).mono ?_; rintro e w' ⟨rfl, nq, rfl⟩))
    refine bodyPost_ret (v := .tuple #[.float .f32 (chkW z), .bool (fin (cl .f32 z))]) (by simp [results, Try.results29, go_sem]) rfl ?_
    exact ⟨chkW z, by rw [HZ.out]; rfl, by rw [cl_chkW, HZ.out]; simp [chk, num], fits_chkW HZF.out, grew_draw _ _ G4.out⟩

end Go.Proofs.Ytlakmogclcpgdaa

/-
  CONTRACTS: what all rotors take from the wind, in the reference and in the program.
-/
namespace Go.Proofs.Ytlakmogclcpgdaa
open Go.RowKit Go.Flt
set_option linter.unusedVariables false
set_option maxRecDepth 100000
set_option linter.unusedSimpArgs false

def lsS (xs ys : List Nat) (r d s x y t : Nat) : Nat → Ieee.Datum
  | 0 => cl .f32 0
  | k + 1 => fop .add .f32 (lsS xs ys r d s x y t k) (fop .mul .f32 (wakeD xs ys r d s k x y t) (wakeD xs ys r d s k x y t))

def capD (x : Ieee.Datum) : Ieee.Datum := if flt (cl .f32 1065353216) x then cl .f32 1065353216 else x

/-- What all rotors take from the wind. -/
def lossD (xs ys : List Nat) (r d s x y t : Nat) : Ieee.Datum := capD (rootD (lsS xs ys r d s x y t xs.length))

theorem fits_one : fits 1065353216 := rfl

set_option maxHeartbeats 2000000 in
theorem c_l06Loss (b : Nat) (A C : Option Addr) (n cA m cC K : Nat) (xs ys : List Nat) (r d s x y t : Nat) (w : World) (hf : FmAt w b (.slice A n cA) (.slice C m cC) r d s) (hx : Fl w K A n xs) (hy : Fl w K C m ys) (hn : n ≤ 1048576) (hm : m = n) :
    Calls Try.prog 62 #[.pointer (some ⟨b, 0, none⟩), .float .f32 x, .float .f32 y, .float .f32 t] w (RetF (lossD xs ys r d s x y t) (Drawn w)) := by
  obtain rfl := hx.1
  have HW := Lib.hid (fun (k : Nat) w' (hk : k < xs.length) (hd : Drawn w w') => c_l06Wake b A C xs.length cA m cC K xs ys r d s k x y t w' (by obtain ⟨q, rfl⟩ := hd; exact hf) (by obtain ⟨q, rfl⟩ := hd; exact Fl.drewN hx q) (by obtain ⟨q, rfl⟩ := hd; exact Fl.drewN hy q) hn hm hk)
  obtain ⟨p0, _, _, _, _⟩ := hf
  have HT := Lib.hid (show lossD xs ys r d s x y t = capD (rootD (lsS xs ys r d s x y t xs.length)) from rfl)
  have H0 := Lib.hid (show lsS xs ys r d s x y t 0 = cl .f32 0 from rfl)
  have HS := Lib.hid (show ∀ k, lsS xs ys r d s x y t (k + 1) = fop .add .f32 (lsS xs ys r d s x y t k) (fop .mul .f32 (wakeD xs ys r d s k x y t) (wakeD xs ys r d s k x y t)) from fun _ => rfl)
  generalize lossD xs ys r d s x y t = T at *
  generalize lsS xs ys r d s x y t = L at *
  have hWD : ∃ WD : Nat → Ieee.Datum, ∀ k, WD k = wakeD xs ys r d s k x y t := ⟨fun k => wakeD xs ys r d s k x y t, fun _ => rfl⟩
  obtain ⟨WD, hWD⟩ := hWD
  simp only [← hWD] at HW HS
  clear hWD hx hy hm
  have NN := Lib.hid hn
  clear hn
  go_enter Try.func62, Try.ntmps62
  go_wp2_with fail
  go_loopw [9, 10] (fun sz si wr => ∃ (k z : Nat), k ≤ xs.length ∧ sz = .float .f32 z ∧ si = .int .i64 (k : Int) ∧ Hid (cl .f32 z = L k) ∧ Hid (Drawn w wr)) (fun _ si _ => xs.length - (intOf si).toNat)
  case atStart => exact ⟨0, 0, Nat.zero_le _, rfl, rfl, H0.out.symm, ⟨0, rfl⟩⟩
  case round =>
    obtain ⟨k, z, hk, rfl, rfl, hzk, hDr⟩ := hrel
    have q0 : wr.cell? ⟨b, 0, none⟩ = some (.slice A xs.length cA) := by obtain ⟨q, rfl⟩ := hDr.out; exact p0
    by_cases hlt : k < xs.length
    · have i3 : (0 : Int) ≤ (k : Int) := by omega
      have i4 : (k : Int) < (xs.length : Int) := by omega
      have HWR := Lib.hid (show wrap64 ((k : Int) + 1) = (k : Int) + 1 by have := NN.out; unfold wrap64; omega)
      go_wp2_with (first | (refine upon_fbin rfl _ _ _ _ ?_; intro z n hz hzw) | (go_at_call 58; refine (HW.out k _ hlt (by exact hDr.out)).mono ?_; rintro e w' ⟨zw, rfl, hzw1, hzf1, nz, rfl⟩))
      go_roundw
      case rel => exact ⟨k + 1, _, by omega, rfl, by have e := HWR.out; simp [e], by show cl _ _ = _; rw [HS.out, ← hzk.out]; simp only [*], drawn_trans hDr.out ⟨_, rfl⟩⟩
      case measure => have e := HWR.out; exact meas_less hlt e
    · obtain rfl : k = xs.length := by omega
      have i4 : ¬ (xs.length : Int) < (xs.length : Int) := by omega
      have hT := HT.out
      rw [← hzk.out] at hT
      have HTT := Lib.hid (show T = if flt (cl .f32 1065353216) (rootD (cl .f32 z)) then cl .f32 1065353216 else rootD (cl .f32 z) from hT)
      clear hT HT
      cases h1 : flt (cl .f32 1065353216) (rootD (cl .f32 z))
      all_goals
        rw [h1] at HTT
        have hE := HTT.out
        simp only [Bool.false_eq_true, if_false, if_true] at hE
        have HE := Lib.hid hE
        clear hE HTT
        go_wp2_with (first | (refine upon_fbin rfl _ _ _ _ ?_; intro z n hz hzw) | (go_at_call 80; refine (c_l01Sqrt _ _).mono ?_; rintro e w' ⟨r, rfl, hr, hrf, nq, rfl⟩))
        go_ret
        first
          | exact ⟨_, rfl, HE.out.symm, fits_one, drawn_trans hDr.out ⟨_, rfl⟩⟩
          | exact ⟨_, rfl, by rw [HE.out]; assumption, by assumption, drawn_trans hDr.out ⟨_, rfl⟩⟩

set_option maxHeartbeats 2000000 in
theorem c_lossAt (A C : Option Addr) (n cA m cC K : Nat) (xs ys : List Nat) (r d s x y t : Nat) (w : World) (hx : Fl w K A n xs) (hy : Fl w K C m ys) (hK : K ≤ w.heap.size) (hn : n ≤ 1048576) (hm : m = n) :
    Calls Try.prog 63 #[.agg #[.slice A n cA, .slice C m cC, .float .f32 r, .float .f32 d, .float .f32 s], .float .f32 x, .float .f32 y, .float .f32 t] w (RetF (lossD xs ys r d s x y t) (Grew w)) := by
  obtain rfl := hx.1
  have HX := fun w' (hg : Grew w w') => Slc.grew (g := Value.float .f32) (w' := w') hx hK hg
  have HY := fun w' (hg : Grew w w') => Slc.grew (g := Value.float .f32) (w' := w') hy hK hg
  have HW := Lib.hid (fun (k : Nat) w' (hk : k < xs.length) (hg : Grew w w') => c_wakeAt A C xs.length cA m cC K xs ys r d s k x y t w' (HX w' hg) (HY w' hg) (Nat.le_trans hK (Below.size hg)) hn hm hk)
  have HT := Lib.hid (show lossD xs ys r d s x y t = capD (rootD (lsS xs ys r d s x y t xs.length)) from rfl)
  have H0 := Lib.hid (show lsS xs ys r d s x y t 0 = cl .f32 0 from rfl)
  have HS := Lib.hid (show ∀ k, lsS xs ys r d s x y t (k + 1) = fop .add .f32 (lsS xs ys r d s x y t k) (fop .mul .f32 (wakeD xs ys r d s k x y t) (wakeD xs ys r d s k x y t)) from fun _ => rfl)
  generalize lossD xs ys r d s x y t = T at *
  generalize lsS xs ys r d s x y t = L at *
  have hWD : ∃ WD : Nat → Ieee.Datum, ∀ k, WD k = wakeD xs ys r d s k x y t := ⟨fun k => wakeD xs ys r d s k x y t, fun _ => rfl⟩
  obtain ⟨WD, hWD⟩ := hWD
  simp only [← hWD] at HW HS
  clear hWD HX HY hx hy hm hK
  have NN := Lib.hid hn
  clear hn
  go_enter Try.func63, Try.ntmps63
  go_upto_region 1 with fail
  have hG : Grew w (w.alloc (.cells #[.slice A xs.length cA, .slice C m cC, .float .f32 r, .float .f32 d, .float .f32 s] 25)) := by (show Below _ _ _; (repeat (first | exact Below.refl _ _ | refine ext_below ?_ (by first | omega | (simp only [size_ext, heap_push, Array.size_push, World.heap_drewN]; omega) | (simp; omega)) _ _ | refine below_draws ?_ _ | refine Below.alloc ?_ (by first | omega | (simp; done) | (simp; omega)) _ | refine Below.setCell ?_ (by first | omega | (simp; done) | (simp; omega)) _ | refine below_then (by assumption) (by first | omega | (simp; done) | (simp; omega)) ?_)))
  have A1 : FmAt (w.alloc (.cells #[.slice A xs.length cA, .slice C m cC, .float .f32 r, .float .f32 d, .float .f32 s] 25)) w.heap.size (.slice A xs.length cA) (.slice C m cC) r d s := by unfold FmAt; simp [go_sem]
  have hsz : w.heap.size < (w.alloc (.cells #[.slice A xs.length cA, .slice C m cC, .float .f32 r, .float .f32 d, .float .f32 s] 25)).heap.size := by simp
  have G1 := Lib.hid hG
  have HA := Lib.hid A1
  have HZ := Lib.hid hsz
  clear hG A1 hsz
  generalize w.alloc (.cells #[.slice A xs.length cA, .slice C m cC, .float .f32 r, .float .f32 d, .float .f32 s] 25) = w1 at *
  obtain ⟨p0, p1, p2, p3, p4⟩ := HA.out
  go_wp2_with fail
  clear p0 p1 p2 p3 p4
  go_loopw [9, 16] (fun sz si wr => ∃ (k z : Nat), k ≤ xs.length ∧ sz = .float .f32 z ∧ si = .int .i64 (k : Int) ∧ Hid (cl .f32 z = L k) ∧ Hid (Grew w1 wr)) (fun _ si _ => xs.length - (intOf si).toNat)
  case atStart => exact ⟨0, 0, Nat.zero_le _, rfl, rfl, H0.out.symm, grew_refl _⟩
  case round =>
    obtain ⟨k, z, hk, rfl, rfl, hzk, hDr⟩ := hrel
    obtain ⟨p0, p1, p2, p3, p4⟩ := HA.out.grew HZ.out hDr.out
    by_cases hlt : k < xs.length
    · have i3 : (0 : Int) ≤ (k : Int) := by omega
      have i4 : (k : Int) < (xs.length : Int) := by omega
      have HWR := Lib.hid (show wrap64 ((k : Int) + 1) = (k : Int) + 1 by have := NN.out; unfold wrap64; omega)
      go_wp2_with (first | (refine upon_fbin rfl _ _ _ _ ?_; intro z n hz hzw) | (go_at_call 61; refine (HW.out k _ hlt (grew_trans G1.out hDr.out)).mono ?_; rintro e w2 ⟨zw, rfl, hzw1, hzf1, hg2⟩; have G2 := Lib.hid (grew_trans hDr.out hg2); clear hg2 p0 p1 p2 p3 p4))
      go_roundw
      case rel => exact ⟨k + 1, _, by omega, rfl, by have e := HWR.out; simp [e], by show cl _ _ = _; rw [HS.out, ← hzk.out]; simp only [*], grew_draw _ _ G2.out⟩
      case measure => have e := HWR.out; exact meas_less hlt e
    · obtain rfl : k = xs.length := by omega
      have i4 : ¬ (xs.length : Int) < (xs.length : Int) := by omega
      have hT := HT.out
      rw [← hzk.out] at hT
      have HTT := Lib.hid (show T = if flt (cl .f32 1065353216) (rootD (cl .f32 z)) then cl .f32 1065353216 else rootD (cl .f32 z) from hT)
      clear hT HT p0 p1 p2 p3 p4
      have G3 := Lib.hid (grew_trans G1.out hDr.out)
      cases h1 : flt (cl .f32 1065353216) (rootD (cl .f32 z))
      all_goals
        rw [h1] at HTT
        have hE := HTT.out
        simp only [Bool.false_eq_true, if_false, if_true] at hE
        have HE := Lib.hid hE
        clear hE HTT
        go_wp2_with (first | (refine upon_fbin rfl _ _ _ _ ?_; intro z n hz hzw) | (go_at_call 55; refine (c_RootNumber _ _).mono ?_; rintro e w' ⟨r, rfl, hr, hrf, nq, rfl⟩))
        go_ret
        first
          | exact ⟨_, rfl, HE.out.symm, fits_one, grew_draw _ _ G3.out⟩
          | exact ⟨_, rfl, by rw [HE.out]; assumption, by assumption, grew_draw _ _ G3.out⟩

end Go.Proofs.Ytlakmogclcpgdaa

/-
  PLAIN LAWS: the losses of a farm lie from 0 to 1.
-/
namespace Go.Flt
open Go Ieee
set_option linter.unusedVariables false

/-- The square root of a number that is not below 0 is not below 0. -/
theorem root_ge0 (b : Nat) (hn : isNum (cl .f32 b) = true) (h0 : 0 ≤ iv (-149) (cl .f32 b)) : leF (cl .f32 0) (nar (sqD (wid (cl .f32 b)))) = true := by
  have h0 : 0 ≤ iv (-1074) (wid (cl .f32 b)) := by
    rw [wid_iv, iv_down hn (-149) (-1074) (by omega) (pl32 b)]
    exact Int.mul_nonneg h0 (Int.natCast_nonneg _)
  have n64 : isNum (cl .f64 0) = true := by rw [c_nought]; rfl
  have v64 : iv (-1074) (cl .f64 0) = 0 := by rw [c_nought]; exact sgn_zero _ _
  have key : ∀ d : Datum, isNum d = true → place (-1074) d → 0 ≤ iv (-1074) d → iv (-1074) d ≤ (tw 1144 : Int) → leF (cl .f32 0) (nar (rd .f64 d)) = true := by
    intro d nd pd h0 h1
    have nhi : isNum (cl .f64 5181391371289755648) = true := by rw [c_hi]; rfl
    have ihi : iv (-1074) (cl .f64 5181391371289755648) = (6755399441055744 * tw 1149 : Int) := by rw [c_hi, iv_of false _ 75 1149 (by omega)]; simp
    have t1 : (tw 1144 : Int) ≤ (tw 1149 : Int) := by have := tw_le (a := 1144) (b := 1149) (by omega); omega
    have t2 : (0 : Int) < (tw 1149 : Int) := by have := tw_pos 1149; omega
    obtain ⟨nD, d1, d2⟩ := rd_between .f64 nd n64 nhi ((leF_iv n64 nd (place64 _) pd).2 (by rw [v64]; omega)) ((leF_iv nd nhi pd (place64 _)).2 (by rw [ihi]; omega))
    have pD : place (-1074) (rd .f64 d) := place64 _
    have d1 := (leF_iv n64 nD (place64 _) pD).1 d1
    rw [v64] at d1
    rw [nar_rd nD]
    refine rd_ge nD num_zero ?_
    exact (leF_iv num_zero nD (place32 _) pD).2 (by rw [iv_zero32]; omega)
  have hb := wid_bound b hn
  have hw := wid_isNum b hn
  obtain ⟨w64, hw64⟩ := wid_fix b hn
  have hp : place (-1074) (wid (cl .f32 b)) := by rw [hw64]; exact place64 _
  generalize wid (cl .f32 b) = W at h0 hb hw hp ⊢
  cases W <;> simp only [isNum] at hw <;> first | (cases hw; done) | skip
  rename_i s m i
  by_cases hm : m = 0
  · subst hm
    have e : sqD (.number s 0 i) = rd .f64 (.number s 0 i) := by unfold sqD Datum.root; simp [rnd, rd]
    rw [e]
    refine key _ rfl hp ?_ ?_
    · simp [iv, signed]
    · have := tw_pos 1144; simp [iv, signed]
  · cases s
    · have hi : -1074 ≤ i := hp
      obtain ⟨k, hk⟩ : ∃ k : Nat, i + 1074 = k := ⟨(i + 1074).toNat, by omega⟩
      rw [iv_of false m i k hk] at hb
      have hb1 : m * tw k < tw 1202 := by have := tw_pos 1178; have := hb.1; simp at this; omega
      have hlog : m.log2 + k < 1202 := by
        refine Nat.lt_of_not_le fun hc => ?_
        have a1 := Nat.mul_le_mul_right (tw k) (tw_log hm)
        rw [← tw_add] at a1
        have a2 := tw_le hc
        omega
      obtain ⟨q, T, j, hr, hj, hq, hT⟩ := root_num m i hm hi (by omega)
      have e : sqD (.number false m i) = rd .f64 (.number false q j) := by unfold sqD; rw [hr]; rfl
      rw [e]
      obtain ⟨kj, hkj⟩ : ∃ kj : Nat, j + 1074 = kj := ⟨(j + 1074).toNat, by omega⟩
      refine key _ rfl hj ?_ ?_
      · rw [iv_of false q j kj hkj]; simp; exact Int.mul_nonneg (Int.natCast_nonneg _) (Int.natCast_nonneg _)
      · rw [iv_of false q j kj hkj]
        have a1 : q * tw kj ≤ tw T * tw kj := Nat.mul_le_mul_right _ (Nat.le_of_lt hq)
        rw [← tw_add] at a1
        have a2 := tw_le (a := T + kj) (b := 1144) (by omega)
        simp only [Bool.false_eq_true, if_false]
        omega
    · exfalso
      have hi : -1074 ≤ i := hp
      obtain ⟨k, hk⟩ : ∃ k : Nat, i + 1074 = k := ⟨(i + 1074).toNat, by omega⟩
      rw [iv_of true m i k hk] at h0
      simp only [if_true] at h0
      have : 0 < m * tw k := Nat.mul_pos (Nat.pos_of_ne_zero hm) (tw_pos k)
      omega

/-- Not below 0, not above any bound: a number or an infinity. -/
theorem ge_cases {P : Datum} {c : Nat} (hc : isNum (cl .f32 c) = true) (h : leF (cl .f32 c) P = true) : isNum P = true ∨ P = .infinity false := by
  cases P with
  | number s m i => exact .inl rfl
  | infinity s =>
    cases s
    · exact .inr rfl
    · cases hcc : cl .f32 c <;> rw [hcc] at hc h <;> simp only [isNum] at hc <;> first | (cases hc; done) | (simp [leF, flt, feq, Datum.order] at h)
  | nan s t => cases hcc : cl .f32 c <;> rw [hcc] at h <;> simp [leF, flt, feq, Datum.order] at h

theorem flt_cases {P : Datum} (h : flt (cl .f32 0) P = true) : isNum P = true ∨ P = .infinity false := by
  cases P with
  | number s m i => exact .inl rfl
  | infinity s =>
    cases s
    · exact .inr rfl
    · revert h; decide +kernel
  | nan s t => rw [cl_zero32] at h; simp [flt, Datum.order] at h

theorem sum_inf (r : Datum) (hr : isNum r = true) : fop .add .f32 r (.infinity false) = .infinity false := by
  cases r <;> simp only [isNum] at hr <;> first | (cases hr; done) | skip
  show rnd .f32 (some (.infinity false)) = _
  decide +kernel

theorem mul_inf (s : Nat) (hs : isNum (cl .f32 s) = true) (h : flt (cl .f32 0) (cl .f32 s) = true) : fop .mul .f32 (cl .f32 s) (.infinity false) = .infinity false := by
  have h' := h
  rw [flt_num (-149) num_zero hs (pl32 _) (pl32 _), iv_zero149] at h'
  have h' := of_decide_eq_true h'
  cases hc : cl .f32 s with
  | nan a b => rw [hc] at hs; cases hs
  | infinity a => rw [hc] at hs; cases hs
  | number a m i =>
    rw [hc] at h'
    have hm : m ≠ 0 := by rintro rfl; simp only [iv, sgn_zero] at h'; omega
    have ha : a = false := by
      cases a
      · rfl
      · have := sgn_le m (i - -149).toNat; simp only [iv] at h'; omega
    subst ha
    have e : (Datum.number false m i).product (.infinity false) = some (.infinity false) := by
      show (if m = 0 then none else some (Datum.infinity (false ^^ false))) = _
      rw [if_neg hm]; rfl
    simp only [fop, e]
    decide +kernel

theorem quo_inf (r : Datum) (hr : isNum r = true) : Un (fop .quo .f32 r (.infinity false)) := by
  cases r <;> simp only [isNum] at hr <;> first | (cases hr; done) | skip
  rename_i s m i
  have e : fop .quo .f32 (.number s m i) (.infinity false) = rd .f32 (.number s 0 0) := by
    have h2 : (Datum.number s m i).quotient (FloatKind.f32.format.fractionBits + 2) (.infinity false) = some (.number (s ^^ false) 0 0) := rfl
    simp only [fop, h2, Bool.xor_false]
    rfl
  rw [e]
  obtain ⟨z1, z2, z3⟩ := rd_zero .f32 s 0 (-149)
  exact ⟨z2, pl_rd _, by rw [z1]; omega, by rw [z1]; exact Int.le_of_lt t149_pos⟩

theorem iv_two149 : iv (-149) (cl .f32 1073741824) = 2 * t149 := by
  rw [c_two32, iv149_of false _ _ 127 (by omega)]
  have e : tw 149 = tw 22 * tw 127 := tw_add 22 127
  have e2 : tw 22 = 4194304 := by decide
  unfold t149
  rw [e, e2]
  simp only [Bool.false_eq_true, if_false]
  omega

theorem iv_half149 : 2 * iv (-149) (cl .f32 1056964608) = t149 := by
  rw [c_half32, iv149_of false _ _ 125 (by omega)]
  have e : tw 149 = tw 24 * tw 125 := tw_add 24 125
  have e2 : tw 24 = 16777216 := by decide
  unfold t149
  rw [e, e2]
  simp only [Bool.false_eq_true, if_false]
  omega

end Go.Flt

namespace Go.Proofs.Ytlakmogclcpgdaa
open Go.RowKit Go.Flt
set_option linter.unusedVariables false
set_option maxRecDepth 100000
set_option linter.unusedSimpArgs false

/-- What a rotor's radius has to its wake's width. -/
theorem wide_un {r s : Nat} {al : Ieee.Datum} (hr : above (cl .f32 r) = true) (hs : above (cl .f32 s) = true) (pa : Go.Flt.place (-149) al) (ha : flt (cl .f32 0) al = true) :
    Un (fop .quo .f32 (cl .f32 r) (fop .add .f32 (cl .f32 r) (fop .mul .f32 (cl .f32 s) al))) := by
  unfold above at hr hs
  rw [Bool.and_eq_true, fin_eq] at hr hs
  obtain ⟨hr1, hr2⟩ := hr
  obtain ⟨hs1, hs2⟩ := hs
  have rp := hr2
  have sp := hs2
  rw [flt_num (-149) num_zero hr1 (pl32 _) (pl32 _), iv_zero149] at rp
  rw [flt_num (-149) num_zero hs1 (pl32 _) (pl32 _), iv_zero149] at sp
  have rp := of_decide_eq_true rp
  have sp := of_decide_eq_true sp
  have hP : isNum (fop .mul .f32 (cl .f32 s) al) = true ∧ 0 ≤ iv (-149) (fop .mul .f32 (cl .f32 s) al) ∨ fop .mul .f32 (cl .f32 s) al = .infinity false := by
    rcases flt_cases ha with h | h
    · have ap := ha
      rw [flt_num (-149) num_zero h (pl32 _) pa, iv_zero149] at ap
      have ap := of_decide_eq_true ap
      have g := mul_ge (c := 0) hs1 h num_zero (pl32 _) pa (pl32 _) (by rw [iv_zero149, Int.zero_mul]; exact Int.mul_nonneg (Int.le_of_lt sp) (Int.le_of_lt ap))
      rcases ge_cases num_zero g with h2 | h2
      · refine .inl ⟨h2, ?_⟩
        have := ge_iv h2 num_zero (pl_fop _ _ _) g
        rwa [iv_zero149] at this
      · exact .inr h2
    · subst h
      exact .inr (mul_inf s hs1 hs2)
  have hW : isNum (fop .add .f32 (cl .f32 r) (fop .mul .f32 (cl .f32 s) al)) = true ∧ iv (-149) (cl .f32 r) ≤ iv (-149) (fop .add .f32 (cl .f32 r) (fop .mul .f32 (cl .f32 s) al)) ∨ fop .add .f32 (cl .f32 r) (fop .mul .f32 (cl .f32 s) al) = .infinity false := by
    rcases hP with ⟨h1, h2⟩ | h
    · have g := add_ge (c := r) hr1 h1 hr1 (pl32 _) (pl_fop _ _ _) (pl32 _) (by omega)
      rcases ge_cases hr1 g with h3 | h3
      · exact .inl ⟨h3, ge_iv h3 hr1 (pl_fop _ _ _) g⟩
      · exact .inr h3
    · rw [h]
      exact .inr (sum_inf _ hr1)
  rcases hW with ⟨h1, h2⟩ | h
  · refine un_of (pl_fop _ _ _) (quo_nn hr1 h1 (pl32 _) (pl_fop _ _ _) (by omega) (by omega)) (quo_le hr1 h1 (pl32 _) (pl_fop _ _ _) ?_ (by omega) h2)
    intro t m i hm
    have ht := cl_tidy .f32 r
    rw [hm] at ht
    have hb : FloatKind.f32.format.binade = 8388608 := by decide
    simp only [tidy, hb] at ht
    omega
  · rw [h]
    exact quo_inf _ hr1

/-- Twice a number from 0 to 1/2. -/
theorem twice_un {d : Nat} (h : fromTo (cl .f32 d) (cl .f32 0) (cl .f32 1056964608) = true) : Un (fop .mul .f32 (cl .f32 1073741824) (cl .f32 d)) ∧ isNum (cl .f32 d) = true ∧ 0 ≤ iv (-149) (cl .f32 d) ∧ 2 * iv (-149) (cl .f32 d) ≤ t149 := by
  have ht := t149_pos
  have n2 : isNum (cl .f32 1073741824) = true := by rw [c_two32]; rfl
  have nh : isNum (cl .f32 1056964608) = true := by rw [c_half32]; rfl
  unfold fromTo at h
  rw [Bool.and_eq_true] at h
  obtain ⟨h1, h2⟩ := h
  have h1 : leF (cl .f32 0) (cl .f32 d) = true := by unfold fge at h1; unfold leF; rw [feq_comm (cl .f32 0)]; exact h1
  have h2 : leF (cl .f32 d) (cl .f32 1056964608) = true := h2
  have nd := num_between num_zero nh h1 h2
  have e1 := ge_iv nd num_zero (pl32 _) h1
  have e2 := le_iv nd nh (pl32 _) h2
  rw [iv_zero149] at e1
  have eh := iv_half149
  refine ⟨un_of (pl_fop _ _ _) (mul_ge (c := 0) n2 nd num_zero (pl32 _) (pl32 _) (pl32 _) ?_) (mul_le (c := 1065353216) n2 nd num_one (pl32 _) (pl32 _) (pl32 _) ?_), nd, e1, by omega⟩
  · rw [iv_zero149, Int.zero_mul, iv_two149]; exact Int.mul_nonneg (by omega) e1
  · rw [iv_one149, iv_two149, Int.mul_comm 2 t149, Int.mul_assoc]
    exact Int.mul_le_mul_of_nonneg_left (by omega) (Int.le_of_lt ht)

theorem vFarm_parts {xs ys : List Nat} {r d s : Nat} (h : vFarm xs ys r d s = true) : xs.length ≤ 12 ∧ above (cl .f32 r) = true ∧ above (cl .f32 s) = true ∧ fromTo (cl .f32 d) (cl .f32 0) (cl .f32 1056964608) = true := by
  unfold vFarm at h
  simp only [Bool.and_eq_true, decide_eq_true_eq] at h
  obtain ⟨⟨⟨⟨⟨⟨⟨⟨h1, h2⟩, h3⟩, h4⟩, h5⟩, h6⟩, h7⟩, h8⟩, h9⟩ := h
  exact ⟨h2, h4, h5, h7⟩

theorem wake_un {xs ys : List Nat} {r d s : Nat} (h : vFarm xs ys r d s = true) (i x y t : Nat) : Un (wakeD xs ys r d s i x y t) := by
  obtain ⟨_, h1, h2, h3⟩ := vFarm_parts h
  unfold wakeD wakeV
  cases hB : wkB (xs.getD i 0) (ys.getD i 0) r s x y t
  · exact un_zero
  · simp only [if_true]
    unfold wkB at hB
    rw [Bool.and_eq_true] at hB
    have hq : Un (wkQ (xs.getD i 0) (ys.getD i 0) r s x y t) := wide_un h1 h2 (pl_fop _ _ _) hB.1
    exact un_mul (un_mul (twice_un h3).1 hq) hq

theorem lsS_pl (xs ys : List Nat) (r d s x y t : Nat) (k : Nat) : Go.Flt.place (-149) (lsS xs ys r d s x y t k) := by
  cases k with
  | zero => exact pl32 _
  | succ k => exact pl_fop _ _ _

theorem lsS_ok {xs ys : List Nat} {r d s : Nat} (h : vFarm xs ys r d s = true) (x y t : Nat) : ∀ k : Nat, k ≤ 12 → isNum (lsS xs ys r d s x y t k) = true ∧ 0 ≤ iv (-149) (lsS xs ys r d s x y t k) ∧ iv (-149) (lsS xs ys r d s x y t k) ≤ (k : Int) * t149 := by
  have ht := t149_pos
  intro k
  induction k with
  | zero => intro _; exact ⟨num_zero, by show 0 ≤ iv (-149) (cl .f32 0); rw [iv_zero149]; omega, by show iv (-149) (cl .f32 0) ≤ _; rw [iv_zero149]; omega⟩
  | succ k ih =>
    intro hk
    obtain ⟨n1, l1, h1⟩ := ih (by omega)
    have hw := wake_un h k x y t
    have hu := un_mul hw hw
    obtain ⟨c1, c2⟩ := small_iv ((k : Int) + 1) (by omega) (by omega)
    have g1 := add_ge (c := 0) n1 hu.num num_zero (lsS_pl xs ys r d s x y t k) hu.pl (pl32 _) (by rw [iv_zero149]; have := hu.lo; omega)
    have g2 := add_le (c := floatOfInt .f32 ((k : Int) + 1)) n1 hu.num c1 (lsS_pl xs ys r d s x y t k) hu.pl (pl32 _) (by rw [c2, Int.add_mul, Int.one_mul]; have := hu.hi; omega)
    have nm := num_between num_zero c1 g1 g2
    have e1 := ge_iv nm num_zero (pl_fop _ _ _) g1
    have e2 := le_iv nm c1 (pl_fop _ _ _) g2
    rw [iv_zero149] at e1
    rw [c2] at e2
    exact ⟨nm, e1, e2⟩

theorem lsS_word (xs ys : List Nat) (r d s x y t : Nat) (k : Nat) : ∃ b, cl .f32 b = lsS xs ys r d s x y t k := by
  cases k with
  | zero => exact ⟨0, rfl⟩
  | succ k => exact fop_word _ _ _

/-- What all rotors take lies from 0 to 1. -/
theorem loss_un {xs ys : List Nat} {r d s : Nat} (h : vFarm xs ys r d s = true) (x y t : Nat) : Un (lossD xs ys r d s x y t) := by
  obtain ⟨h12, _, _, _⟩ := vFarm_parts h
  obtain ⟨n1, l1, _⟩ := lsS_ok h x y t xs.length h12
  obtain ⟨b, hb⟩ := lsS_word xs ys r d s x y t xs.length
  have hl : lossD xs ys r d s x y t = capD (rootD (lsS xs ys r d s x y t xs.length)) := rfl
  rw [← hb] at n1 l1 hl
  rw [hl]
  have hr := root_num0 b n1 l1
  have hg := root_ge0 b n1 l1
  have e : nar (sqD (wid (cl .f32 b))) = rootD (cl .f32 b) := rfl
  rw [e] at hr hg
  have pr : Go.Flt.place (-149) (rootD (cl .f32 b)) := by
    have : ∃ z, rootD (cl .f32 b) = cl .f32 z := by
      unfold rootD nar
      cases sqD (wid (cl .f32 b)) with
      | nan s t => exact ⟨2143289344, show NaN = _ by decide +kernel⟩
      | infinity s => exact ⟨_, rfl⟩
      | number s m i => exact ⟨_, rfl⟩
    obtain ⟨z, hz⟩ := this
    rw [hz]; exact pl32 _
  unfold capD
  cases hc : flt (cl .f32 1065353216) (rootD (cl .f32 b))
  · simp only [Bool.false_eq_true, if_false]
    refine un_of pr hg ?_
    rw [flt_num (-149) num_one hr (pl32 _) pr] at hc
    rw [leF_num (-149) hr num_one pr (pl32 _)]
    have := of_decide_eq_false hc
    exact decide_eq_true (by omega)
  · simp only [if_true]
    exact un_one

/-- The speed at rotor k. -/
def speedD (xs ys : List Nat) (r d s t v k : Nat) : Ieee.Datum := fop .mul .f32 (cl .f32 v) (fop .sub .f32 (cl .f32 1065353216) (lossD xs ys r d s (xs.getD k 0) (ys.getD k 0) t))

theorem speed_ok {xs ys : List Nat} {r d s : Nat} (h : vFarm xs ys r d s = true) (t : Nat) {v : Nat} (hv : least (cl .f32 v) = true) (k : Nat) : isNum (speedD xs ys r d s t v k) = true ∧ leF (cl .f32 0) (speedD xs ys r d s t v k) = true := by
  unfold least fge at hv
  rw [Bool.and_eq_true, fin_eq] at hv
  obtain ⟨nv, gv⟩ := hv
  have gv : leF (cl .f32 0) (cl .f32 v) = true := by unfold leF; rw [feq_comm (cl .f32 0)]; exact gv
  have ev := ge_iv nv num_zero (pl32 _) gv
  rw [iv_zero149] at ev
  have hu := un_sub (loss_un h (xs.getD k 0) (ys.getD k 0) t)
  have g1 := mul_ge (c := 0) nv hu.num num_zero (pl32 _) hu.pl (pl32 _) (by rw [iv_zero149, Int.zero_mul]; exact Int.mul_nonneg ev hu.lo)
  have g2 := mul_le (c := v) nv hu.num nv (pl32 _) hu.pl (pl32 _) (Int.mul_le_mul_of_nonneg_left hu.hi ev)
  exact ⟨num_between num_zero nv g1 g2, g1⟩

end Go.Proofs.Ytlakmogclcpgdaa

/-
  CONTRACTS: LossAt, in the reference and in the program.
-/
namespace Go.Proofs.Ytlakmogclcpgdaa
open Go.RowKit Go.Flt
set_option linter.unusedVariables false
set_option maxRecDepth 100000
set_option linter.unusedSimpArgs false

def okL (xs ys : List Nat) (r d s x y t : Nat) : Bool := vFarm xs ys r d s && fin3 x y t

set_option maxHeartbeats 2000000 in
theorem c_specLossAt (lo hi : Nat) (v : Value) (xs ys : List Nat) (r d s x y t : Nat) (w : World) (h : FarmAt w lo hi v xs ys r d s) (hK : hi ≤ w.heap.size) (hn : xs.length ≤ 1048576) (hm : ys.length ≤ 1048576) :
    Calls Try.prog 30 #[v, .float .f32 x, .float .f32 y, .float .f32 t] w (RetFB (num (okL xs ys r d s x y t) (lossD xs ys r d s x y t)) (okL xs ys r d s x y t && fin (lossD xs ys r d s x y t)) (Grew w)) := by
  obtain ⟨A, cA, C, cC, rfl, hx, hy⟩ := h.parts
  have HX := Lib.hid (fun w' (hg : Grew w w') => Slc.grew (g := Value.float .f32) (w' := w') hx hK hg)
  have HY := Lib.hid (fun w' (hg : Grew w w') => Slc.grew (g := Value.float .f32) (w' := w') hy hK hg)
  have V1 := Lib.hid (fun w' b hf (hg : Grew w w') => c_l06Can b A C xs.length cA ys.length cC hi xs ys r d s x y t w' hf (HX.out w' hg) (HY.out w' hg) (by unfold maxLen; omega) (by unfold maxLen; omega))
  clear h hx hy
  have HO := Lib.hid (show okL xs ys r d s x y t = (vFarm xs ys r d s && fin3 x y t) from rfl)
  rw [← HO.out] at V1
  cases k1 : okL xs ys r d s x y t
  · rw [k1] at V1
    clear HO hn hm k1
    generalize lossD xs ys r d s x y t = D at *
    go_enter Try.func30, Try.ntmps30
    go_wp2_with (go_at_call 56; refine (V1.out _ _ (by unfold FmAt; simp [go_sem]) (by (show Below _ _ _; (repeat (first | exact Below.refl _ _ | refine ext_below ?_ (by first | omega | (simp only [size_ext, heap_push, Array.size_push, World.heap_drewN]; omega) | (simp; omega)) _ _ | refine below_draws ?_ _ | refine Below.alloc ?_ (by first | omega | (simp; done) | (simp; omega)) _ | refine Below.setCell ?_ (by first | omega | (simp; done) | (simp; omega)) _ | refine below_then (by assumption) (by first | omega | (simp; done) | (simp; omega)) ?_))))).mono ?_; rintro e w' ⟨rfl, nq, rfl⟩)
    refine bodyPost_ret (v := .tuple #[.float .f32 0, .bool false]) (by simp [results, Try.results30, go_sem]) rfl ?_
    exact ⟨0, rfl, rfl, fits_zero, by (show Below _ _ _; (repeat (first | exact Below.refl _ _ | refine ext_below ?_ (by first | omega | (simp only [size_ext, heap_push, Array.size_push, World.heap_drewN]; omega) | (simp; omega)) _ _ | refine below_draws ?_ _ | refine Below.alloc ?_ (by first | omega | (simp; done) | (simp; omega)) _ | refine Below.setCell ?_ (by first | omega | (simp; done) | (simp; omega)) _ | refine below_then (by assumption) (by first | omega | (simp; done) | (simp; omega)) ?_)))⟩
  · rw [k1] at V1
    have hA := HO.out.symm.trans k1
    simp only [Bool.and_eq_true] at hA
    obtain ⟨n1, n2, n3, _, _⟩ := vFarm_near hA.1
    have V3 := Lib.hid (fun w' b hf (hg : Grew w w') => c_l06Loss b A C xs.length cA ys.length cC hi xs ys r d s x y t w' hf (HX.out w' hg) (HY.out w' hg) hn n3)
    generalize lossD xs ys r d s x y t = D at *
    clear HO k1 hA n1 n2 n3 hn hm
    go_enter Try.func30, Try.ntmps30
    go_wp2_with (first | (go_at_call 56; refine (V1.out _ _ (by unfold FmAt; simp [go_sem]) (by (show Below _ _ _; (repeat (first | exact Below.refl _ _ | refine ext_below ?_ (by first | omega | (simp only [size_ext, heap_push, Array.size_push, World.heap_drewN]; omega) | (simp; omega)) _ _ | refine below_draws ?_ _ | refine Below.alloc ?_ (by first | omega | (simp; done) | (simp; omega)) _ | refine Below.setCell ?_ (by first | omega | (simp; done) | (simp; omega)) _ | refine below_then (by assumption) (by first | omega | (simp; done) | (simp; omega)) ?_))))).mono ?_; rintro e w' ⟨rfl, nq, rfl⟩) | (go_at_call 62; refine (V3.out _ _ (by unfold FmAt; simp [go_sem]) (by (show Below _ _ _; (repeat (first | exact Below.refl _ _ | refine ext_below ?_ (by first | omega | (simp only [size_ext, heap_push, Array.size_push, World.heap_drewN]; omega) | (simp; omega)) _ _ | refine below_draws ?_ _ | refine Below.alloc ?_ (by first | omega | (simp; done) | (simp; omega)) _ | refine Below.setCell ?_ (by first | omega | (simp; done) | (simp; omega)) _ | refine below_then (by assumption) (by first | omega | (simp; done) | (simp; omega)) ?_))))).mono ?_; rintro e w' ⟨z, rfl, hz, hzf, nz, rfl⟩; have HZ := Lib.hid hz; have HZF := Lib.hid hzf; clear hz hzf) | (go_at_call 57; refine (c_l02Number _ _).mono ?_; rintro e w' ⟨rfl, nq, rfl⟩))
    refine bodyPost_ret (v := .tuple #[.float .f32 (chkW z), .bool (fin (cl .f32 z))]) (by simp [results, Try.results30, go_sem]) rfl ?_
    exact ⟨chkW z, by rw [HZ.out]; rfl, by rw [cl_chkW, HZ.out]; simp [chk, num], fits_chkW HZF.out, by (show Below _ _ _; (repeat (first | exact Below.refl _ _ | refine ext_below ?_ (by first | omega | (simp only [size_ext, heap_push, Array.size_push, World.heap_drewN]; omega) | (simp; omega)) _ _ | refine below_draws ?_ _ | refine Below.alloc ?_ (by first | omega | (simp; done) | (simp; omega)) _ | refine Below.setCell ?_ (by first | omega | (simp; done) | (simp; omega)) _ | refine below_then (by assumption) (by first | omega | (simp; done) | (simp; omega)) ?_)))⟩

set_option maxHeartbeats 2000000 in
theorem c_implLossAt (lo hi : Nat) (v : Value) (xs ys : List Nat) (r d s x y t : Nat) (w : World) (h : FarmAt w lo hi v xs ys r d s) (hK : hi ≤ w.heap.size) (hn : xs.length ≤ 1048576) (hm : ys.length ≤ 1048576) :
    Calls Try.prog 31 #[v, .float .f32 x, .float .f32 y, .float .f32 t] w (RetFB (num (okL xs ys r d s x y t) (lossD xs ys r d s x y t)) (okL xs ys r d s x y t && fin (lossD xs ys r d s x y t)) (Grew w)) := by
  have V1 := Lib.hid (fun w' (hg : Grew w w') => c_implValidFarm' lo hi v xs ys r d s w' (h.grew hK hg) (Nat.le_trans hK (Below.size hg)))
  obtain ⟨A, cA, C, cC, rfl, hx, hy⟩ := h.parts
  have HX := Lib.hid (fun w' (hg : Grew w w') => Slc.grew (g := Value.float .f32) (w' := w') hx hK hg)
  have HY := Lib.hid (fun w' (hg : Grew w w') => Slc.grew (g := Value.float .f32) (w' := w') hy hK hg)
  have V3 := Lib.hid (c_fin3 x y t)
  clear h hx hy
  have HO := Lib.hid (show okL xs ys r d s x y t = (vFarm xs ys r d s && fin3 x y t) from rfl)
  cases k1 : okL xs ys r d s x y t
  · have hA := HO.out.symm.trans k1
    clear HO hn hm k1 hK
    generalize lossD xs ys r d s x y t = D at *
    generalize vFarm xs ys r d s = VF at *
    generalize fin3 x y t = F3 at *
    cases VF <;> cases F3 <;> simp only [Bool.and_true, Bool.and_false, Bool.true_and, Bool.false_and, Bool.true_eq_false] at hA
    all_goals
      clear hA
      go_enter Try.func31, Try.ntmps31
      go_wp2_with fail
      refine (V1.out _ (by (show Below _ _ _; (repeat (first | exact Below.refl _ _ | refine ext_below ?_ (by first | omega | (simp only [size_ext, heap_push, Array.size_push, World.heap_drewN]; omega) | (simp; omega)) _ _ | refine below_draws ?_ _ | refine Below.alloc ?_ (by first | omega | (simp; done) | (simp; omega)) _ | refine Below.setCell ?_ (by first | omega | (simp; done) | (simp; omega)) _ | refine below_then (by assumption) (by first | omega | (simp; done) | (simp; omega)) ?_))))).mono ?_
      rintro e w1 ⟨rfl, hg1⟩
      have G1 := Lib.hid (grew_trans (show Grew w _ by (show Below _ _ _; (repeat (first | exact Below.refl _ _ | refine ext_below ?_ (by first | omega | (simp only [size_ext, heap_push, Array.size_push, World.heap_drewN]; omega) | (simp; omega)) _ _ | refine below_draws ?_ _ | refine Below.alloc ?_ (by first | omega | (simp; done) | (simp; omega)) _ | refine Below.setCell ?_ (by first | omega | (simp; done) | (simp; omega)) _ | refine below_then (by assumption) (by first | omega | (simp; done) | (simp; omega)) ?_)))) hg1)
      clear hg1 V1
      go_wp2_with (first | (go_at_call 59; refine (V3.out _ _ _ (fl_new _ [x, y, t] _ _ _ (by simp) rfl)).mono ?_; rintro e w' ⟨rfl, nq, rfl⟩))
      refine bodyPost_ret (v := .tuple #[.float .f32 0, .bool false]) (by simp [results, Try.results31, go_sem]) rfl ?_
      exact ⟨0, rfl, rfl, fits_zero, by first | exact G1.out | exact grew_draw _ _ (grew_al G1.out _)⟩
  · have hA := HO.out.symm.trans k1
    simp only [Bool.and_eq_true] at hA
    obtain ⟨k2, k4⟩ := hA
    obtain ⟨n1, n2, n3, _, _⟩ := vFarm_near k2
    have V4 := Lib.hid (fun w' (hg : Grew w w') => c_lossAt A C xs.length cA ys.length cC hi xs ys r d s x y t w' (HX.out w' hg) (HY.out w' hg) (Nat.le_trans hK (Below.size hg)) hn n3)
    rw [k2] at V1
    rw [k4] at V3
    generalize lossD xs ys r d s x y t = D at *
    clear HO k1 k2 k4 n1 n2 n3 hn hm
    go_enter Try.func31, Try.ntmps31
    go_wp2_with fail
    refine (V1.out _ (by (show Below _ _ _; (repeat (first | exact Below.refl _ _ | refine ext_below ?_ (by first | omega | (simp only [size_ext, heap_push, Array.size_push, World.heap_drewN]; omega) | (simp; omega)) _ _ | refine below_draws ?_ _ | refine Below.alloc ?_ (by first | omega | (simp; done) | (simp; omega)) _ | refine Below.setCell ?_ (by first | omega | (simp; done) | (simp; omega)) _ | refine below_then (by assumption) (by first | omega | (simp; done) | (simp; omega)) ?_))))).mono ?_
    rintro e w1 ⟨rfl, hg1⟩
    have G1 := Lib.hid (grew_trans (show Grew w _ by (show Below _ _ _; (repeat (first | exact Below.refl _ _ | refine ext_below ?_ (by first | omega | (simp only [size_ext, heap_push, Array.size_push, World.heap_drewN]; omega) | (simp; omega)) _ _ | refine below_draws ?_ _ | refine Below.alloc ?_ (by first | omega | (simp; done) | (simp; omega)) _ | refine Below.setCell ?_ (by first | omega | (simp; done) | (simp; omega)) _ | refine below_then (by assumption) (by first | omega | (simp; done) | (simp; omega)) ?_)))) hg1)
    have A1 : Hid (FmAt w1 w.heap.size (.slice A xs.length cA) (.slice C ys.length cC) r d s) := Lib.hid (FmAt.grew (by unfold FmAt; simp [go_sem]) (by simp <;> omega) hg1)
    have z0 : w.heap.size < w1.heap.size := by have := Below.size hg1; simp at this; omega
    clear hg1 V1
    obtain ⟨p0, p1, p2, p3, p4⟩ := A1.out
    go_wp2_with fail
    refine (V3.out _ _ _ (fl_new _ [x, y, t] _ _ _ (by simp) rfl)).mono ?_
    rintro e w3 ⟨rfl, nq, hw3⟩
    have hg3 : Grew w1 w3 := by rw [hw3]; exact grew_draw _ _ (grew_al (grew_refl _) _)
    have A3 := Lib.hid (A1.out.grew z0 hg3)
    have G3 := Lib.hid (grew_trans G1.out hg3)
    clear hg3 hw3 V3 p0 p1 p2 p3 p4
    obtain ⟨p0, p1, p2, p3, p4⟩ := A3.out
    go_wp2_with (first | (go_at_call 63; refine (V4.out _ G3.out).mono ?_; rintro e w4 ⟨z, rfl, hz, hzf, hg4⟩; have G4 := Lib.hid (grew_trans G3.out hg4); have HZ := Lib.hid hz; have HZF := Lib.hid hzf; clear hz hzf hg4) | (go_at_call 60; refine (c_checked _ _).mono ?_; rintro e w' ⟨rfl, nq, rfl⟩))
    refine bodyPost_ret (v := .tuple #[.float .f32 (chkW z), .bool (fin (cl .f32 z))]) (by simp [results, Try.results31, go_sem]) rfl ?_
    exact ⟨chkW z, by rw [HZ.out]; rfl, by rw [cl_chkW, HZ.out]; simp [chk, num], fits_chkW HZF.out, grew_draw _ _ G4.out⟩

end Go.Proofs.Ytlakmogclcpgdaa

/-
  CONTRACTS: the speeds in a farm, in the reference.
-/
namespace Go.Proofs.Ytlakmogclcpgdaa
open Go.RowKit Go.Flt
set_option linter.unusedVariables false
set_option maxRecDepth 100000
set_option linter.unusedSimpArgs false

/-- What an 'append' of one value leaves, the new value's slice being there already. -/
theorem row_push3 {α : Type} {g : α → Value} {t : TypeId} {w w0 w1 w2 : World} {v v' : Value} {xs : List α} {r : α} (hg0 : Grew w0 w) (hrow : RowAt g t w w0.heap.size w.heap.size v xs) (hg : Grew w w1) (hown : w2.ownsRow w0.heap.size t 1 v' (xs.length + 1) (xs.map g ++ [g r]))
    (hgr : w1.grownBy w2 v.ownBlock) : RowAt g t w2 w0.heap.size w2.heap.size v' (xs ++ [r]) ∧ Grew w0 w2 := by
  refine ⟨⟨by simpa using hown, fun k hk => (hown.lt k hk).2⟩, ?_⟩
  have h1 := grew_trans hg0 hg
  refine ⟨hgr.os.trans h1.os, hgr.tape.trans h1.tape, hgr.output.trans h1.output, ?_, fun k hk => ?_⟩
  · have a := hgr.size
    have b := Below.size h1
    omega
  · have b := Below.size h1
    rw [hgr.block k (by omega) (fun e => by have := (hrow.1.lt k e.symm).1; omega)]
    exact h1.block k hk

/-- The speeds at all rotors. -/
def spdL (xs ys : List Nat) (r d s t v k : Nat) : List Ieee.Datum := (List.range k).map (speedD xs ys r d s t v)

theorem spdL_succ (xs ys : List Nat) (r d s t v k : Nat) : spdL xs ys r d s t v (k + 1) = spdL xs ys r d s t v k ++ [speedD xs ys r d s t v k] := by
  unfold spdL
  rw [List.range_succ, List.map_append]
  rfl

/-- A row of its own, whose values are told. -/
def RetL (D : List Ieee.Datum) (w : World) (e : Ending) (w' : World) : Prop := ∃ v zs, e = .returned v ∧ FRow w' w.heap.size w'.heap.size v zs ∧ zs.map (cl .f32) = D ∧ Grew w w'

set_option maxHeartbeats 4000000 in
theorem c_l06Speeds (b : Nat) (A C : Option Addr) (n cA m cC K : Nat) (xs ys : List Nat) (r d s t v : Nat) (w : World) (hf : FmAt w b (.slice A n cA) (.slice C m cC) r d s) (hb : b < w.heap.size) (hx : Fl w K A n xs) (hy : Fl w K C m ys) (hK : K ≤ w.heap.size) (hn : n ≤ 1048576) (hm : m = n) :
    Calls Try.prog 65 #[.pointer (some ⟨b, 0, none⟩), .float .f32 t, .float .f32 v] w (RetL (spdL xs ys r d s t v n) w) := by
  obtain rfl := hx.1
  have HF := Lib.hid (fun w' (hg : Grew w w') => FmAt.grew hf hb hg)
  have HX := Lib.hid (fun w' (hg : Grew w w') => Slc.grew (g := Value.float .f32) (w' := w') hx hK hg)
  have HY := Lib.hid (fun w' (hg : Grew w w') => Slc.grew (g := Value.float .f32) (w' := w') hy hK hg)
  have HL := Lib.hid (fun x y w' (hg : Grew w w') => c_l06Loss b A C xs.length cA m cC K xs ys r d s x y t w' (HF.out w' hg) (HX.out w' hg) (HY.out w' hg) hn hm)
  have HS := Lib.hid (show ∀ k, speedD xs ys r d s t v k = fop .mul .f32 (cl .f32 v) (fop .sub .f32 (cl .f32 1065353216) (lossD xs ys r d s (xs.getD k 0) (ys.getD k 0) t)) from fun _ => rfl)
  have HU := Lib.hid (spdL_succ xs ys r d s t v)
  have H0 := Lib.hid (show spdL xs ys r d s t v 0 = [] from rfl)
  have HYL := Lib.hid hy.1
  have NN := Lib.hid (And.intro hn hm)
  obtain ⟨i, hi', hz0, hz1, hz2⟩ := info_parts info_float32
  have HI := Lib.hid hi'
  have HI0 := Lib.hid hz0
  have HI1 := Lib.hid hz1
  have HI2 := Lib.hid hz2
  have HB := Lib.hid hb
  have KK := Lib.hid hK
  clear hf hx hy hn hm hK hi' hz0 hz1 hz2 hb
  generalize spdL xs ys r d s t v = L at *
  generalize speedD xs ys r d s t v = SD at *
  go_enter Try.func65, Try.ntmps65
  go_wp2_with fail
  go_loopw [7, 8] (fun u si wr => ∃ (k : Nat) (zs : List Nat), k ≤ xs.length ∧ si = .int .i64 k ∧ Hid (zs.length = k) ∧ Hid (FRow wr w.heap.size wr.heap.size u zs) ∧ Hid (zs.map (cl .f32) = L k) ∧ Hid (Grew w wr)) (fun _ si _ => xs.length - (intOf si).toNat)
  case atStart => exact ⟨0, [], Nat.zero_le _, rfl, rfl, RowAt.mono (row_made _ (by (show Below _ _ _; (repeat (first | exact Below.refl _ _ | refine ext_below ?_ (by first | omega | (simp only [size_ext, heap_push, Array.size_push, World.heap_drewN]; omega) | (simp; omega)) _ _ | refine below_draws ?_ _ | refine Below.alloc ?_ (by first | omega | (simp; done) | (simp; omega)) _ | refine Below.setCell ?_ (by first | omega | (simp; done) | (simp; omega)) _ | refine below_then (by assumption) (by first | omega | (simp; done) | (simp; omega)) ?_))))).1 (Nat.le_refl _) (by simp), H0.out.symm, (row_made (g := Value.float .f32) _ (by (show Below _ _ _; (repeat (first | exact Below.refl _ _ | refine ext_below ?_ (by first | omega | (simp only [size_ext, heap_push, Array.size_push, World.heap_drewN]; omega) | (simp; omega)) _ _ | refine below_draws ?_ _ | refine Below.alloc ?_ (by first | omega | (simp; done) | (simp; omega)) _ | refine Below.setCell ?_ (by first | omega | (simp; done) | (simp; omega)) _ | refine below_then (by assumption) (by first | omega | (simp; done) | (simp; omega)) ?_))))).2⟩
  case round =>
    obtain ⟨k, zs, hk, rfl, hzl, hrow, hmap, hg⟩ := hrel
    obtain ⟨p0, p1, _, _, _⟩ := HF.out _ hg.out
    have s0 : w.heap.size ≤ wr.heap.size := Below.size hg.out
    by_cases hlt : k < xs.length
    · obtain ⟨bx, ox, rfl, hbx, hcx⟩ := (HX.out _ hg.out).2 (by omega)
      obtain ⟨by', oy, rfl, hby, hcy⟩ := (HY.out _ hg.out).2 (by have := NN.out; omega)
      have c1 := hcx k (xs.getD k 0) (by simp [hlt])
      have c2 := hcy k (ys.getD k 0) (by have := NN.out; have := HYL.out; simp [show k < ys.length by omega])
      have i3 : (0 : Int) ≤ (k : Int) := by omega
      have i4 : (k : Int) < (xs.length : Int) := by omega
      have i5 : (k : Int) < (m : Int) := by have := NN.out; omega
      have i6 : IntKind.i64.wrap (k : Int) = (k : Int) := by rw [IntKind.wrap_i64]; have := NN.out; omega
      have HW := Lib.hid (show wrap64 ((k : Int) + 1) = (k : Int) + 1 by have := NN.out; unfold wrap64; omega)
      have HSK := Lib.hid (HS.out k)
      have HUK := Lib.hid (HU.out k)
      have s1 : b < wr.heap.size := by have := HB.out; omega
      have s3 : bx < wr.heap.size := by have := KK.out; omega
      have s4 : by' < wr.heap.size := by have := KK.out; omega
      clear hcx hcy
      generalize xs.getD k 0 = x at *
      generalize ys.getD k 0 = y at *
      have hv := hrow.out.sl
      obtain ⟨a1, n1, m1, rfl⟩ := hv
      go_wp2_with fail
      try simp only [List.append_eq, List.cons_append, List.nil_append]
      refine wp_region_any (by kernel_rfl) ?_
      refine wpAny_tail'' [40] [(40, W2 <| OneF wr.heap.size (SD k))] [0, 1, 2, 3, 4, 5, 6, 7, 8, 9, 10, 11, 12, 13, 14, 15, 16, 17, 18, 19, 20, 21] [22, 23] (by kernel_rfl) (by kernel_rfl) (by kernel_rfl) (by kernel_rfl) (by kernel_rfl) (by kernel_rfl) (by kernel_rfl) (by kernel_rfl) (by simp) (by kernel_rfl) (by kernel_rfl) (by kernel_rfl) ?_
      simp only [picks, List.filterMap_cons, List.filterMap_nil, List.getElem?_cons_zero, List.getElem?_cons_succ]
      try go_simp
      repeat (first | (refine wpG_skip rfl ?_; try go_simp) | (refine wpG_want rfl (fun K hK => ?_); first | (refine gG_fbin rfl rfl _ _ _ rfl rfl rfl ?_; intro z hz hzw; go_simp; refine hK _ ?_; clear hK K) | (intro wq hq hp; obtain ⟨hqc, hqf⟩ := bcell hq; go_simp; first | (refine hK _ ?_; clear hK K; try clear hp; try clear hqc hqf; try clear hq; try clear wq) | ((with_reducible refine g_at 62 ?_); refine g_f _ hq (by kernel_rfl) (fun wr hr => (HL.out x y _ (grew_trans hg.out hr)).mono fun e w'' ⟨r, he, h1, h2, hw⟩ => ⟨r, he, h1, h2, grew_of_drawn hw⟩) ?_; intro r hr hrf; refine hK _ ?_; clear hK K; try clear hp; try clear hqc hqf; try clear hq; try clear wq) | (refine ⟨oneF_new (Below.size hq) (by rw [HSK.out]; simp only [*]) (by assumption), ?_⟩; refine hK _ ?_; clear hK K; try clear hp; try clear hqc hqf; try clear hq))))
      refine wpG_nil ?_
      intro wq hq hal hap
      obtain ⟨hqc, hqf⟩ := bcell hq
      have hqs := Below.size hq
      try simp at hqs
      clear hap
      have h40 := OneF.get (hal 40 (by simp)) (by simp [undef]) rfl
      obtain ⟨b1, r1, e1, hB1, hl1, hcell1, hcl1, hft1⟩ := h40
      simp at e1
      obtain rfl := e1
      have RQ := Lib.hid (hrow.out.grew (Nat.le_refl _) hq)
      refine wpList_append_own _ rfl _ _ 23 rfl w.heap.size 22 i (.float .f32 0) 1 4 Try.underlying23 HI.out HI0.out HI1.out HI2.out rfl (by decide) _ _ _ rfl RQ.out.1 ⟨_, 0, none⟩ 1 _ [.float .f32 r1] rfl rfl (one_news hcell1) (by simp [Value.oneCell']) (by have := hzl.out; have := NN.out; unfold maxLen; omega) (by have := hzl.out; have := NN.out; omega) (by have := Below.size hq; omega) ?_
      rintro v' w2 hown hgr _
      have hP := Lib.hid (row_push3 hg.out hrow.out hq hown hgr)
      have HC1 := Lib.hid hcl1
      clear hown hgr hq hqs hal hqc hqf hcell1 RQ c1 c2 p0 p1 hcl1
      simp only [Act.put, List.setIfInBounds_toArray, List.set_cons_zero, List.set_cons_succ]
      go_wp2_with fail
      go_roundw
      case rel => exact ⟨k + 1, zs ++ [r1], by omega, by have e := HW.out; simp [e], by show (zs ++ [r1]).length = k + 1; simp [hzl.out], hP.out.1, by
              show (zs ++ [r1]).map (cl .f32) = _
              rw [List.map_append, hmap.out, HUK.out]
              simp only [List.map_cons, List.map_nil]
              rw [HC1.out], hP.out.2⟩
      case measure => have e := HW.out; exact meas_less hlt e
    · obtain rfl : k = xs.length := by omega
      have i4 : ¬ (xs.length : Int) < (xs.length : Int) := by omega
      go_wp2_with fail
      go_ret
      exact ⟨_, zs, rfl, hrow.out, hmap.out, hg.out⟩

end Go.Proofs.Ytlakmogclcpgdaa

/-
  CONTRACTS: SpeedsInFarm, in the reference and in the program.
-/
namespace Go.Proofs.Ytlakmogclcpgdaa
open Go.RowKit Go.Flt
set_option linter.unusedVariables false
set_option maxRecDepth 100000
set_option linter.unusedSimpArgs false

def okS (xs ys : List Nat) (r d s t v : Nat) : Bool := vFarm xs ys r d s && fin (cl .f32 t) && least (cl .f32 v)

def spdR (xs ys : List Nat) (r d s t v : Nat) : List Ieee.Datum := if okS xs ys r d s t v then spdL xs ys r d s t v xs.length else []

theorem c_l06Blown (b : Nat) (A C : Option Addr) (n cA m cC K : Nat) (xs ys : List Nat) (r d s t v : Nat) (w : World) (hf : FmAt w b (.slice A n cA) (.slice C m cC) r d s) (hx : Fl w K A n xs) (hy : Fl w K C m ys) (hn : n ≤ maxLen) (hm : m ≤ maxLen) :
    Calls Try.prog 64 #[.pointer (some ⟨b, 0, none⟩), .float .f32 t, .float .f32 v] w fun e w' => e = .returned (.bool (okS xs ys r d s t v)) ∧ ∃ n, w' = w.drewN n := by
  have V := Lib.hid (c_l06Is b A C n cA m cC K xs ys r d s w hf hx hy hn hm)
  clear hf hx hy hn hm
  have HF := Lib.hid (show okS xs ys r d s t v = (vFarm xs ys r d s && fin (cl .f32 t) && least (cl .f32 v)) from rfl)
  generalize okS xs ys r d s t v = F3 at *
  generalize vFarm xs ys r d s = VF at *
  cases VF
  case' true => cases h1 : fin (cl .f32 t)
  all_goals
    go_enter Try.func64, Try.ntmps64
    go_wp2_with (first | (go_at_call 45; refine V.out.mono ?_; rintro e w' ⟨rfl, nq, rfl⟩) | (go_at_call 54; refine (c_l01Finite _ _).mono ?_; rintro e w' ⟨rfl, nq, rfl⟩) | (go_at_call 69; refine (c_l02Least _ _).mono ?_; rintro e w' ⟨rfl, nq, rfl⟩))
    go_ret
    exact ⟨by rw [HF.out]; simp [*], by (first | exact ⟨_, rfl⟩ | exact ⟨0, rfl⟩ | exact ⟨_, World.drewN_drewN _ _ _⟩ | (simp only [World.drewN_drewN]; exact ⟨_, rfl⟩))⟩

set_option maxHeartbeats 2000000 in
theorem c_specSpeeds (lo hi : Nat) (u : Value) (xs ys : List Nat) (r d s t v : Nat) (w : World) (h : FarmAt w lo hi u xs ys r d s) (hK : hi ≤ w.heap.size) (hn : xs.length ≤ 1048576) (hm : ys.length ≤ 1048576) :
    Calls Try.prog 32 #[u, .float .f32 t, .float .f32 v] w (RetRow (Value.float .f32) 22 (cl .f32) (spdR xs ys r d s t v) (okS xs ys r d s t v) w) := by
  obtain ⟨A, cA, C, cC, rfl, hx, hy⟩ := h.parts
  have HX := Lib.hid (fun w' (hg : Grew w w') => Slc.grew (g := Value.float .f32) (w' := w') hx hK hg)
  have HY := Lib.hid (fun w' (hg : Grew w w') => Slc.grew (g := Value.float .f32) (w' := w') hy hK hg)
  have V1 := Lib.hid (fun w' b hf (hg : Grew w w') => c_l06Blown b A C xs.length cA ys.length cC hi xs ys r d s t v w' hf (HX.out w' hg) (HY.out w' hg) (by unfold maxLen; omega) (by unfold maxLen; omega))
  clear h hx hy
  have HO := Lib.hid (show okS xs ys r d s t v = (vFarm xs ys r d s && fin (cl .f32 t) && least (cl .f32 v)) from rfl)
  have HR := Lib.hid (show spdR xs ys r d s t v = if okS xs ys r d s t v then spdL xs ys r d s t v xs.length else [] from rfl)
  cases k1 : okS xs ys r d s t v
  · have hR := HR.out
    rw [k1] at V1 hR
    rw [hR]
    clear HO hn hm k1 HR hR
    go_enter Try.func32, Try.ntmps32
    go_wp2_with (go_at_call 64; refine (V1.out _ _ (by unfold FmAt; simp [go_sem]) (by (show Below _ _ _; (repeat (first | exact Below.refl _ _ | refine ext_below ?_ (by first | omega | (simp only [size_ext, heap_push, Array.size_push, World.heap_drewN]; omega) | (simp; omega)) _ _ | refine below_draws ?_ _ | refine Below.alloc ?_ (by first | omega | (simp; done) | (simp; omega)) _ | refine Below.setCell ?_ (by first | omega | (simp; done) | (simp; omega)) _ | refine below_then (by assumption) (by first | omega | (simp; done) | (simp; omega)) ?_))))).mono ?_; rintro e w' ⟨rfl, nq, rfl⟩)
    refine bodyPost_ret (v := .tuple #[.slice none 0 0, .bool false]) (by simp [results, Try.results32, go_sem]) rfl ?_
    exact ⟨_, [], rfl, rowAt_nil _ _ _, rfl, by (show Below _ _ _; (repeat (first | exact Below.refl _ _ | refine ext_below ?_ (by first | omega | (simp only [size_ext, heap_push, Array.size_push, World.heap_drewN]; omega) | (simp; omega)) _ _ | refine below_draws ?_ _ | refine Below.alloc ?_ (by first | omega | (simp; done) | (simp; omega)) _ | refine Below.setCell ?_ (by first | omega | (simp; done) | (simp; omega)) _ | refine below_then (by assumption) (by first | omega | (simp; done) | (simp; omega)) ?_)))⟩
  · have hR := HR.out
    rw [k1] at V1 hR
    rw [hR]
    have hA := HO.out.symm.trans k1
    simp only [Bool.and_eq_true] at hA
    obtain ⟨n1, n2, n3, _, _⟩ := vFarm_near hA.1.1
    have V3 := Lib.hid (fun w' b hf hb (hg : Grew w w') => c_l06Speeds b A C xs.length cA ys.length cC hi xs ys r d s t v w' hf hb (HX.out w' hg) (HY.out w' hg) (Nat.le_trans hK (Below.size hg)) hn n3)
    simp only [if_true]
    generalize spdL xs ys r d s t v xs.length = D at *
    clear HO k1 hA n1 n2 n3 hn hm HR hR
    go_enter Try.func32, Try.ntmps32
    go_wp2_with fail
    refine (V1.out _ _ (by unfold FmAt; simp [go_sem]) (by (show Below _ _ _; (repeat (first | exact Below.refl _ _ | refine ext_below ?_ (by first | omega | (simp only [size_ext, heap_push, Array.size_push, World.heap_drewN]; omega) | (simp; omega)) _ _ | refine below_draws ?_ _ | refine Below.alloc ?_ (by first | omega | (simp; done) | (simp; omega)) _ | refine Below.setCell ?_ (by first | omega | (simp; done) | (simp; omega)) _ | refine below_then (by assumption) (by first | omega | (simp; done) | (simp; omega)) ?_))))).mono ?_
    rintro e w1 ⟨rfl, nq, hw1⟩
    have G1 : Hid (Grew w w1) := Lib.hid (by rw [hw1]; show Grew w _; (show Below _ _ _; (repeat (first | exact Below.refl _ _ | refine ext_below ?_ (by first | omega | (simp only [size_ext, heap_push, Array.size_push, World.heap_drewN]; omega) | (simp; omega)) _ _ | refine below_draws ?_ _ | refine Below.alloc ?_ (by first | omega | (simp; done) | (simp; omega)) _ | refine Below.setCell ?_ (by first | omega | (simp; done) | (simp; omega)) _ | refine below_then (by assumption) (by first | omega | (simp; done) | (simp; omega)) ?_))))
    have A1 : Hid (FmAt w1 w.heap.size (.slice A xs.length cA) (.slice C ys.length cC) r d s) := Lib.hid (by rw [hw1]; unfold FmAt; simp [go_sem])
    have z1 : w.heap.size < w1.heap.size := by rw [hw1]; simp
    clear hw1 V1
    go_wp2_with fail
    refine (V3.out _ _ A1.out z1 G1.out).mono ?_
    rintro e w2 ⟨v2, zs, rfl, hr, hz, hg2⟩
    have HRR := Lib.hid hr
    have HZ := Lib.hid hz
    have G2 := Lib.hid hg2
    obtain ⟨a1, n1, m1, rfl⟩ := hr.sl
    clear hr hz hg2 V3
    go_wp2_with fail
    refine bodyPost_ret (v := .tuple #[.slice a1 n1 m1, .bool true]) (by simp [results, Try.results32, go_sem]) rfl ?_
    exact ⟨_, zs, rfl, HRR.out.mono (Below.size G1.out) (Nat.le_refl _), HZ.out, grew_trans G1.out G2.out⟩

end Go.Proofs.Ytlakmogclcpgdaa

/-
  CONTRACTS: SpeedsInFarm, in the program.
-/
namespace Go.Proofs.Ytlakmogclcpgdaa
open Go.RowKit Go.Flt
set_option linter.unusedVariables false
set_option maxRecDepth 100000
set_option linter.unusedSimpArgs false

theorem spdL_fin {xs ys : List Nat} {r d s t v : Nat} (h : okS xs ys r d s t v = true) {k : Nat} {zs : List Nat} (hz : zs.map (cl .f32) = spdL xs ys r d s t v k) : (zs.all fun x => fin (cl .f32 x)) = true := by
  unfold okS at h
  simp only [Bool.and_eq_true] at h
  rw [List.all_eq_true]
  intro x hx
  have hm : cl .f32 x ∈ spdL xs ys r d s t v k := by rw [← hz]; exact List.mem_map.2 ⟨x, hx, rfl⟩
  unfold spdL at hm
  obtain ⟨j, _, hj⟩ := List.mem_map.1 hm
  rw [← hj, fin_eq]
  exact (speed_ok h.1.1 t h.2 j).1

set_option maxHeartbeats 4000000 in
theorem c_implSpeeds (lo hi : Nat) (u : Value) (xs ys : List Nat) (r d s t v : Nat) (w : World) (h : FarmAt w lo hi u xs ys r d s) (hK : hi ≤ w.heap.size) (hn : xs.length ≤ 1048576) (hm : ys.length ≤ 1048576) :
    Calls Try.prog 33 #[u, .float .f32 t, .float .f32 v] w (RetRow (Value.float .f32) 22 (cl .f32) (spdR xs ys r d s t v) (okS xs ys r d s t v) w) := by
  have V1 := Lib.hid (fun w' (hg : Grew w w') => c_implValidFarm' lo hi u xs ys r d s w' (h.grew hK hg) (Nat.le_trans hK (Below.size hg)))
  obtain ⟨A, cA, C, cC, rfl, hx, hy⟩ := h.parts
  have HX := Lib.hid (fun w' (hg : Grew w w') => Slc.grew (g := Value.float .f32) (w' := w') hx hK hg)
  have HY := Lib.hid (fun w' (hg : Grew w w') => Slc.grew (g := Value.float .f32) (w' := w') hy hK hg)
  clear h hx hy
  have HO := Lib.hid (show okS xs ys r d s t v = (vFarm xs ys r d s && fin (cl .f32 t) && least (cl .f32 v)) from rfl)
  have HR := Lib.hid (show spdR xs ys r d s t v = if okS xs ys r d s t v then spdL xs ys r d s t v xs.length else [] from rfl)
  cases k1 : okS xs ys r d s t v
  · have hR := HR.out
    have hA := HO.out.symm.trans k1
    rw [k1] at hR
    rw [hR]
    clear HO hn hm k1 HR hR hK HX HY
    generalize vFarm xs ys r d s = VF at *
    cases VF
    case' true => cases h1 : fin (cl .f32 t)
    case' true.true => cases h2 : least (cl .f32 v)
    case true.true.true => rw [h1, h2] at hA; simp at hA
    all_goals
      clear hA
      go_enter Try.func33, Try.ntmps33
      go_wp2_with (first | (go_at_call 48; refine (V1.out _ (by (show Below _ _ _; (repeat (first | exact Below.refl _ _ | refine ext_below ?_ (by first | omega | (simp only [size_ext, heap_push, Array.size_push, World.heap_drewN]; omega) | (simp; omega)) _ _ | refine below_draws ?_ _ | refine Below.alloc ?_ (by first | omega | (simp; done) | (simp; omega)) _ | refine Below.setCell ?_ (by first | omega | (simp; done) | (simp; omega)) _ | refine below_then (by assumption) (by first | omega | (simp; done) | (simp; omega)) ?_))))).mono ?_; rintro e w1 ⟨rfl, hg1⟩; have G1 := Lib.hid (grew_trans (show Grew w _ by (show Below _ _ _; (repeat (first | exact Below.refl _ _ | refine ext_below ?_ (by first | omega | (simp only [size_ext, heap_push, Array.size_push, World.heap_drewN]; omega) | (simp; omega)) _ _ | refine below_draws ?_ _ | refine Below.alloc ?_ (by first | omega | (simp; done) | (simp; omega)) _ | refine Below.setCell ?_ (by first | omega | (simp; done) | (simp; omega)) _ | refine below_then (by assumption) (by first | omega | (simp; done) | (simp; omega)) ?_)))) hg1); clear hg1) | (go_at_call 66; refine (c_IsFinite _ _).mono ?_; rintro e w' ⟨rfl, nq, rfl⟩) | (go_at_call 67; refine (c_isLeast _ _).mono ?_; rintro e w' ⟨rfl, nq, rfl⟩))
      refine bodyPost_ret (v := .tuple #[.slice none 0 0, .bool false]) (by simp [results, Try.results33, go_sem]) rfl ?_
      exact ⟨_, [], rfl, rowAt_nil _ _ _, rfl, by first | exact G1.out | exact grew_draw _ _ G1.out⟩
  · have hR := HR.out
    rw [k1] at hR
    rw [hR]
    have hA := HO.out.symm.trans k1
    simp only [Bool.and_eq_true] at hA
    obtain ⟨⟨k2, k3⟩, k4⟩ := hA
    obtain ⟨n1, n2, n3, n4, n5⟩ := vFarm_near k2
    clear n4 n5
    have HFI := Lib.hid (fun k zs hz => spdL_fin k1 (k := k) (zs := zs) hz)
    have HL := Lib.hid (fun x y w' (hg : Grew w w') => c_lossAt A C xs.length cA ys.length cC hi xs ys r d s x y t w' (HX.out w' hg) (HY.out w' hg) (Nat.le_trans hK (Below.size hg)) hn n3)
    have HS := Lib.hid (show ∀ k, speedD xs ys r d s t v k = fop .mul .f32 (cl .f32 v) (fop .sub .f32 (cl .f32 1065353216) (lossD xs ys r d s (xs.getD k 0) (ys.getD k 0) t)) from fun _ => rfl)
    have HU := Lib.hid (spdL_succ xs ys r d s t v)
    have H0 := Lib.hid (show spdL xs ys r d s t v 0 = [] from rfl)
    have NN := Lib.hid (And.intro hn n3)
    obtain ⟨i, hi', hz0, hz1, hz2⟩ := info_parts info_float32
    have HI := Lib.hid hi'
    have HI0 := Lib.hid hz0
    have HI1 := Lib.hid hz1
    have HI2 := Lib.hid hz2
    have KK := Lib.hid hK
    rw [k2] at V1
    simp only [if_true]
    generalize spdL xs ys r d s t v = L at *
    generalize speedD xs ys r d s t v = SD at *
    clear HO k1 k2 n1 n2 n3 hn hm HR hR hi' hz0 hz1 hz2 hK
    go_enter Try.func33, Try.ntmps33
    go_upto_region 4 with (first | (go_at_call 48; refine (V1.out _ (by (show Below _ _ _; (repeat (first | exact Below.refl _ _ | refine ext_below ?_ (by first | omega | (simp only [size_ext, heap_push, Array.size_push, World.heap_drewN]; omega) | (simp; omega)) _ _ | refine below_draws ?_ _ | refine Below.alloc ?_ (by first | omega | (simp; done) | (simp; omega)) _ | refine Below.setCell ?_ (by first | omega | (simp; done) | (simp; omega)) _ | refine below_then (by assumption) (by first | omega | (simp; done) | (simp; omega)) ?_))))).mono ?_; rintro e w1 ⟨rfl, hg1⟩; have G1 := Lib.hid (grew_trans (show Grew w _ by (show Below _ _ _; (repeat (first | exact Below.refl _ _ | refine ext_below ?_ (by first | omega | (simp only [size_ext, heap_push, Array.size_push, World.heap_drewN]; omega) | (simp; omega)) _ _ | refine below_draws ?_ _ | refine Below.alloc ?_ (by first | omega | (simp; done) | (simp; omega)) _ | refine Below.setCell ?_ (by first | omega | (simp; done) | (simp; omega)) _ | refine below_then (by assumption) (by first | omega | (simp; done) | (simp; omega)) ?_)))) hg1); have A1 : Hid (FmAt w1 w.heap.size (.slice A xs.length cA) (.slice C ys.length cC) r d s) := Lib.hid (FmAt.grew (by unfold FmAt; simp [go_sem]) (by simp <;> omega) hg1); have Z1 : Hid (w.heap.size < w1.heap.size) := Lib.hid (by have := Below.size hg1; simp at this; omega); clear hg1) | (go_at_call 66; refine (c_IsFinite _ _).mono ?_; rintro e wa ⟨rfl, hda⟩; have HDA : Hid (Drawn w1 wa) := hda; clear hda) | (go_at_call 67; refine (c_isLeast _ _).mono ?_; rintro e wb ⟨rfl, hdb⟩; have HDB : Hid (Drawn wa wb) := hdb; clear hdb))
    clear k3 k4 V1
    have hd := drawn_trans HDA.out HDB.out
    have G2 := Lib.hid (grew_trans G1.out (grew_of_drawn hd))
    have A2 := Lib.hid (A1.out.grew Z1.out (grew_of_drawn hd))
    have Z2 : Hid (w.heap.size < wb.heap.size) := by have := Z1.out; have := Below.size (grew_of_drawn hd); show _ < _; omega
    have R3 : Hid (FRow (wb.alloc (.cells #[] 22)) wb.heap.size (wb.alloc (.cells #[] 22)).heap.size (.slice (some ⟨wb.heap.size, 0, none⟩) 0 0) []) := RowAt.mono (row_made _ (grew_refl wb)).1 (Nat.le_refl _) (by simp)
    have G3 : Hid (Grew wb (wb.alloc (.cells #[] 22))) := Lib.hid (grew_al (grew_refl wb) _)
    clear HDA HDB hd G1 A1 Z1
    generalize wb.alloc (.cells #[] 22) = w3 at *
    have G1 := G2
    have A1 := A2
    have Z1 := Z2
    clear A2 G2 Z2
    obtain ⟨p0, p1, p2, p3, p4⟩ := A1.out.grew Z1.out G3.out
    go_wp2_with fail
    clear p0 p1 p2 p3 p4
    go_loopw [8, 28] (fun u si wr => ∃ (k : Nat) (zs : List Nat), k ≤ xs.length ∧ si = .int .i64 k ∧ Hid (zs.length = k) ∧ Hid (FRow wr wb.heap.size wr.heap.size u zs) ∧ Hid (zs.map (cl .f32) = L k) ∧ Hid (Grew wb wr)) (fun _ si _ => xs.length - (intOf si).toNat)
    case atStart => exact ⟨0, [], Nat.zero_le _, rfl, rfl, R3, H0.out.symm, G3⟩
    case round =>
      obtain ⟨k, zs, hk, rfl, hzl, hrow, hmap, hg⟩ := hrel
      have hgw := Lib.hid (grew_trans G1.out hg.out)
      have A2 := Lib.hid (A1.out.grew Z1.out hg.out)
      obtain ⟨p0, p1, p2, p3, p4⟩ := A2.out
      have s0 : wb.heap.size ≤ wr.heap.size := Below.size hg.out
      have s1 : w.heap.size < wr.heap.size := by have := Z1.out; omega
      by_cases hlt : k < xs.length
      · obtain ⟨bx, ox, rfl, hbx, hcx⟩ := (HX.out _ hgw.out).2 (by omega)
        obtain ⟨by', oy, rfl, hby, hcy⟩ := (HY.out _ hgw.out).2 (by have := NN.out; omega)
        have c1 := hcx k (xs.getD k 0) (by simp [hlt])
        have c2 := hcy k (ys.getD k 0) (by have := NN.out; simp [show k < ys.length by omega])
        have i3 : (0 : Int) ≤ (k : Int) := by omega
        have i4 : (k : Int) < (xs.length : Int) := by omega
        have i5 : (k : Int) < (ys.length : Int) := by have := NN.out; omega
        have i6 : IntKind.i64.wrap (k : Int) = (k : Int) := by rw [IntKind.wrap_i64]; have := NN.out; omega
        have HW := Lib.hid (show wrap64 ((k : Int) + 1) = (k : Int) + 1 by have := NN.out; unfold wrap64; omega)
        have HSK := Lib.hid (HS.out k)
        have HUK := Lib.hid (HU.out k)
        have s3 : bx < wr.heap.size := by have := KK.out; omega
        have s4 : by' < wr.heap.size := by have := KK.out; omega
        clear hcx hcy
        generalize xs.getD k 0 = x at *
        generalize ys.getD k 0 = y at *
        have hv := hrow.out.sl
        obtain ⟨a1, n1, m1, rfl⟩ := hv
        go_wp2_with fail
        try simp only [List.append_eq, List.cons_append, List.nil_append]
        refine wp_region_any (by kernel_rfl) ?_
        refine wpAny_tail'' [46] [(46, W2 <| OneF wr.heap.size (SD k))] [0, 1, 2, 3, 4, 5, 6, 7, 8, 9, 10, 11, 12, 13] [14, 15] (by kernel_rfl) (by kernel_rfl) (by kernel_rfl) (by kernel_rfl) (by kernel_rfl) (by kernel_rfl) (by kernel_rfl) (by kernel_rfl) (by simp) (by kernel_rfl) (by kernel_rfl) (by kernel_rfl) ?_
        simp only [picks, List.filterMap_cons, List.filterMap_nil, List.getElem?_cons_zero, List.getElem?_cons_succ]
        try go_simp
        repeat (first | (refine wpG_skip rfl ?_; try go_simp) | (refine wpG_want rfl (fun K hK => ?_); first | (refine gG_fbin rfl rfl _ _ _ rfl rfl rfl ?_; intro z hz hzw; go_simp; refine hK _ ?_; clear hK K) | (intro wq hq hp; obtain ⟨hqc, hqf⟩ := bcell hq; go_simp; first | (refine hK _ ?_; clear hK K; try clear hp; try clear hqc hqf; try clear hq; try clear wq) | ((with_reducible refine g_at 63 ?_); refine g_f _ hq (by kernel_rfl) (fun wr hr => (HL.out x y _ (grew_trans hgw.out hr)).mono fun e w'' ⟨r, he, h1, h2, hw⟩ => ⟨r, he, h1, h2, hw⟩) ?_; intro r hr hrf; refine hK _ ?_; clear hK K; try clear hp; try clear hqc hqf; try clear hq; try clear wq) | (refine ⟨oneF_new (Below.size hq) (by rw [HSK.out]; simp only [*]) (by assumption), ?_⟩; refine hK _ ?_; clear hK K; try clear hp; try clear hqc hqf; try clear hq))))
        refine wpG_nil ?_
        intro wq hq hal hap
        obtain ⟨hqc, hqf⟩ := bcell hq
        have hqs := Below.size hq
        try simp at hqs
        clear hap
        have h40 := OneF.get (hal 46 (by simp)) (by simp [undef]) rfl
        obtain ⟨b1, r1, e1, hB1, hl1, hcell1, hcl1, hft1⟩ := h40
        simp at e1
        obtain rfl := e1
        have RQ := Lib.hid (hrow.out.grew (Nat.le_refl _) hq)
        refine wpList_append_own _ rfl _ _ 23 rfl wb.heap.size 22 i (.float .f32 0) 1 4 Try.underlying23 HI.out HI0.out HI1.out HI2.out rfl (by decide) _ _ _ rfl RQ.out.1 ⟨_, 0, none⟩ 1 _ [.float .f32 r1] rfl rfl (one_news hcell1) (by simp [Value.oneCell']) (by have := hzl.out; have := NN.out; unfold maxLen; omega) (by have := hzl.out; have := NN.out; omega) (by have := Below.size hq; omega) ?_
        rintro v' w2 hown hgr _
        have hP := Lib.hid (row_push3 hg.out hrow.out hq hown hgr)
        have HC1 := Lib.hid hcl1
        clear hown hgr hq hqs hal hqc hqf hcell1 RQ c1 c2 p0 p1 p2 p3 p4 hcl1
        simp only [Act.put, List.setIfInBounds_toArray, List.set_cons_zero, List.set_cons_succ]
        go_wp2_with fail
        go_roundw
        case rel => exact ⟨k + 1, zs ++ [r1], by omega, by have e := HW.out; simp [e], by show (zs ++ [r1]).length = k + 1; simp [hzl.out], hP.out.1, by
              show (zs ++ [r1]).map (cl .f32) = _
              rw [List.map_append, hmap.out, HUK.out]
              simp only [List.map_cons, List.map_nil]
              rw [HC1.out], hP.out.2⟩
        case measure => have e := HW.out; exact meas_less hlt e
      · obtain rfl : k = xs.length := by omega
        have i4 : ¬ (xs.length : Int) < (xs.length : Int) := by omega
        have hall := HFI.out _ zs hmap.out
        have hv := hrow.out.sl
        obtain ⟨a1, n1, m1, rfl⟩ := hv
        have V5 := Lib.hid (c_checkedList wb.heap.size wr.heap.size _ zs wr hrow.out (by have := NN.out; have := hzl.out; omega))
        rw [hall] at V5
        simp only [if_true] at V5
        clear hall p0 p1 p2 p3 p4
        go_wp2_with (go_at_call 68; refine V5.out.mono ?_; rintro e w' ⟨rfl, nq5, rfl⟩)
        refine bodyPost_ret (v := .tuple #[.slice a1 n1 m1, .bool true]) (by simp [results, Try.results33, go_sem]) rfl ?_
        exact ⟨_, zs, rfl, RowAt.mono (RowAt.grew hrow.out (Nat.le_refl _) (grew_draw _ _ (grew_refl _))) (Nat.le_of_lt Z1.out) (by simp), hmap.out, grew_draw _ _ hgw.out⟩

end Go.Proofs.Ytlakmogclcpgdaa

/-
  CONTRACTS: the power in a farm, in the reference.
-/
namespace Go.Proofs.Ytlakmogclcpgdaa
open Go.RowKit Go.Flt
set_option linter.unusedVariables false
set_option maxRecDepth 100000
set_option linter.unusedSimpArgs false

def areaD (r : Nat) : Ieee.Datum := fop .mul .f32 (fop .mul .f32 (cl .f32 1078530011) (cl .f32 r)) (cl .f32 r)
def takeD (d : Nat) : Ieee.Datum := fop .mul .f32 (fop .mul .f32 (fop .mul .f32 (cl .f32 1082130432) (cl .f32 d)) (fop .sub .f32 (cl .f32 1065353216) (cl .f32 d))) (fop .sub .f32 (cl .f32 1065353216) (cl .f32 d))

/-- The running power of rotors whose speeds are told. -/
def pfS (a tk : Ieee.Datum) (q : Nat) : List Ieee.Datum → Nat → Ieee.Datum
  | _, 0 => cl .f32 0
  | l, k + 1 => fop .add .f32 (pfS a tk q l k) (fop .mul .f32 (fop .mul .f32 (pwr q (l.getD k (cl .f32 0))) a) tk)

def powD (xs ys : List Nat) (r d s t v q : Nat) : Ieee.Datum := pfS (areaD r) (takeD d) q (spdL xs ys r d s t v xs.length) xs.length

def okP (xs ys : List Nat) (r d s t v q : Nat) : Bool := okS xs ys r d s t v && least (cl .f32 q)

theorem spdL_len (xs ys : List Nat) (r d s t v k : Nat) : (spdL xs ys r d s t v k).length = k := by unfold spdL; simp

theorem map_get {zs : List Nat} {L : List Ieee.Datum} (h : zs.map (cl .f32) = L) (k : Nat) : L.getD k (cl .f32 0) = cl .f32 (zs.getD k 0) := by
  rw [← h]
  simp only [List.getD, List.getElem?_map]
  cases zs[k]? <;> rfl

set_option maxHeartbeats 4000000 in
theorem c_l06Power (b : Nat) (A C : Option Addr) (n cA m cC K : Nat) (xs ys : List Nat) (r d s t v q : Nat) (w : World) (hf : FmAt w b (.slice A n cA) (.slice C m cC) r d s) (hb : b < w.heap.size) (hx : Fl w K A n xs) (hy : Fl w K C m ys) (hK : K ≤ w.heap.size) (hn : n ≤ 1048576) (hm : m = n) :
    Calls Try.prog 70 #[.pointer (some ⟨b, 0, none⟩), .float .f32 t, .float .f32 v, .float .f32 q] w (RetF (powD xs ys r d s t v q) (Grew w)) := by
  obtain rfl := hx.1
  have HL := Lib.hid (fun w' (hg : Drawn w w') => c_l06Speeds b A C xs.length cA m cC K xs ys r d s t v w' (FmAt.grew hf hb (grew_of_drawn hg)) (by obtain ⟨_, rfl⟩ := hg; exact hb) (Slc.grew (g := Value.float .f32) hx hK (grew_of_drawn hg)) (Slc.grew (g := Value.float .f32) hy hK (grew_of_drawn hg)) (by obtain ⟨_, rfl⟩ := hg; exact hK) hn hm)
  have HT := Lib.hid (show powD xs ys r d s t v q = pfS (areaD r) (takeD d) q (spdL xs ys r d s t v xs.length) xs.length from rfl)
  have HAR := Lib.hid (show areaD r = fop .mul .f32 (fop .mul .f32 (cl .f32 1078530011) (cl .f32 r)) (cl .f32 r) from rfl)
  have HTK := Lib.hid (show takeD d = fop .mul .f32 (fop .mul .f32 (fop .mul .f32 (cl .f32 1082130432) (cl .f32 d)) (fop .sub .f32 (cl .f32 1065353216) (cl .f32 d))) (fop .sub .f32 (cl .f32 1065353216) (cl .f32 d)) from rfl)
  have HLL := Lib.hid (spdL_len xs ys r d s t v xs.length)
  have hP0 : ∀ l, pfS (areaD r) (takeD d) q l 0 = cl .f32 0 := fun _ => rfl
  have hPS : ∀ l k, pfS (areaD r) (takeD d) q l (k + 1) = fop .add .f32 (pfS (areaD r) (takeD d) q l k) (fop .mul .f32 (fop .mul .f32 (pwr q (l.getD k (cl .f32 0))) (areaD r)) (takeD d)) := fun _ _ => rfl
  have HP0 := Lib.hid hP0
  have HPS := Lib.hid hPS
  obtain ⟨p0, p1, p2, p3, p4⟩ := hf
  have NN := Lib.hid hn
  clear hx hy hn hm hK hb hP0 hPS p0 p1 p4
  generalize powD xs ys r d s t v q = T at *
  generalize spdL xs ys r d s t v xs.length = L at *
  generalize areaD r = AR at *
  generalize takeD d = TK at *
  generalize pfS AR TK q = PS at *
  go_enter Try.func70, Try.ntmps70
  go_upto_region 1 with fail
  try simp only [List.append_eq, List.cons_append, List.nil_append]
  refine wp_region_drawnC (by kernel_rfl) (by kernel_rfl) ?_
  repeat (first | (refine wpFree_skip rfl ?_; try go_simp) | (refine wpFree_want rfl (fun K hK => ?_); first | (refine free_fbin drawn_draw rfl rfl _ _ _ rfl rfl ?_; intro z hz hzw; go_simp; refine hK _ ?_; clear hK K) | (intro wq hq; obtain ⟨hqc, hqf, hqh⟩ := drawn_cells hq; go_simp; first | (refine hK _ ?_; clear hK K; try clear hqc hqf; try clear hqh; try clear hq; try clear wq) | fail)))
  refine wpFree_nil ?_
  intro wq hq
  obtain ⟨nq, rfl⟩ := hq
  have HA1 := Lib.hid (show cl .f32 z = AR by rw [HAR.out]; simp only [*])
  clear hz
  obtain ⟨za, hza⟩ : ∃ q, q = z := ⟨_, rfl⟩
  subst hza
  go_upto_region 2 with fail
  try simp only [List.append_eq, List.cons_append, List.nil_append]
  refine wp_region_drawnC (by kernel_rfl) (by kernel_rfl) ?_
  repeat (first | (refine wpFree_skip rfl ?_; try go_simp) | (refine wpFree_want rfl (fun K hK => ?_); first | (refine free_fbin drawn_draw rfl rfl _ _ _ rfl rfl ?_; intro z hz hzw; go_simp; refine hK _ ?_; clear hK K) | (intro wq hq; obtain ⟨hqc, hqf, hqh⟩ := drawn_cells hq; go_simp; first | (refine hK _ ?_; clear hK K; try clear hqc hqf; try clear hqh; try clear hq; try clear wq) | fail)))
  refine wpFree_nil ?_
  intro wq hq
  obtain ⟨nq, rfl⟩ := hq
  have HK1 := Lib.hid (show cl .f32 z = TK by rw [HTK.out]; simp only [*])
  clear hz
  obtain ⟨zt, hzt⟩ : ∃ q, q = z := ⟨_, rfl⟩
  subst hzt
  have G0 : Hid (∀ n : Nat, Drawn w (w.drewN n)) := fun n => ⟨n, rfl⟩
  go_wp2_with fail
  refine (HL.out _ (by first | exact ⟨_, rfl⟩ | (simp only [World.drewN_drewN]; exact ⟨_, rfl⟩))).mono ?_
  rintro e w1 ⟨v1, zs, rfl, hrow, hmap, hg1⟩
  have G1 : Hid (Grew w w1) := grew_trans (grew_of_drawn (by first | exact ⟨_, rfl⟩ | (simp only [World.drewN_drewN]; exact ⟨_, rfl⟩))) hg1
  obtain ⟨a1, m1, rfl, hsl⟩ := hrow.slc
  have HSL := Lib.hid hsl
  have HM := Lib.hid hmap
  have hlz : zs.length = xs.length := by rw [← HLL.out, ← hmap]; simp
  rw [hlz] at HSL ⊢
  have HLZ := Lib.hid hlz
  clear hsl hmap hrow hg1 hlz HL p2 p3
  go_wp2_with fail
  go_loopw [12, 13] (fun sz si wr => ∃ (k z : Nat), k ≤ xs.length ∧ sz = .float .f32 z ∧ si = .int .i64 (k : Int) ∧ Hid (cl .f32 z = PS L k) ∧ Hid (fits z) ∧ Hid (Drawn w1 wr)) (fun _ si _ => xs.length - (intOf si).toNat)
  case atStart => exact ⟨0, 0, Nat.zero_le _, rfl, rfl, (HP0.out L).symm, fits_zero, ⟨0, rfl⟩⟩
  case round =>
    obtain ⟨k, zk, hk, rfl, rfl, hzk, hzf, hDr⟩ := hrel
    by_cases hlt : k < xs.length
    · obtain ⟨bx, ox, rfl, hbx, hcx⟩ := HSL.out.2 (by omega)
      have c0 := hcx k (zs.getD k 0) (by have := HLZ.out; simp [show k < zs.length by omega])
      have c1 : wr.cell? ⟨bx, ox + k, none⟩ = some (.float .f32 (zs.getD k 0)) := by obtain ⟨_, rfl⟩ := hDr.out; exact c0
      have HG := Lib.hid (map_get HM.out k)
      have HPK := Lib.hid (HPS.out L k)
      clear hcx c0
      generalize zs.getD k 0 = u at *
      have i3 : (0 : Int) ≤ (k : Int) := by omega
      have i4 : (k : Int) < (xs.length : Int) := by omega
      have i6 : IntKind.i64.wrap (k : Int) = (k : Int) := by rw [IntKind.wrap_i64]; have := NN.out; omega
      have HWR := Lib.hid (show wrap64 ((k : Int) + 1) = (k : Int) + 1 by have := NN.out; unfold wrap64; omega)
      go_wp2_with (first | (refine upon_fbin rfl _ _ _ _ ?_; intro z n hz hzw) | (go_at_call 86; refine (c_l04Power _ _ _).mono ?_; rintro e w' ⟨r, rfl, hr, hrf, nq, rfl⟩))
      go_roundw
      case rel => exact ⟨k + 1, _, by omega, rfl, by have e := HWR.out; simp [e], by show cl _ _ = _; rw [HPK.out, HG.out, ← hzk.out, ← HA1.out, ← HK1.out]; simp only [*], by assumption, drawn_trans hDr.out ⟨_, rfl⟩⟩
      case measure => have e := HWR.out; exact meas_less hlt e
    · obtain rfl : k = xs.length := by omega
      have i4 : ¬ (xs.length : Int) < (xs.length : Int) := by omega
      go_wp2_with (refine upon_fbin rfl _ _ _ _ ?_; intro z n hz hzw)
      go_ret
      exact ⟨_, rfl, by rw [HT.out]; exact hzk.out, hzf.out, grew_trans G1.out (grew_of_drawn (drawn_trans hDr.out ⟨0, rfl⟩))⟩

end Go.Proofs.Ytlakmogclcpgdaa

/-
  CONTRACTS: PowerInFarm, in the reference and in the program.
-/
namespace Go.Proofs.Ytlakmogclcpgdaa
open Go.RowKit Go.Flt
set_option linter.unusedVariables false
set_option maxRecDepth 100000
set_option linter.unusedSimpArgs false

set_option maxHeartbeats 2000000 in
theorem c_specPow (lo hi : Nat) (u : Value) (xs ys : List Nat) (r d s t v q : Nat) (w : World) (h : FarmAt w lo hi u xs ys r d s) (hK : hi ≤ w.heap.size) (hn : xs.length ≤ 1048576) (hm : ys.length ≤ 1048576) :
    Calls Try.prog 37 #[u, .float .f32 t, .float .f32 v, .float .f32 q] w (RetFB (num (okP xs ys r d s t v q) (powD xs ys r d s t v q)) (okP xs ys r d s t v q && fin (powD xs ys r d s t v q)) (Grew w)) := by
  obtain ⟨A, cA, C, cC, rfl, hx, hy⟩ := h.parts
  have HX := Lib.hid (fun w' (hg : Grew w w') => Slc.grew (g := Value.float .f32) (w' := w') hx hK hg)
  have HY := Lib.hid (fun w' (hg : Grew w w') => Slc.grew (g := Value.float .f32) (w' := w') hy hK hg)
  have V1 := Lib.hid (fun w' b hf (hg : Grew w w') => c_l06Blown b A C xs.length cA ys.length cC hi xs ys r d s t v w' hf (HX.out w' hg) (HY.out w' hg) (by unfold maxLen; omega) (by unfold maxLen; omega))
  clear h hx hy
  have HO := Lib.hid (show okP xs ys r d s t v q = (okS xs ys r d s t v && least (cl .f32 q)) from rfl)
  cases k1 : okP xs ys r d s t v q
  · have hA := HO.out.symm.trans k1
    clear HO hn hm k1 hK
    generalize powD xs ys r d s t v q = D at *
    generalize okS xs ys r d s t v = OS at *
    cases OS
    case' true => cases h1 : least (cl .f32 q)
    case true.true => rw [h1] at hA; simp at hA
    all_goals
      clear hA
      go_enter Try.func37, Try.ntmps37
      go_wp2_with (first | (go_at_call 64; refine (V1.out _ _ (by unfold FmAt; simp [go_sem]) (by (show Below _ _ _; (repeat (first | exact Below.refl _ _ | refine ext_below ?_ (by first | omega | (simp only [size_ext, heap_push, Array.size_push, World.heap_drewN]; omega) | (simp; omega)) _ _ | refine below_draws ?_ _ | refine Below.alloc ?_ (by first | omega | (simp; done) | (simp; omega)) _ | refine Below.setCell ?_ (by first | omega | (simp; done) | (simp; omega)) _ | refine below_then (by assumption) (by first | omega | (simp; done) | (simp; omega)) ?_))))).mono ?_; rintro e w' ⟨rfl, nq, rfl⟩) | (go_at_call 69; refine (c_l02Least _ _).mono ?_; rintro e w' ⟨rfl, nq, rfl⟩))
      refine bodyPost_ret (v := .tuple #[.float .f32 0, .bool false]) (by simp [results, Try.results37, go_sem]) rfl ?_
      exact ⟨0, rfl, rfl, fits_zero, by (show Below _ _ _; (repeat (first | exact Below.refl _ _ | refine ext_below ?_ (by first | omega | (simp only [size_ext, heap_push, Array.size_push, World.heap_drewN]; omega) | (simp; omega)) _ _ | refine below_draws ?_ _ | refine Below.alloc ?_ (by first | omega | (simp; done) | (simp; omega)) _ | refine Below.setCell ?_ (by first | omega | (simp; done) | (simp; omega)) _ | refine below_then (by assumption) (by first | omega | (simp; done) | (simp; omega)) ?_)))⟩
  · have hA := HO.out.symm.trans k1
    simp only [Bool.and_eq_true] at hA
    obtain ⟨k2, k3⟩ := hA
    have hB := k2
    unfold okS at hB
    simp only [Bool.and_eq_true] at hB
    obtain ⟨n1, n2, n3, n4, n5⟩ := vFarm_near hB.1.1
    clear n4 n5
    have V3 := Lib.hid (fun w' b hf hb (hg : Grew w w') => c_l06Power b A C xs.length cA ys.length cC hi xs ys r d s t v q w' hf hb (HX.out w' hg) (HY.out w' hg) (Nat.le_trans hK (Below.size hg)) hn n3)
    rw [k2] at V1
    generalize powD xs ys r d s t v q = D at *
    clear HO k1 k2 hB n1 n2 n3 hn hm
    go_enter Try.func37, Try.ntmps37
    go_wp2_with fail
    refine (V1.out _ _ (by unfold FmAt; simp [go_sem]) (by (show Below _ _ _; (repeat (first | exact Below.refl _ _ | refine ext_below ?_ (by first | omega | (simp only [size_ext, heap_push, Array.size_push, World.heap_drewN]; omega) | (simp; omega)) _ _ | refine below_draws ?_ _ | refine Below.alloc ?_ (by first | omega | (simp; done) | (simp; omega)) _ | refine Below.setCell ?_ (by first | omega | (simp; done) | (simp; omega)) _ | refine below_then (by assumption) (by first | omega | (simp; done) | (simp; omega)) ?_))))).mono ?_
    rintro e w1 ⟨rfl, nq, hw1⟩
    have G1 : Hid (Grew w w1) := Lib.hid (by rw [hw1]; show Grew w _; (show Below _ _ _; (repeat (first | exact Below.refl _ _ | refine ext_below ?_ (by first | omega | (simp only [size_ext, heap_push, Array.size_push, World.heap_drewN]; omega) | (simp; omega)) _ _ | refine below_draws ?_ _ | refine Below.alloc ?_ (by first | omega | (simp; done) | (simp; omega)) _ | refine Below.setCell ?_ (by first | omega | (simp; done) | (simp; omega)) _ | refine below_then (by assumption) (by first | omega | (simp; done) | (simp; omega)) ?_))))
    have A1 : Hid (FmAt w1 w.heap.size (.slice A xs.length cA) (.slice C ys.length cC) r d s) := Lib.hid (by rw [hw1]; unfold FmAt; simp [go_sem])
    have z1 : w.heap.size < w1.heap.size := by rw [hw1]; simp
    clear hw1 V1
    have V4 := Lib.hid (fun (n : Nat) => V3.out (w1.drewN n) _ A1.out z1 (grew_draw _ _ G1.out))
    go_wp2_with (first | (go_at_call 69; refine (c_l02Least _ _).mono ?_; rintro e w' ⟨rfl, nq, rfl⟩) | (go_at_call 70; refine (V4.out _).mono ?_; rintro e w2 ⟨z, rfl, hz, hzf, hg2⟩; have G2 := Lib.hid (grew_trans (grew_draw _ _ G1.out) hg2); have HZ := Lib.hid hz; have HZF := Lib.hid hzf; clear hz hzf hg2) | (go_at_call 57; refine (c_l02Number _ _).mono ?_; rintro e w' ⟨rfl, nq, rfl⟩))
    refine bodyPost_ret (v := .tuple #[.float .f32 (chkW z), .bool (fin (cl .f32 z))]) (by simp [results, Try.results37, go_sem]) rfl ?_
    exact ⟨chkW z, by rw [HZ.out]; rfl, by rw [cl_chkW, HZ.out]; simp [chk, num], fits_chkW HZF.out, grew_draw _ _ G2.out⟩

/-- AirPower, of a density that is at least 0. -/
theorem c_AirPowerL (q u : Nat) (w : World) (hd : least (cl .f32 q) = true) (hl : least (cl .f32 u) = true) : Calls Try.prog 71 #[.float .f32 q, .float .f32 u] w
    (RetFB (num true (pwr q (cl .f32 u))) (fin (pwr q (cl .f32 u))) (Grew w)) := by
  have hdn : isNum (cl .f32 q) = true := by
    unfold least at hd
    rw [Bool.and_eq_true, fin_eq] at hd
    exact hd.1
  have HE := Lib.hid (show pwr q (cl .f32 u) = fop .mul .f32 (fop .mul .f32 (fop .mul .f32 (fop .quo .f32 (cl .f32 q) (cl .f32 1073741824)) (cl .f32 u)) (cl .f32 u)) (cl .f32 u) by
    unfold pwr
    rw [half_two q hdn])
  generalize pwr q (cl .f32 u) = SP at *
  have hp : ∀ w cap b, Fl w (b + 1) (some ⟨b, 0, none⟩) [q, u].length [q, u] → Calls Try.prog 87 #[.slice (some ⟨b, 0, none⟩) 2 cap] w fun e w' => e = .returned (.bool true) ∧ ∃ n, w' = w.drewN n := by
    intro w cap b hh
    have := c_impl.areLeast _ 2 cap _ _ w hh (by simp [maxLen])
    simpa only [List.all_cons, List.all_nil, Bool.and_true, hl, hd, Bool.true_and] using this
  have HP := Lib.hid hp
  clear hp hdn hd hl
  go_enter Try.func71, Try.ntmps71
  go_wp2_with (first | (refine upon_fbin rfl _ _ _ _ ?_; intro z n hz hzw) | (go_at_call 87; refine (HP.out _ _ _ (fl_new _ [q, u] _ _ _ (by simp) rfl)).mono ?_; rintro e w' ⟨rfl, nq, rfl⟩) | (go_at_call 60; refine (c_checked _ _).mono ?_; rintro e w' ⟨rfl, nq, rfl⟩))
  go_ret2
  exact ⟨chkW z, by rw [HE.out]; simp [*], by rw [HE.out, cl_chkW]; simp [chk, num, *], fits_chkW (by assumption), by (show Below _ _ _; (repeat (first | exact Below.refl _ _ | refine ext_below ?_ (by first | omega | (simp only [size_ext, heap_push, Array.size_push, World.heap_drewN]; omega) | (simp; omega)) _ _ | refine below_draws ?_ _ | refine Below.alloc ?_ (by first | omega | (simp; done) | (simp; omega)) _ | refine Below.setCell ?_ (by first | omega | (simp; done) | (simp; omega)) _ | refine below_then (by assumption) (by first | omega | (simp; done) | (simp; omega)) ?_)))⟩

theorem pfS_step (a tk : Ieee.Datum) (q : Nat) (l : List Ieee.Datum) (n : Nat) (h : isNum (pfS a tk q l n) = true) : ∀ k, k < n → isNum (pwr q (l.getD k (cl .f32 0))) = true := by
  induction n with
  | zero => intro k hk; omega
  | succ n ih =>
    intro k hk
    have h : isNum (fop .add .f32 (pfS a tk q l n) (fop .mul .f32 (fop .mul .f32 (pwr q (l.getD n (cl .f32 0))) a) tk)) = true := h
    obtain ⟨h1, h2⟩ := num_add h
    by_cases e : k = n
    · subst e
      exact (num_mul (num_mul h2).1).1
    · exact ih h1 k (by omega)

set_option maxHeartbeats 4000000 in
theorem c_implPow (lo hi : Nat) (u : Value) (xs ys : List Nat) (r d s t v q : Nat) (w : World) (h : FarmAt w lo hi u xs ys r d s) (hK : hi ≤ w.heap.size) (hn : xs.length ≤ 1048576) (hm : ys.length ≤ 1048576) :
    Calls Try.prog 38 #[u, .float .f32 t, .float .f32 v, .float .f32 q] w (RetFB (num (okP xs ys r d s t v q) (powD xs ys r d s t v q)) (okP xs ys r d s t v q && fin (powD xs ys r d s t v q)) (Grew w)) := by
  have V1 := Lib.hid (fun w' (hg : Grew w w') => c_implSpeeds lo hi u xs ys r d s t v w' (h.grew hK hg) (Nat.le_trans hK (Below.size hg)) hn hm)
  obtain ⟨A, cA, C, cC, rfl, hx, hy⟩ := h.parts
  clear h hx hy
  have HO := Lib.hid (show okP xs ys r d s t v q = (okS xs ys r d s t v && least (cl .f32 q)) from rfl)
  have HR := Lib.hid (show spdR xs ys r d s t v = if okS xs ys r d s t v then spdL xs ys r d s t v xs.length else [] from rfl)
  cases k1 : okP xs ys r d s t v q
  · have hA := HO.out.symm.trans k1
    clear HO HR hn hm k1 hK
    generalize powD xs ys r d s t v q = D at *
    generalize okS xs ys r d s t v = OS at *
    generalize spdR xs ys r d s t v = SR at *
    cases OS
    case' true => cases h1 : least (cl .f32 q)
    case true.true => rw [h1] at hA; simp at hA
    all_goals
      clear hA
      go_enter Try.func38, Try.ntmps38
      go_wp2_with fail
      refine (V1.out _ (by (show Below _ _ _; (repeat (first | exact Below.refl _ _ | refine ext_below ?_ (by first | omega | (simp only [size_ext, heap_push, Array.size_push, World.heap_drewN]; omega) | (simp; omega)) _ _ | refine below_draws ?_ _ | refine Below.alloc ?_ (by first | omega | (simp; done) | (simp; omega)) _ | refine Below.setCell ?_ (by first | omega | (simp; done) | (simp; omega)) _ | refine below_then (by assumption) (by first | omega | (simp; done) | (simp; omega)) ?_))))).mono ?_
      rintro e w1 ⟨v1, zs, rfl, hrow, hmap, hg1⟩
      have G1 := Lib.hid (grew_trans (show Grew w _ by (show Below _ _ _; (repeat (first | exact Below.refl _ _ | refine ext_below ?_ (by first | omega | (simp only [size_ext, heap_push, Array.size_push, World.heap_drewN]; omega) | (simp; omega)) _ _ | refine below_draws ?_ _ | refine Below.alloc ?_ (by first | omega | (simp; done) | (simp; omega)) _ | refine Below.setCell ?_ (by first | omega | (simp; done) | (simp; omega)) _ | refine below_then (by assumption) (by first | omega | (simp; done) | (simp; omega)) ?_)))) hg1)
      obtain ⟨a1, n1, m1, rfl⟩ := hrow.sl
      clear hrow hmap hg1 V1
      go_wp2_with (go_at_call 67; refine (c_isLeast _ _).mono ?_; rintro e w' ⟨rfl, nq, rfl⟩)
      refine bodyPost_ret (v := .tuple #[.float .f32 0, .bool false]) (by simp [results, Try.results38, go_sem]) rfl ?_
      exact ⟨0, rfl, rfl, fits_zero, by first | exact G1.out | exact grew_draw _ _ G1.out⟩
  · have hA := HO.out.symm.trans k1
    simp only [Bool.and_eq_true] at hA
    obtain ⟨k2, k3⟩ := hA
    have hR := HR.out
    rw [k2] at hR V1
    simp only [if_true] at hR
    rw [hR] at V1
    have hB := k2
    unfold okS at hB
    simp only [Bool.and_eq_true] at hB
    have HSP := Lib.hid (fun k => speed_ok hB.1.1 t hB.2 k)
    have HLK := Lib.hid (show ∀ k, k < xs.length → (spdL xs ys r d s t v xs.length).getD k (cl .f32 0) = speedD xs ys r d s t v k by intro k hk; unfold spdL; simp [List.getD, hk])
    have HT := Lib.hid (show powD xs ys r d s t v q = pfS (areaD r) (takeD d) q (spdL xs ys r d s t v xs.length) xs.length from rfl)
    have HFN := Lib.hid (fun h => pfS_step (areaD r) (takeD d) q (spdL xs ys r d s t v xs.length) xs.length h)
    have HAR := Lib.hid (show areaD r = fop .mul .f32 (fop .mul .f32 (cl .f32 1078530011) (cl .f32 r)) (cl .f32 r) from rfl)
    have HTK := Lib.hid (show takeD d = fop .mul .f32 (fop .mul .f32 (fop .mul .f32 (cl .f32 1082130432) (cl .f32 d)) (fop .sub .f32 (cl .f32 1065353216) (cl .f32 d))) (fop .sub .f32 (cl .f32 1065353216) (cl .f32 d)) from rfl)
    have HLL := Lib.hid (spdL_len xs ys r d s t v xs.length)
    have hP0 : ∀ l, pfS (areaD r) (takeD d) q l 0 = cl .f32 0 := fun _ => rfl
    have hPS : ∀ l k, pfS (areaD r) (takeD d) q l (k + 1) = fop .add .f32 (pfS (areaD r) (takeD d) q l k) (fop .mul .f32 (fop .mul .f32 (pwr q (l.getD k (cl .f32 0))) (areaD r)) (takeD d)) := fun _ _ => rfl
    have HP0 := Lib.hid hP0
    have HPS := Lib.hid hPS
    have HAP := Lib.hid (fun u w hl => c_AirPowerL q u w k3 hl)
    have NN := Lib.hid hn
    clear hP0 hPS k1 k2 hB hR HR HO hn hm hK
    generalize powD xs ys r d s t v q = T at *
    generalize spdL xs ys r d s t v xs.length = L at *
    generalize areaD r = AR at *
    generalize takeD d = TK at *
    generalize pfS AR TK q = PS at *
    generalize speedD xs ys r d s t v = SD at *
    go_enter Try.func38, Try.ntmps38
    go_wp2_with fail
    refine (V1.out _ (by (show Below _ _ _; (repeat (first | exact Below.refl _ _ | refine ext_below ?_ (by first | omega | (simp only [size_ext, heap_push, Array.size_push, World.heap_drewN]; omega) | (simp; omega)) _ _ | refine below_draws ?_ _ | refine Below.alloc ?_ (by first | omega | (simp; done) | (simp; omega)) _ | refine Below.setCell ?_ (by first | omega | (simp; done) | (simp; omega)) _ | refine below_then (by assumption) (by first | omega | (simp; done) | (simp; omega)) ?_))))).mono ?_
    rintro e w1 ⟨v1, zs, rfl, hrow, hmap, hg1⟩
    have G1 := Lib.hid (grew_trans (show Grew w _ by (show Below _ _ _; (repeat (first | exact Below.refl _ _ | refine ext_below ?_ (by first | omega | (simp only [size_ext, heap_push, Array.size_push, World.heap_drewN]; omega) | (simp; omega)) _ _ | refine below_draws ?_ _ | refine Below.alloc ?_ (by first | omega | (simp; done) | (simp; omega)) _ | refine Below.setCell ?_ (by first | omega | (simp; done) | (simp; omega)) _ | refine below_then (by assumption) (by first | omega | (simp; done) | (simp; omega)) ?_)))) hg1)
    have A1 : Hid (FmAt w1 w.heap.size (.slice A xs.length cA) (.slice C ys.length cC) r d s) := Lib.hid (FmAt.grew (by unfold FmAt; simp [go_sem]) (by simp <;> omega) hg1)
    have Z1 : Hid (w.heap.size < w1.heap.size) := by have := Below.size hg1; simp at this; show _ < _; omega
    obtain ⟨a1, m1, rfl, hsl⟩ := hrow.slc
    have HSL := Lib.hid hsl
    have HM := Lib.hid hmap
    have hlz : zs.length = xs.length := by rw [← HLL.out, ← hmap]; simp
    rw [hlz] at HSL ⊢
    have HLZ := Lib.hid hlz
    clear hsl hmap hrow hg1 hlz V1
    obtain ⟨p0, p1, p2, p3, p4⟩ := A1.out
    go_upto_region 5 with (first | (refine upon_fbin rfl _ _ _ _ ?_; intro z n hz hzw) | (go_at_call 67; refine (c_isLeast _ _).mono ?_; rintro e w' ⟨rfl, nq, rfl⟩))
    have HA1 := Lib.hid (show cl .f32 z = AR by rw [HAR.out]; simp only [*])
    clear hz k3
    obtain ⟨za, hza⟩ : ∃ q, q = z := ⟨_, rfl⟩
    subst hza
    go_upto_region 6 with (refine upon_fbin rfl _ _ _ _ ?_; intro z n hz hzw)
    have HK1 := Lib.hid (show cl .f32 z = TK by rw [HTK.out]; simp only [*])
    clear hz p0 p1 p2 p3 p4
    obtain ⟨zt, hzt⟩ : ∃ q, q = z := ⟨_, rfl⟩
    subst hzt
    go_wp2_with fail
    go_loopw [14, 52] (fun sz si wr => ∃ (k z : Nat), k ≤ xs.length ∧ sz = .float .f32 z ∧ si = .int .i64 (k : Int) ∧ Hid (cl .f32 z = PS L k) ∧ Hid (fits z) ∧ Hid (Grew w1 wr)) (fun _ si _ => xs.length - (intOf si).toNat)
    case atStart => exact ⟨0, 0, Nat.zero_le _, rfl, rfl, (HP0.out L).symm, fits_zero, by show Grew _ _; (show Below _ _ _; (repeat (first | exact Below.refl _ _ | refine ext_below ?_ (by first | omega | (simp only [size_ext, heap_push, Array.size_push, World.heap_drewN]; omega) | (simp; omega)) _ _ | refine below_draws ?_ _ | refine Below.alloc ?_ (by first | omega | (simp; done) | (simp; omega)) _ | refine Below.setCell ?_ (by first | omega | (simp; done) | (simp; omega)) _ | refine below_then (by assumption) (by first | omega | (simp; done) | (simp; omega)) ?_)))⟩
    case round =>
      obtain ⟨k, zk, hk, rfl, rfl, hzk, hzkf, hDr⟩ := hrel
      by_cases hlt : k < xs.length
      · obtain ⟨bx, ox, rfl, hbx, hcx⟩ := HSL.out.2 (by omega)
        have c0 := hcx k (zs.getD k 0) (by have := HLZ.out; simp [show k < zs.length by omega])
        have c1 : wr.cell? ⟨bx, ox + k, none⟩ = some (.float .f32 (zs.getD k 0)) := ((bcell hDr.out).1 bx (ox + k) hbx).trans c0
        have HG := Lib.hid (map_get HM.out k)
        have hsp : isNum (cl .f32 (zs.getD k 0)) = true ∧ leF (cl .f32 0) (cl .f32 (zs.getD k 0)) = true := by
          rw [← HG.out, HLK.out k hlt]; exact HSP.out k
        have hle : least (cl .f32 (zs.getD k 0)) = true := by
          unfold least fge
          rw [fin_eq, hsp.1, ge_leF, hsp.2]
          rfl
        have HPK := Lib.hid (HPS.out L k)
        have HFK := Lib.hid (fun h => HFN.out h k hlt)
        rw [HG.out] at HPK HFK
        clear hcx c0 hsp
        generalize zs.getD k 0 = u at *
        have HAU := Lib.hid (fun w => HAP.out u w hle)
        clear hle
        have i3 : (0 : Int) ≤ (k : Int) := by omega
        have i4 : (k : Int) < (xs.length : Int) := by omega
        have i6 : IntKind.i64.wrap (k : Int) = (k : Int) := by rw [IntKind.wrap_i64]; have := NN.out; omega
        have HWR := Lib.hid (show wrap64 ((k : Int) + 1) = (k : Int) + 1 by have := NN.out; unfold wrap64; omega)
        cases hf : fin (pwr q (cl .f32 u))
        · have hfT : fin T = false := by
            cases h : fin T
            · rfl
            · have h2 := HT.out
              rw [h2, fin_eq] at h
              have := HFK.out h
              rw [← fin_eq, hf] at this
              cases this
          have HF := Lib.hid hfT
          rw [hf] at HAU
          clear hf hfT
          go_wp2_with (first | (refine upon_fbin rfl _ _ _ _ ?_; intro z n hz hzw) | (go_at_call 71; refine (HAU.out _).mono ?_; rintro e w2 ⟨z2, rfl, hz2, hz2f, hg2⟩))
          refine bodyPost_ret (v := .tuple #[.float .f32 0, .bool false]) (by simp [results, Try.results38, go_sem]) rfl ?_
          exact ⟨0, by rw [HF.out]; rfl, by rw [num, HF.out]; rfl, fits_zero, grew_trans (grew_trans G1.out hDr.out) hg2⟩
        · rw [hf] at HAU
          have hnum : num true (pwr q (cl .f32 u)) = pwr q (cl .f32 u) := by unfold num; rw [hf]; rfl
          rw [hnum] at HAU
          clear hf hnum
          go_wp2_with (first | (refine upon_fbin rfl _ _ _ _ ?_; intro z n hz hzw) | (go_at_call 71; refine (HAU.out _).mono ?_; rintro e w2 ⟨z2, rfl, hz2, hz2f, hg2⟩; have G2 := Lib.hid (grew_trans hDr.out hg2); clear hg2))
          go_roundw
          case rel => exact ⟨k + 1, _, by omega, rfl, by have e := HWR.out; simp [e], by show cl _ _ = _; rw [HPK.out, ← hzk.out, ← HA1.out, ← HK1.out]; simp only [*], by assumption, grew_draw _ _ G2.out⟩
          case measure => have e := HWR.out; exact meas_less hlt e
      · obtain rfl : k = xs.length := by omega
        have i4 : ¬ (xs.length : Int) < (xs.length : Int) := by omega
        have hT := HT.out.trans hzk.out.symm
        have HTT := Lib.hid hT
        clear hT
        go_wp2_with (first | (refine upon_fbin rfl _ _ _ _ ?_; intro z n hz hzw) | (go_at_call 60; refine (c_checked _ _).mono ?_; rintro e w' ⟨rfl, nq, rfl⟩))
        refine bodyPost_ret (v := .tuple #[.float .f32 (chkW zk), .bool (fin (cl .f32 zk))]) (by simp [results, Try.results38, go_sem]) rfl ?_
        exact ⟨chkW zk, by rw [HTT.out]; rfl, by rw [cl_chkW, HTT.out]; simp [chk, num], fits_chkW hzkf.out, grew_draw _ _ (grew_trans G1.out hDr.out)⟩

end Go.Proofs.Ytlakmogclcpgdaa

