/-
  CONTRACTS: air: when it is valid, speeds at heights, powers.
-/
import Derived.BigQuiet
import Derived.Deep.QuietTactic
import Derived.Test.YtebhefbpkcpnjaaDisc2
import Derived.Test.YtebhefbpkcpnjaaSameF
namespace Go.Proofs.Ytebhefbpkcpnjaa
open Go.RowKit Go.Flt
set_option linter.unusedVariables false
set_option maxRecDepth 100000
set_option linter.unusedSimpArgs false

/-- The numbers of air lie in block b. -/
def AirAt (w : World) (b : Nat) (d h v s : Nat) : Prop :=
  w.cell? ⟨b, 0, none⟩ = some (.float .f32 d) ∧ w.cell? ⟨b, 1, none⟩ = some (.float .f32 h) ∧ w.cell? ⟨b, 2, none⟩ = some (.float .f32 v) ∧ w.cell? ⟨b, 3, none⟩ = some (.float .f32 s)

def vAir (d h v s : Nat) : Bool := above (cl .f32 d) && above (cl .f32 h) && least (cl .f32 v) && fromTo (cl .f32 s) (cl .f32 0) (cl .f32 1065353216)

theorem c_toAir' (d h v s : Nat) (w : World) : Calls Try.prog 30 #[.agg #[.float .f32 d, .float .f32 h, .float .f32 v, .float .f32 s]] w fun e w' => e = .returned (.agg #[.float .f32 d, .float .f32 h, .float .f32 v, .float .f32 s]) ∧
    w' = ((w.alloc (.cells #[.float .f32 d, .float .f32 h, .float .f32 v, .float .f32 s] 48)).alloc (.cells #[.float .f32 d, .float .f32 h, .float .f32 v, .float .f32 s] 50)).alloc (.cells #[.float .f32 d, .float .f32 h, .float .f32 v, .float .f32 s] 50) := by
  go_enter Try.func30, Try.ntmps30
  go_wp2_with fail
  exact bodyPost_ret (v := .agg #[.float .f32 d, .float .f32 h, .float .f32 v, .float .f32 s]) (by simp [results, Try.results30, go_sem]) rfl ⟨rfl, rfl⟩

theorem c_toAir (d h v s : Nat) (w : World) : Calls Try.prog 30 #[.agg #[.float .f32 d, .float .f32 h, .float .f32 v, .float .f32 s]] w fun e w' => e = .returned (.agg #[.float .f32 d, .float .f32 h, .float .f32 v, .float .f32 s]) ∧ Below w.heap.size w w' :=
  (c_toAir' d h v s w).mono fun e w' ⟨he, hw⟩ => ⟨he, by subst hw; (repeat (first | exact Below.refl _ _ | refine ext_below ?_ (by first | omega | (simp only [size_ext, heap_push, Array.size_push, World.heap_drewN]; omega) | (simp; omega)) _ _ | refine below_draws ?_ _ | refine Below.alloc ?_ (by first | omega | (simp; done) | (simp; omega)) _ | refine Below.setCell ?_ (by first | omega | (simp; done) | (simp; omega)) _ | refine below_then (by assumption) (by first | omega | (simp; done) | (simp; omega)) ?_))⟩

theorem c_l04Share (x : Nat) (w : World) : Calls Try.prog 50 #[.float .f32 x] w fun e w' => e = .returned (.bool (fromTo (cl .f32 x) (cl .f32 0) (cl .f32 1065353216))) ∧ ∃ n, w' = w.drewN n := by
  cases h : fge (cl .f32 x) (cl .f32 0)
  all_goals
    have h' := h
    unfold fge at h'
    go_enter Try.func50, Try.ntmps50
    go_wp2_with fail
    go_ret
    exact ⟨by simp [fromTo, fle, h, leF], 0, rfl⟩

theorem c_l04Is (d h v s b : Nat) (w : World) (hp : AirAt w b d h v s) : Calls Try.prog 66 #[.pointer (some ⟨b, 0, none⟩)] w fun e w' => e = .returned (.bool (vAir d h v s)) ∧ ∃ n, w' = w.drewN n := by
  obtain ⟨h0, h1, h2, h3⟩ := hp
  cases cc0 : above (cl .f32 d)
  case false =>
    go_enter Try.func66, Try.ntmps66
    go_wp2_with (first | (go_at_call 67; refine (c_l02Above _ _).mono ?_; rintro e w' ⟨rfl, nq, rfl⟩) | (go_at_call 87; refine (c_l02Least _ _).mono ?_; rintro e w' ⟨rfl, nq, rfl⟩) | (go_at_call 50; refine (c_l04Share _ _).mono ?_; rintro e w' ⟨rfl, nq, rfl⟩))
    go_ret
    exact ⟨by simp [vAir, *], by (first | exact ⟨_, rfl⟩ | exact ⟨0, rfl⟩ | exact ⟨_, World.drewN_drewN _ _ _⟩ | (simp only [World.drewN_drewN]; exact ⟨_, rfl⟩))⟩
  cases cc1 : above (cl .f32 h)
  case false =>
    go_enter Try.func66, Try.ntmps66
    go_wp2_with (first | (go_at_call 67; refine (c_l02Above _ _).mono ?_; rintro e w' ⟨rfl, nq, rfl⟩) | (go_at_call 87; refine (c_l02Least _ _).mono ?_; rintro e w' ⟨rfl, nq, rfl⟩) | (go_at_call 50; refine (c_l04Share _ _).mono ?_; rintro e w' ⟨rfl, nq, rfl⟩))
    go_ret
    exact ⟨by simp [vAir, *], by (first | exact ⟨_, rfl⟩ | exact ⟨0, rfl⟩ | exact ⟨_, World.drewN_drewN _ _ _⟩ | (simp only [World.drewN_drewN]; exact ⟨_, rfl⟩))⟩
  cases cc2 : least (cl .f32 v)
  case false =>
    go_enter Try.func66, Try.ntmps66
    go_wp2_with (first | (go_at_call 67; refine (c_l02Above _ _).mono ?_; rintro e w' ⟨rfl, nq, rfl⟩) | (go_at_call 87; refine (c_l02Least _ _).mono ?_; rintro e w' ⟨rfl, nq, rfl⟩) | (go_at_call 50; refine (c_l04Share _ _).mono ?_; rintro e w' ⟨rfl, nq, rfl⟩))
    go_ret
    exact ⟨by simp [vAir, *], by (first | exact ⟨_, rfl⟩ | exact ⟨0, rfl⟩ | exact ⟨_, World.drewN_drewN _ _ _⟩ | (simp only [World.drewN_drewN]; exact ⟨_, rfl⟩))⟩
  go_enter Try.func66, Try.ntmps66
  go_wp2_with (first | (go_at_call 67; refine (c_l02Above _ _).mono ?_; rintro e w' ⟨rfl, nq, rfl⟩) | (go_at_call 87; refine (c_l02Least _ _).mono ?_; rintro e w' ⟨rfl, nq, rfl⟩) | (go_at_call 50; refine (c_l04Share _ _).mono ?_; rintro e w' ⟨rfl, nq, rfl⟩))
  go_ret
  exact ⟨by simp [vAir, *], by (first | exact ⟨_, rfl⟩ | exact ⟨0, rfl⟩ | exact ⟨_, World.drewN_drewN _ _ _⟩ | (simp only [World.drewN_drewN]; exact ⟨_, rfl⟩))⟩

theorem c_implValidAir (d h v s : Nat) (w : World) : Calls Try.prog 70 #[.agg #[.float .f32 d, .float .f32 h, .float .f32 v, .float .f32 s]] w fun e w' => e = .returned (.bool (vAir d h v s)) ∧ Grew w w' := by
  have HA := Lib.hid (show (!([d, h].any fun x => !fin (cl .f32 x) || fle (cl .f32 x) (cl .f32 0))) = (above (cl .f32 d) && above (cl .f32 h)) by simp [above_not])
  have hp : ∀ w cap b, Fl w (b + 1) (some ⟨b, 0, none⟩) [d, h].length [d, h] → Calls Try.prog 71 #[.slice (some ⟨b, 0, none⟩) 2 cap] w fun e w' => e = .returned (.bool (above (cl .f32 d) && above (cl .f32 h))) ∧ ∃ n, w' = w.drewN n := by
    intro w cap b hh
    rw [← HA.out]
    exact c_arePositive _ cap _ _ w hh (by simp [maxLen])
  have HV := Lib.hid (show vAir d h v s = ((above (cl .f32 d) && above (cl .f32 h)) && least (cl .f32 v) && fromTo (cl .f32 s) (cl .f32 0) (cl .f32 1065353216)) from rfl)
  generalize (above (cl .f32 d) && above (cl .f32 h)) = A at *
  have HP := Lib.hid hp
  clear hp
  cases cc0 : A
  case false =>
    go_enter Try.func70, Try.ntmps70
    go_wp2_with (first | (go_at_call 92; refine (c_isLeast _ _).mono ?_; rintro e w' ⟨rfl, nq, rfl⟩) | (go_at_call 53; refine (c_isFromTo _ _ _ _).mono ?_; rintro e w' ⟨rfl, nq, rfl⟩) | (go_at_call 71; refine (HP.out _ _ _ (fl_new _ [d, h] _ _ _ (by simp) rfl)).mono ?_; rintro e w' ⟨rfl, nq, rfl⟩))
    go_ret
    exact ⟨by rw [HV.out]; simp [*], by (show Below _ _ _; (repeat (first | exact Below.refl _ _ | refine ext_below ?_ (by first | omega | (simp only [size_ext, heap_push, Array.size_push, World.heap_drewN]; omega) | (simp; omega)) _ _ | refine below_draws ?_ _ | refine Below.alloc ?_ (by first | omega | (simp; done) | (simp; omega)) _ | refine Below.setCell ?_ (by first | omega | (simp; done) | (simp; omega)) _ | refine below_then (by assumption) (by first | omega | (simp; done) | (simp; omega)) ?_)))⟩
  cases cc1 : least (cl .f32 v)
  case false =>
    go_enter Try.func70, Try.ntmps70
    go_wp2_with (first | (go_at_call 92; refine (c_isLeast _ _).mono ?_; rintro e w' ⟨rfl, nq, rfl⟩) | (go_at_call 53; refine (c_isFromTo _ _ _ _).mono ?_; rintro e w' ⟨rfl, nq, rfl⟩) | (go_at_call 71; refine (HP.out _ _ _ (fl_new _ [d, h] _ _ _ (by simp) rfl)).mono ?_; rintro e w' ⟨rfl, nq, rfl⟩))
    go_ret
    exact ⟨by rw [HV.out]; simp [*], by (show Below _ _ _; (repeat (first | exact Below.refl _ _ | refine ext_below ?_ (by first | omega | (simp only [size_ext, heap_push, Array.size_push, World.heap_drewN]; omega) | (simp; omega)) _ _ | refine below_draws ?_ _ | refine Below.alloc ?_ (by first | omega | (simp; done) | (simp; omega)) _ | refine Below.setCell ?_ (by first | omega | (simp; done) | (simp; omega)) _ | refine below_then (by assumption) (by first | omega | (simp; done) | (simp; omega)) ?_)))⟩
  go_enter Try.func70, Try.ntmps70
  go_wp2_with (first | (go_at_call 92; refine (c_isLeast _ _).mono ?_; rintro e w' ⟨rfl, nq, rfl⟩) | (go_at_call 53; refine (c_isFromTo _ _ _ _).mono ?_; rintro e w' ⟨rfl, nq, rfl⟩) | (go_at_call 71; refine (HP.out _ _ _ (fl_new _ [d, h] _ _ _ (by simp) rfl)).mono ?_; rintro e w' ⟨rfl, nq, rfl⟩))
  go_ret
  exact ⟨by rw [HV.out]; simp [*], by (show Below _ _ _; (repeat (first | exact Below.refl _ _ | refine ext_below ?_ (by first | omega | (simp only [size_ext, heap_push, Array.size_push, World.heap_drewN]; omega) | (simp; omega)) _ _ | refine below_draws ?_ _ | refine Below.alloc ?_ (by first | omega | (simp; done) | (simp; omega)) _ | refine Below.setCell ?_ (by first | omega | (simp; done) | (simp; omega)) _ | refine below_then (by assumption) (by first | omega | (simp; done) | (simp; omega)) ?_)))⟩

set_option maxHeartbeats 1000000 in
theorem c_l04Speed (d h v s b z : Nat) (w : World) (hp : AirAt w b d h v s) : Calls Try.prog 69 #[.pointer (some ⟨b, 0, none⟩), .float .f32 z] w (RetF (spd v s h (cl .f32 z)) (Drawn w)) := by
  obtain ⟨h0, h1, h2, h3⟩ := hp
  have HE := Lib.hid (show spd v s h (cl .f32 z) = fop .mul .f32 (cl .f32 v) (fop .add .f32 (cl .f32 1065353216) (fop .mul .f32 (cl .f32 s) (fop .quo .f32 (fop .sub .f32 (cl .f32 z) (cl .f32 h)) (fop .add .f32 (cl .f32 z) (cl .f32 h))))) from rfl)
  generalize spd v s h (cl .f32 z) = SP at *
  go_enter Try.func69, Try.ntmps69
  go_wp2_with fail
  try simp only [List.append_eq, List.cons_append, List.nil_append]
  refine wp_region_drawnC (by kernel_rfl) (by kernel_rfl) ?_
  repeat (first | (refine wpFree_skip rfl ?_; try go_simp) | (refine wpFree_want rfl (fun K hK => ?_); first | (refine free_fbin drawn_draw rfl rfl _ _ _ rfl rfl ?_; intro z hz hzw; go_simp; refine hK _ ?_; clear hK K) | (intro wq hq; obtain ⟨hqc, hqf, hqh⟩ := drawn_cells hq; go_simp; first | (refine hK _ ?_; clear hK K; try clear hqc hqf; try clear hqh; try clear hq; try clear wq) | fail)))
  refine wpFree_nil ?_
  intro wq hq
  obtain ⟨nq, rfl⟩ := hq
  go_wp2_with fail
  try simp only [List.append_eq, List.cons_append, List.nil_append]
  refine wp_region_drawnC (by kernel_rfl) (by kernel_rfl) ?_
  repeat (first | (refine wpFree_skip rfl ?_; try go_simp) | (refine wpFree_want rfl (fun K hK => ?_); first | (refine free_fbin drawn_draw rfl rfl _ _ _ rfl rfl ?_; intro z hz hzw; go_simp; refine hK _ ?_; clear hK K) | (intro wq hq; obtain ⟨hqc, hqf, hqh⟩ := drawn_cells hq; go_simp; first | (refine hK _ ?_; clear hK K; try clear hqc hqf; try clear hqh; try clear hq; try clear wq) | fail)))
  refine wpFree_nil ?_
  intro wq hq
  obtain ⟨nq, rfl⟩ := hq
  go_wp2_with fail
  go_ret
  exact ⟨_, rfl, by rw [HE.out]; simp only [*], by assumption, by (first | exact ⟨_, rfl⟩ | exact ⟨0, rfl⟩ | exact ⟨_, World.drewN_drewN _ _ _⟩ | (simp only [World.drewN_drewN]; exact ⟨_, rfl⟩))⟩

def pwr (d : Nat) (u : Ieee.Datum) : Ieee.Datum := fop .mul .f32 (fop .mul .f32 (fop .mul .f32 (fop .mul .f32 (cl .f32 1056964608) (cl .f32 d)) u) u) u

theorem c_l04Power (d u : Nat) (w : World) : Calls Try.prog 68 #[.float .f32 d, .float .f32 u] w (RetF (pwr d (cl .f32 u)) (Drawn w)) := by
  have HE := Lib.hid (show pwr d (cl .f32 u) = fop .mul .f32 (fop .mul .f32 (fop .mul .f32 (fop .mul .f32 (cl .f32 1056964608) (cl .f32 d)) (cl .f32 u)) (cl .f32 u)) (cl .f32 u) from rfl)
  generalize pwr d (cl .f32 u) = SP at *
  go_enter Try.func68, Try.ntmps68
  go_wp2_with (refine upon_fbin rfl _ _ _ _ ?_; intro z n hz hzw)
  go_ret
  exact ⟨_, rfl, by rw [HE.out]; simp only [*], by assumption, by (first | exact ⟨_, rfl⟩ | exact ⟨0, rfl⟩ | exact ⟨_, World.drewN_drewN _ _ _⟩ | (simp only [World.drewN_drewN]; exact ⟨_, rfl⟩))⟩

theorem c_SpeedAtHeight (d h v s z : Nat) (w : World) : Calls Try.prog 74 #[.agg #[.float .f32 d, .float .f32 h, .float .f32 v, .float .f32 s], .float .f32 z] w
    (RetFB (num (vAir d h v s && least (cl .f32 z)) (spd v s h (cl .f32 z))) (vAir d h v s && least (cl .f32 z) && fin (spd v s h (cl .f32 z))) (Grew w)) := by
  have HE := Lib.hid (show spd v s h (cl .f32 z) = fop .mul .f32 (cl .f32 v) (fop .add .f32 (cl .f32 1065353216) (fop .mul .f32 (cl .f32 s) (fop .quo .f32 (fop .sub .f32 (cl .f32 z) (cl .f32 h)) (fop .add .f32 (cl .f32 z) (cl .f32 h))))) from rfl)
  generalize spd v s h (cl .f32 z) = SP at *
  have HC := Lib.hid (fun w => c_implValidAir d h v s w)
  generalize vAir d h v s = VA at *
  cases VA
  case' true => cases hl : least (cl .f32 z)
  all_goals
    go_enter Try.func74, Try.ntmps74
    go_wp2_with (first | (refine upon_fbin rfl _ _ _ _ ?_; intro z n hz hzw) | (go_at_call 70; refine (HC.out _).mono ?_; rintro e w' ⟨rfl, hgv⟩; obtain ⟨hvc, hvf⟩ := bcell hgv) | (go_at_call 92; refine (c_isLeast _ _).mono ?_; rintro e w' ⟨rfl, nq, rfl⟩) | (go_at_call 46; refine (c_checked _ _).mono ?_; rintro e w' ⟨rfl, nq, rfl⟩))
    go_ret2
    first
      | exact ⟨_, rfl, by simp [num], fits_zero, by (show Below _ _ _; (repeat (first | exact Below.refl _ _ | refine ext_below ?_ (by first | omega | (simp only [size_ext, heap_push, Array.size_push, World.heap_drewN]; omega) | (simp; omega)) _ _ | refine below_draws ?_ _ | refine Below.alloc ?_ (by first | omega | (simp; done) | (simp; omega)) _ | refine Below.setCell ?_ (by first | omega | (simp; done) | (simp; omega)) _ | refine below_then (by assumption) (by first | omega | (simp; done) | (simp; omega)) ?_)))⟩
      | exact ⟨chkW z, by rw [HE.out]; simp [*], by rw [HE.out, cl_chkW]; simp [chk, num, *], fits_chkW (by assumption), by (show Below _ _ _; (repeat (first | exact Below.refl _ _ | refine ext_below ?_ (by first | omega | (simp only [size_ext, heap_push, Array.size_push, World.heap_drewN]; omega) | (simp; omega)) _ _ | refine below_draws ?_ _ | refine Below.alloc ?_ (by first | omega | (simp; done) | (simp; omega)) _ | refine Below.setCell ?_ (by first | omega | (simp; done) | (simp; omega)) _ | refine below_then (by assumption) (by first | omega | (simp; done) | (simp; omega)) ?_)))⟩

theorem c_AirPower (d u : Nat) (w : World) (hd : above (cl .f32 d) = true) : Calls Try.prog 75 #[.float .f32 d, .float .f32 u] w
    (RetFB (num (least (cl .f32 u)) (pwr d (cl .f32 u))) (least (cl .f32 u) && fin (pwr d (cl .f32 u))) (Grew w)) := by
  have hdn : isNum (cl .f32 d) = true := by
    unfold above at hd
    rw [Bool.and_eq_true, fin_eq] at hd
    exact hd.1
  have HE := Lib.hid (show pwr d (cl .f32 u) = fop .mul .f32 (fop .mul .f32 (fop .mul .f32 (fop .quo .f32 (cl .f32 d) (cl .f32 1073741824)) (cl .f32 u)) (cl .f32 u)) (cl .f32 u) by
    unfold pwr
    rw [half_two d hdn])
  generalize pwr d (cl .f32 u) = SP at *
  have hld : least (cl .f32 d) = true := by
    unfold above at hd
    unfold least fge
    rw [Bool.and_eq_true] at hd ⊢
    exact ⟨hd.1, by rw [hd.2]; rfl⟩
  have hp : ∀ w cap b, Fl w (b + 1) (some ⟨b, 0, none⟩) [d, u].length [d, u] → Calls Try.prog 88 #[.slice (some ⟨b, 0, none⟩) 2 cap] w fun e w' => e = .returned (.bool (least (cl .f32 u))) ∧ ∃ n, w' = w.drewN n := by
    intro w cap b hh
    have := c_impl.areLeast _ 2 cap _ _ w hh (by simp [maxLen])
    simpa only [List.all_cons, List.all_nil, Bool.and_true, hld, Bool.true_and] using this
  have HP := Lib.hid hp
  clear hp hld hdn hd
  cases hl : least (cl .f32 u)
  all_goals
    go_enter Try.func75, Try.ntmps75
    go_wp2_with (first | (refine upon_fbin rfl _ _ _ _ ?_; intro z n hz hzw) | (go_at_call 88; refine (HP.out _ _ _ (fl_new _ [d, u] _ _ _ (by simp) rfl)).mono ?_; rintro e w' ⟨rfl, nq, rfl⟩) | (go_at_call 46; refine (c_checked _ _).mono ?_; rintro e w' ⟨rfl, nq, rfl⟩))
    go_ret2
    first
      | exact ⟨_, rfl, by simp [num], fits_zero, by (show Below _ _ _; (repeat (first | exact Below.refl _ _ | refine ext_below ?_ (by first | omega | (simp only [size_ext, heap_push, Array.size_push, World.heap_drewN]; omega) | (simp; omega)) _ _ | refine below_draws ?_ _ | refine Below.alloc ?_ (by first | omega | (simp; done) | (simp; omega)) _ | refine Below.setCell ?_ (by first | omega | (simp; done) | (simp; omega)) _ | refine below_then (by assumption) (by first | omega | (simp; done) | (simp; omega)) ?_)))⟩
      | exact ⟨chkW z, by rw [HE.out]; simp [*], by rw [HE.out, cl_chkW]; simp [chk, num, *], fits_chkW (by assumption), by (show Below _ _ _; (repeat (first | exact Below.refl _ _ | refine ext_below ?_ (by first | omega | (simp only [size_ext, heap_push, Array.size_push, World.heap_drewN]; omega) | (simp; omega)) _ _ | refine below_draws ?_ _ | refine Below.alloc ?_ (by first | omega | (simp; done) | (simp; omega)) _ | refine Below.setCell ?_ (by first | omega | (simp; done) | (simp; omega)) _ | refine below_then (by assumption) (by first | omega | (simp; done) | (simp; omega)) ?_)))⟩

end Go.Proofs.Ytebhefbpkcpnjaa
