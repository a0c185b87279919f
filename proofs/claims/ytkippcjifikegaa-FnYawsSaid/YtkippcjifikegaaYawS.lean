/-
  CONTRACTS: one step of a yaw.
-/
import Derived.Test.YtkippcjifikegaaYaw
namespace Go.Proofs.Ytkippcjifikegaa
open Go.RowKit Go.Flt
set_option linter.unusedVariables false
set_option maxRecDepth 100000
set_option linter.unusedSimpArgs false

theorem c_WrapT (x : Nat) (w : World) (h : fin (cl .f32 x) = true) : Calls Try.prog 34 #[.float .f32 x] w (RetFB (wrp (cl .f32 x)) true (Drawn w)) := by
  have := c_WrapAngle x w
  simpa [h] using this

theorem c_WrapN (x : Nat) (w : World) (h : fin (cl .f32 x) = false) : Calls Try.prog 34 #[.float .f32 x] w (RetFB (cl .f32 0) false (Drawn w)) := by
  have := c_WrapAngle x w
  simpa [h] using this

theorem c_WrapR (x : Nat) (w : World) : Calls Try.prog 34 #[.float .f32 x] w (RetFB (yawR (cl .f32 x)) (fin (cl .f32 x)) (Drawn w)) := c_WrapAngle x w

def yawOK (y x q m : Nat) : Bool := fin (cl .f32 y) && fin (cl .f32 x) && least (cl .f32 q) && least (cl .f32 m) && fin (fop .sub .f32 (cl .f32 x) (cl .f32 y))

theorem least_fin {d : Ieee.Datum} (h : least d = true) : fin d = true := by
  unfold least at h
  simp only [Bool.and_eq_true] at h
  exact h.1

set_option maxHeartbeats 4000000 in
theorem c_implYawStep (y x q m : Nat) (w : World) (fy : fits y) : Calls Try.prog 8 #[.float .f32 y, .float .f32 x, .float .f32 q, .float .f32 m] w
    (RetFB (if yawOK y x q m then yawR (yawTo (cl .f32 y) (wrp (fop .sub .f32 (cl .f32 x) (cl .f32 y))) (cl .f32 q) (cl .f32 m)) else cl .f32 0) (yawOK y x q m && fin (yawTo (cl .f32 y) (wrp (fop .sub .f32 (cl .f32 x) (cl .f32 y))) (cl .f32 q) (cl .f32 m))) (Grew w)) := by
  have HA : ∀ w cap b, Fl w (b + 1) (some ⟨b, 0, none⟩) 2 [y, x] → Calls Try.prog 32 #[.slice (some ⟨b, 0, none⟩) 2 cap] w fun e w' => e = .returned (.bool (fin (cl .f32 y) && fin (cl .f32 x))) ∧ ∃ n, w' = w.drewN n := by
    intro w cap b h
    have := c_impl.areFinite _ 2 cap _ _ w h (by simp [maxLen])
    simpa only [List.all_cons, List.all_nil, Bool.and_true] using this
  have HB : ∀ w cap b, Fl w (b + 1) (some ⟨b, 0, none⟩) 2 [q, m] → Calls Try.prog 33 #[.slice (some ⟨b, 0, none⟩) 2 cap] w fun e w' => e = .returned (.bool (least (cl .f32 q) && least (cl .f32 m))) ∧ ∃ n, w' = w.drewN n := by
    intro w cap b h
    have := c_impl.areLeast _ 2 cap _ _ w h (by simp [maxLen])
    simpa only [List.all_cons, List.all_nil, Bool.and_true] using this
  have HA := Lib.hid HA
  have HB := Lib.hid HB
  cases g1 : fin (cl .f32 y)
  · rw [show yawOK y x q m = false by simp [yawOK, g1]]
    go_enter Try.func8, Try.ntmps8
    go_wp2_with (first | (refine upon_fbin rfl _ _ _ _ ?_; intro z n hz hzw) | (go_at_call 32; refine (HA.out _ _ _ (fl_new _ [y, x] _ _ _ (by simp) rfl)).mono ?_; rintro e w' ⟨rfl, nq, rfl⟩) | (go_at_call 33; refine (HB.out _ _ _ (fl_new _ [q, m] _ _ _ (by simp) rfl)).mono ?_; rintro e w' ⟨rfl, nq, rfl⟩))
    go_ret2
    exact ⟨_, rfl, rfl, fits_zero, by (show Below _ _ _; (repeat (first | exact Below.refl _ _ | refine ext_below ?_ (by first | omega | (simp only [size_ext, heap_push, Array.size_push, World.heap_drewN]; omega) | (simp; omega)) _ _ | refine below_draws ?_ _ | refine Below.alloc ?_ (by first | omega | (simp; done) | (simp; omega)) _ | refine Below.setCell ?_ (by first | omega | (simp; done) | (simp; omega)) _ | refine below_then (by assumption) (by first | omega | (simp; done) | (simp; omega)) ?_)))⟩
  · skip
    cases g2 : fin (cl .f32 x)
    · rw [show yawOK y x q m = false by simp [yawOK, g2]]
      go_enter Try.func8, Try.ntmps8
      go_wp2_with (first | (refine upon_fbin rfl _ _ _ _ ?_; intro z n hz hzw) | (go_at_call 32; refine (HA.out _ _ _ (fl_new _ [y, x] _ _ _ (by simp) rfl)).mono ?_; rintro e w' ⟨rfl, nq, rfl⟩) | (go_at_call 33; refine (HB.out _ _ _ (fl_new _ [q, m] _ _ _ (by simp) rfl)).mono ?_; rintro e w' ⟨rfl, nq, rfl⟩))
      go_ret2
      exact ⟨_, rfl, rfl, fits_zero, by (show Below _ _ _; (repeat (first | exact Below.refl _ _ | refine ext_below ?_ (by first | omega | (simp only [size_ext, heap_push, Array.size_push, World.heap_drewN]; omega) | (simp; omega)) _ _ | refine below_draws ?_ _ | refine Below.alloc ?_ (by first | omega | (simp; done) | (simp; omega)) _ | refine Below.setCell ?_ (by first | omega | (simp; done) | (simp; omega)) _ | refine below_then (by assumption) (by first | omega | (simp; done) | (simp; omega)) ?_)))⟩
    · skip
      cases g3 : least (cl .f32 q)
      · rw [show yawOK y x q m = false by simp [yawOK, g3]]
        go_enter Try.func8, Try.ntmps8
        go_wp2_with (first | (refine upon_fbin rfl _ _ _ _ ?_; intro z n hz hzw) | (go_at_call 32; refine (HA.out _ _ _ (fl_new _ [y, x] _ _ _ (by simp) rfl)).mono ?_; rintro e w' ⟨rfl, nq, rfl⟩) | (go_at_call 33; refine (HB.out _ _ _ (fl_new _ [q, m] _ _ _ (by simp) rfl)).mono ?_; rintro e w' ⟨rfl, nq, rfl⟩))
        go_ret2
        exact ⟨_, rfl, rfl, fits_zero, by (show Below _ _ _; (repeat (first | exact Below.refl _ _ | refine ext_below ?_ (by first | omega | (simp only [size_ext, heap_push, Array.size_push, World.heap_drewN]; omega) | (simp; omega)) _ _ | refine below_draws ?_ _ | refine Below.alloc ?_ (by first | omega | (simp; done) | (simp; omega)) _ | refine Below.setCell ?_ (by first | omega | (simp; done) | (simp; omega)) _ | refine below_then (by assumption) (by first | omega | (simp; done) | (simp; omega)) ?_)))⟩
      · skip
        cases g4 : least (cl .f32 m)
        · rw [show yawOK y x q m = false by simp [yawOK, g4]]
          go_enter Try.func8, Try.ntmps8
          go_wp2_with (first | (refine upon_fbin rfl _ _ _ _ ?_; intro z n hz hzw) | (go_at_call 32; refine (HA.out _ _ _ (fl_new _ [y, x] _ _ _ (by simp) rfl)).mono ?_; rintro e w' ⟨rfl, nq, rfl⟩) | (go_at_call 33; refine (HB.out _ _ _ (fl_new _ [q, m] _ _ _ (by simp) rfl)).mono ?_; rintro e w' ⟨rfl, nq, rfl⟩))
          go_ret2
          exact ⟨_, rfl, rfl, fits_zero, by (show Below _ _ _; (repeat (first | exact Below.refl _ _ | refine ext_below ?_ (by first | omega | (simp only [size_ext, heap_push, Array.size_push, World.heap_drewN]; omega) | (simp; omega)) _ _ | refine below_draws ?_ _ | refine Below.alloc ?_ (by first | omega | (simp; done) | (simp; omega)) _ | refine Below.setCell ?_ (by first | omega | (simp; done) | (simp; omega)) _ | refine below_then (by assumption) (by first | omega | (simp; done) | (simp; omega)) ?_)))⟩
        · skip
          cases g5 : fin (fop .sub .f32 (cl .f32 x) (cl .f32 y))
          · rw [show yawOK y x q m = false by simp [yawOK, g5]]
            go_enter Try.func8, Try.ntmps8
            go_wp2_with (first | (refine upon_fbin rfl _ _ _ _ ?_; intro z n hz hzw) | (go_at_call 32; refine (HA.out _ _ _ (fl_new _ [y, x] _ _ _ (by simp) rfl)).mono ?_; rintro e w' ⟨rfl, nq, rfl⟩) | (go_at_call 33; refine (HB.out _ _ _ (fl_new _ [q, m] _ _ _ (by simp) rfl)).mono ?_; rintro e w' ⟨rfl, nq, rfl⟩) | (go_at_call 34; refine (c_WrapN _ _ (by simp only [*])).mono ?_; rintro e w' ⟨r, rfl, hr, hrf, nq, rfl⟩))
            go_ret2
            exact ⟨_, rfl, rfl, fits_zero, by (show Below _ _ _; (repeat (first | exact Below.refl _ _ | refine ext_below ?_ (by first | omega | (simp only [size_ext, heap_push, Array.size_push, World.heap_drewN]; omega) | (simp; omega)) _ _ | refine below_draws ?_ _ | refine Below.alloc ?_ (by first | omega | (simp; done) | (simp; omega)) _ | refine Below.setCell ?_ (by first | omega | (simp; done) | (simp; omega)) _ | refine below_then (by assumption) (by first | omega | (simp; done) | (simp; omega)) ?_)))⟩
          · skip
            rw [show yawOK y x q m = true by simp [yawOK, g1, g2, g3, g4, g5]]
            cases c1 : leF (absD (wrp (fop .sub .f32 (cl .f32 x) (cl .f32 y)))) (cl .f32 m)
            · cases c2 : leF (absD (wrp (fop .sub .f32 (cl .f32 x) (cl .f32 y)))) (cl .f32 q)
              · cases c3 : flt (cl .f32 0) (wrp (fop .sub .f32 (cl .f32 x) (cl .f32 y)))
                · have hyw : yawR (fop .sub .f32 (cl .f32 x) (cl .f32 y)) = wrp (fop .sub .f32 (cl .f32 x) (cl .f32 y)) := by simp [yawR, g5]
                  have HR := Lib.hid (show yawTo (cl .f32 y) (wrp (fop .sub .f32 (cl .f32 x) (cl .f32 y))) (cl .f32 q) (cl .f32 m) = (fop .sub .f32 (cl .f32 y) (cl .f32 q)) by simp [yawTo, c1, c2, c3])
                  go_enter Try.func8, Try.ntmps8
                  go_wp2_with (first | (refine upon_fbin rfl _ _ _ _ ?_; intro z n hz hzw) | (go_at_call 32; refine (HA.out _ _ _ (fl_new _ [y, x] _ _ _ (by simp) rfl)).mono ?_; rintro e w' ⟨rfl, nq, rfl⟩) | (go_at_call 33; refine (HB.out _ _ _ (fl_new _ [q, m] _ _ _ (by simp) rfl)).mono ?_; rintro e w' ⟨rfl, nq, rfl⟩) | (go_at_call 35; refine (c_absolute _ _ (by assumption)).mono ?_; rintro e w' ⟨r, rfl, hr, hrf, nq, rfl⟩) | (go_at_call 34; refine (c_WrapR _ _).mono ?_; rintro e w' ⟨r, rfl, hr, hrf, nq, rfl⟩))
                  go_ret2
                  exact ⟨r, by rw [HR.out]; rfl, by rw [HR.out]; simp only [if_true, *], hrf, by (show Below _ _ _; (repeat (first | exact Below.refl _ _ | refine ext_below ?_ (by first | omega | (simp only [size_ext, heap_push, Array.size_push, World.heap_drewN]; omega) | (simp; omega)) _ _ | refine below_draws ?_ _ | refine Below.alloc ?_ (by first | omega | (simp; done) | (simp; omega)) _ | refine Below.setCell ?_ (by first | omega | (simp; done) | (simp; omega)) _ | refine below_then (by assumption) (by first | omega | (simp; done) | (simp; omega)) ?_)))⟩
                · have hyw : yawR (fop .sub .f32 (cl .f32 x) (cl .f32 y)) = wrp (fop .sub .f32 (cl .f32 x) (cl .f32 y)) := by simp [yawR, g5]
                  have HR := Lib.hid (show yawTo (cl .f32 y) (wrp (fop .sub .f32 (cl .f32 x) (cl .f32 y))) (cl .f32 q) (cl .f32 m) = (fop .add .f32 (cl .f32 y) (cl .f32 q)) by simp [yawTo, c1, c2, c3])
                  go_enter Try.func8, Try.ntmps8
                  go_wp2_with (first | (refine upon_fbin rfl _ _ _ _ ?_; intro z n hz hzw) | (go_at_call 32; refine (HA.out _ _ _ (fl_new _ [y, x] _ _ _ (by simp) rfl)).mono ?_; rintro e w' ⟨rfl, nq, rfl⟩) | (go_at_call 33; refine (HB.out _ _ _ (fl_new _ [q, m] _ _ _ (by simp) rfl)).mono ?_; rintro e w' ⟨rfl, nq, rfl⟩) | (go_at_call 35; refine (c_absolute _ _ (by assumption)).mono ?_; rintro e w' ⟨r, rfl, hr, hrf, nq, rfl⟩) | (go_at_call 34; refine (c_WrapR _ _).mono ?_; rintro e w' ⟨r, rfl, hr, hrf, nq, rfl⟩))
                  go_ret2
                  exact ⟨r, by rw [HR.out]; rfl, by rw [HR.out]; simp only [if_true, *], hrf, by (show Below _ _ _; (repeat (first | exact Below.refl _ _ | refine ext_below ?_ (by first | omega | (simp only [size_ext, heap_push, Array.size_push, World.heap_drewN]; omega) | (simp; omega)) _ _ | refine below_draws ?_ _ | refine Below.alloc ?_ (by first | omega | (simp; done) | (simp; omega)) _ | refine Below.setCell ?_ (by first | omega | (simp; done) | (simp; omega)) _ | refine below_then (by assumption) (by first | omega | (simp; done) | (simp; omega)) ?_)))⟩
              · have hyw : yawR (fop .sub .f32 (cl .f32 x) (cl .f32 y)) = wrp (fop .sub .f32 (cl .f32 x) (cl .f32 y)) := by simp [yawR, g5]
                have HR := Lib.hid (show yawTo (cl .f32 y) (wrp (fop .sub .f32 (cl .f32 x) (cl .f32 y))) (cl .f32 q) (cl .f32 m) = (fop .add .f32 (cl .f32 y) (wrp (fop .sub .f32 (cl .f32 x) (cl .f32 y)))) by simp [yawTo, c1, c2])
                go_enter Try.func8, Try.ntmps8
                go_wp2_with (first | (refine upon_fbin rfl _ _ _ _ ?_; intro z n hz hzw) | (go_at_call 32; refine (HA.out _ _ _ (fl_new _ [y, x] _ _ _ (by simp) rfl)).mono ?_; rintro e w' ⟨rfl, nq, rfl⟩) | (go_at_call 33; refine (HB.out _ _ _ (fl_new _ [q, m] _ _ _ (by simp) rfl)).mono ?_; rintro e w' ⟨rfl, nq, rfl⟩) | (go_at_call 35; refine (c_absolute _ _ (by assumption)).mono ?_; rintro e w' ⟨r, rfl, hr, hrf, nq, rfl⟩) | (go_at_call 34; refine (c_WrapR _ _).mono ?_; rintro e w' ⟨r, rfl, hr, hrf, nq, rfl⟩))
                go_ret2
                exact ⟨r, by rw [HR.out]; rfl, by rw [HR.out]; simp only [if_true, *], hrf, by (show Below _ _ _; (repeat (first | exact Below.refl _ _ | refine ext_below ?_ (by first | omega | (simp only [size_ext, heap_push, Array.size_push, World.heap_drewN]; omega) | (simp; omega)) _ _ | refine below_draws ?_ _ | refine Below.alloc ?_ (by first | omega | (simp; done) | (simp; omega)) _ | refine Below.setCell ?_ (by first | omega | (simp; done) | (simp; omega)) _ | refine below_then (by assumption) (by first | omega | (simp; done) | (simp; omega)) ?_)))⟩
            · have hyw : yawR (fop .sub .f32 (cl .f32 x) (cl .f32 y)) = wrp (fop .sub .f32 (cl .f32 x) (cl .f32 y)) := by simp [yawR, g5]
              have HR := Lib.hid (show yawTo (cl .f32 y) (wrp (fop .sub .f32 (cl .f32 x) (cl .f32 y))) (cl .f32 q) (cl .f32 m) = (cl .f32 y) by simp [yawTo, c1])
              go_enter Try.func8, Try.ntmps8
              go_wp2_with (first | (refine upon_fbin rfl _ _ _ _ ?_; intro z n hz hzw) | (go_at_call 32; refine (HA.out _ _ _ (fl_new _ [y, x] _ _ _ (by simp) rfl)).mono ?_; rintro e w' ⟨rfl, nq, rfl⟩) | (go_at_call 33; refine (HB.out _ _ _ (fl_new _ [q, m] _ _ _ (by simp) rfl)).mono ?_; rintro e w' ⟨rfl, nq, rfl⟩) | (go_at_call 35; refine (c_absolute _ _ (by assumption)).mono ?_; rintro e w' ⟨r, rfl, hr, hrf, nq, rfl⟩) | (go_at_call 34; refine (c_WrapR _ _).mono ?_; rintro e w' ⟨r, rfl, hr, hrf, nq, rfl⟩))
              go_ret2
              exact ⟨r, by rw [HR.out, g1]; rfl, by rw [HR.out]; exact hr, hrf, by (show Below _ _ _; (repeat (first | exact Below.refl _ _ | refine ext_below ?_ (by first | omega | (simp only [size_ext, heap_push, Array.size_push, World.heap_drewN]; omega) | (simp; omega)) _ _ | refine below_draws ?_ _ | refine Below.alloc ?_ (by first | omega | (simp; done) | (simp; omega)) _ | refine Below.setCell ?_ (by first | omega | (simp; done) | (simp; omega)) _ | refine below_then (by assumption) (by first | omega | (simp; done) | (simp; omega)) ?_)))⟩

end Go.Proofs.Ytkippcjifikegaa
