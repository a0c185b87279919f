/-
  LAWS: drives that are made, held, released.
-/
import Derived.Test.YticncnohoddbgaaHold
namespace Go.Proofs.Yticncnohoddbgaa
open Go.RowKit Go.Flt
set_option linter.unusedVariables false
set_option maxRecDepth 100000
set_option linter.unusedSimpArgs false

set_option maxHeartbeats 4000000 in
theorem walk_HoldDrive_yes (p : Pl) (s : Int) (v q u : Nat) (w : World) (hv : vDrive p s v q u = true) : Calls Try.prog 6 #[.agg #[.float .f32 p.i, .float .f32 p.d, .float .f32 p.r, .float .f32 p.l, .float .f32 p.m, .float .f32 p.s, .float .f32 p.c, .float .f32 p.e, .int .i64 s, .float .f32 v, .float .f32 q, .float .f32 u]] w fun e w' => e = .returned (.bool true) ∧ Below w.heap.size w w' := by
  go_enter Try.func6, Try.ntmps6
  go_wp2_with fail
  refine (c_toDrive _ _ _ _ _ _).mono ?_
  rintro e w1 ⟨rfl, h1⟩
  have z1 : w.heap.size < w1.heap.size := by have := Below.size h1; simp at this; omega
  have c1 := (bcell h1).1
  have H1 := Lib.hid h1
  clear h1
  go_wp2_with fail
  refine (c_specHoldDrive p s v q u _).mono ?_
  rintro e w2 ⟨rfl, h2⟩
  simp only [hv, tell, if_true]
  have z2 : w.heap.size < w2.heap.size := by have := Below.size h2; omega
  have c2 := (bcell (grew_trans H1.out h2)).1
  have H2 := Lib.hid (grew_trans H1.out h2)
  clear h2 c1 H1
  go_wp2_with fail
  refine (c_toDrive _ _ _ _ _ _).mono ?_
  rintro e w3 ⟨rfl, h3⟩
  have z3 : w2.heap.size < w3.heap.size := by have := Below.size h3; simp at this; omega
  have c3 := (bcell h3).1
  have H3 := Lib.hid h3
  clear h3
  go_wp2_with fail
  refine (c_implHoldDrive p s v q u _).mono ?_
  rintro e w4 ⟨rfl, h4⟩
  simp only [hv, tell, if_true]
  have z4 : w2.heap.size < w4.heap.size := by have := Below.size h4; omega
  have z5 : w.heap.size < w4.heap.size := by omega
  have c4 := (bcell (grew_trans H3.out h4)).1
  have H4 := Lib.hid (grew_trans H3.out h4)
  clear h4 c3 H3
  go_wp2_with fail
  refine (c_eqDrive p 4 v q u _).mono ?_
  rintro e w5 ⟨rfl, h5⟩
  go_wp2_with fail
  go_ret
  refine ⟨rfl, ?_⟩
  have a1 : Below w.heap.size w w2 := Below.trans (Below.alloc (Below.refl _ _) (Nat.le_refl _) _) (Below.mono H2.out (by simp))
  have a2 : Below w.heap.size w w4 := Below.trans (Below.alloc a1 (by omega) _) (Below.mono H4.out (by simp; omega))
  exact Below.trans (Below.alloc a2 (by omega) _) (Below.mono h5 (by simp; omega))


set_option maxHeartbeats 4000000 in
theorem walk_HoldDrive_no (p : Pl) (s : Int) (v q u : Nat) (w : World) (hv : vDrive p s v q u = false) : Calls Try.prog 6 #[.agg #[.float .f32 p.i, .float .f32 p.d, .float .f32 p.r, .float .f32 p.l, .float .f32 p.m, .float .f32 p.s, .float .f32 p.c, .float .f32 p.e, .int .i64 s, .float .f32 v, .float .f32 q, .float .f32 u]] w fun e w' => e = .returned (.bool true) ∧ Below w.heap.size w w' := by
  go_enter Try.func6, Try.ntmps6
  go_wp2_with fail
  refine (c_toDrive _ _ _ _ _ _).mono ?_
  rintro e w1 ⟨rfl, h1⟩
  have z1 : w.heap.size < w1.heap.size := by have := Below.size h1; simp at this; omega
  have c1 := (bcell h1).1
  have H1 := Lib.hid h1
  clear h1
  go_wp2_with fail
  refine (c_specHoldDrive p s v q u _).mono ?_
  rintro e w2 ⟨rfl, h2⟩
  simp only [hv, tell, if_false, Bool.false_eq_true]
  have z2 : w.heap.size < w2.heap.size := by have := Below.size h2; omega
  have c2 := (bcell (grew_trans H1.out h2)).1
  have H2 := Lib.hid (grew_trans H1.out h2)
  clear h2 c1 H1
  go_wp2_with fail
  refine (c_toDrive _ _ _ _ _ _).mono ?_
  rintro e w3 ⟨rfl, h3⟩
  have z3 : w2.heap.size < w3.heap.size := by have := Below.size h3; simp at this; omega
  have c3 := (bcell h3).1
  have H3 := Lib.hid h3
  clear h3
  go_wp2_with fail
  refine (c_implHoldDrive p s v q u _).mono ?_
  rintro e w4 ⟨rfl, h4⟩
  simp only [hv, tell, if_false, Bool.false_eq_true]
  have z4 : w2.heap.size < w4.heap.size := by have := Below.size h4; omega
  have z5 : w.heap.size < w4.heap.size := by omega
  have c4 := (bcell (grew_trans H3.out h4)).1
  have H4 := Lib.hid (grew_trans H3.out h4)
  clear h4 c3 H3
  go_wp2_with fail
  refine (c_eqDrive ⟨0, 0, 0, 0, 0, 0, 0, 0⟩ 0 0 0 0 _).mono ?_
  rintro e w5 ⟨rfl, h5⟩
  go_wp2_with fail
  go_ret
  refine ⟨rfl, ?_⟩
  have a1 : Below w.heap.size w w2 := Below.trans (Below.alloc (Below.refl _ _) (Nat.le_refl _) _) (Below.mono H2.out (by simp))
  have a2 : Below w.heap.size w w4 := Below.trans (Below.alloc a1 (by omega) _) (Below.mono H4.out (by simp; omega))
  exact Below.trans (Below.alloc a2 (by omega) _) (Below.mono h5 (by simp; omega))


theorem walk_HoldDrive (p : Pl) (s : Int) (v q u : Nat) (w : World) (_ : p.wf) (_ : (Lit.int .i64 s).wf = true) (_ : fits v) (_ : fits q) (_ : fits u) : Calls Try.prog 6 #[.agg #[.float .f32 p.i, .float .f32 p.d, .float .f32 p.r, .float .f32 p.l, .float .f32 p.m, .float .f32 p.s, .float .f32 p.c, .float .f32 p.e, .int .i64 s, .float .f32 v, .float .f32 q, .float .f32 u]] w fun e w' => e = .returned (.bool true) ∧ Below w.heap.size w w' := by
  cases hv : vDrive p s v q u
  · exact walk_HoldDrive_no p s v q u w hv
  · exact walk_HoldDrive_yes p s v q u w hv

set_option maxHeartbeats 4000000 in
theorem walk_ReleaseDrive_yes (p : Pl) (s : Int) (v q u : Nat) (w : World) (hv : vDrive p s v q u = true) : Calls Try.prog 7 #[.agg #[.float .f32 p.i, .float .f32 p.d, .float .f32 p.r, .float .f32 p.l, .float .f32 p.m, .float .f32 p.s, .float .f32 p.c, .float .f32 p.e, .int .i64 s, .float .f32 v, .float .f32 q, .float .f32 u]] w fun e w' => e = .returned (.bool true) ∧ Below w.heap.size w w' := by
  go_enter Try.func7, Try.ntmps7
  go_wp2_with fail
  refine (c_toDrive _ _ _ _ _ _).mono ?_
  rintro e w1 ⟨rfl, h1⟩
  have z1 : w.heap.size < w1.heap.size := by have := Below.size h1; simp at this; omega
  have c1 := (bcell h1).1
  have H1 := Lib.hid h1
  clear h1
  go_wp2_with fail
  refine (c_specReleaseDrive p s v q u _).mono ?_
  rintro e w2 ⟨rfl, h2⟩
  simp only [hv, tell, if_true]
  have z2 : w.heap.size < w2.heap.size := by have := Below.size h2; omega
  have c2 := (bcell (grew_trans H1.out h2)).1
  have H2 := Lib.hid (grew_trans H1.out h2)
  clear h2 c1 H1
  go_wp2_with fail
  refine (c_toDrive _ _ _ _ _ _).mono ?_
  rintro e w3 ⟨rfl, h3⟩
  have z3 : w2.heap.size < w3.heap.size := by have := Below.size h3; simp at this; omega
  have c3 := (bcell h3).1
  have H3 := Lib.hid h3
  clear h3
  go_wp2_with fail
  refine (c_implReleaseDrive p s v q u _).mono ?_
  rintro e w4 ⟨rfl, h4⟩
  simp only [hv, tell, if_true]
  have z4 : w2.heap.size < w4.heap.size := by have := Below.size h4; omega
  have z5 : w.heap.size < w4.heap.size := by omega
  have c4 := (bcell (grew_trans H3.out h4)).1
  have H4 := Lib.hid (grew_trans H3.out h4)
  clear h4 c3 H3
  go_wp2_with fail
  refine (c_eqDrive p (relS s v) v q u _).mono ?_
  rintro e w5 ⟨rfl, h5⟩
  go_wp2_with fail
  go_ret
  refine ⟨rfl, ?_⟩
  have a1 : Below w.heap.size w w2 := Below.trans (Below.alloc (Below.refl _ _) (Nat.le_refl _) _) (Below.mono H2.out (by simp))
  have a2 : Below w.heap.size w w4 := Below.trans (Below.alloc a1 (by omega) _) (Below.mono H4.out (by simp; omega))
  exact Below.trans (Below.alloc a2 (by omega) _) (Below.mono h5 (by simp; omega))


set_option maxHeartbeats 4000000 in
theorem walk_ReleaseDrive_no (p : Pl) (s : Int) (v q u : Nat) (w : World) (hv : vDrive p s v q u = false) : Calls Try.prog 7 #[.agg #[.float .f32 p.i, .float .f32 p.d, .float .f32 p.r, .float .f32 p.l, .float .f32 p.m, .float .f32 p.s, .float .f32 p.c, .float .f32 p.e, .int .i64 s, .float .f32 v, .float .f32 q, .float .f32 u]] w fun e w' => e = .returned (.bool true) ∧ Below w.heap.size w w' := by
  go_enter Try.func7, Try.ntmps7
  go_wp2_with fail
  refine (c_toDrive _ _ _ _ _ _).mono ?_
  rintro e w1 ⟨rfl, h1⟩
  have z1 : w.heap.size < w1.heap.size := by have := Below.size h1; simp at this; omega
  have c1 := (bcell h1).1
  have H1 := Lib.hid h1
  clear h1
  go_wp2_with fail
  refine (c_specReleaseDrive p s v q u _).mono ?_
  rintro e w2 ⟨rfl, h2⟩
  simp only [hv, tell, if_false, Bool.false_eq_true]
  have z2 : w.heap.size < w2.heap.size := by have := Below.size h2; omega
  have c2 := (bcell (grew_trans H1.out h2)).1
  have H2 := Lib.hid (grew_trans H1.out h2)
  clear h2 c1 H1
  go_wp2_with fail
  refine (c_toDrive _ _ _ _ _ _).mono ?_
  rintro e w3 ⟨rfl, h3⟩
  have z3 : w2.heap.size < w3.heap.size := by have := Below.size h3; simp at this; omega
  have c3 := (bcell h3).1
  have H3 := Lib.hid h3
  clear h3
  go_wp2_with fail
  refine (c_implReleaseDrive p s v q u _).mono ?_
  rintro e w4 ⟨rfl, h4⟩
  simp only [hv, tell, if_false, Bool.false_eq_true]
  have z4 : w2.heap.size < w4.heap.size := by have := Below.size h4; omega
  have z5 : w.heap.size < w4.heap.size := by omega
  have c4 := (bcell (grew_trans H3.out h4)).1
  have H4 := Lib.hid (grew_trans H3.out h4)
  clear h4 c3 H3
  go_wp2_with fail
  refine (c_eqDrive ⟨0, 0, 0, 0, 0, 0, 0, 0⟩ 0 0 0 0 _).mono ?_
  rintro e w5 ⟨rfl, h5⟩
  go_wp2_with fail
  go_ret
  refine ⟨rfl, ?_⟩
  have a1 : Below w.heap.size w w2 := Below.trans (Below.alloc (Below.refl _ _) (Nat.le_refl _) _) (Below.mono H2.out (by simp))
  have a2 : Below w.heap.size w w4 := Below.trans (Below.alloc a1 (by omega) _) (Below.mono H4.out (by simp; omega))
  exact Below.trans (Below.alloc a2 (by omega) _) (Below.mono h5 (by simp; omega))


theorem walk_ReleaseDrive (p : Pl) (s : Int) (v q u : Nat) (w : World) (_ : p.wf) (_ : (Lit.int .i64 s).wf = true) (_ : fits v) (_ : fits q) (_ : fits u) : Calls Try.prog 7 #[.agg #[.float .f32 p.i, .float .f32 p.d, .float .f32 p.r, .float .f32 p.l, .float .f32 p.m, .float .f32 p.s, .float .f32 p.c, .float .f32 p.e, .int .i64 s, .float .f32 v, .float .f32 q, .float .f32 u]] w fun e w' => e = .returned (.bool true) ∧ Below w.heap.size w w' := by
  cases hv : vDrive p s v q u
  · exact walk_ReleaseDrive_no p s v q u w hv
  · exact walk_ReleaseDrive_yes p s v q u w hv

set_option maxHeartbeats 4000000 in
theorem walk_NewDrive_yes (p : Pl) (w : World) (hv : vPlant p = true) : Calls Try.prog 3 #[.agg #[.float .f32 p.i, .float .f32 p.d, .float .f32 p.r, .float .f32 p.l, .float .f32 p.m, .float .f32 p.s, .float .f32 p.c, .float .f32 p.e]] w fun e w' => e = .returned (.bool true) ∧ Below w.heap.size w w' := by
  go_enter Try.func3, Try.ntmps3
  go_wp2_with fail
  refine (c_toPlant _ _).mono ?_
  rintro e w1 ⟨rfl, h1⟩
  have z1 : w.heap.size < w1.heap.size := by have := Below.size h1; simp at this; omega
  have c1 := (bcell h1).1
  have H1 := Lib.hid h1
  clear h1
  go_wp2_with fail
  refine (c_specNewDrive p _).mono ?_
  rintro e w2 ⟨rfl, h2⟩
  simp only [hv, tell, if_true]
  have z2 : w.heap.size < w2.heap.size := by have := Below.size h2; omega
  have c2 := (bcell (grew_trans H1.out h2)).1
  have H2 := Lib.hid (grew_trans H1.out h2)
  clear h2 c1 H1
  go_wp2_with fail
  refine (c_toPlant _ _).mono ?_
  rintro e w3 ⟨rfl, h3⟩
  have z3 : w2.heap.size < w3.heap.size := by have := Below.size h3; simp at this; omega
  have c3 := (bcell h3).1
  have H3 := Lib.hid h3
  clear h3
  go_wp2_with fail
  refine (c_implNewDrive p _).mono ?_
  rintro e w4 ⟨rfl, h4⟩
  simp only [hv, tell, if_true]
  have z4 : w2.heap.size < w4.heap.size := by have := Below.size h4; omega
  have z5 : w.heap.size < w4.heap.size := by omega
  have c4 := (bcell (grew_trans H3.out h4)).1
  have H4 := Lib.hid (grew_trans H3.out h4)
  clear h4 c3 H3
  go_wp2_with fail
  refine (c_eqDrive p 0 0 1065353216 0 _).mono ?_
  rintro e w5 ⟨rfl, h5⟩
  go_wp2_with fail
  go_ret
  refine ⟨rfl, ?_⟩
  have a1 : Below w.heap.size w w2 := Below.trans (Below.alloc (Below.refl _ _) (Nat.le_refl _) _) (Below.mono H2.out (by simp))
  have a2 : Below w.heap.size w w4 := Below.trans (Below.alloc a1 (by omega) _) (Below.mono H4.out (by simp; omega))
  exact Below.trans (Below.alloc a2 (by omega) _) (Below.mono h5 (by simp; omega))


set_option maxHeartbeats 4000000 in
theorem walk_NewDrive_no (p : Pl) (w : World) (hv : vPlant p = false) : Calls Try.prog 3 #[.agg #[.float .f32 p.i, .float .f32 p.d, .float .f32 p.r, .float .f32 p.l, .float .f32 p.m, .float .f32 p.s, .float .f32 p.c, .float .f32 p.e]] w fun e w' => e = .returned (.bool true) ∧ Below w.heap.size w w' := by
  go_enter Try.func3, Try.ntmps3
  go_wp2_with fail
  refine (c_toPlant _ _).mono ?_
  rintro e w1 ⟨rfl, h1⟩
  have z1 : w.heap.size < w1.heap.size := by have := Below.size h1; simp at this; omega
  have c1 := (bcell h1).1
  have H1 := Lib.hid h1
  clear h1
  go_wp2_with fail
  refine (c_specNewDrive p _).mono ?_
  rintro e w2 ⟨rfl, h2⟩
  simp only [hv, tell, if_false, Bool.false_eq_true]
  have z2 : w.heap.size < w2.heap.size := by have := Below.size h2; omega
  have c2 := (bcell (grew_trans H1.out h2)).1
  have H2 := Lib.hid (grew_trans H1.out h2)
  clear h2 c1 H1
  go_wp2_with fail
  refine (c_toPlant _ _).mono ?_
  rintro e w3 ⟨rfl, h3⟩
  have z3 : w2.heap.size < w3.heap.size := by have := Below.size h3; simp at this; omega
  have c3 := (bcell h3).1
  have H3 := Lib.hid h3
  clear h3
  go_wp2_with fail
  refine (c_implNewDrive p _).mono ?_
  rintro e w4 ⟨rfl, h4⟩
  simp only [hv, tell, if_false, Bool.false_eq_true]
  have z4 : w2.heap.size < w4.heap.size := by have := Below.size h4; omega
  have z5 : w.heap.size < w4.heap.size := by omega
  have c4 := (bcell (grew_trans H3.out h4)).1
  have H4 := Lib.hid (grew_trans H3.out h4)
  clear h4 c3 H3
  go_wp2_with fail
  refine (c_eqDrive ⟨0, 0, 0, 0, 0, 0, 0, 0⟩ 0 0 0 0 _).mono ?_
  rintro e w5 ⟨rfl, h5⟩
  go_wp2_with fail
  go_ret
  refine ⟨rfl, ?_⟩
  have a1 : Below w.heap.size w w2 := Below.trans (Below.alloc (Below.refl _ _) (Nat.le_refl _) _) (Below.mono H2.out (by simp))
  have a2 : Below w.heap.size w w4 := Below.trans (Below.alloc a1 (by omega) _) (Below.mono H4.out (by simp; omega))
  exact Below.trans (Below.alloc a2 (by omega) _) (Below.mono h5 (by simp; omega))


theorem walk_NewDrive (p : Pl) (w : World) (_ : p.wf) : Calls Try.prog 3 #[.agg #[.float .f32 p.i, .float .f32 p.d, .float .f32 p.r, .float .f32 p.l, .float .f32 p.m, .float .f32 p.s, .float .f32 p.c, .float .f32 p.e]] w fun e w' => e = .returned (.bool true) ∧ Below w.heap.size w w' := by
  cases hv : vPlant p
  · exact walk_NewDrive_no p w hv
  · exact walk_NewDrive_yes p w hv

end Go.Proofs.Yticncnohoddbgaa
