/-
  CONTRACTS: mixes of roses in the reference, where the roses do not fit.
-/
import Derived.Test.YtebhefbpkcpnjaaMixB
namespace Go.Proofs.Ytebhefbpkcpnjaa
open Go.RowKit Go.Flt
set_option linter.unusedVariables false
set_option maxRecDepth 100000
set_option linter.unusedSimpArgs false

theorem c_l04Share (x : Nat) (w : World) : Calls Try.prog 50 #[.float .f32 x] w fun e w' => e = .returned (.bool (fromTo (cl .f32 x) (cl .f32 0) (cl .f32 1065353216))) ∧ ∃ n, w' = w.drewN n := by
  go_enter Try.func50, Try.ntmps50
  go_wp2_with fail
  all_goals
    go_ret
    exact ⟨by simp [fromTo, fge, fle, *], 0, rfl⟩

set_option maxHeartbeats 2000000 in
theorem c_smixBad1 (A C A' C' : Option Addr) (n cA m cC n' cA' m' cC' K : Nat) (xs ys xs' ys' : List Nat) (s : Nat) (w : World) (hx : Fl w K A n xs) (hy : Fl w K C m ys) (hx' : Fl w K A' n' xs') (hy' : Fl w K C' m' ys') (hK : K ≤ w.heap.size) (k1 : vRose xs ys = false) :
    Calls Try.prog 17 #[.agg #[.slice A n cA, .slice C m cC], .agg #[.slice A' n' cA', .slice C' m' cC'], .float .f32 s] w (RetR (if isMix xs ys xs' ys' s then mixL xs xs' s xs.length else []) (if isMix xs ys xs' ys' s then mixL ys ys' s xs.length else []) (isMix xs ys xs' ys' s) w) := by
  obtain rfl := hx.1
  obtain rfl := hy.1
  obtain rfl := hx'.1
  obtain rfl := hy'.1
  have HX := Lib.hid (fun w' h => Slc.grew (g := Value.float .f32) (w' := w') hx hK h)
  have HY := Lib.hid (fun w' h => Slc.grew (g := Value.float .f32) (w' := w') hy hK h)
  have HX' := Lib.hid (fun w' h => Slc.grew (g := Value.float .f32) (w' := w') hx' hK h)
  have HY' := Lib.hid (fun w' h => Slc.grew (g := Value.float .f32) (w' := w') hy' hK h)
  have V1 := Lib.hid (fun w' b hf (h : Grew w w') => c_l04Rose b A C _ cA _ cC K xs ys w' hf (HX.out w' h) (HY.out w' h))
  have V2 := Lib.hid (fun w' b hf (h : Grew w w') => c_l04Rose b A' C' _ cA' _ cC' K xs' ys' w' hf (HX'.out w' h) (HY'.out w' h))
  clear hx hy hx' hy'
  have hk : isMix xs ys xs' ys' s = false := by simp [isMix, okMix, k1]
  rw [hk]
  rw [k1] at V1
  go_enter Try.func17, Try.ntmps17
  go_wp2_with fail
  refine (V1.out _ _ (by refine ⟨?_, ?_⟩ <;> simp [go_sem]) (by (show Below _ _ _; (repeat (first | exact Below.refl _ _ | refine ext_below ?_ (by first | omega | (simp only [size_ext, heap_push, Array.size_push, World.heap_drewN]; omega) | (simp; omega)) _ _ | refine below_draws ?_ _ | refine Below.alloc ?_ (by first | omega | (simp; done) | (simp; omega)) _ | refine Below.setCell ?_ (by first | omega | (simp; done) | (simp; omega)) _ | refine below_then (by assumption) (by first | omega | (simp; done) | (simp; omega)) ?_))))).mono ?_
  rintro e w1 ⟨rfl, nq, rfl⟩
  go_wp2_with fail
  refine bodyPost_ret (v := .tuple #[ZRO, .bool false]) (by simp [results, Try.results17, go_sem, ZRO]) rfl ?_
  exact ⟨_, [], [], rfl, rose_nil _ _ _, rfl, rfl, by (show Below _ _ _; (repeat (first | exact Below.refl _ _ | refine ext_below ?_ (by first | omega | (simp only [size_ext, heap_push, Array.size_push, World.heap_drewN]; omega) | (simp; omega)) _ _ | refine below_draws ?_ _ | refine Below.alloc ?_ (by first | omega | (simp; done) | (simp; omega)) _ | refine Below.setCell ?_ (by first | omega | (simp; done) | (simp; omega)) _ | refine below_then (by assumption) (by first | omega | (simp; done) | (simp; omega)) ?_)))⟩

set_option maxHeartbeats 2000000 in
theorem c_smixBad2 (A C A' C' : Option Addr) (n cA m cC n' cA' m' cC' K : Nat) (xs ys xs' ys' : List Nat) (s : Nat) (w : World) (hx : Fl w K A n xs) (hy : Fl w K C m ys) (hx' : Fl w K A' n' xs') (hy' : Fl w K C' m' ys') (hK : K ≤ w.heap.size) (k1 : vRose xs ys = true) (k2 : vRose xs' ys' = false) :
    Calls Try.prog 17 #[.agg #[.slice A n cA, .slice C m cC], .agg #[.slice A' n' cA', .slice C' m' cC'], .float .f32 s] w (RetR (if isMix xs ys xs' ys' s then mixL xs xs' s xs.length else []) (if isMix xs ys xs' ys' s then mixL ys ys' s xs.length else []) (isMix xs ys xs' ys' s) w) := by
  obtain rfl := hx.1
  obtain rfl := hy.1
  obtain rfl := hx'.1
  obtain rfl := hy'.1
  have HX := Lib.hid (fun w' h => Slc.grew (g := Value.float .f32) (w' := w') hx hK h)
  have HY := Lib.hid (fun w' h => Slc.grew (g := Value.float .f32) (w' := w') hy hK h)
  have HX' := Lib.hid (fun w' h => Slc.grew (g := Value.float .f32) (w' := w') hx' hK h)
  have HY' := Lib.hid (fun w' h => Slc.grew (g := Value.float .f32) (w' := w') hy' hK h)
  have V1 := Lib.hid (fun w' b hf (h : Grew w w') => c_l04Rose b A C _ cA _ cC K xs ys w' hf (HX.out w' h) (HY.out w' h))
  have V2 := Lib.hid (fun w' b hf (h : Grew w w') => c_l04Rose b A' C' _ cA' _ cC' K xs' ys' w' hf (HX'.out w' h) (HY'.out w' h))
  clear hx hy hx' hy'
  have hk : isMix xs ys xs' ys' s = false := by simp [isMix, okMix, k2]
  rw [hk]
  rw [k1] at V1
  rw [k2] at V2
  go_enter Try.func17, Try.ntmps17
  go_wp2_with fail
  refine (V1.out _ _ (by refine ⟨?_, ?_⟩ <;> simp [go_sem]) (by (show Below _ _ _; (repeat (first | exact Below.refl _ _ | refine ext_below ?_ (by first | omega | (simp only [size_ext, heap_push, Array.size_push, World.heap_drewN]; omega) | (simp; omega)) _ _ | refine below_draws ?_ _ | refine Below.alloc ?_ (by first | omega | (simp; done) | (simp; omega)) _ | refine Below.setCell ?_ (by first | omega | (simp; done) | (simp; omega)) _ | refine below_then (by assumption) (by first | omega | (simp; done) | (simp; omega)) ?_))))).mono ?_
  rintro e w1 ⟨rfl, nq, rfl⟩
  go_wp2_with fail
  refine (V2.out _ _ (by refine ⟨?_, ?_⟩ <;> simp [go_sem]) (by (show Below _ _ _; (repeat (first | exact Below.refl _ _ | refine ext_below ?_ (by first | omega | (simp only [size_ext, heap_push, Array.size_push, World.heap_drewN]; omega) | (simp; omega)) _ _ | refine below_draws ?_ _ | refine Below.alloc ?_ (by first | omega | (simp; done) | (simp; omega)) _ | refine Below.setCell ?_ (by first | omega | (simp; done) | (simp; omega)) _ | refine below_then (by assumption) (by first | omega | (simp; done) | (simp; omega)) ?_))))).mono ?_
  rintro e w1 ⟨rfl, nq2, rfl⟩
  go_wp2_with fail
  refine bodyPost_ret (v := .tuple #[ZRO, .bool false]) (by simp [results, Try.results17, go_sem, ZRO]) rfl ?_
  exact ⟨_, [], [], rfl, rose_nil _ _ _, rfl, rfl, by (show Below _ _ _; (repeat (first | exact Below.refl _ _ | refine ext_below ?_ (by first | omega | (simp only [size_ext, heap_push, Array.size_push, World.heap_drewN]; omega) | (simp; omega)) _ _ | refine below_draws ?_ _ | refine Below.alloc ?_ (by first | omega | (simp; done) | (simp; omega)) _ | refine Below.setCell ?_ (by first | omega | (simp; done) | (simp; omega)) _ | refine below_then (by assumption) (by first | omega | (simp; done) | (simp; omega)) ?_)))⟩

set_option maxHeartbeats 2000000 in
theorem c_smixBad3 (A C A' C' : Option Addr) (n cA m cC n' cA' m' cC' K : Nat) (xs ys xs' ys' : List Nat) (s : Nat) (w : World) (hx : Fl w K A n xs) (hy : Fl w K C m ys) (hx' : Fl w K A' n' xs') (hy' : Fl w K C' m' ys') (hK : K ≤ w.heap.size) (k1 : vRose xs ys = true) (k2 : vRose xs' ys' = true) (k3 : ((xs.length : Int) != (xs'.length : Int)) = true) :
    Calls Try.prog 17 #[.agg #[.slice A n cA, .slice C m cC], .agg #[.slice A' n' cA', .slice C' m' cC'], .float .f32 s] w (RetR (if isMix xs ys xs' ys' s then mixL xs xs' s xs.length else []) (if isMix xs ys xs' ys' s then mixL ys ys' s xs.length else []) (isMix xs ys xs' ys' s) w) := by
  obtain rfl := hx.1
  obtain rfl := hy.1
  obtain rfl := hx'.1
  obtain rfl := hy'.1
  have HX := Lib.hid (fun w' h => Slc.grew (g := Value.float .f32) (w' := w') hx hK h)
  have HY := Lib.hid (fun w' h => Slc.grew (g := Value.float .f32) (w' := w') hy hK h)
  have HX' := Lib.hid (fun w' h => Slc.grew (g := Value.float .f32) (w' := w') hx' hK h)
  have HY' := Lib.hid (fun w' h => Slc.grew (g := Value.float .f32) (w' := w') hy' hK h)
  have V1 := Lib.hid (fun w' b hf (h : Grew w w') => c_l04Rose b A C _ cA _ cC K xs ys w' hf (HX.out w' h) (HY.out w' h))
  have V2 := Lib.hid (fun w' b hf (h : Grew w w') => c_l04Rose b A' C' _ cA' _ cC' K xs' ys' w' hf (HX'.out w' h) (HY'.out w' h))
  clear hx hy hx' hy'
  have hk : isMix xs ys xs' ys' s = false := by
    have : decide (xs.length = xs'.length) = false := decide_eq_false (by simp at k3; omega)
    simp [isMix, okMix, this]
  rw [hk]
  rw [k1] at V1
  rw [k2] at V2
  go_enter Try.func17, Try.ntmps17
  go_wp2_with fail
  refine (V1.out _ _ (by refine ⟨?_, ?_⟩ <;> simp [go_sem]) (by (show Below _ _ _; (repeat (first | exact Below.refl _ _ | refine ext_below ?_ (by first | omega | (simp only [size_ext, heap_push, Array.size_push, World.heap_drewN]; omega) | (simp; omega)) _ _ | refine below_draws ?_ _ | refine Below.alloc ?_ (by first | omega | (simp; done) | (simp; omega)) _ | refine Below.setCell ?_ (by first | omega | (simp; done) | (simp; omega)) _ | refine below_then (by assumption) (by first | omega | (simp; done) | (simp; omega)) ?_))))).mono ?_
  rintro e w1 ⟨rfl, nq, rfl⟩
  go_wp2_with fail
  refine (V2.out _ _ (by refine ⟨?_, ?_⟩ <;> simp [go_sem]) (by (show Below _ _ _; (repeat (first | exact Below.refl _ _ | refine ext_below ?_ (by first | omega | (simp only [size_ext, heap_push, Array.size_push, World.heap_drewN]; omega) | (simp; omega)) _ _ | refine below_draws ?_ _ | refine Below.alloc ?_ (by first | omega | (simp; done) | (simp; omega)) _ | refine Below.setCell ?_ (by first | omega | (simp; done) | (simp; omega)) _ | refine below_then (by assumption) (by first | omega | (simp; done) | (simp; omega)) ?_))))).mono ?_
  rintro e w1 ⟨rfl, nq2, rfl⟩
  go_wp2_with fail
  refine bodyPost_ret (v := .tuple #[ZRO, .bool false]) (by simp [results, Try.results17, go_sem, ZRO]) rfl ?_
  exact ⟨_, [], [], rfl, rose_nil _ _ _, rfl, rfl, by (show Below _ _ _; (repeat (first | exact Below.refl _ _ | refine ext_below ?_ (by first | omega | (simp only [size_ext, heap_push, Array.size_push, World.heap_drewN]; omega) | (simp; omega)) _ _ | refine below_draws ?_ _ | refine Below.alloc ?_ (by first | omega | (simp; done) | (simp; omega)) _ | refine Below.setCell ?_ (by first | omega | (simp; done) | (simp; omega)) _ | refine below_then (by assumption) (by first | omega | (simp; done) | (simp; omega)) ?_)))⟩

set_option maxHeartbeats 2000000 in
theorem c_smixBad4 (A C A' C' : Option Addr) (n cA m cC n' cA' m' cC' K : Nat) (xs ys xs' ys' : List Nat) (s : Nat) (w : World) (hx : Fl w K A n xs) (hy : Fl w K C m ys) (hx' : Fl w K A' n' xs') (hy' : Fl w K C' m' ys') (hK : K ≤ w.heap.size) (k1 : vRose xs ys = true) (k2 : vRose xs' ys' = true) (k3 : ((xs.length : Int) != (xs'.length : Int)) = false) (k4 : fromTo (cl .f32 s) (cl .f32 0) (cl .f32 1065353216) = false) :
    Calls Try.prog 17 #[.agg #[.slice A n cA, .slice C m cC], .agg #[.slice A' n' cA', .slice C' m' cC'], .float .f32 s] w (RetR (if isMix xs ys xs' ys' s then mixL xs xs' s xs.length else []) (if isMix xs ys xs' ys' s then mixL ys ys' s xs.length else []) (isMix xs ys xs' ys' s) w) := by
  obtain rfl := hx.1
  obtain rfl := hy.1
  obtain rfl := hx'.1
  obtain rfl := hy'.1
  have HX := Lib.hid (fun w' h => Slc.grew (g := Value.float .f32) (w' := w') hx hK h)
  have HY := Lib.hid (fun w' h => Slc.grew (g := Value.float .f32) (w' := w') hy hK h)
  have HX' := Lib.hid (fun w' h => Slc.grew (g := Value.float .f32) (w' := w') hx' hK h)
  have HY' := Lib.hid (fun w' h => Slc.grew (g := Value.float .f32) (w' := w') hy' hK h)
  have V1 := Lib.hid (fun w' b hf (h : Grew w w') => c_l04Rose b A C _ cA _ cC K xs ys w' hf (HX.out w' h) (HY.out w' h))
  have V2 := Lib.hid (fun w' b hf (h : Grew w w') => c_l04Rose b A' C' _ cA' _ cC' K xs' ys' w' hf (HX'.out w' h) (HY'.out w' h))
  clear hx hy hx' hy'
  have hk : isMix xs ys xs' ys' s = false := by simp [isMix, okMix, k4]
  rw [hk]
  rw [k1] at V1
  rw [k2] at V2
  go_enter Try.func17, Try.ntmps17
  go_wp2_with fail
  refine (V1.out _ _ (by refine ⟨?_, ?_⟩ <;> simp [go_sem]) (by (show Below _ _ _; (repeat (first | exact Below.refl _ _ | refine ext_below ?_ (by first | omega | (simp only [size_ext, heap_push, Array.size_push, World.heap_drewN]; omega) | (simp; omega)) _ _ | refine below_draws ?_ _ | refine Below.alloc ?_ (by first | omega | (simp; done) | (simp; omega)) _ | refine Below.setCell ?_ (by first | omega | (simp; done) | (simp; omega)) _ | refine below_then (by assumption) (by first | omega | (simp; done) | (simp; omega)) ?_))))).mono ?_
  rintro e w1 ⟨rfl, nq, rfl⟩
  go_wp2_with fail
  refine (V2.out _ _ (by refine ⟨?_, ?_⟩ <;> simp [go_sem]) (by (show Below _ _ _; (repeat (first | exact Below.refl _ _ | refine ext_below ?_ (by first | omega | (simp only [size_ext, heap_push, Array.size_push, World.heap_drewN]; omega) | (simp; omega)) _ _ | refine below_draws ?_ _ | refine Below.alloc ?_ (by first | omega | (simp; done) | (simp; omega)) _ | refine Below.setCell ?_ (by first | omega | (simp; done) | (simp; omega)) _ | refine below_then (by assumption) (by first | omega | (simp; done) | (simp; omega)) ?_))))).mono ?_
  rintro e w1 ⟨rfl, nq2, rfl⟩
  go_wp2_with (go_at_call 50; refine (c_l04Share _ _).mono ?_; rintro e w' ⟨rfl, nq, rfl⟩)
  refine bodyPost_ret (v := .tuple #[ZRO, .bool false]) (by simp [results, Try.results17, go_sem, ZRO]) rfl ?_
  exact ⟨_, [], [], rfl, rose_nil _ _ _, rfl, rfl, by (show Below _ _ _; (repeat (first | exact Below.refl _ _ | refine ext_below ?_ (by first | omega | (simp only [size_ext, heap_push, Array.size_push, World.heap_drewN]; omega) | (simp; omega)) _ _ | refine below_draws ?_ _ | refine Below.alloc ?_ (by first | omega | (simp; done) | (simp; omega)) _ | refine Below.setCell ?_ (by first | omega | (simp; done) | (simp; omega)) _ | refine below_then (by assumption) (by first | omega | (simp; done) | (simp; omega)) ?_)))⟩

end Go.Proofs.Ytebhefbpkcpnjaa
