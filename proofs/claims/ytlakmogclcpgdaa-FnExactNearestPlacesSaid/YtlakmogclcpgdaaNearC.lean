/-
  CONTRACTS: the nearest places, in the reference.
-/
import Derived.Test.YtlakmogclcpgdaaNearW
import Derived.Test.YtlakmogclcpgdaaAdd
namespace Go.Proofs.Ytlakmogclcpgdaa
open Go.RowKit Go.Flt
set_option linter.unusedVariables false
set_option maxRecDepth 100000
set_option linter.unusedSimpArgs false

def okN (xs ys : List Nat) (r d s : Nat) : Bool := vFarm xs ys r d s && decide (2 ≤ xs.length)

def aN (xs ys : List Nat) (r d s : Nat) : Int := if okN xs ys r d s then (nrst xs ys).1 else 0
def bN (xs ys : List Nat) (r d s : Nat) : Int := if okN xs ys r d s then (nrst xs ys).2.1 else 0
def dN (xs ys : List Nat) (r d s : Nat) : Ieee.Datum := if okN xs ys r d s then (nrst xs ys).2.2 else cl .f32 0

theorem vFarm_near {xs ys : List Nat} {r d s : Nat} (h : vFarm xs ys r d s = true) : 1 ≤ xs.length ∧ xs.length ≤ 12 ∧ ys.length = xs.length ∧ (∀ x, x ∈ xs → nearD (cl .f32 x) = true) ∧ ∀ y, y ∈ ys → nearD (cl .f32 y) = true := by
  unfold vFarm at h
  simp only [Bool.and_eq_true, decide_eq_true_eq, List.all_eq_true] at h
  obtain ⟨⟨⟨⟨⟨⟨⟨⟨h1, h2⟩, h3⟩, _⟩, _⟩, _⟩, _⟩, h4⟩, h5⟩ := h
  exact ⟨h1, h2, h3, h4, h5⟩

theorem nrst_fin {xs ys : List Nat} {r d s : Nat} (h : vFarm xs ys r d s = true) : fin (nrst xs ys).2.2 = true := by
  obtain ⟨_, _, h3, h4, h5⟩ := vFarm_near h
  rw [fin_eq]
  exact nOut_num _ _ (fun i k hi hk => dist_num h4 h5 h3 hi hk) _ (Nat.le_refl _)

theorem nrst_pos {xs ys : List Nat} (h : 2 ≤ xs.length) : 0 ≤ (nrst xs ys).1 := nOut_pos _ _ h _ (by omega) (Nat.le_refl _)

theorem nrst_one {xs ys : List Nat} (h : xs.length = 1) : (nrst xs ys).1 = -1 := by
  unfold nrst
  rw [h]
  rfl

set_option maxHeartbeats 2000000 in
theorem c_specNear (lo hi : Nat) (v : Value) (xs ys : List Nat) (r d s : Nat) (w : World) (h : FarmAt w lo hi v xs ys r d s) (hK : hi ≤ w.heap.size) (hn : xs.length ≤ 1048576) (hm : ys.length ≤ 1048576) :
    Calls Try.prog 25 #[v] w (RetN (aN xs ys r d s) (bN xs ys r d s) (dN xs ys r d s) (okN xs ys r d s) (Grew w)) := by
  obtain ⟨A, cA, C, cC, rfl, hx, hy⟩ := h.parts
  have HX := Lib.hid (fun w' (hg : Grew w w') => Slc.grew (g := Value.float .f32) (w' := w') hx hK hg)
  have HY := Lib.hid (fun w' (hg : Grew w w') => Slc.grew (g := Value.float .f32) (w' := w') hy hK hg)
  have V1 := Lib.hid (fun w' b hf (hg : Grew w w') => c_l06Is b A C xs.length cA ys.length cC hi xs ys r d s w' hf (HX.out w' hg) (HY.out w' hg) (by unfold maxLen; omega) (by unfold maxLen; omega))
  clear h hx hy hn hm
  cases k1 : vFarm xs ys r d s
  · have HO := Lib.hid (show okN xs ys r d s = false by simp [okN, k1])
    rw [k1] at V1
    go_enter Try.func25, Try.ntmps25
    go_wp2_with (go_at_call 45; refine (V1.out _ _ (by unfold FmAt; simp [go_sem]) (by (show Below _ _ _; (repeat (first | exact Below.refl _ _ | refine ext_below ?_ (by first | omega | (simp only [size_ext, heap_push, Array.size_push, World.heap_drewN]; omega) | (simp; omega)) _ _ | refine below_draws ?_ _ | refine Below.alloc ?_ (by first | omega | (simp; done) | (simp; omega)) _ | refine Below.setCell ?_ (by first | omega | (simp; done) | (simp; omega)) _ | refine below_then (by assumption) (by first | omega | (simp; done) | (simp; omega)) ?_))))).mono ?_; rintro e w' ⟨rfl, nq, rfl⟩)
    refine bodyPost_ret (v := .tuple #[.int .i64 0, .int .i64 0, .float .f32 0, .bool false]) (by simp [results, Try.results25, go_sem]) rfl ?_
    exact ⟨0, by rw [aN, bN, HO.out]; rfl, by rw [dN, HO.out]; rfl, fits_zero, by (show Below _ _ _; (repeat (first | exact Below.refl _ _ | refine ext_below ?_ (by first | omega | (simp only [size_ext, heap_push, Array.size_push, World.heap_drewN]; omega) | (simp; omega)) _ _ | refine below_draws ?_ _ | refine Below.alloc ?_ (by first | omega | (simp; done) | (simp; omega)) _ | refine Below.setCell ?_ (by first | omega | (simp; done) | (simp; omega)) _ | refine below_then (by assumption) (by first | omega | (simp; done) | (simp; omega)) ?_)))⟩
  · obtain ⟨n1, n2, n3, _, _⟩ := vFarm_near k1
    have hfin := nrst_fin k1
    rw [k1] at V1
    have V2 := Lib.hid (fun w' b hf (hg : Grew w w') => c_l06Nearest b A C xs.length cA ys.length cC hi xs ys r d s w' hf (HX.out w' hg) (HY.out w' hg) n2 n3)
    clear n3
    by_cases h2 : 2 ≤ xs.length
    · have hpos := nrst_pos (ys := ys) h2
      have HO := Lib.hid (show okN xs ys r d s = true by simp [okN, k1, h2])
      have HA := Lib.hid (show aN xs ys r d s = (nrst xs ys).1 by rw [aN, HO.out]; rfl)
      have HB := Lib.hid (show bN xs ys r d s = (nrst xs ys).2.1 by rw [bN, HO.out]; rfl)
      have HD := Lib.hid (show dN xs ys r d s = (nrst xs ys).2.2 by rw [dN, HO.out]; rfl)
      rw [decide_eq_true hpos] at V2
      generalize nrst xs ys = R at *
      have HFI := Lib.hid hfin
      clear hfin hpos k1
      go_enter Try.func25, Try.ntmps25
      go_wp2_with (first | (go_at_call 45; refine (V1.out _ _ (by unfold FmAt; simp [go_sem]) (by (show Below _ _ _; (repeat (first | exact Below.refl _ _ | refine ext_below ?_ (by first | omega | (simp only [size_ext, heap_push, Array.size_push, World.heap_drewN]; omega) | (simp; omega)) _ _ | refine below_draws ?_ _ | refine Below.alloc ?_ (by first | omega | (simp; done) | (simp; omega)) _ | refine Below.setCell ?_ (by first | omega | (simp; done) | (simp; omega)) _ | refine below_then (by assumption) (by first | omega | (simp; done) | (simp; omega)) ?_))))).mono ?_; rintro e w' ⟨rfl, nq, rfl⟩) | (go_at_call 53; refine (V2.out _ _ (by unfold FmAt; simp [go_sem]) (by (show Below _ _ _; (repeat (first | exact Below.refl _ _ | refine ext_below ?_ (by first | omega | (simp only [size_ext, heap_push, Array.size_push, World.heap_drewN]; omega) | (simp; omega)) _ _ | refine below_draws ?_ _ | refine Below.alloc ?_ (by first | omega | (simp; done) | (simp; omega)) _ | refine Below.setCell ?_ (by first | omega | (simp; done) | (simp; omega)) _ | refine below_then (by assumption) (by first | omega | (simp; done) | (simp; omega)) ?_))))).mono ?_; rintro e w' ⟨z, rfl, hz, hzf, nz, rfl⟩; have hfz := HFI.out; rw [← hz] at hfz; have HZ := Lib.hid hz; clear hz) | (go_at_call 54; refine (c_l01Finite _ _).mono ?_; rintro e w' ⟨rfl, nq, rfl⟩))
      refine bodyPost_ret (v := .tuple #[.int .i64 R.1, .int .i64 R.2.1, .float .f32 z, .bool true]) (by simp [results, Try.results25, go_sem]) rfl ?_
      exact ⟨z, by rw [HA.out, HB.out, HO.out], by rw [HD.out]; exact HZ.out, hzf, by (show Below _ _ _; (repeat (first | exact Below.refl _ _ | refine ext_below ?_ (by first | omega | (simp only [size_ext, heap_push, Array.size_push, World.heap_drewN]; omega) | (simp; omega)) _ _ | refine below_draws ?_ _ | refine Below.alloc ?_ (by first | omega | (simp; done) | (simp; omega)) _ | refine Below.setCell ?_ (by first | omega | (simp; done) | (simp; omega)) _ | refine below_then (by assumption) (by first | omega | (simp; done) | (simp; omega)) ?_)))⟩
    · have hneg := nrst_one (xs := xs) (ys := ys) (by omega)
      have HO := Lib.hid (show okN xs ys r d s = false by simp [okN, h2])
      rw [hneg] at V2
      generalize nrst xs ys = R at *
      clear hfin hneg k1
      go_enter Try.func25, Try.ntmps25
      go_wp2_with (first | (go_at_call 45; refine (V1.out _ _ (by unfold FmAt; simp [go_sem]) (by (show Below _ _ _; (repeat (first | exact Below.refl _ _ | refine ext_below ?_ (by first | omega | (simp only [size_ext, heap_push, Array.size_push, World.heap_drewN]; omega) | (simp; omega)) _ _ | refine below_draws ?_ _ | refine Below.alloc ?_ (by first | omega | (simp; done) | (simp; omega)) _ | refine Below.setCell ?_ (by first | omega | (simp; done) | (simp; omega)) _ | refine below_then (by assumption) (by first | omega | (simp; done) | (simp; omega)) ?_))))).mono ?_; rintro e w' ⟨rfl, nq, rfl⟩) | (go_at_call 53; refine (V2.out _ _ (by unfold FmAt; simp [go_sem]) (by (show Below _ _ _; (repeat (first | exact Below.refl _ _ | refine ext_below ?_ (by first | omega | (simp only [size_ext, heap_push, Array.size_push, World.heap_drewN]; omega) | (simp; omega)) _ _ | refine below_draws ?_ _ | refine Below.alloc ?_ (by first | omega | (simp; done) | (simp; omega)) _ | refine Below.setCell ?_ (by first | omega | (simp; done) | (simp; omega)) _ | refine below_then (by assumption) (by first | omega | (simp; done) | (simp; omega)) ?_))))).mono ?_; rintro e w' ⟨z, rfl, hz, hzf, nz, rfl⟩; clear hz))
      refine bodyPost_ret (v := .tuple #[.int .i64 0, .int .i64 0, .float .f32 0, .bool false]) (by simp [results, Try.results25, go_sem]) rfl ?_
      exact ⟨0, by rw [aN, bN, HO.out]; rfl, by rw [dN, HO.out]; rfl, fits_zero, by (show Below _ _ _; (repeat (first | exact Below.refl _ _ | refine ext_below ?_ (by first | omega | (simp only [size_ext, heap_push, Array.size_push, World.heap_drewN]; omega) | (simp; omega)) _ _ | refine below_draws ?_ _ | refine Below.alloc ?_ (by first | omega | (simp; done) | (simp; omega)) _ | refine Below.setCell ?_ (by first | omega | (simp; done) | (simp; omega)) _ | refine below_then (by assumption) (by first | omega | (simp; done) | (simp; omega)) ?_)))⟩

end Go.Proofs.Ytlakmogclcpgdaa
