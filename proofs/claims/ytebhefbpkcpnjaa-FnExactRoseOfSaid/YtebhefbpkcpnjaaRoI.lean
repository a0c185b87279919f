/-
  CONTRACTS: a rose of winds, in the program.
-/
import Derived.Deep.Cut
import Derived.Test.YtebhefbpkcpnjaaRoF
namespace Go.Proofs.Ytebhefbpkcpnjaa
open Go.RowKit Go.Flt
set_option linter.unusedVariables false
set_option maxRecDepth 100000
set_option linter.unusedSimpArgs false

set_option maxHeartbeats 4000000 in
theorem c_iroBad (A C : Option Addr) (n cA m cC K : Nat) (xs ys : List Nat) (cn : Int) (w : World) (hx : Fl w K A n xs) (hy : Fl w K C m ys) (hK : K ≤ w.heap.size) (hn : n ≤ 1048576) (hm : m ≤ 1048576) (k1 : roOk xs ys cn = false) :
    Calls Try.prog 39 #[.slice A n cA, .slice C m cC, .int .i64 cn] w (RetR [] [] false w) := by
  obtain rfl := hx.1
  obtain rfl := hy.1
  have HX := Lib.hid (fun w' h => Slc.grew (g := Value.float .f32) (w' := w') hx hK h)
  have HY := Lib.hid (fun w' h => Slc.grew (g := Value.float .f32) (w' := w') hy hK h)
  have LX := Lib.hid (show xs.length ≤ maxLen by unfold maxLen; omega)
  have LY := Lib.hid (show ys.length ≤ maxLen by unfold maxLen; omega)
  have HT := Lib.hid (fun w' (h : Grew w w') => c_ContainsFunc5 A cA K xs w' (HX.out w' h) LX.out)
  rw [allTurn_any] at HT
  clear hx hy
  cases h1 : winds ys
  case' true => cases h2 : decide (xs.length = ys.length)
  case' true.true => cases h3 : allTurn xs
  case' true.true.true => cases h4 : within cn 1 16
  case true.true.true.true => exfalso; rw [roOk, h1, h2, h3, h4] at k1; cases k1
  case true.false =>
    have i1 : ((xs.length : Int) != (ys.length : Int)) = true := by
      have := of_decide_eq_false h2
      simp; omega
    clear k1 h2 hn hm
    go_enter Try.func39, Try.ntmps39
    go_wp2_with (first | (go_at_call 77; refine (c_areWinds C _ cC K ys _ (HY.out _ (by (show Below _ _ _; (repeat (first | exact Below.refl _ _ | refine ext_below ?_ (by first | omega | (simp only [size_ext, heap_push, Array.size_push, World.heap_drewN]; omega) | (simp; omega)) _ _ | refine below_draws ?_ _ | refine Below.alloc ?_ (by first | omega | (simp; done) | (simp; omega)) _ | refine Below.setCell ?_ (by first | omega | (simp; done) | (simp; omega)) _ | refine below_then (by assumption) (by first | omega | (simp; done) | (simp; omega)) ?_))))) LY.out).mono ?_; rintro e w' ⟨rfl, nq, rfl⟩))
    refine bodyPost_ret (v := .tuple #[ZRO, .bool false]) (by simp [results, Try.results39, go_sem, ZRO]) rfl ?_
    exact ⟨_, [], [], rfl, rose_nil _ _ _, rfl, rfl, by (show Below _ _ _; (repeat (first | exact Below.refl _ _ | refine ext_below ?_ (by first | omega | (simp only [size_ext, heap_push, Array.size_push, World.heap_drewN]; omega) | (simp; omega)) _ _ | refine below_draws ?_ _ | refine Below.alloc ?_ (by first | omega | (simp; done) | (simp; omega)) _ | refine Below.setCell ?_ (by first | omega | (simp; done) | (simp; omega)) _ | refine below_then (by assumption) (by first | omega | (simp; done) | (simp; omega)) ?_)))⟩
  case false =>
    clear k1 hn hm
    go_enter Try.func39, Try.ntmps39
    go_wp2_with (first | (go_at_call 77; refine (c_areWinds C _ cC K ys _ (HY.out _ (by (show Below _ _ _; (repeat (first | exact Below.refl _ _ | refine ext_below ?_ (by first | omega | (simp only [size_ext, heap_push, Array.size_push, World.heap_drewN]; omega) | (simp; omega)) _ _ | refine below_draws ?_ _ | refine Below.alloc ?_ (by first | omega | (simp; done) | (simp; omega)) _ | refine Below.setCell ?_ (by first | omega | (simp; done) | (simp; omega)) _ | refine below_then (by assumption) (by first | omega | (simp; done) | (simp; omega)) ?_))))) LY.out).mono ?_; rintro e w' ⟨rfl, nq, rfl⟩))
    refine bodyPost_ret (v := .tuple #[ZRO, .bool false]) (by simp [results, Try.results39, go_sem, ZRO]) rfl ?_
    exact ⟨_, [], [], rfl, rose_nil _ _ _, rfl, rfl, by (show Below _ _ _; (repeat (first | exact Below.refl _ _ | refine ext_below ?_ (by first | omega | (simp only [size_ext, heap_push, Array.size_push, World.heap_drewN]; omega) | (simp; omega)) _ _ | refine below_draws ?_ _ | refine Below.alloc ?_ (by first | omega | (simp; done) | (simp; omega)) _ | refine Below.setCell ?_ (by first | omega | (simp; done) | (simp; omega)) _ | refine below_then (by assumption) (by first | omega | (simp; done) | (simp; omega)) ?_)))⟩
  all_goals
    have i1 : ((xs.length : Int) != (ys.length : Int)) = false := by
      have := of_decide_eq_true h2
      simp; omega
    try (have h5 : okSec cn = false := h4)
    clear k1 h2 hn hm
    go_enter Try.func39, Try.ntmps39
    go_wp2_with (first | (go_at_call 77; refine (c_areWinds C _ cC K ys _ (HY.out _ (by (show Below _ _ _; (repeat (first | exact Below.refl _ _ | refine ext_below ?_ (by first | omega | (simp only [size_ext, heap_push, Array.size_push, World.heap_drewN]; omega) | (simp; omega)) _ _ | refine below_draws ?_ _ | refine Below.alloc ?_ (by first | omega | (simp; done) | (simp; omega)) _ | refine Below.setCell ?_ (by first | omega | (simp; done) | (simp; omega)) _ | refine below_then (by assumption) (by first | omega | (simp; done) | (simp; omega)) ?_))))) LY.out).mono ?_; rintro e w' ⟨rfl, nq, rfl⟩) | (go_at_call 80; refine (HT.out _ (by (show Below _ _ _; (repeat (first | exact Below.refl _ _ | refine ext_below ?_ (by first | omega | (simp only [size_ext, heap_push, Array.size_push, World.heap_drewN]; omega) | (simp; omega)) _ _ | refine below_draws ?_ _ | refine Below.alloc ?_ (by first | omega | (simp; done) | (simp; omega)) _ | refine Below.setCell ?_ (by first | omega | (simp; done) | (simp; omega)) _ | refine below_then (by assumption) (by first | omega | (simp; done) | (simp; omega)) ?_))))).mono ?_; rintro e w' ⟨rfl, nq, rfl⟩) | (go_at_call 58; refine (c_isSectors _ _).mono ?_; rintro e w' ⟨rfl, nq, rfl⟩))
    refine bodyPost_ret (v := .tuple #[ZRO, .bool false]) (by simp [results, Try.results39, go_sem, ZRO]) rfl ?_
    exact ⟨_, [], [], rfl, rose_nil _ _ _, rfl, rfl, by (show Below _ _ _; (repeat (first | exact Below.refl _ _ | refine ext_below ?_ (by first | omega | (simp only [size_ext, heap_push, Array.size_push, World.heap_drewN]; omega) | (simp; omega)) _ _ | refine below_draws ?_ _ | refine Below.alloc ?_ (by first | omega | (simp; done) | (simp; omega)) _ | refine Below.setCell ?_ (by first | omega | (simp; done) | (simp; omega)) _ | refine below_then (by assumption) (by first | omega | (simp; done) | (simp; omega)) ?_)))⟩

end Go.Proofs.Ytebhefbpkcpnjaa
