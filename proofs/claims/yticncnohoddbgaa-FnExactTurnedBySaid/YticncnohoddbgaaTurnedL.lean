/-
  WALK: the law of TurnedBy.
-/
import Derived.Test.YticncnohoddbgaaTurned
import Derived.Test.YticncnohoddbgaaFls
namespace Go.Proofs.Yticncnohoddbgaa
open Go.RowKit Go.Flt
set_option linter.unusedVariables false
set_option maxRecDepth 100000
set_option linter.unusedSimpArgs false

set_option maxHeartbeats 1000000 in
theorem walk_TurnedBy (A : Option Addr) (n cap : Nat) (xs : List Nat) (w : World) (h : Slc (Value.float .f32) w w.heap.size A n xs) (hm : n ≤ maxLen) (_ : ∀ x ∈ xs, fits x) :
    Calls Try.prog 9 #[.slice A n cap] w fun e w' => e = .returned (.bool true) ∧ Below w.heap.size w w' := by
  unfold maxLen at hm
  by_cases hn : n ≤ 1048576
  · obtain rfl := h.1
    have HS := Lib.hid h
    have hd : decide ((1048576 : Int) < (xs.length : Int)) = false := by simp; omega
    clear h
    have HA := Lib.hid (fun A cap K w h => c_specTurnedBy A xs.length cap K xs w h hn)
    have HB := Lib.hid (fun A cap K w h => c_implTurnedBy A xs.length cap K xs w h hn)
    generalize okT xs = B at HA HB
    generalize turn xs = V at HA HB
    go_enter Try.func9, Try.ntmps9
    go_wp2_with fail
    refine (c_toFloat32S A _ cap w.heap.size xs w HS.out (Nat.le_refl _) hn).mono ?_
    rintro e w1 ⟨b1, rfl, hb1, ho1, hg1⟩
    have O1 := Lib.hid ho1
    have G1 := Lib.hid hg1
    clear ho1 hg1
    go_wp2_with (go_at_call 29; refine (HA.out _ _ _ _ (O1.out.slc (Nat.lt_succ_self _))).mono ?_; rintro e w' ⟨r, rfl, hr, hrf, nq, rfl⟩)
    have S2 : Slc (Value.float .f32) (w1.drewN nq) w.heap.size A xs.length xs := (HS.out.grew (Nat.le_refl _) G1.out).drewN nq
    refine (c_toFloat32S A _ cap w.heap.size xs _ S2 (Below.size (grew_draw _ nq G1.out)) hn).mono ?_
    rintro e w2 ⟨b2, rfl, hb2, ho2, hg2⟩
    have O2 := Lib.hid ho2
    have G2 := Lib.hid (grew_trans (grew_draw _ nq G1.out) hg2)
    clear S2 ho2 hg2 hb2
    go_wp2_with (first | (go_at_call 31; refine (HB.out _ _ _ _ (O2.out.slc (Nat.lt_succ_self _))).mono ?_; rintro e w' ⟨r, rfl, hr, hrf, nq, rfl⟩) | (refine upon_widen _ _ _ some_f32 Try.underlying39 ?_; intro z n hz hzw) | (go_at_call 20; refine (c_sameFloat _ _ _ (by simp only [*])).mono ?_; rintro e w' ⟨rfl, nq, rfl⟩))
    refine (c_toFloat32S A _ cap w.heap.size xs _ ((HS.out.grew (Nat.le_refl _) G2.out).drewN _) (Below.size (grew_draw _ _ G2.out)) hn).mono ?_
    rintro e w3 ⟨b3, rfl, hb3, ho3, hg3⟩
    have O3 := Lib.hid ho3
    have E3 := Lib.hid ((O2.out.drewN _).grew hg3)
    have G3 := Lib.hid (grew_trans (grew_draw _ _ G2.out) hg3)
    clear ho3 hg3 hb3
    go_wp2_with (go_at_call 32; refine (c_eqFloat32S _ _ _ _ _ _ (b2 + b3 + 1) xs xs _ (E3.out.slc (by omega)) (O3.out.slc (by omega)) rfl hn).mono ?_; rintro e w' ⟨rfl, nq, rfl⟩)
    go_ret
    exact ⟨rfl, grew_draw _ _ G3.out⟩
  · have hd : decide ((1048576 : Int) < (n : Int)) = true := by simp; omega
    clear h
    go_enter Try.func9, Try.ntmps9
    go_wp2_with fail
    go_ret
    exact ⟨rfl, by (repeat (first | exact Below.refl _ _ | refine ext_below ?_ (by first | omega | (simp only [size_ext, heap_push, Array.size_push, World.heap_drewN]; omega) | (simp; omega)) _ _ | refine below_draws ?_ _ | refine Below.alloc ?_ (by first | omega | (simp; done) | (simp; omega)) _ | refine Below.setCell ?_ (by first | omega | (simp; done) | (simp; omega)) _ | refine below_then (by assumption) (by first | omega | (simp; done) | (simp; omega)) ?_))⟩

end Go.Proofs.Yticncnohoddbgaa
