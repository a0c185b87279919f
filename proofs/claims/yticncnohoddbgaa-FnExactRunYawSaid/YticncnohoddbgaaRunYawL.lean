/-
  WALK: the law of RunYaw.
-/
import Derived.Test.YticncnohoddbgaaRunYaw
namespace Go.Proofs.Yticncnohoddbgaa
open Go.RowKit Go.Flt
set_option linter.unusedVariables false
set_option maxRecDepth 100000
set_option linter.unusedSimpArgs false

theorem runY_len (y : Nat) (xs : List Nat) (q m : Nat) : (runY y xs q m).length ≤ xs.length := by
  unfold runY
  split <;> simp

theorem map_len {zs : List Nat} {L : List Ieee.Datum} (h : zs.map (cl .f32) = L) : zs.length = L.length := by rw [← h]; simp

set_option maxHeartbeats 2000000 in
theorem walk_RunYaw (y : Nat) (A : Option Addr) (n cap : Nat) (xs : List Nat) (q m : Nat) (w : World) (fy : fits y) (h : Slc (Value.float .f32) w w.heap.size A n xs) (hm : n ≤ maxLen) (_ : ∀ x ∈ xs, fits x) (_ : fits q) (_ : fits m) :
    Calls Try.prog 10 #[.float .f32 y, .slice A n cap, .float .f32 q, .float .f32 m] w fun e w' => e = .returned (.bool true) ∧ Below w.heap.size w w' := by
  unfold maxLen at hm
  by_cases hn : n ≤ 1048576
  · obtain rfl := h.1
    have HS := Lib.hid h
    have hd : decide ((1048576 : Int) < (xs.length : Int)) = false := by simp; omega
    clear h
    have HA := Lib.hid (fun A cap K w h hK => c_specRunYaw y A xs.length cap K xs q m w h hK fy)
    have HB := Lib.hid (fun A cap K w h hK => c_implRunYaw y A xs.length cap K xs q m w h hK fy)
    have HL := Lib.hid (runY_len y xs q m)
    generalize okY y xs q m = B at HA HB
    generalize runY y xs q m = L at HA HB HL
    go_enter Try.func10, Try.ntmps10
    go_wp2_with fail
    -- the reference
    refine (c_toF A _ cap w.heap.size xs w HS.out (Nat.le_refl _) hn).mono ?_
    rintro e w1 ⟨v1, rfl, hr1, hg1⟩
    obtain ⟨A1, c1, rfl, hs1⟩ := hr1.slc
    have S1 := Lib.hid hs1
    have G1 := Lib.hid hg1
    clear hs1 hg1 hr1
    go_wp2_with fail
    refine (HA.out A1 c1 w1.heap.size w1 S1.out (Nat.le_refl _)).mono ?_
    rintro e w2 ⟨v2, z2, rfl, hr2, hz2, hg2⟩
    have R2 := Lib.hid hr2
    have Z2 := Lib.hid hz2
    have G2 := Lib.hid (grew_trans G1.out hg2)
    have N2 := Lib.hid (map_len hz2)
    have G2s := Lib.hid (Below.size G2.out)
    clear hr2 hz2 hg2 S1 G1
    go_wp2_with fail
    -- the program
    refine (c_toF A _ cap w.heap.size xs w2 (HS.out.grew (Nat.le_refl _) G2.out) (Below.size G2.out) hn).mono ?_
    rintro e w3 ⟨v3, rfl, hr3, hg3⟩
    have R2 := Lib.hid (R2.out.grew (Nat.le_refl _) hg3)
    have G3 := Lib.hid (grew_trans G2.out hg3)
    have L3 := Lib.hid (Below.size hg3)
    have R3 := Lib.hid hr3
    obtain ⟨A3, c3, rfl, hs3⟩ := hr3.slc
    have S3 := Lib.hid hs3
    have G3s := Lib.hid (Below.size G3.out)
    clear hs3 hg3 hr3 G2
    go_wp2_with fail
    refine (HB.out A3 c3 w3.heap.size w3 S3.out (Nat.le_refl _)).mono ?_
    rintro e w4 ⟨v4, z4, rfl, hr4, hz4, hg4⟩
    have R2 := Lib.hid (R2.out.grew L3.out hg4)
    have R3 := Lib.hid (R3.out.grew (Nat.le_refl _) hg4)
    have R4 := Lib.hid hr4
    have Z4 := Lib.hid hz4
    have G4 := Lib.hid (grew_trans G3.out hg4)
    have L4 := Lib.hid (Below.size hg4)
    have N4 := Lib.hid (map_len hz4)
    clear hr4 hz4 hg4 S3 G3
    go_wp2_with fail
    refine (c_eqF _ _ _ _ _ _ z4 z2 _ R4.out R2.out (Z4.out.trans Z2.out.symm) (by rw [N4.out]; exact Nat.le_trans HL.out hn)).mono ?_
    rintro e w' ⟨rfl, nq, rfl⟩
    go_wp2_with fail
    -- the argument is as it was
    refine (c_toF A _ cap w.heap.size xs _ ((HS.out.grew (Nat.le_refl _) G4.out).drewN _) (Below.size (grew_draw _ _ G4.out)) hn).mono ?_
    rintro e w5 ⟨v5, rfl, hr5, hg5⟩
    have R2 := Lib.hid (RowAt.grew (R2.out.drewN nq) (Nat.le_trans L3.out L4.out) hg5)
    have R3 := Lib.hid (RowAt.grew (R3.out.drewN nq) L4.out hg5)
    have R4 := Lib.hid (RowAt.grew (R4.out.drewN nq) (Nat.le_refl _) hg5)
    have R5 := Lib.hid hr5
    have G5 := Lib.hid (grew_trans (grew_draw _ nq G4.out) hg5)
    have L5 := Lib.hid (show w4.heap.size ≤ w5.heap.size by have := Below.size hg5; simp at this; omega)
    clear hr5 hg5 G4
    go_wp2_with fail
    refine (c_eqF _ _ _ _ _ _ xs xs _ R3.out R5.out rfl hn).mono ?_
    rintro e w' ⟨rfl, nq5, rfl⟩
    clear R5
    go_wp2_with fail
    -- it is marked
    refine (c_markFloat32S _ _ _ xs 1 _ (R3.out.drewN nq5) (by omega) (by omega) (by omega)).mono ?_
    rintro e w6 ⟨rfl, _, ho6⟩
    have R2 := Lib.hid (RowAt.outside (R2.out.drewN nq5) ho6 (.inl (Nat.le_refl _)))
    have R4 := Lib.hid (RowAt.outside (R4.out.drewN nq5) ho6 (.inr (Nat.le_refl _)))
    have G6 := Lib.hid (Outside.below (below_draws G5.out nq5) ho6 G2s.out)
    have i6 : decide ((1 : Int) + (xs.length : Int) < 0) = false := by simp; omega
    have L6 := Lib.hid (show w2.heap.size ≤ w6.heap.size ∧ w4.heap.size ≤ w6.heap.size by have := ho6.size; have := L5.out; have := L4.out; have := L3.out; simp at *; omega)
    clear ho6 G5 R3
    go_wp2_with fail
    refine (c_eqF _ _ _ _ _ _ z4 z2 _ R4.out R2.out (Z4.out.trans Z2.out.symm) (by rw [N4.out]; exact Nat.le_trans HL.out hn)).mono ?_
    rintro e w' ⟨rfl, nq6, rfl⟩
    go_wp2_with fail
    -- the result is marked
    have hl4 : z4.length ≤ 1048576 := by rw [N4.out]; exact Nat.le_trans HL.out hn
    refine (c_markFloat32S _ _ _ z4 1 _ (R4.out.drewN nq6) (by omega) (by omega) (by omega)).mono ?_
    rintro e w7 ⟨rfl, hr7, ho7⟩
    have R2 := Lib.hid (RowAt.outside (R2.out.drewN nq6) ho7 (.inl L3.out))
    have R4 := Lib.hid hr7
    have G7 := Lib.hid (Outside.below (below_draws G6.out nq6) ho7 G3s.out)
    have i7 : decide ((1 : Int) + (z4.length : Int) < 0) = false := by simp; omega
    have L7 := Lib.hid (show w2.heap.size ≤ w7.heap.size ∧ w4.heap.size ≤ w7.heap.size by have := ho7.size; have := L6.out; simp at *; omega)
    clear ho7 hr7 G6
    go_wp2_with fail
    refine (c_heldFloat32S _ _ _ z4.length 1 _ R4.out (by omega) (by omega) (by omega)).mono ?_
    rintro e w' ⟨rfl, nq7, rfl⟩
    go_wp2_with fail
    -- once more
    refine (c_toF A _ cap w.heap.size xs _ (Slc.drewN (HS.out.grew (Nat.le_refl _) G7.out) nq7) (Below.size (grew_draw _ nq7 G7.out)) hn).mono ?_
    rintro e w8 ⟨v8, rfl, hr8, hg8⟩
    have R2 := Lib.hid (RowAt.grew (R2.out.drewN nq7) (by have := L7.out; simp; omega) hg8)
    have R4 := Lib.hid (RowAt.grew (R4.out.drewN nq7) (by have := L7.out; simp; omega) hg8)
    have G8 := Lib.hid (grew_trans (grew_draw _ nq7 G7.out) hg8)
    have L8 := Lib.hid (show w4.heap.size ≤ w8.heap.size by have := L7.out; have := Below.size hg8; simp at this; omega)
    obtain ⟨A8, c8, rfl, hs8⟩ := hr8.slc
    have S8 := Lib.hid hs8
    clear hr8 hg8 hs8 G7
    go_wp2_with fail
    refine (HB.out A8 c8 w8.heap.size w8 S8.out (Nat.le_refl _)).mono ?_
    rintro e w9 ⟨v9, z9, rfl, hr9, hz9, hg9⟩
    have R2 := Lib.hid (RowAt.grew R2.out (by have := L8.out; have := L3.out; have := L4.out; omega) hg9)
    have R4 := Lib.hid (RowAt.grew R4.out L8.out hg9)
    have R9 := Lib.hid hr9
    have Z9 := Lib.hid hz9
    have G9 := Lib.hid (grew_trans G8.out hg9)
    have N9 := Lib.hid (map_len hz9)
    clear hr9 hz9 hg9 S8 G8
    go_wp2_with fail
    refine (c_eqF _ _ _ _ _ _ z9 z2 _ R9.out R2.out (Z9.out.trans Z2.out.symm) (by rw [N9.out]; exact Nat.le_trans HL.out hn)).mono ?_
    rintro e w' ⟨rfl, nq9, rfl⟩
    go_wp2_with fail
    refine (c_heldFloat32S _ _ _ z4.length 1 _ (R4.out.drewN nq9) (by omega) (by omega) (by omega)).mono ?_
    rintro e w' ⟨rfl, nq10, rfl⟩
    go_wp2_with fail
    go_ret
    exact ⟨rfl, grew_draw _ _ G9.out⟩
  · have hd : decide ((1048576 : Int) < (n : Int)) = true := by simp; omega
    clear h
    go_enter Try.func10, Try.ntmps10
    go_wp2_with fail
    go_ret
    exact ⟨rfl, by (repeat (first | exact Below.refl _ _ | refine ext_below ?_ (by first | omega | (simp only [size_ext, heap_push, Array.size_push, World.heap_drewN]; omega) | (simp; omega)) _ _ | refine below_draws ?_ _ | refine Below.alloc ?_ (by first | omega | (simp; done) | (simp; omega)) _ | refine Below.setCell ?_ (by first | omega | (simp; done) | (simp; omega)) _ | refine below_then (by assumption) (by first | omega | (simp; done) | (simp; omega)) ?_))⟩

end Go.Proofs.Yticncnohoddbgaa
