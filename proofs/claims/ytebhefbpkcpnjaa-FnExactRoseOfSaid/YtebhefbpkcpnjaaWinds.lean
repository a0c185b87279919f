/-
  CONTRACTS: lists of winds, their means.
-/
import Derived.Test.YtebhefbpkcpnjaaSum
import Derived.Test.YtebhefbpkcpnjaaLedR
import Derived.Test.YtebhefbpkcpnjaaSl2
namespace Go.Proofs.Ytebhefbpkcpnjaa
open Go.RowKit Go.Flt
set_option linter.unusedVariables false
set_option maxRecDepth 100000
set_option linter.unusedSimpArgs false

def allLeast (xs : List Nat) : Bool := xs.all fun x => least (cl .f32 x)

def winds (xs : List Nat) : Bool := decide (1 ≤ xs.length) && decide (xs.length ≤ 256) && allLeast xs

theorem c_areWinds (A : Option Addr) (n cap K : Nat) (xs : List Nat) (w : World) (h : Fl w K A n xs) (hn : n ≤ maxLen) :
    Calls Try.prog 77 #[.slice A n cap] w fun e w' => e = .returned (.bool (winds xs)) ∧ ∃ n, w' = w.drewN n := by
  obtain rfl := h.1
  have HS := Lib.hid h
  have e1 : decide ((1 : Int) ≤ (xs.length : Int)) = decide (1 ≤ xs.length) := by rw [Bool.eq_iff_iff]; simp; omega
  have e2 : decide ((xs.length : Int) ≤ 256) = decide (xs.length ≤ 256) := by rw [Bool.eq_iff_iff]; simp; omega
  have HE : Hid (winds xs = (decide (1 ≤ xs.length) && decide (xs.length ≤ 256) && allLeast xs)) := rfl
  generalize decide (1 ≤ xs.length) = b1 at *
  generalize decide (xs.length ≤ 256) = b2 at *
  clear h
  cases b1 <;> cases b2
  all_goals
    go_enter Try.func77, Try.ntmps77
    go_wp2_with (go_at_call 88; refine (c_impl.areLeast _ _ _ K xs _ HS.out hn).mono ?_; rintro e w' ⟨rfl, nq, rfl⟩)
    go_ret
    exact ⟨by rw [HE.out]; rfl, by (first | exact ⟨_, rfl⟩ | exact ⟨0, rfl⟩ | exact ⟨_, World.drewN_drewN _ _ _⟩ | (simp only [World.drewN_drewN]; exact ⟨_, rfl⟩))⟩

theorem allLeast_no {xs : List Nat} {k : Nat} (hk : k < xs.length) (h : least (cl .f32 xs[k]) = false) : allLeast xs = false := by
  unfold allLeast
  rw [List.all_eq_false]
  exact ⟨_, List.getElem_mem hk, by simp [h]⟩

theorem allLeast_all {xs : List Nat} (h : ∀ (j : Nat) (x : Nat), xs[j]? = some x → least (cl .f32 x) = true) : allLeast xs = true := by
  unfold allLeast
  rw [List.all_eq_true]
  intro x hx
  obtain ⟨j, hj, rfl⟩ := List.getElem_of_mem hx
  exact h j _ (List.getElem?_eq_getElem hj)

theorem c_l04Winds (A : Option Addr) (n cap K : Nat) (xs : List Nat) (w : World) (h : Fl w K A n xs) (hn : n ≤ 1048576) :
    Calls Try.prog 63 #[.slice A n cap] w fun e w' => e = .returned (.bool (winds xs)) ∧ ∃ n, w' = w.drewN n := by
  obtain rfl := h.1
  have HS := Lib.hid h
  have e1 : decide ((1 : Int) ≤ (xs.length : Int)) = decide (1 ≤ xs.length) := by rw [Bool.eq_iff_iff]; simp; omega
  have e2 : decide ((xs.length : Int) ≤ 256) = decide (xs.length ≤ 256) := by rw [Bool.eq_iff_iff]; simp; omega
  have HE : Hid (winds xs = (decide (1 ≤ xs.length) && decide (xs.length ≤ 256) && allLeast xs)) := rfl
  clear h
  have H1 := Lib.hid e1
  cases h2 : decide (xs.length ≤ 256)
  · have H2 := Lib.hid h2
    rw [h2] at e2
    clear h2 e1
    cases h1 : decide (1 ≤ xs.length)
    · have e3 : decide ((1 : Int) ≤ (xs.length : Int)) = false := H1.out.trans h1
      have e4 : decide ((0 : Int) < (xs.length : Int)) = false := by simp at h1; simp [h1]
      have H3 := Lib.hid h1
      clear h1
      go_enter Try.func63, Try.ntmps63
      go_wp2_with fail
      refine wp_loop_rounds 1 ?_
      rw [rounds_succ]
      go_wp2_with fail
      all_goals
        go_ret
        exact ⟨by rw [HE.out, H3.out]; rfl, 0, rfl⟩
    · have e3 : decide ((1 : Int) ≤ (xs.length : Int)) = true := H1.out.trans h1
      have e4 : decide ((0 : Int) < (xs.length : Int)) = true := by simp at h1; simp; omega
      have H3 := Lib.hid h1
      clear h1
      go_enter Try.func63, Try.ntmps63
      go_wp2_with fail
      refine wp_loop_rounds 1 ?_
      rw [rounds_succ]
      go_wp2_with fail
      all_goals
        go_ret
        exact ⟨by rw [HE.out, H3.out, H2.out]; rfl, 0, rfl⟩
  · have H2 := Lib.hid h2
    rw [h2] at e2
    clear h2
    cases h1 : decide (1 ≤ xs.length)
    all_goals
      rw [h1] at e1
      have H3 := Lib.hid h1
      clear h1 H1
      go_enter Try.func63, Try.ntmps63
      go_wp2_with fail
      go_loopw [3] (fun i wr => ∃ k : Nat, k ≤ xs.length ∧ i = .int .i64 k ∧ Hid (∀ (j : Nat) (x : Nat), j < k → xs[j]? = some x → least (cl .f32 x) = true) ∧ ∃ m, wr = w.drewN m) (fun i _ => xs.length - (intOf i).toNat)
      case atStart => exact ⟨0, Nat.zero_le _, rfl, fun _ _ h => absurd h (by omega), 0, rfl⟩
      case round =>
        obtain ⟨k, hk, rfl, hall, m, rfl⟩ := hrel
        by_cases hlt : k < xs.length
        · obtain ⟨b, off, rfl, _, hc⟩ := HS.out.2 (by omega)
          have hcell := hc k xs[k] (List.getElem?_eq_getElem hlt)
          clear hc
          have i3 : (0 : Int) ≤ (k : Int) := by omega
          have i4 : (k : Int) < (xs.length : Int) := by omega
          cases hw : least (cl .f32 xs[k])
          · have HX := Lib.hid (allLeast_no hlt hw)
            go_wp2_with (go_at_call 87; refine (c_l02Least _ _).mono ?_; rintro e w' ⟨rfl, nq, rfl⟩)
            go_ret
            exact ⟨by rw [HE.out, HX.out]; simp, by (first | exact ⟨_, rfl⟩ | exact ⟨0, rfl⟩ | exact ⟨_, World.drewN_drewN _ _ _⟩ | (simp only [World.drewN_drewN]; exact ⟨_, rfl⟩))⟩
          · have HX := Lib.hid hw
            go_wp2_with (go_at_call 87; refine (c_l02Least _ _).mono ?_; rintro e w' ⟨rfl, nq, rfl⟩)
            go_roundw
            case rel => exact ⟨k + 1, by omega, by go_num, fun j x hj hx => (by
                rcases Nat.lt_or_ge j k with h | h
                · exact hall.out j x h hx
                · obtain rfl : j = k := by omega
                  rw [List.getElem?_eq_getElem hlt] at hx
                  injection hx with hx
                  rw [← hx]
                  exact HX.out), by (first | exact ⟨_, rfl⟩ | exact ⟨0, rfl⟩ | exact ⟨_, World.drewN_drewN _ _ _⟩ | (simp only [World.drewN_drewN]; exact ⟨_, rfl⟩))⟩
            case measure => simp [intOf]; omega
        · have HX := Lib.hid (allLeast_all fun j x hx => hall.out j x (by have := (List.getElem?_eq_some_iff.1 hx).1; omega) hx)
          obtain rfl : k = xs.length := by omega
          go_wp2_with fail
          go_ret
          exact ⟨by rw [HE.out, HX.out, H2.out, H3.out]; rfl, by (first | exact ⟨_, rfl⟩ | exact ⟨0, rfl⟩ | exact ⟨_, World.drewN_drewN _ _ _⟩ | (simp only [World.drewN_drewN]; exact ⟨_, rfl⟩))⟩

/-- The mean of numbers. -/
def meanD (xs : List Nat) : Ieee.Datum := fop .quo .f32 (sumTo xs xs.length) (cl .f32 (floatOfInt .f32 xs.length))

theorem c_meanOf (A : Option Addr) (n cap K : Nat) (xs : List Nat) (w : World) (h : Fl w K A n xs) (hn : n ≤ maxLen) :
    Calls Try.prog 85 #[.slice A n cap] w (RetF (meanD xs) (Drawn w)) := by
  obtain rfl := h.1
  have HS := Lib.hid h
  have HE : Hid (meanD xs = fop .quo .f32 (sumTo xs xs.length) (cl .f32 (floatOfInt .f32 xs.length))) := rfl
  clear h
  go_enter Try.func85, Try.ntmps85
  go_wp2_with (first | (refine upon_fbin rfl _ _ _ _ ?_; intro z n hz hzw) | (go_at_call 61; refine (c_sum _ _ _ K xs _ HS.out hn).mono ?_; rintro e w' ⟨r, rfl, hr, hrf, nq, rfl⟩))
  go_ret
  exact ⟨_, rfl, by rw [HE.out]; simp only [*], by assumption, by (first | exact ⟨_, rfl⟩ | exact ⟨0, rfl⟩ | exact ⟨_, World.drewN_drewN _ _ _⟩ | (simp only [World.drewN_drewN]; exact ⟨_, rfl⟩))⟩

theorem c_l04Mean (A : Option Addr) (n cap K : Nat) (xs : List Nat) (w : World) (h : Fl w K A n xs) (hn : n ≤ maxLen) :
    Calls Try.prog 41 #[.slice A n cap] w (RetF (meanD xs) (Drawn w)) := by
  unfold maxLen at hn
  obtain rfl := h.1
  have HS := Lib.hid h
  have HE : Hid (meanD xs = fop .quo .f32 (sumTo xs xs.length) (cl .f32 (floatOfInt .f32 xs.length))) := rfl
  clear h
  go_enter Try.func41, Try.ntmps41
  go_wp2_with fail
  go_loopw [3, 4] (fun s i wr => ∃ k z : Nat, k ≤ xs.length ∧ i = .int .i64 k ∧ s = .float .f32 z ∧ Hid (cl .f32 z = sumTo xs k) ∧ Hid (fits z) ∧ ∃ m, wr = w.drewN m) (fun _ i _ => xs.length - (intOf i).toNat)
  case atStart => exact ⟨0, 0, Nat.zero_le _, rfl, rfl, rfl, fits_zero, 0, rfl⟩
  case round =>
    obtain ⟨k, z, hk, rfl, rfl, hz, hf, m, rfl⟩ := hrel
    by_cases hlt : k < xs.length
    · obtain ⟨b, off, rfl, _, hc⟩ := HS.out.2 (by omega)
      have hcell := hc k (xs.getD k 0) (by simp [hlt])
      clear hc
      have i3 : (0 : Int) ≤ (k : Int) := by omega
      have i4 : (k : Int) < (xs.length : Int) := by omega
      have hT := Lib.hid (fun r => sum_step (xs := xs) (k := k) (r := r) hz.out)
      generalize xs.getD k 0 = x at *
      go_wp2_with (refine upon_fbin rfl _ _ _ _ ?_; intro z n hz hzw)
      go_roundw
      case rel => exact ⟨k + 1, _, by omega, by go_num, rfl, hT.out _ (by assumption), by assumption, by (first | exact ⟨_, rfl⟩ | exact ⟨0, rfl⟩ | exact ⟨_, World.drewN_drewN _ _ _⟩ | (simp only [World.drewN_drewN]; exact ⟨_, rfl⟩))⟩
      case measure => simp [intOf]; omega
    · obtain rfl : k = xs.length := by omega
      have hz2 := hz.out
      go_wp2_with (refine upon_fbin rfl _ _ _ _ ?_; intro z n hz hzw)
      go_ret
      exact ⟨_, rfl, by rw [HE.out]; simp only [*], by assumption, by (first | exact ⟨_, rfl⟩ | exact ⟨0, rfl⟩ | exact ⟨_, World.drewN_drewN _ _ _⟩ | (simp only [World.drewN_drewN]; exact ⟨_, rfl⟩))⟩

end Go.Proofs.Ytebhefbpkcpnjaa
