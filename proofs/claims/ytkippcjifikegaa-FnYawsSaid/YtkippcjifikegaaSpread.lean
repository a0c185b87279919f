/-
  CONTRACTS: how far winds spread.
-/
import Derived.Test.YtkippcjifikegaaWinds
import Derived.Test.YtkippcjifikegaaSqrt
import Derived.Test.YtkippcjifikegaaGrid
namespace Go.Flt
open Go Ieee
set_option linter.unusedVariables false

theorem rnd_inf (s : Bool) : rnd .f32 (some (.infinity s)) = .infinity s := by cases s <;> decide +kernel

theorem no_inf (s : Bool) : isNum (rnd .f32 (some (.infinity s))) = false := by rw [rnd_inf]; rfl

theorem no_none : isNum (rnd .f32 none) = false := rfl

theorem num_add {x y : Datum} (h : isNum (fop .add .f32 x y) = true) : isNum x = true ∧ isNum y = true := by
  cases x <;> cases y <;> simp only [fop, Datum.sum] at h <;> (try split at h) <;> first | (rw [no_inf] at h; cases h; done) | (rw [no_none] at h; cases h; done) | exact ⟨rfl, rfl⟩

theorem num_sub {x y : Datum} (h : isNum (fop .sub .f32 x y) = true) : isNum x = true ∧ isNum y = true := by
  have h' : isNum (fop .add .f32 x y.opposite) = true := h
  obtain ⟨h1, h2⟩ := num_add h'
  exact ⟨h1, by cases y <;> first | rfl | (cases h2; done)⟩

theorem num_mul {x y : Datum} (h : isNum (fop .mul .f32 x y) = true) : isNum x = true ∧ isNum y = true := by
  cases x <;> cases y <;> simp only [fop, Datum.product] at h <;> (try split at h) <;> first | (rw [no_inf] at h; cases h; done) | (rw [no_none] at h; cases h; done) | exact ⟨rfl, rfl⟩

theorem num_quo {x y : Datum} (h : isNum (fop .quo .f32 x y) = true) : isNum x = true := by
  cases x <;> cases y <;> simp only [fop, Datum.quotient] at h <;> (try split at h) <;> first | (rw [no_inf] at h; cases h; done) | (rw [no_none] at h; cases h; done) | rfl

theorem num_root {x : Datum} (h : isNum (nar (sqD (wid x))) = true) : isNum x = true := by
  cases x with
  | nan s t => cases h
  | number s m e => rfl
  | infinity s => cases s <;> revert h <;> decide +kernel

end Go.Flt

namespace Go.Proofs.Ytkippcjifikegaa
open Go.RowKit Go.Flt
set_option linter.unusedVariables false
set_option maxRecDepth 100000
set_option linter.unusedSimpArgs false

def spTo (xs : List Nat) (m : Ieee.Datum) : Nat → Ieee.Datum
  | 0 => cl .f32 0
  | k + 1 => fop .add .f32 (spTo xs m k) (fop .mul .f32 (fop .sub .f32 (cl .f32 (xs.getD k 0)) m) (fop .sub .f32 (cl .f32 (xs.getD k 0)) m))

def spread (xs : List Nat) : Ieee.Datum := rootD (fop .quo .f32 (spTo xs (meanD xs) xs.length) (cl .f32 (floatOfInt .f32 xs.length)))

theorem spread_num {xs : List Nat} (h0 : 0 < xs.length) (h : fin (spread xs) = true) : fin (meanD xs) = true := by
  rw [fin_eq] at h ⊢
  have h1 := num_quo (num_root h)
  obtain ⟨n, hn⟩ : ∃ n, xs.length = n + 1 := ⟨xs.length - 1, by omega⟩
  rw [hn] at h1
  exact (num_sub (num_mul (num_add h1).2).1).2

theorem sp_step {xs : List Nat} {m : Ieee.Datum} {k z d e r : Nat} (hz : cl .f32 z = spTo xs m k) (hd : cl .f32 d = fop .sub .f32 (cl .f32 (xs.getD k 0)) m) (he : cl .f32 e = fop .mul .f32 (cl .f32 d) (cl .f32 d)) (hr : cl .f32 r = fop .add .f32 (cl .f32 z) (cl .f32 e)) : cl .f32 r = spTo xs m (k + 1) := by
  rw [hr, hz, he, hd]
  rfl


theorem c_MeanOfWinds (A : Option Addr) (n cap K : Nat) (xs : List Nat) (w : World) (h : Fl w K A n xs) (hn : n ≤ maxLen) :
    Calls Try.prog 17 #[.slice A n cap] w (RetFB (num (winds xs) (meanD xs)) (winds xs && fin (meanD xs)) (Drawn w)) := by
  have HS := Lib.hid h
  have HD : Hid (num (winds xs) (meanD xs) = if winds xs && fin (meanD xs) then meanD xs else cl .f32 0) := rfl
  clear h
  cases hw : winds xs
  · have HW := Lib.hid hw
    go_enter Try.func17, Try.ntmps17
    go_wp2_with (go_at_call 43; refine (c_areWinds _ _ _ K xs _ HS.out hn).mono ?_; rintro e w' ⟨rfl, nq, rfl⟩)
    go_ret2
    exact ⟨_, rfl, by unfold num; simp, fits_zero, by (first | exact ⟨_, rfl⟩ | exact ⟨0, rfl⟩ | exact ⟨_, World.drewN_drewN _ _ _⟩ | (simp only [World.drewN_drewN]; exact ⟨_, rfl⟩))⟩
  · go_enter Try.func17, Try.ntmps17
    go_wp2_with (first | (go_at_call 43; refine (c_areWinds _ _ _ K xs _ HS.out hn).mono ?_; rintro e w' ⟨rfl, nq, rfl⟩) | (go_at_call 44; refine (c_meanOf _ _ _ K xs _ (Fl.drewN HS.out _) hn).mono ?_; rintro e w' ⟨r, rfl, hr, hrf, nq, rfl⟩) | (go_at_call 40; refine (c_checked _ _).mono ?_; rintro e w' ⟨rfl, nq, rfl⟩))
    go_ret2
    exact ⟨chkW r, by simp, by rw [cl_chkW, hr]; simp [chk, num], fits_chkW hrf, by (first | exact ⟨_, rfl⟩ | exact ⟨0, rfl⟩ | exact ⟨_, World.drewN_drewN _ _ _⟩ | (simp only [World.drewN_drewN]; exact ⟨_, rfl⟩))⟩

set_option maxHeartbeats 1000000 in
theorem c_implSpread (A : Option Addr) (n cap K : Nat) (xs : List Nat) (w : World) (h : Fl w K A n xs) (hn : n ≤ 1048576) :
    Calls Try.prog 18 #[.slice A n cap] w (RetFB (num (winds xs) (spread xs)) (winds xs && fin (spread xs)) (Drawn w)) := by
  obtain rfl := h.1
  have HS := Lib.hid h
  have HM : xs.length ≤ maxLen := by unfold maxLen; omega
  have HMX := Lib.hid HM
  clear h HM
  cases hw : winds xs && fin (meanD xs)
  · have hsp : (winds xs && fin (spread xs)) = false := by
      cases h1 : winds xs
      · rfl
      · rw [h1] at hw
        cases h2 : fin (spread xs)
        · rfl
        · rw [spread_num (by simp [winds] at h1; omega) h2] at hw
          cases hw
    have hnm : num (winds xs) (spread xs) = cl .f32 0 := by unfold num; rw [hsp]; rfl
    rw [hsp, hnm]
    go_enter Try.func18, Try.ntmps18
    go_wp2_with (go_at_call 17; refine (c_MeanOfWinds _ _ _ K xs _ HS.out HMX.out).mono ?_; rintro e w' ⟨r, rfl, hr, hrf, nq, rfl⟩)
    go_ret2
    exact ⟨_, rfl, rfl, fits_zero, by (first | exact ⟨_, rfl⟩ | exact ⟨0, rfl⟩ | exact ⟨_, World.drewN_drewN _ _ _⟩ | (simp only [World.drewN_drewN]; exact ⟨_, rfl⟩))⟩
  · have hw2 : winds xs = true := by cases h1 : winds xs <;> simp_all
    have hm : num (winds xs) (meanD xs) = meanD xs := by unfold num; rw [hw]; rfl
    rw [hw2]
    have HE : Hid (spread xs = rootD (fop .quo .f32 (spTo xs (meanD xs) xs.length) (cl .f32 (floatOfInt .f32 xs.length)))) := rfl
    have HN := Lib.hid hm
    generalize spread xs = SP at *
    clear hw2 hm
    go_enter Try.func18, Try.ntmps18
    go_wp2_with (go_at_call 17; refine (c_MeanOfWinds _ _ _ K xs _ HS.out HMX.out).mono ?_; rintro e w' ⟨rm, rfl, hr, hrf, nq, rfl⟩)
    have HR := Lib.hid (hr.trans HN.out)
    clear hr
    go_loopw [6, 19] (fun s i wr => ∃ k z : Nat, k ≤ xs.length ∧ i = .int .i64 k ∧ s = .float .f32 z ∧ Hid (cl .f32 z = spTo xs (meanD xs) k) ∧ Hid (fits z) ∧ ∃ m, wr = w.drewN m) (fun _ i _ => xs.length - (intOf i).toNat)
    case atStart => exact ⟨0, 0, Nat.zero_le _, rfl, rfl, rfl, fits_zero, by (first | exact ⟨_, rfl⟩ | exact ⟨0, rfl⟩ | exact ⟨_, World.drewN_drewN _ _ _⟩ | (simp only [World.drewN_drewN]; exact ⟨_, rfl⟩))⟩
    case round =>
      obtain ⟨k, z, hk, rfl, rfl, hz, hf, m, rfl⟩ := hrel
      by_cases hlt : k < xs.length
      · obtain ⟨b, off, rfl, _, hc⟩ := HS.out.2 (by omega)
        have hcell := hc k (xs.getD k 0) (by simp [hlt])
        clear hc
        have i3 : (0 : Int) ≤ (k : Int) := by omega
        have i4 : (k : Int) < (xs.length : Int) := by omega
        have hT := Lib.hid (fun d e r (h1 : cl .f32 d = fop .sub .f32 (cl .f32 (xs.getD k 0)) (cl .f32 rm)) h2 h3 => sp_step (xs := xs) (m := meanD xs) (k := k) (d := d) (e := e) (r := r) hz.out (h1.trans (by rw [HR.out])) h2 h3)
        generalize xs.getD k 0 = x at *
        go_wp2_with (refine upon_fbin rfl _ _ _ _ ?_; intro z n hz hzw)
        go_roundw
        case rel => exact ⟨k + 1, _, by omega, by go_num, rfl, hT.out _ _ _ (by assumption) (by assumption) (by assumption), by assumption, by (first | exact ⟨_, rfl⟩ | exact ⟨0, rfl⟩ | exact ⟨_, World.drewN_drewN _ _ _⟩ | (simp only [World.drewN_drewN]; exact ⟨_, rfl⟩))⟩
        case measure => simp [intOf]; omega
      · obtain rfl : k = xs.length := by omega
        have hz2 := hz.out
        go_wp2_with (first | (refine upon_fbin rfl _ _ _ _ ?_; intro z n hz hzw) | (go_at_call 45; refine (c_RootNumber _ _).mono ?_; rintro e w' ⟨r, rfl, hr, hrf, nq, rfl⟩) | (go_at_call 40; refine (c_checked _ _).mono ?_; rintro e w' ⟨rfl, nq, rfl⟩))
        go_ret2
        have e : cl .f32 r = SP := by rw [HE.out]; simp only [*]
        exact ⟨chkW r, by rw [HE.out]; simp, by rw [cl_chkW, e]; simp [chk, num], fits_chkW (by assumption), by (first | exact ⟨_, rfl⟩ | exact ⟨0, rfl⟩ | exact ⟨_, World.drewN_drewN _ _ _⟩ | (simp only [World.drewN_drewN]; exact ⟨_, rfl⟩))⟩

end Go.Proofs.Ytkippcjifikegaa
