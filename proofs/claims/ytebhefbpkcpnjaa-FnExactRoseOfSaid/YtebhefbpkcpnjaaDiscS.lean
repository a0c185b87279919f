/-
  CONTRACTS: the power of a disc, in the reference.
-/
import Derived.Test.YtebhefbpkcpnjaaAir
import Derived.Test.YtebhefbpkcpnjaaSpread
namespace Go.Proofs.Ytebhefbpkcpnjaa
open Go.RowKit Go.Flt
set_option linter.unusedVariables false
set_option maxRecDepth 100000
set_option linter.unusedSimpArgs false

/-- Where part k of n lies, from -1 to 1. -/
def xkD (n k : Nat) : Ieee.Datum := fop .quo .f32 (cl .f32 (floatOfInt .f32 (2 * (k : Int) + 1 - n))) (cl .f32 (floatOfInt .f32 (n : Int)))

def wkD (x : Ieee.Datum) : Ieee.Datum := rootD (fop .sub .f32 (cl .f32 1065353216) (fop .mul .f32 x x))

def zkD (ht r : Nat) (x : Ieee.Datum) : Ieee.Datum := fop .add .f32 (cl .f32 ht) (fop .mul .f32 (cl .f32 r) x)

def uk (d h v s ht r n k : Nat) : Ieee.Datum := spd v s h (zkD ht r (xkD n k))

def dpA (d h v s ht r n : Nat) : Nat → Ieee.Datum
  | 0 => cl .f32 0
  | k + 1 => fop .add .f32 (dpA d h v s ht r n k) (fop .mul .f32 (wkD (xkD n k)) (pwr d (uk d h v s ht r n k)))

def dpW (n : Nat) : Nat → Ieee.Datum
  | 0 => cl .f32 0
  | k + 1 => fop .add .f32 (dpW n k) (wkD (xkD n k))

def dpOk (d h v s ht r : Nat) (p : Int) : Bool := vAir d h v s && above (cl .f32 r) && fin (cl .f32 ht) && !flt (cl .f32 ht) (cl .f32 r) && within p 1 64

def dpD (d h v s ht r : Nat) (p : Int) : Ieee.Datum := fop .quo .f32 (dpA d h v s ht r p.toNat p.toNat) (dpW p.toNat p.toNat)

theorem airAt_drawn {w wr : World} {b d h v s : Nat} (h' : AirAt w b d h v s) (hr : Drawn w wr) : AirAt wr b d h v s := by
  obtain ⟨_, rfl⟩ := hr
  exact h'

set_option maxHeartbeats 2000000 in
theorem c_specDisc (d h v s ht ra : Nat) (p : Int) (w : World) : Calls Try.prog 29 #[.agg #[.float .f32 d, .float .f32 h, .float .f32 v, .float .f32 s], .float .f32 ht, .float .f32 ra, .int .i64 p] w
    (RetFB (num (dpOk d h v s ht ra p) (dpD d h v s ht ra p)) (dpOk d h v s ht ra p && fin (dpD d h v s ht ra p)) (Grew w)) := by
  have HA := Lib.hid (fun w' b ha => c_l04Is d h v s b w' ha)
  have HOK := Lib.hid (show dpOk d h v s ht ra p = (vAir d h v s && above (cl .f32 ra) && fin (cl .f32 ht) && !flt (cl .f32 ht) (cl .f32 ra) && within p 1 64) from rfl)
  generalize hVA : vAir d h v s = VA at *
  cases hok : dpOk d h v s ht ra p
  · have HF := Lib.hid hok
    rw [hok] at HOK
    cases VA
    case' true => cases h1 : above (cl .f32 ra)
    case' true.true => cases h2 : fin (cl .f32 ht)
    case' true.true.true => cases h3 : flt (cl .f32 ht) (cl .f32 ra)
    case' true.true.true.false => cases h4 : within p 1 64
    case true.true.true.false.true => exfalso; have := HOK.out; rw [h1, h2, h3, h4] at this; simp at this
    all_goals
      clear HOK
      go_enter Try.func29, Try.ntmps29
      go_wp2_with (first | (go_at_call 66; refine (HA.out _ _ (by unfold AirAt; simp)).mono ?_; rintro e w' ⟨rfl, nq, rfl⟩) | (go_at_call 67; refine (c_l02Above _ _).mono ?_; rintro e w' ⟨rfl, nq, rfl⟩) | (go_at_call 42; refine (c_l01Finite _ _).mono ?_; rintro e w' ⟨rfl, nq, rfl⟩) | (go_at_call 57; refine (c_l00In _ _ _ _).mono ?_; rintro e w' ⟨rfl, nq, rfl⟩))
      go_ret2
      exact ⟨_, rfl, by simp [num], fits_zero, by (show Below _ _ _; (repeat (first | exact Below.refl _ _ | refine ext_below ?_ (by first | omega | (simp only [size_ext, heap_push, Array.size_push, World.heap_drewN]; omega) | (simp; omega)) _ _ | refine below_draws ?_ _ | refine Below.alloc ?_ (by first | omega | (simp; done) | (simp; omega)) _ | refine Below.setCell ?_ (by first | omega | (simp; done) | (simp; omega)) _ | refine below_then (by assumption) (by first | omega | (simp; done) | (simp; omega)) ?_)))⟩
  · have hp := HOK.out.symm.trans hok
    simp only [Bool.and_eq_true, Bool.not_eq_true'] at hp
    obtain ⟨⟨⟨⟨rfl, h1⟩, h2⟩, h3⟩, h4⟩ := hp
    have hpn : ∃ np : Nat, p = (np : Int) ∧ 1 ≤ np ∧ np ≤ 64 := by
      unfold within at h4
      simp at h4
      exact ⟨p.toNat, by omega, by omega, by omega⟩
    obtain ⟨np, rfl, hn1, hn2⟩ := hpn
    clear HOK hok hVA
    have HD := Lib.hid (show dpD d h v s ht ra np = fop .quo .f32 (dpA d h v s ht ra np np) (dpW np np) from rfl)
    generalize dpD d h v s ht ra np = DD at *
    go_enter Try.func29, Try.ntmps29
    go_wp2_with (first | (go_at_call 66; refine (HA.out _ _ (by unfold AirAt; simp)).mono ?_; rintro e w' ⟨rfl, nq, rfl⟩) | (go_at_call 67; refine (c_l02Above _ _).mono ?_; rintro e w' ⟨rfl, nq, rfl⟩) | (go_at_call 42; refine (c_l01Finite _ _).mono ?_; rintro e w' ⟨rfl, nq, rfl⟩) | (go_at_call 57; refine (c_l00In _ _ _ _).mono ?_; rintro e w' ⟨rfl, nq, rfl⟩))
    clear h1 h2 h3 h4 HA
    go_loopw [10, 11, 12] (fun a b i wr => ∃ k y z : Nat, k ≤ np ∧ i = .int .i64 k ∧ a = .float .f32 y ∧ b = .float .f32 z ∧ Hid (cl .f32 y = dpA d h v s ht ra np k) ∧ Hid (cl .f32 z = dpW np k) ∧ Hid (AirAt wr w.heap.size d h v s) ∧ Hid (Grew w wr)) (fun _ _ i _ => np - (intOf i).toNat)
    case atStart => exact ⟨0, 0, 0, Nat.zero_le _, rfl, rfl, rfl, rfl, rfl, by show AirAt _ _ _ _ _ _; unfold AirAt; simp, by show Grew _ _; (show Below _ _ _; (repeat (first | exact Below.refl _ _ | refine ext_below ?_ (by first | omega | (simp only [size_ext, heap_push, Array.size_push, World.heap_drewN]; omega) | (simp; omega)) _ _ | refine below_draws ?_ _ | refine Below.alloc ?_ (by first | omega | (simp; done) | (simp; omega)) _ | refine Below.setCell ?_ (by first | omega | (simp; done) | (simp; omega)) _ | refine below_then (by assumption) (by first | omega | (simp; done) | (simp; omega)) ?_)))⟩
    case round =>
      obtain ⟨k, y0, z0, hk, rfl, rfl, rfl, hy, hz0, hair, hg⟩ := hrel
      obtain ⟨a0, a1, a2, a3⟩ := hair.out
      by_cases hlt : k < np
      · have i3 : (0 : Int) ≤ (k : Int) := by omega
        have i4 : (k : Int) < (np : Int) := by omega
        have j1 : IntKind.i64.wrap (2 * (k : Int)) = 2 * (k : Int) := by rw [IntKind.wrap_i64]; omega
        have j2 : IntKind.i64.wrap (2 * (k : Int) + 1) = 2 * (k : Int) + 1 := by rw [IntKind.wrap_i64]; omega
        have j3 : IntKind.i64.wrap (2 * (k : Int) + 1 - (np : Int)) = 2 * (k : Int) + 1 - (np : Int) := by rw [IntKind.wrap_i64]; omega
        have HDA := Lib.hid (show dpA d h v s ht ra np (k + 1) = fop .add .f32 (dpA d h v s ht ra np k) (fop .mul .f32 (rootD (fop .sub .f32 (cl .f32 1065353216) (fop .mul .f32 (fop .quo .f32 (cl .f32 (floatOfInt .f32 (2 * (k : Int) + 1 - np))) (cl .f32 (floatOfInt .f32 (np : Int)))) (fop .quo .f32 (cl .f32 (floatOfInt .f32 (2 * (k : Int) + 1 - np))) (cl .f32 (floatOfInt .f32 (np : Int))))))) (pwr d (spd v s h (fop .add .f32 (cl .f32 ht) (fop .mul .f32 (cl .f32 ra) (fop .quo .f32 (cl .f32 (floatOfInt .f32 (2 * (k : Int) + 1 - np))) (cl .f32 (floatOfInt .f32 (np : Int))))))))) from rfl)
        have HDW := Lib.hid (show dpW np (k + 1) = fop .add .f32 (dpW np k) (rootD (fop .sub .f32 (cl .f32 1065353216) (fop .mul .f32 (fop .quo .f32 (cl .f32 (floatOfInt .f32 (2 * (k : Int) + 1 - np))) (cl .f32 (floatOfInt .f32 (np : Int)))) (fop .quo .f32 (cl .f32 (floatOfInt .f32 (2 * (k : Int) + 1 - np))) (cl .f32 (floatOfInt .f32 (np : Int))))))) from rfl)
        go_wp2_with (first | (refine upon_fbin rfl _ _ _ _ ?_; intro z n hz hzw) | (go_at_call 64; refine (c_l01Sqrt _ _).mono ?_; rintro e w' ⟨r, rfl, hr, hrf, nq, rfl⟩))
        try simp only [List.append_eq, List.cons_append, List.nil_append]
        refine wp_region_drawnC (by kernel_rfl) (by kernel_rfl) ?_
        repeat (first | (refine wpFree_skip rfl ?_; try go_simp) | (refine wpFree_want rfl (fun K hK => ?_); first | (refine free_fbin drawn_draw rfl rfl _ _ _ rfl rfl ?_; intro z hz hzw; go_simp; refine hK _ ?_; clear hK K) | (intro wq hq; obtain ⟨hqc, hqf, hqh⟩ := drawn_cells hq; go_simp; first | (refine hK _ ?_; clear hK K; try clear hqc hqf; try clear hqh; try clear hq; try clear wq) | ((with_reducible refine free_at 69 ?_); refine free_f _ (by kernel_rfl) (fun wr hr => (c_l04Speed d h v s _ _ _ (airAt_drawn (by exact hair.out) hr)).mono fun e w'' ⟨r, he, h1, h2, hw⟩ => ⟨r, he, h1, h2, drawn_trans hr hw⟩) ?_; intro r hr hrf; refine hK _ ?_; clear hK K; try clear hqc hqf; try clear hqh; try clear hq; try clear wq) | ((with_reducible refine free_at 68 ?_); refine free_f _ (by kernel_rfl) (fun wr hr => (c_l04Power _ _ _).mono fun e w'' ⟨r, he, h1, h2, hw⟩ => ⟨r, he, h1, h2, drawn_trans hr hw⟩) ?_; intro r hr hrf; refine hK _ ?_; clear hK K; try clear hqc hqf; try clear hqh; try clear hq; try clear wq))))
        refine wpFree_nil ?_
        intro wq hq
        obtain ⟨nq, rfl⟩ := hq
        go_wp2_with (refine upon_fbin rfl _ _ _ _ ?_; intro z n hz hzw)
        go_roundw
        case rel => exact ⟨k + 1, _, _, by omega, by go_num, rfl, rfl, by show cl _ _ = _; rw [HDA.out, ← hy.out]; simp only [*], by show cl _ _ = _; rw [HDW.out, ← hz0.out]; simp only [*], (by show AirAt _ _ _ _ _ _; exact airAt_drawn hair.out ⟨_, rfl⟩), grew_draw _ _ hg.out⟩
        case measure => simp [intOf]; omega
      · obtain rfl : k = np := by omega
        have hyo := hy.out
        have hzo := hz0.out
        have i4 : ¬ (k : Int) < (k : Int) := by omega
        go_wp2_with (first | (refine upon_fbin rfl _ _ _ _ ?_; intro z n hz hzw) | (go_at_call 43; refine (c_l02Number _ _).mono ?_; rintro e w' ⟨rfl, nq, rfl⟩))
        go_ret2
        have e : cl .f32 z = DD := by rw [HD.out, hz, hyo, hzo]
        exact ⟨chkW z, by rw [HD.out, ← hyo, ← hzo]; simp, by rw [cl_chkW, e]; simp [chk, num], fits_chkW hzw, grew_draw _ _ hg.out⟩

end Go.Proofs.Ytebhefbpkcpnjaa
