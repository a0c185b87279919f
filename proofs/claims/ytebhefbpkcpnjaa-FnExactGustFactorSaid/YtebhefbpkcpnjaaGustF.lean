/-
  CONTRACTS: gusts.
-/
import Derived.Test.YtebhefbpkcpnjaaGustX
namespace Go.Proofs.Ytebhefbpkcpnjaa
open Go.RowKit Go.Flt
set_option linter.unusedVariables false
set_option maxRecDepth 100000
set_option linter.unusedSimpArgs false

def gOk (xs : List Nat) (q : Int) : Bool := okSm xs q && fin (meanD xs)

def gD (xs : List Nat) (q : Int) : Ieee.Datum := fop .quo .f32 (mstTo (smL xs q) (smL xs q).length) (meanD xs)

theorem okSm_parts {xs : List Nat} {q : Int} (h : okSm xs q = true) : ∃ m : Nat, q = (m : Int) ∧ 1 ≤ m ∧ m ≤ xs.length ∧ winds xs = true ∧ allLeast xs = true ∧ smOk xs m = true ∧ smL xs q = (List.range (smN xs m)).map (smD xs m) := by
  have h0 := h
  unfold okSm at h
  simp only [Bool.and_eq_true] at h
  obtain ⟨⟨h1, h2⟩, h3⟩ := h
  unfold within at h2
  simp at h2
  refine ⟨q.toNat, by omega, by omega, by omega, h1, ?_, h3, by rw [smL, if_pos h0]⟩
  unfold winds at h1
  simp only [Bool.and_eq_true] at h1
  exact h1.2

theorem smD_good {xs : List Nat} {m i : Nat} (ha : allLeast xs = true) (h1 : 1 ≤ m) (hi : i < smN xs m) (h2 : m ≤ xs.length) (hn : xs.length ≤ 1048576) : up (smD xs m i) = true := by
  unfold smN at hi
  have hl : ((xs.drop i).take m).length = m := by simp; omega
  refine mean_up ?_ (by omega) (by omega)
  unfold allLeast at ha ⊢
  rw [List.all_eq_true] at ha ⊢
  exact fun x hx => ha x (List.mem_of_mem_drop (List.mem_of_mem_take hx))

theorem smL_good {xs : List Nat} {q : Int} (h : okSm xs q = true) (hn : xs.length ≤ 1048576) : 0 < (smL xs q).length ∧ (smL xs q).length ≤ 1048576 ∧ ∀ d, d ∈ smL xs q → up d = true ∧ isNum d = true := by
  obtain ⟨m, rfl, h1, h2, hw, ha, hs, e⟩ := okSm_parts h
  rw [e]
  refine ⟨by simp [smN], by simp [smN]; omega, fun d hd => ?_⟩
  obtain ⟨i, hi, rfl⟩ := List.mem_map.1 hd
  have hi := List.mem_range.1 hi
  refine ⟨smD_good ha h1 hi h2 hn, ?_⟩
  unfold smOk at hs
  rw [List.all_eq_true] at hs
  rw [← fin_eq]
  exact hs i (List.mem_range.2 hi)

theorem zs_good {zs : List Nat} {ds : List Ieee.Datum} (h : zs.map (cl .f32) = ds) (hd : ∀ d, d ∈ ds → up d = true ∧ isNum d = true) : ∀ x, x ∈ zs → up (cl .f32 x) = true ∧ isNum (cl .f32 x) = true :=
  fun x hx => hd _ (by rw [← h]; exact List.mem_map.2 ⟨x, hx, rfl⟩)

set_option maxHeartbeats 2000000 in
theorem c_specGust (A : Option Addr) (n cap K : Nat) (xs : List Nat) (q : Int) (w : World) (h : Fl w K A n xs) (hK : K ≤ w.heap.size) (hn : n ≤ 1048576) (hcap : n ≤ cap) (hc2 : cap ≤ 9223372036854775807) :
    Calls Try.prog 11 #[.slice A n cap, .int .i64 q] w (RetFB (num (gOk xs q) (gD xs q)) (gOk xs q && fin (gD xs q)) (Grew w)) := by
  obtain rfl := h.1
  have HS := Lib.hid h
  have HX := Lib.hid (fun w1 (hg1 : Grew w w1) => Slc.grew (g := Value.float .f32) (w' := w1) h hK hg1)
  have HMX := Lib.hid (show xs.length ≤ maxLen by unfold maxLen; omega)
  clear h
  cases ho : okSm xs q
  · have HO := Lib.hid (show gOk xs q = false by simp [gOk, ho])
    go_enter Try.func11, Try.ntmps11
    go_wp2_with (first | (go_at_call 40; refine (c_specSmooth _ _ _ K xs q _ HS.out hK hn hcap hc2).mono ?_; rintro e w' ⟨v, zs, rfl, hr, hm, hg⟩))
    go_ret2
    exact ⟨_, by rw [HO.out]; rfl, by rw [HO.out]; rfl, fits_zero, hg⟩
  have hgd := smL_good ho hn
  have HG := Lib.hid hgd
  clear hgd
  have hO : gOk xs q = fin (meanD xs) := by simp [gOk, ho]
  have HO := Lib.hid hO
  have HD := Lib.hid (show gD xs q = fop .quo .f32 (mstTo (smL xs q) (smL xs q).length) (meanD xs) from rfl)
  clear hO
  generalize gD xs q = GD at *
  generalize gOk xs q = GO at *
  go_enter Try.func11, Try.ntmps11
  go_wp2_with (first | (go_at_call 40; refine (c_specSmooth _ _ _ K xs q _ HS.out hK hn hcap hc2).mono ?_; rintro e w' ⟨v, zs, rfl, hr, hm, hg⟩; have hlz := len_of_map hm; obtain ⟨A', c', rfl, hsl⟩ := hr.slc; have HM := Lib.hid hm; have HR := Lib.hid hr; have HSL := Lib.hid hsl; clear hm hr hsl))
  have hz1 := HG.out.1
  have hz2 := HG.out.2.1
  rw [← hlz] at hz1 hz2
  have HX2 := Lib.hid (HX.out _ hg)
  go_loopw [8, 9] (fun m i wr => ∃ k z : Nat, k ≤ zs.length ∧ i = .int .i64 k ∧ m = .float .f32 z ∧ Hid (cl .f32 z = mstTo (zs.map (cl .f32)) k) ∧ ∃ n, wr = w'.drewN n) (fun _ i _ => zs.length - (intOf i).toNat)
  case atStart => exact ⟨0, 0, Nat.zero_le _, rfl, rfl, rfl, 0, rfl⟩
  case round =>
    obtain ⟨k, y0, hk, rfl, rfl, hy, mm, rfl⟩ := hrel
    by_cases hlt : k < zs.length
    · obtain ⟨b, off, rfl, _, hc⟩ := HSL.out.2 (by omega)
      have hcell := hc k (zs.getD k 0) (by simp [hlt])
      clear hc
      have i3 : (0 : Int) ≤ (k : Int) := by omega
      have i4 : (k : Int) < (zs.length : Int) := by omega
      have hstep : mstTo (zs.map (cl .f32)) (k + 1) = mx (cl .f32 y0) (cl .f32 (zs.getD k 0)) := by
        show mx (mstTo (zs.map (cl .f32)) k) _ = _
        rw [← hy.out, ds_at _ _ _ 0 _ hlt]
      generalize zs.getD k 0 = x at *
      cases hf : flt (cl .f32 y0) (cl .f32 x)
      · have HST := Lib.hid (hstep.trans (by unfold mx; rw [hf]))
        clear hstep
        go_wp2_with (refine upon_fbin rfl _ _ _ _ ?_; intro z n hz hzw)
        go_roundw
        case rel => exact ⟨k + 1, y0, by omega, by go_num, rfl, HST.out.symm, by (first | exact ⟨_, rfl⟩ | exact ⟨0, rfl⟩ | exact ⟨_, World.drewN_drewN _ _ _⟩ | (simp only [World.drewN_drewN]; exact ⟨_, rfl⟩))⟩
        case measure => simp [intOf]; omega
      · have HST := Lib.hid (hstep.trans (by unfold mx; rw [hf]))
        clear hstep
        go_wp2_with (refine upon_fbin rfl _ _ _ _ ?_; intro z n hz hzw)
        go_roundw
        case rel => exact ⟨k + 1, x, by omega, by go_num, rfl, HST.out.symm, by (first | exact ⟨_, rfl⟩ | exact ⟨0, rfl⟩ | exact ⟨_, World.drewN_drewN _ _ _⟩ | (simp only [World.drewN_drewN]; exact ⟨_, rfl⟩))⟩
        case measure => simp [intOf]; omega
    · obtain rfl : k = zs.length := by omega
      cases hf : fin (meanD xs)
      · have HF := Lib.hid hf
        clear hf
        go_wp2_with (first | (go_at_call 41; refine (c_l04Mean _ _ _ K xs _ (Slc.drewN (g := Value.float .f32) HX2.out _) HMX.out).mono ?_; rintro e w' ⟨r, rfl, hr, hrf, ⟨nr, rfl⟩⟩; have hfr := HF.out; rw [← hr] at hfr; have HRR := Lib.hid hr; clear hr) | (go_at_call 42; refine (c_l01Finite _ _).mono ?_; rintro e w' ⟨rfl, nq, rfl⟩))
        go_ret2
        exact ⟨_, by rw [HO.out, HF.out]; rfl, by rw [HO.out, HF.out]; rfl, fits_zero, grew_trans hg (by (show Below _ _ _; (repeat (first | exact Below.refl _ _ | refine ext_below ?_ (by first | omega | (simp only [size_ext, heap_push, Array.size_push, World.heap_drewN]; omega) | (simp; omega)) _ _ | refine below_draws ?_ _ | refine Below.alloc ?_ (by first | omega | (simp; done) | (simp; omega)) _ | refine Below.setCell ?_ (by first | omega | (simp; done) | (simp; omega)) _ | refine below_then (by assumption) (by first | omega | (simp; done) | (simp; omega)) ?_))))⟩
      · have HF := Lib.hid hf
        clear hf
        go_wp2_with (first | (refine upon_fbin rfl _ _ _ _ ?_; intro z n hz hzw) | (go_at_call 41; refine (c_l04Mean _ _ _ K xs _ (Slc.drewN (g := Value.float .f32) HX2.out _) HMX.out).mono ?_; rintro e w' ⟨r, rfl, hr, hrf, ⟨nr, rfl⟩⟩; have hfr := HF.out; rw [← hr] at hfr; have HRR := Lib.hid hr; clear hr) | (go_at_call 42; refine (c_l01Finite _ _).mono ?_; rintro e w' ⟨rfl, nq, rfl⟩) | (go_at_call 43; refine (c_l02Number _ _).mono ?_; rintro e w' ⟨rfl, nq, rfl⟩))
        go_ret2
        have e : cl .f32 z = GD := by rw [HD.out, hz, hy.out, HRR.out, HM.out, hlz]
        exact ⟨chkW z, by rw [HO.out, HF.out, ← e, hz]; rfl, by rw [cl_chkW, e, HO.out, HF.out]; simp [chk, num], fits_chkW hzw, grew_trans hg (by (show Below _ _ _; (repeat (first | exact Below.refl _ _ | refine ext_below ?_ (by first | omega | (simp only [size_ext, heap_push, Array.size_push, World.heap_drewN]; omega) | (simp; omega)) _ _ | refine below_draws ?_ _ | refine Below.alloc ?_ (by first | omega | (simp; done) | (simp; omega)) _ | refine Below.setCell ?_ (by first | omega | (simp; done) | (simp; omega)) _ | refine below_then (by assumption) (by first | omega | (simp; done) | (simp; omega)) ?_))))⟩

end Go.Proofs.Ytebhefbpkcpnjaa
