/-
  CONTRACTS: gusts, in the program.
-/
import Derived.Test.YtebhefbpkcpnjaaGustF
namespace Go.Proofs.Ytebhefbpkcpnjaa
open Go.RowKit Go.Flt
set_option linter.unusedVariables false
set_option maxRecDepth 100000
set_option linter.unusedSimpArgs false

set_option maxHeartbeats 2000000 in
theorem c_implGust (A : Option Addr) (n cap K : Nat) (xs : List Nat) (q : Int) (w : World) (h : Fl w K A n xs) (hK : K ≤ w.heap.size) (hn : n ≤ 1048576) (hcap : n ≤ cap) (hc2 : cap ≤ 9223372036854775807) :
    Calls Try.prog 13 #[.slice A n cap, .int .i64 q] w (RetFB (num (gOk xs q) (gD xs q)) (gOk xs q && fin (gD xs q)) (Grew w)) := by
  obtain rfl := h.1
  have HS := Lib.hid h
  have HX := Lib.hid (fun w1 (hg1 : Grew w w1) => Slc.grew (g := Value.float .f32) (w' := w1) h hK hg1)
  have HMX := Lib.hid (show xs.length ≤ maxLen by unfold maxLen; omega)
  clear h
  have hme := fun w1 (hg1 : Grew w w1) => c_MeanOfWinds A _ cap K xs w1 (HX.out _ hg1) HMX.out
  cases ho : okSm xs q
  · have HO := Lib.hid (show gOk xs q = false by simp [gOk, ho])
    obtain ⟨b2, hb2⟩ : ∃ b, (winds xs && fin (meanD xs)) = b := ⟨_, rfl⟩
    rw [hb2] at hme
    have HME := Lib.hid hme
    clear hme hb2
    go_enter Try.func13, Try.ntmps13
    go_wp2_with (first | (go_at_call 44; refine (c_implSmooth _ _ _ K xs q _ HS.out hK hn hcap hc2).mono ?_; rintro e w' ⟨v, zs, rfl, hr, hm, hg⟩; have HM := Lib.hid hm; have HR := Lib.hid hr; clear hm hr) | (go_at_call 45; refine (HME.out _ hg).mono ?_; rintro e w2 ⟨r, rfl, hr2, hrf, nq, rfl⟩; have HR2 := Lib.hid hr2; clear hr2))
    go_ret2
    refine ⟨0, ?_, ?_, fits_zero, ?_⟩
    · rw [HO.out, Bool.false_and]; rfl
    · rw [HO.out, num, Bool.false_and]; rfl
    · exact grew_trans hg (by (show Below _ _ _; (repeat (first | exact Below.refl _ _ | refine ext_below ?_ (by first | omega | (simp only [size_ext, heap_push, Array.size_push, World.heap_drewN]; omega) | (simp; omega)) _ _ | refine below_draws ?_ _ | refine Below.alloc ?_ (by first | omega | (simp; done) | (simp; omega)) _ | refine Below.setCell ?_ (by first | omega | (simp; done) | (simp; omega)) _ | refine below_then (by assumption) (by first | omega | (simp; done) | (simp; omega)) ?_))))
  have hgd := smL_good ho hn
  obtain ⟨m, rfl, h1, h2, hw, ha, hs, e⟩ := okSm_parts ho
  clear h1 h2 ha hs e
  have HW := Lib.hid hw
  have HG := Lib.hid hgd
  clear hgd
  have hb : (winds xs && fin (meanD xs)) = fin (meanD xs) := by rw [hw]; rfl
  cases hf : fin (meanD xs)
  · have HO := Lib.hid (show gOk xs m = false by simp [gOk, ho, hf])
    rw [hb.trans hf] at hme
    have HME := Lib.hid hme
    clear hme hb
    go_enter Try.func13, Try.ntmps13
    clear hw hf
    go_wp2_with (first | (go_at_call 44; refine (c_implSmooth _ _ _ K xs m _ HS.out hK hn hcap hc2).mono ?_; rintro e w' ⟨v, zs, rfl, hr, hm, hg⟩; have HM := Lib.hid hm; have HR := Lib.hid hr; clear hm hr) | (go_at_call 45; refine (HME.out _ hg).mono ?_; rintro e w2 ⟨r, rfl, hr2, hrf, nq, rfl⟩; have HR2 := Lib.hid hr2; clear hr2))
    go_ret2
    refine ⟨0, ?_, ?_, fits_zero, ?_⟩
    · rw [HO.out, Bool.false_and]; rfl
    · rw [HO.out, num, Bool.false_and]; rfl
    · exact grew_trans hg (by (show Below _ _ _; (repeat (first | exact Below.refl _ _ | refine ext_below ?_ (by first | omega | (simp only [size_ext, heap_push, Array.size_push, World.heap_drewN]; omega) | (simp; omega)) _ _ | refine below_draws ?_ _ | refine Below.alloc ?_ (by first | omega | (simp; done) | (simp; omega)) _ | refine Below.setCell ?_ (by first | omega | (simp; done) | (simp; omega)) _ | refine below_then (by assumption) (by first | omega | (simp; done) | (simp; omega)) ?_))))
  have hO : gOk xs m = true := by simp [gOk, ho, hf]
  have HN := Lib.hid (show num (winds xs) (meanD xs) = meanD xs by simp [num, hw, hf])
  have HO := Lib.hid hO
  have HD := Lib.hid (show gD xs m = fop .quo .f32 (mstTo (smL xs m) (smL xs m).length) (meanD xs) from rfl)
  rw [hb.trans hf] at hme
  have HME := Lib.hid hme
  clear hme hb hO hw hf
  generalize gD xs m = GD at *
  go_enter Try.func13, Try.ntmps13
  go_wp2_with (first | (refine upon_fbin rfl _ _ _ _ ?_; intro z n hz hzw) | (go_at_call 44; refine (c_implSmooth _ _ _ K xs m _ HS.out hK hn hcap hc2).mono ?_; rintro e w' ⟨v, zs, rfl, hr, hm, hg⟩; have HLZ := Lib.hid (len_of_map hm); obtain ⟨A', c', rfl, hsl⟩ := hr.slc; have HM := Lib.hid hm; have HR := Lib.hid hr; have HSL := Lib.hid hsl; clear hm hr hsl) | (go_at_call 45; refine (HME.out _ hg).mono ?_; rintro e w2 ⟨r, rfl, hr2, hrf, nq, rfl⟩; have HR2 := Lib.hid (hr2.trans HN.out); clear hr2) | (go_at_call 47; refine (c_MaxF _ _ _ _ zs _ (Slc.drewN (g := Value.float .f32) HSL.out _) (by rw [HLZ.out]; exact HG.out.1) (by rw [HLZ.out]; exact HG.out.2.1) (zs_good HM.out HG.out.2.2)).mono ?_; rintro e w' ⟨rm, rfl, hrm, nm, rfl⟩; have HRM := Lib.hid hrm; clear hrm) | (go_at_call 46; refine (c_checked _ _).mono ?_; rintro e w' ⟨rfl, nq, rfl⟩))
  go_ret2
  have e : cl .f32 z = GD := by rw [HD.out, hz, HRM.out, HR2.out, HM.out, HLZ.out]
  exact ⟨chkW z, by rw [HO.out, ← e, hz]; rfl, by rw [cl_chkW, e, HO.out]; simp [chk, num], fits_chkW hzw, grew_trans hg (by (show Below _ _ _; (repeat (first | exact Below.refl _ _ | refine ext_below ?_ (by first | omega | (simp only [size_ext, heap_push, Array.size_push, World.heap_drewN]; omega) | (simp; omega)) _ _ | refine below_draws ?_ _ | refine Below.alloc ?_ (by first | omega | (simp; done) | (simp; omega)) _ | refine Below.setCell ?_ (by first | omega | (simp; done) | (simp; omega)) _ | refine below_then (by assumption) (by first | omega | (simp; done) | (simp; omega)) ?_))))⟩

end Go.Proofs.Ytebhefbpkcpnjaa
