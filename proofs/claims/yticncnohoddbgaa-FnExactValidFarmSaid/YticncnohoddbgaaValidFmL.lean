/-
  WALK: the law of ValidFarm.
-/
import Derived.Test.YticncnohoddbgaaValidFm
namespace Go.Proofs.Yticncnohoddbgaa
open Go.RowKit Go.Flt
set_option linter.unusedVariables false
set_option maxRecDepth 100000
set_option linter.unusedSimpArgs false

set_option maxHeartbeats 4000000 in
theorem walk_ValidFarm (A : Option Addr) (n c : Nat) (xs : List Nat) (B : Option Addr) (m e : Nat) (ys : List Nat) (r d s : Nat) (w : World)
    (hx : Slc (Value.float .f32) w w.heap.size A n xs) (hn : n ≤ maxLen) (fx : ∀ x ∈ xs, fits x) (hy : Slc (Value.float .f32) w w.heap.size B m ys) (hm : m ≤ maxLen) (fy : ∀ x ∈ ys, fits x) (f1 : fits r) (f2 : fits d) (f3 : fits s) :
    Calls Try.prog 12 #[.agg #[.slice A n c, .slice B m e, .float .f32 r, .float .f32 d, .float .f32 s]] w
      fun e w' => e = .returned (.bool true) ∧ Below w.heap.size w w' := by
  have SA := Lib.hid (fun w => c_szFarm' A B n c m e r d s 1048576 w hn hm (by omega) (by omega))
  by_cases h1 : ((n + m : Nat) : Int) ≤ 1048576
  · rw [sz_ok h1] at SA
    generalize hz : (1048576 : Int) - ((n + m : Nat) : Int) = z at *
    have hz0 : decide (z < 0) = false := by simp; omega
    have W0 : Hid (Grew w (w.alloc (.cells #[.slice A n c, .slice B m e, .float .f32 r, .float .f32 d, .float .f32 s] 57))) := by show Grew _ _; (show Below _ _ _; (repeat (first | exact Below.refl _ _ | refine ext_below ?_ (by first | omega | (simp only [size_ext, heap_push, Array.size_push, World.heap_drewN]; omega) | (simp; omega)) _ _ | refine below_draws ?_ _ | refine Below.alloc ?_ (by first | omega | (simp; done) | (simp; omega)) _ | refine Below.setCell ?_ (by first | omega | (simp; done) | (simp; omega)) _ | refine below_then (by assumption) (by first | omega | (simp; done) | (simp; omega)) ?_)))
    obtain rfl := hx.1
    obtain rfl := hy.1
    have TA := Lib.hid (fun w' (hg : Grew w w') => c_toFarm A B _ c _ e r d s xs ys w' (Slc.mono (Slc.grew hx (Nat.le_refl _) hg) (Below.size hg)) (Slc.mono (Slc.grew hy (Nat.le_refl _) hg) (Below.size hg)) (by omega) (by omega))
    have CS := Lib.hid (fun lo hi v w h hs => c_specValidFarm' lo hi v xs ys r d s w h hs (by omega) (by omega))
    have CI := Lib.hid (fun lo hi v w h hs => c_implValidFarm' lo hi v xs ys r d s w h hs)
    have l1 : Hid (xs.length ≤ 1048576) := by show _ ≤ _; omega
    have l2 : Hid (ys.length ≤ 1048576) := by show _ ≤ _; omega
    generalize vFarm xs ys r d s = S at CS CI
    clear hx hy fx fy f1 f2 f3 h1 hz hn hm
    go_enter Try.func12, Try.ntmps12
    go_wp2_with fail
    refine (SA.out _).mono ?_
    rintro e1 w1 ⟨rfl, hg1⟩
    have G1 := Lib.hid (grew_trans W0.out hg1)
    have A1 := Lib.hid (FmAt.grew (b := w.heap.size) (X := .slice A xs.length c) (Y := .slice B ys.length e) (r := r) (d := d) (s := s) (by unfold FmAt; simp) (by simp) hg1)
    have z1 : w.heap.size < w1.heap.size := by have := Below.size hg1; simp at this; omega
    clear hg1 W0
    obtain ⟨a0, a1, a2, a3, a4⟩ := A1.out
    go_wp2_with fail
    refine (TA.out _ G1.out).mono ?_
    rintro e2 w2 ⟨v2, rfl, hf2, hg2⟩
    go_wp2_with fail
    refine (CS.out _ _ _ _ hf2 (Nat.le_refl _)).mono ?_
    rintro e3 w3 ⟨rfl, hg3⟩
    clear a0 a1 a2 a3 a4
    have h13 := grew_trans hg2 hg3
    have G3 := Lib.hid (grew_trans G1.out h13)
    have A3 := Lib.hid (A1.out.grew z1 h13)
    have z3 : w.heap.size < w3.heap.size := by have := Below.size h13; omega
    clear hg2 hg3 h13 hf2 A1 z1 G1
    obtain ⟨a0, a1, a2, a3, a4⟩ := A3.out
    go_wp2_with fail
    refine (TA.out _ G3.out).mono ?_
    rintro e4 w4 ⟨v4, rfl, hf4, hg4⟩
    clear a0 a1 a2 a3 a4
    have G4 := Lib.hid (grew_trans G3.out hg4)
    have A4 := Lib.hid (A3.out.grew z3 hg4)
    have F4 := Lib.hid hf4
    have z4 : w.heap.size < w4.heap.size := by have := Below.size hg4; omega
    obtain ⟨X4, x4, Y4, y4, rfl, _, _⟩ := hf4.parts
    clear hg4 hf4 z3 A3 G3
    go_wp2_with fail
    have hal4 : Grew w4 (w4.alloc (.cells #[.slice X4 xs.length x4, .slice Y4 ys.length y4, .float .f32 r, .float .f32 d, .float .f32 s] 60)) := Below.alloc (Below.refl _ _) (Nat.le_refl _) _
    refine (CI.out _ _ _ _ (F4.out.grew (Nat.le_refl _) hal4) (by simp)).mono ?_
    rintro e6 w6 ⟨rfl, hg6⟩
    have h46 := grew_trans hal4 hg6
    have P6 := Lib.hid (FmAt.grew (b := w4.heap.size) (X := .slice X4 xs.length x4) (Y := .slice Y4 ys.length y4) (r := r) (d := d) (s := s) (by unfold FmAt; simp) (by simp) hg6)
    have G6 := Lib.hid (grew_trans G4.out h46)
    have A6 := Lib.hid (A4.out.grew z4 h46)
    have F6 := Lib.hid (F4.out.grew (Nat.le_refl _) h46)
    have z6 : w4.heap.size < w6.heap.size := by have := Below.size hg6; simp at this; omega
    clear hg6 h46 hal4 A4 F4 G4
    obtain ⟨a0, a1, a2, a3, a4⟩ := A6.out
    obtain ⟨p0, p1, p2, p3, p4⟩ := P6.out
    have zz : w.heap.size < w6.heap.size := by omega
    go_wp2_with fail
    try simp only [List.append_eq, List.cons_append, List.nil_append]
    refine wp_region_grow [24] [(24, FarmBy w6.heap.size xs ys r d s), (25, Is (.bool true))] (by kernel_rfl) (by kernel_rfl) (by kernel_rfl) (by kernel_rfl) ?_
    repeat (first | (refine wpG_skip rfl ?_; try go_simp) | (refine wpG_want rfl (fun K hK => ?_); first | (refine gG_fbin rfl rfl _ _ _ rfl rfl rfl ?_; intro z hz hzw; go_simp; refine hK _ ?_; clear hK K) | (intro wq hq hp; obtain ⟨hqc, hqf⟩ := bcell hq; go_simp; first | (refine hK _ ?_; clear hK K; try clear hp; try clear hqc hqf; try clear hq; try clear wq) | ((with_reducible refine g_at 39 ?_); refine ⟨(TA.out wq (grew_trans G6.out hq)).mono fun e w3 ⟨v, he, h, hg⟩ => ⟨v, he, ⟨_, Below.size hq, h⟩, hg⟩, ?_⟩; rintro v w3 hg3 hfa; refine hK _ ?_; clear hK K; try clear hp; try clear hqc hqf; try clear hq; try clear wq) | ((with_reducible refine g_at 41 ?_); obtain ⟨lo, hi, _, hs, h1⟩ := FarmBy.get (hp 24 (by simp) (by decide)) hfa.ne rfl; refine ⟨(c_eqFarm _ _ lo hi _ _ xs ys xs ys r d s r d s wq (F6.out.grew (by omega) hq) h1 rfl rfl rfl rfl rfl l1.out l2.out).mono fun e w3 ⟨he, hg⟩ => ⟨_, he, rfl, hg⟩, ?_⟩; rintro v w3 hg3 rfl; refine hK _ ?_; clear hK K; try clear hp; try clear hqc hqf; try clear hq; try clear wq))))
    refine wpG_nil ?_
    intro wq hq hal
    obtain ⟨hqc, hqf⟩ := bcell hq
    have hqs := Below.size hq
    try simp at hqs
    have G7 := Lib.hid (grew_trans G6.out hq)
    clear hqc hqf hal a0 a1 a2 a3 a4 p0 p1 p2 p3 p4
    go_wp2_with fail
    go_ret
    exact ⟨rfl, G7.out⟩
  · rw [sz_no h1] at SA
    go_enter Try.func12, Try.ntmps12
    go_wp2_with fail
    refine (SA.out _).mono ?_
    rintro e1 w1 ⟨rfl, hg1⟩
    go_wp2_with fail
    go_ret
    exact ⟨rfl, by (show Below _ _ _; (repeat (first | exact Below.refl _ _ | refine ext_below ?_ (by first | omega | (simp only [size_ext, heap_push, Array.size_push, World.heap_drewN]; omega) | (simp; omega)) _ _ | refine below_draws ?_ _ | refine Below.alloc ?_ (by first | omega | (simp; done) | (simp; omega)) _ | refine Below.setCell ?_ (by first | omega | (simp; done) | (simp; omega)) _ | refine below_then (by assumption) (by first | omega | (simp; done) | (simp; omega)) ?_)))⟩

end Go.Proofs.Yticncnohoddbgaa
