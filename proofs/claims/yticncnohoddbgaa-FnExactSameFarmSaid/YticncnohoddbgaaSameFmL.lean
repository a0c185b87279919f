/-
  WALK: the law of SameFarm.
-/
import Derived.Test.YticncnohoddbgaaSameFm
namespace Go.Proofs.Yticncnohoddbgaa
open Go.RowKit Go.Flt
set_option linter.unusedVariables false
set_option maxRecDepth 100000
set_option linter.unusedSimpArgs false

set_option maxHeartbeats 4000000 in
theorem walk_SameFarm (A : Option Addr) (n c : Nat) (xs : List Nat) (B : Option Addr) (m e : Nat) (ys : List Nat) (r d s : Nat) (A' : Option Addr) (n' c' : Nat) (xs' : List Nat) (B' : Option Addr) (m' e' : Nat) (ys' : List Nat) (r' d' s' : Nat) (w : World)
    (hx : Slc (Value.float .f32) w w.heap.size A n xs) (hn : n ≤ maxLen) (fx : ∀ x ∈ xs, fits x) (hy : Slc (Value.float .f32) w w.heap.size B m ys) (hm : m ≤ maxLen) (fy : ∀ x ∈ ys, fits x) (f1 : fits r) (f2 : fits d) (f3 : fits s)
    (hx' : Slc (Value.float .f32) w w.heap.size A' n' xs') (hn' : n' ≤ maxLen) (fx' : ∀ x ∈ xs', fits x) (hy' : Slc (Value.float .f32) w w.heap.size B' m' ys') (hm' : m' ≤ maxLen) (fy' : ∀ x ∈ ys', fits x) (g1 : fits r') (g2 : fits d') (g3 : fits s') :
    Calls Try.prog 11 #[.agg #[.slice A n c, .slice B m e, .float .f32 r, .float .f32 d, .float .f32 s], .agg #[.slice A' n' c', .slice B' m' e', .float .f32 r', .float .f32 d', .float .f32 s']] w
      fun e w' => e = .returned (.bool true) ∧ Below w.heap.size w w' := by
  have SA := Lib.hid (fun w => c_szFarm' A B n c m e r d s 1048576 w hn hm (by omega) (by omega))
  by_cases h1 : ((n + m : Nat) : Int) ≤ 1048576
  · have SB := Lib.hid (fun w => c_szFarm' A' B' n' c' m' e' r' d' s' (1048576 - (n + m : Nat)) w hn' hm' (by omega) (by omega))
    rw [sz_ok h1] at SA
    generalize hz : (1048576 : Int) - ((n + m : Nat) : Int) = z at *
    have hz0 : decide (z < 0) = false := by simp; omega
    have W0 : Hid (Grew w ((w.alloc (.cells #[.slice A n c, .slice B m e, .float .f32 r, .float .f32 d, .float .f32 s] 57)).alloc (.cells #[.slice A' n' c', .slice B' m' e', .float .f32 r', .float .f32 d', .float .f32 s'] 57))) := by show Grew _ _; (show Below _ _ _; (repeat (first | exact Below.refl _ _ | refine ext_below ?_ (by first | omega | (simp only [size_ext, heap_push, Array.size_push, World.heap_drewN]; omega) | (simp; omega)) _ _ | refine below_draws ?_ _ | refine Below.alloc ?_ (by first | omega | (simp; done) | (simp; omega)) _ | refine Below.setCell ?_ (by first | omega | (simp; done) | (simp; omega)) _ | refine below_then (by assumption) (by first | omega | (simp; done) | (simp; omega)) ?_)))
    by_cases h2 : ((n' + m' : Nat) : Int) ≤ z
    · rw [sz_ok h2] at SB
      generalize hq : z - ((n' + m' : Nat) : Int) = y at *
      have hy0 : decide (y < 0) = false := by simp; omega
      obtain rfl := hx.1
      obtain rfl := hy.1
      obtain rfl := hx'.1
      obtain rfl := hy'.1
      have TA := Lib.hid (fun w' (hg : Grew w w') => c_toFarm A B _ c _ e r d s xs ys w' (Slc.mono (Slc.grew hx (Nat.le_refl _) hg) (Below.size hg)) (Slc.mono (Slc.grew hy (Nat.le_refl _) hg) (Below.size hg)) (by omega) (by omega))
      have TB := Lib.hid (fun w' (hg : Grew w w') => c_toFarm A' B' _ c' _ e' r' d' s' xs' ys' w' (Slc.mono (Slc.grew hx' (Nat.le_refl _) hg) (Below.size hg)) (Slc.mono (Slc.grew hy' (Nat.le_refl _) hg) (Below.size hg)) (by omega) (by omega))
      have CS := Lib.hid (fun lo hi lo' hi' v v' w h h' hs hs' => c_specSameFarm' lo hi lo' hi' v v' xs ys xs' ys' r d s r' d' s' w h h' hs hs' (by omega) (by omega) (by omega) (by omega) fx fy fx' fy' f1 f2 f3 g1 g2 g3)
      have CI := Lib.hid (fun lo hi lo' hi' v v' w h h' hs hs' => c_implSameFarm' lo hi lo' hi' v v' xs ys xs' ys' r d s r' d' s' w h h' hs hs' (by omega) (by omega) (by omega) (by omega) fx fy fx' fy' f1 f2 f3 g1 g2 g3)
      have l1 : Hid (xs.length ≤ 1048576) := by show _ ≤ _; omega
      have l2 : Hid (ys.length ≤ 1048576) := by show _ ≤ _; omega
      have l3 : Hid (xs'.length ≤ 1048576) := by show _ ≤ _; omega
      have l4 : Hid (ys'.length ≤ 1048576) := by show _ ≤ _; omega
      generalize sameFm xs ys r d s xs' ys' r' d' s' = S at CS CI
      clear hx hy hx' hy' fx fy fx' fy' f1 f2 f3 g1 g2 g3 h1 h2 hz hq hn hm hn' hm'
      go_enter Try.func11, Try.ntmps11
      go_wp2_with fail
      refine (SA.out _).mono ?_
      rintro e1 w1 ⟨rfl, hg1⟩
      have G1 := Lib.hid (grew_trans W0.out hg1)
      have A1 := Lib.hid (FmAt.grew (b := w.heap.size) (X := .slice A xs.length c) (Y := .slice B ys.length e) (r := r) (d := d) (s := s) (by unfold FmAt; simp) (by simp; omega) hg1)
      have B1 := Lib.hid (FmAt.grew (b := w.heap.size + 1) (X := .slice A' xs'.length c') (Y := .slice B' ys'.length e') (r := r') (d := d') (s := s') (by unfold FmAt; simp) (by simp) hg1)
      have z1 : Hid (w.heap.size + 1 < w1.heap.size) := by have := Below.size hg1; simp at this; show _ < _; omega
      clear hg1 W0
      obtain ⟨b0, b1, b2, b3, b4⟩ := B1.out
      go_wp2_with fail
      refine (SB.out _).mono ?_
      rintro e2 w2 ⟨rfl, hg2⟩
      clear b0 b1 b2 b3 b4
      have G2 := Lib.hid (grew_trans G1.out hg2)
      have A2 := Lib.hid (A1.out.grew (by have := z1.out; omega) hg2)
      have B2 := Lib.hid (B1.out.grew (by have := z1.out; omega) hg2)
      have z2 : Hid (w.heap.size + 1 < w2.heap.size) := by have := Below.size hg2; have := z1.out; show _ < _; omega
      clear hg2 A1 B1 z1 G1 SA SB
      obtain ⟨a0, a1, a2, a3, a4⟩ := A2.out
      obtain ⟨b0, b1, b2, b3, b4⟩ := B2.out
      have zz := z2.out
      have zy : w.heap.size < w2.heap.size := by omega
      go_wp2_with fail
      try simp only [List.append_eq, List.cons_append, List.nil_append]
      refine wp_region_grow [21, 23] [(21, FarmBy w2.heap.size xs ys r d s), (23, FarmBy w2.heap.size xs' ys' r' d' s'), (24, Is (.bool S))] (by kernel_rfl) (by kernel_rfl) (by kernel_rfl) (by kernel_rfl) ?_
      repeat (first | (refine wpG_skip rfl ?_; try go_simp) | (refine wpG_want rfl (fun K hK => ?_); first | (refine gG_fbin rfl rfl _ _ _ rfl rfl rfl ?_; intro z hz hzw; go_simp; refine hK _ ?_; clear hK K) | (intro wq hq hp; obtain ⟨hqc, hqf⟩ := bcell hq; go_simp; first | (refine hK _ ?_; clear hK K; try clear hp; try clear hqc hqf; try clear hq; try clear wq) | ((with_reducible refine g_at 39 (args := #[.agg #[.slice A xs.length c, .slice B ys.length e, .float .f32 r, .float .f32 d, .float .f32 s]]) ?_); refine ⟨(TA.out wq (grew_trans G2.out hq)).mono fun e w3 ⟨v, he, h, hg⟩ => ⟨v, he, ⟨_, Below.size hq, h⟩, hg⟩, ?_⟩; rintro v w3 hg3 hfa; refine hK _ ?_; clear hK K; try clear hp; try clear hqc hqf; try clear hq; try clear wq) | ((with_reducible refine g_at 39 (args := #[.agg #[.slice A' xs'.length c', .slice B' ys'.length e', .float .f32 r', .float .f32 d', .float .f32 s']]) ?_); refine ⟨(TB.out wq (grew_trans G2.out hq)).mono fun e w3 ⟨v, he, h, hg⟩ => ⟨v, he, ⟨_, Below.size hq, h⟩, hg⟩, ?_⟩; rintro v w3 hg3 hfb; refine hK _ ?_; clear hK K; try clear hp; try clear hqc hqf; try clear hq; try clear wq) | ((with_reducible refine g_at 38 ?_); obtain ⟨lo, hi, _, hs, h1⟩ := FarmBy.get (hp 21 (by simp) (by decide)) hfa.ne rfl; obtain ⟨lo', hi', _, hs', h2⟩ := FarmBy.get (hp 23 (by simp) (by decide)) hfb.ne rfl; refine ⟨(CS.out lo hi lo' hi' _ _ wq h1 h2 hs hs').mono fun e w3 ⟨he, hg⟩ => ⟨_, he, rfl, hg⟩, ?_⟩; rintro v w3 hg3 rfl; refine hK _ ?_; clear hK K; try clear hp; try clear hqc hqf; try clear hq; try clear wq))))
      refine wpG_nil ?_
      intro wq hq hal
      obtain ⟨hqc, hqf⟩ := bcell hq
      have hqs := Below.size hq
      try simp at hqs
      clear hqc hqf hal a0 a1 a2 a3 a4 b0 b1 b2 b3 b4
      have G3 := Lib.hid (grew_trans G2.out hq)
      have A3 := Lib.hid (A2.out.grew zy hq)
      have B3 := Lib.hid (B2.out.grew zz hq)
      have z3 : w.heap.size + 1 < wq.heap.size := by omega
      clear hq hqs zy zz z2 A2 B2 G2
      obtain ⟨a0, a1, a2, a3, a4⟩ := A3.out
      go_wp2_with fail
      refine (TA.out _ G3.out).mono ?_
      rintro e4 w4 ⟨v4, rfl, hf4, hg4⟩
      clear a0 a1 a2 a3 a4
      have G4 := Lib.hid (grew_trans G3.out hg4)
      have A4 := Lib.hid (A3.out.grew (by omega) hg4)
      have B4 := Lib.hid (B3.out.grew z3 hg4)
      have F4 := Lib.hid hf4
      have z4 : w.heap.size + 1 < w4.heap.size := by have := Below.size hg4; omega
      obtain ⟨X4, x4, Y4, y4, rfl, _, _⟩ := hf4.parts
      clear hg4 hf4 z3 A3 B3 G3
      obtain ⟨b0, b1, b2, b3, b4⟩ := B4.out
      go_wp2_with fail
      have hal4 : Grew w4 (w4.alloc (.cells #[.slice X4 xs.length x4, .slice Y4 ys.length y4, .float .f32 r, .float .f32 d, .float .f32 s] 60)) := Below.alloc (Below.refl _ _) (Nat.le_refl _) _
      refine (TB.out _ (grew_trans G4.out hal4)).mono ?_
      rintro e5 w5 ⟨v5, rfl, hf5, hg5⟩
      clear b0 b1 b2 b3 b4
      have h45 := grew_trans hal4 hg5
      have P5 := Lib.hid (FmAt.grew (b := w4.heap.size) (X := .slice X4 xs.length x4) (Y := .slice Y4 ys.length y4) (r := r) (d := d) (s := s) (by unfold FmAt; simp) (by simp) hg5)
      have G5 := Lib.hid (grew_trans G4.out h45)
      have A5 := Lib.hid (A4.out.grew (by omega) h45)
      have B5 := Lib.hid (B4.out.grew z4 h45)
      have F5 := Lib.hid (F4.out.grew (Nat.le_refl _) h45)
      have E5 := Lib.hid hf5
      have z5 : w4.heap.size < w5.heap.size := by have := Below.size hg5; simp at this; omega
      obtain ⟨X5, x5, Y5, y5, rfl, _, _⟩ := hf5.parts
      clear hg5 hf5 A4 B4 G4 F4 h45 hal4
      obtain ⟨p0, p1, p2, p3, p4⟩ := P5.out
      go_wp2_with fail
      have hal5 : Grew w5 (w5.alloc (.cells #[.slice X5 xs'.length x5, .slice Y5 ys'.length y5, .float .f32 r', .float .f32 d', .float .f32 s'] 60)) := Below.alloc (Below.refl _ _) (Nat.le_refl _) _
      refine (CI.out _ _ _ _ _ _ _ (F5.out.grew (Nat.le_of_lt z5) hal5) (E5.out.grew (Nat.le_refl _) hal5) (by simp; omega) (by simp)).mono ?_
      rintro e6 w6 ⟨rfl, hg6⟩
      clear p0 p1 p2 p3 p4
      have h56 := grew_trans hal5 hg6
      have P6 := Lib.hid (P5.out.grew z5 h56)
      have Q6 := Lib.hid (FmAt.grew (b := w5.heap.size) (X := .slice X5 xs'.length x5) (Y := .slice Y5 ys'.length y5) (r := r') (d := d') (s := s') (by unfold FmAt; simp) (by simp) hg6)
      have G6 := Lib.hid (grew_trans G5.out h56)
      have A6 := Lib.hid (A5.out.grew (by omega) h56)
      have B6 := Lib.hid (B5.out.grew (by omega) h56)
      have F6 := Lib.hid (F5.out.grew (Nat.le_of_lt z5) h56)
      have E6 := Lib.hid (E5.out.grew (Nat.le_refl _) h56)
      have z6 : w5.heap.size < w6.heap.size := by have := Below.size hg6; simp at this; omega
      clear hg6 h56 hal5 A5 B5 F5 E5 P5 G5 CI CS
      obtain ⟨a0, a1, a2, a3, a4⟩ := A6.out
      obtain ⟨p0, p1, p2, p3, p4⟩ := P6.out
      have zz : w.heap.size < w6.heap.size := by omega
      have zy : w4.heap.size < w6.heap.size := by omega
      go_wp2_with fail
      try simp only [List.append_eq, List.cons_append, List.nil_append]
      refine wp_region_grow [37] [(37, FarmBy w6.heap.size xs ys r d s), (38, Is (.bool true))] (by kernel_rfl) (by kernel_rfl) (by kernel_rfl) (by kernel_rfl) ?_
      repeat (first | (refine wpG_skip rfl ?_; try go_simp) | (refine wpG_want rfl (fun K hK => ?_); first | (refine gG_fbin rfl rfl _ _ _ rfl rfl rfl ?_; intro z hz hzw; go_simp; refine hK _ ?_; clear hK K) | (intro wq hq hp; obtain ⟨hqc, hqf⟩ := bcell hq; go_simp; first | (refine hK _ ?_; clear hK K; try clear hp; try clear hqc hqf; try clear hq; try clear wq) | ((with_reducible refine g_at 39 ?_); refine ⟨(TA.out wq (grew_trans G6.out hq)).mono fun e w3 ⟨v, he, h, hg⟩ => ⟨v, he, ⟨_, Below.size hq, h⟩, hg⟩, ?_⟩; rintro v w3 hg3 hfa; refine hK _ ?_; clear hK K; try clear hp; try clear hqc hqf; try clear hq; try clear wq) | ((with_reducible refine g_at 41 ?_); obtain ⟨lo, hi, _, hs, h1⟩ := FarmBy.get (hp 37 (by simp) (by decide)) hfa.ne rfl; refine ⟨(c_eqFarm _ _ lo hi _ _ xs ys xs ys r d s r d s wq (F6.out.grew (by omega) hq) h1 rfl rfl rfl rfl rfl l1.out l2.out).mono fun e w3 ⟨he, hg⟩ => ⟨_, he, rfl, hg⟩, ?_⟩; rintro v w3 hg3 rfl; refine hK _ ?_; clear hK K; try clear hp; try clear hqc hqf; try clear hq; try clear wq))))
      refine wpG_nil ?_
      intro wq hq hal
      obtain ⟨hqc, hqf⟩ := bcell hq
      have hqs := Below.size hq
      try simp at hqs
      clear hqc hqf hal a0 a1 a2 a3 a4 p0 p1 p2 p3 p4
      have G7 := Lib.hid (grew_trans G6.out hq)
      have B7 := Lib.hid (B6.out.grew (by omega) hq)
      have Q7 := Lib.hid (Q6.out.grew z6 hq)
      have E7 := Lib.hid (E6.out.grew (Nat.le_of_lt z6) hq)
      have u7 : w.heap.size + 1 < wq.heap.size := by omega
      have v7 : w5.heap.size < wq.heap.size := by omega
      have x7 : w5.heap.size ≤ wq.heap.size := by omega
      clear zz zy z6 z5 z4 hq hqs G6 A6 B6 F6 E6 P6 Q6
      obtain ⟨b0, b1, b2, b3, b4⟩ := B7.out
      obtain ⟨p0, p1, p2, p3, p4⟩ := Q7.out
      go_wp2_with fail
      try simp only [List.append_eq, List.cons_append, List.nil_append]
      refine wp_region_grow [42] [(42, FarmBy wq.heap.size xs' ys' r' d' s'), (43, Is (.bool true))] (by kernel_rfl) (by kernel_rfl) (by kernel_rfl) (by kernel_rfl) ?_
      repeat (first | (refine wpG_skip rfl ?_; try go_simp) | (refine wpG_want rfl (fun K hK => ?_); first | (refine gG_fbin rfl rfl _ _ _ rfl rfl rfl ?_; intro z hz hzw; go_simp; refine hK _ ?_; clear hK K) | (intro wq hq hp; obtain ⟨hqc, hqf⟩ := bcell hq; go_simp; first | (refine hK _ ?_; clear hK K; try clear hp; try clear hqc hqf; try clear hq; try clear wq) | ((with_reducible refine g_at 39 ?_); refine ⟨(TB.out _ (grew_trans G7.out hq)).mono fun e w3 ⟨v, he, h, hg⟩ => ⟨v, he, ⟨_, Below.size hq, h⟩, hg⟩, ?_⟩; rintro v w3 hg3 hfa; refine hK _ ?_; clear hK K; try clear hp; try clear hqc hqf; try clear hq; try clear wq) | ((with_reducible refine g_at 41 ?_); obtain ⟨lo, hi, _, hs, h1⟩ := FarmBy.get (hp 42 (by simp) (by decide)) hfa.ne rfl; refine ⟨(c_eqFarm _ _ lo hi _ _ xs' ys' xs' ys' r' d' s' r' d' s' _ (E7.out.grew x7 hq) h1 rfl rfl rfl rfl rfl l3.out l4.out).mono fun e w3 ⟨he, hg⟩ => ⟨_, he, rfl, hg⟩, ?_⟩; rintro v w3 hg3 rfl; refine hK _ ?_; clear hK K; try clear hp; try clear hqc hqf; try clear hq; try clear wq))))
      refine wpG_nil ?_
      intro wq hq hal
      obtain ⟨hqc, hqf⟩ := bcell hq
      have hqs := Below.size hq
      try simp at hqs
      have G8 := Lib.hid (grew_trans G7.out hq)
      clear hqc hqf hal b0 b1 b2 b3 b4 p0 p1 p2 p3 p4 u7 v7 x7 hq hqs
      go_wp2_with fail
      go_ret
      exact ⟨rfl, G8.out⟩
    · rw [sz_no h2] at SB
      go_enter Try.func11, Try.ntmps11
      go_wp2_with fail
      refine (SA.out _).mono ?_
      rintro e1 w1 ⟨rfl, hg1⟩
      have G1 := Lib.hid (grew_trans W0.out hg1)
      have B1 := Lib.hid (FmAt.grew (b := w.heap.size + 1) (X := .slice A' n' c') (Y := .slice B' m' e') (r := r') (d := d') (s := s') (by unfold FmAt; simp) (by simp) hg1)
      clear hg1 W0
      obtain ⟨b0, b1, b2, b3, b4⟩ := B1.out
      go_wp2_with fail
      refine (SB.out _).mono ?_
      rintro e2 w2 ⟨rfl, hg2⟩
      clear b0 b1 b2 b3 b4
      go_wp2_with fail
      go_ret
      exact ⟨rfl, grew_trans G1.out hg2⟩
  · rw [sz_no h1] at SA
    go_enter Try.func11, Try.ntmps11
    go_wp2_with fail
    refine (SA.out _).mono ?_
    rintro e1 w1 ⟨rfl, hg1⟩
    go_wp2_with fail
    go_ret
    exact ⟨rfl, by (show Below _ _ _; (repeat (first | exact Below.refl _ _ | refine ext_below ?_ (by first | omega | (simp only [size_ext, heap_push, Array.size_push, World.heap_drewN]; omega) | (simp; omega)) _ _ | refine below_draws ?_ _ | refine Below.alloc ?_ (by first | omega | (simp; done) | (simp; omega)) _ | refine Below.setCell ?_ (by first | omega | (simp; done) | (simp; omega)) _ | refine below_then (by assumption) (by first | omega | (simp; done) | (simp; omega)) ?_)))⟩

end Go.Proofs.Yticncnohoddbgaa
