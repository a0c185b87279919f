/-
  CONTRACTS: a farm that shares no memory with another one; whether there is a rotor.
-/
import Derived.Deep.Cut
import Derived.Test.YtlakmogclcpgdaaConcatMg
import Derived.Test.YtlakmogclcpgdaaSumMg
import Derived.Test.YtlakmogclcpgdaaLedRMg
namespace Go.Proofs.Ytlakmogclcpgdaa
open Go.RowKit Go.Flt
set_option linter.unusedVariables false
set_option maxRecDepth 100000
set_option linter.unusedSimpArgs false

/-- A result's box for a farm, made behind block B. -/
def BoxFBy (B : Nat) (v : Value) (w' : World) : Prop := ∃ b, v = .pointer (some ⟨b, 0, none⟩) ∧ B ≤ b ∧ b < w'.heap.size ∧ BoxF w' b

theorem boxFBy_new {B : Nat} {w : World} (hB : B ≤ w.heap.size) : BoxFBy B (.pointer (some ⟨w.heap.size, 0, none⟩)) (w.alloc (.cells #[.slice none 0 0, .slice none 0 0, .float .f32 0, .float .f32 0, .float .f32 0] 25)) :=
  ⟨_, rfl, hB, by simp, ⟨by unfold FmAt; simp, fun o => by simp [go_sem]⟩⟩

theorem BoxFBy.get {F : List (Tmp × (Value → World → World → Prop))} {w0 w' : World} {k : Tmp} {u : Value} {B : Nat} (h : Lasts F w0 k u w') (hu : u ≠ undef) (e : tabF F k = some (W2 (BoxFBy B))) :
    ∃ b, u = .pointer (some ⟨b, 0, none⟩) ∧ B ≤ b ∧ b < w'.heap.size ∧ BoxF w' b := by
  obtain ⟨_, w3, _, h1, h2, h3⟩ := h.get hu
  rw [ofOp_some, e] at h3
  obtain ⟨b, e1, e2, e3, e4⟩ := h3
  exact ⟨b, e1, e2, Nat.lt_of_lt_of_le e3 (Below.size h2), e4.grew e3 h2⟩

theorem FmAt.keep {w w' : World} {b : Nat} {X Y : Value} {r d s : Nat} (h : FmAt w b X Y r d s) (he : w'.heap[b]? = w.heap[b]?) : FmAt w' b X Y r d s :=
  ⟨(cell_block he 0).1.trans h.1, (cell_block he 1).1.trans h.2.1, (cell_block he 2).1.trans h.2.2.1, (cell_block he 3).1.trans h.2.2.2.1, (cell_block he 4).1.trans h.2.2.2.2⟩

theorem BoxF.keep {w w' : World} {b : Nat} (h : BoxF w b) (he : w'.heap[b]? = w.heap[b]?) : BoxF w' b := ⟨h.1.keep he, fun o => (cell_block he o).2.trans (h.2 o)⟩

theorem FmAt.set0 {w : World} {b : Nat} {X Y : Value} {r d s : Nat} (h : FmAt w b X Y r d s) (U : Value) : FmAt (w.setCell ⟨b, 0, none⟩ U) b U Y r d s :=
  ⟨cell_set_own _ _ _ _ _ h.1, (cell_set_other _ _ _ _ _ (by omega)).trans h.2.1, (cell_set_other _ _ _ _ _ (by omega)).trans h.2.2.1, (cell_set_other _ _ _ _ _ (by omega)).trans h.2.2.2.1, (cell_set_other _ _ _ _ _ (by omega)).trans h.2.2.2.2⟩

theorem FmAt.set1 {w : World} {b : Nat} {X Y : Value} {r d s : Nat} (h : FmAt w b X Y r d s) (U : Value) : FmAt (w.setCell ⟨b, 1, none⟩ U) b X U r d s :=
  ⟨(cell_set_other _ _ _ _ _ (by omega)).trans h.1, cell_set_own _ _ _ _ _ h.2.1, (cell_set_other _ _ _ _ _ (by omega)).trans h.2.2.1, (cell_set_other _ _ _ _ _ (by omega)).trans h.2.2.2.1, (cell_set_other _ _ _ _ _ (by omega)).trans h.2.2.2.2⟩

theorem st5_frozen {w : World} {b b' : Nat} {X Y : Value} {r d s : Nat} (h : ∀ o, w.frozen? ⟨b', o, none⟩ = false) (o : Nat) : (st5 w b X Y r d s).frozen? ⟨b', o, none⟩ = false := by
  unfold st5
  rw [frozen_set, frozen_set, frozen_set, frozen_set, frozen_set]
  exact h o

def st2 (w : World) (b : Nat) (X Y : Value) : World := (w.setCell ⟨b, 0, none⟩ X).setCell ⟨b, 1, none⟩ Y

theorem st2_wrote (w : World) (b : Nat) (X Y : Value) : Wrote b (b + 1) w (st2 w b X Y) := (Wrote.of_outside (outside_set _ _ _ _)).trans (Wrote.of_outside (outside_set _ _ _ _))

theorem st2_off {w : World} {b b' : Nat} {X0 Y0 : Value} {r d s : Nat} (h0 : w.cell? ⟨b', 0, none⟩ = some X0) (h1 : w.cell? ⟨b', 1, none⟩ = some Y0) (h2 : w.cell? ⟨b', 2, none⟩ = some (.float .f32 r)) (h3 : w.cell? ⟨b', 3, none⟩ = some (.float .f32 d)) (h4 : w.cell? ⟨b', 4, none⟩ = some (.float .f32 s)) (n : ¬ b = b') (X Y : Value) : FmAt (st2 w b X Y) b' X0 Y0 r d s := by
  have he : (st2 w b X Y).heap[b']? = w.heap[b']? := by simp only [st2, World.setCell, Array.getElem?_modify]; rw [if_neg n, if_neg n]
  exact ⟨(cell_block he 0).1.trans h0, (cell_block he 1).1.trans h1, (cell_block he 2).1.trans h2, (cell_block he 3).1.trans h3, (cell_block he 4).1.trans h4⟩

set_option maxHeartbeats 4000000 in
theorem c_copyFarm (lo hi : Nat) (v : Value) (xs ys : List Nat) (r d s : Nat) (w : World) (h : FarmAt w lo hi v xs ys r d s) (hs : hi ≤ w.heap.size) (h1 : 0 < xs.length) (h2 : 0 < ys.length) (h3 : xs.length ≤ 1048576) (h4 : ys.length ≤ 1048576) :
    Calls Try.prog 49 #[v] w fun e w' => ∃ v', e = .returned v' ∧ FarmAt w' (w.heap.size + 1 + 1) w'.heap.size v' xs ys r d s ∧ Grew w w' := by
  obtain ⟨A, cA, C, cC, rfl, hx, hy⟩ := h.parts
  have HX := Lib.hid (fun w' h => Slc.grew (g := Value.float .f32) (w' := w') hx hs h)
  have HY := Lib.hid (fun w' h => Slc.grew (g := Value.float .f32) (w' := w') hy hs h)
  have KK := Lib.hid hs
  obtain ⟨w1, hw1⟩ : ∃ w1, w1 = (w.alloc (.cells #[.slice A xs.length cA, .slice C ys.length cC, .float .f32 r, .float .f32 d, .float .f32 s] 25)).alloc (.cells #[.slice none 0 0, .slice none 0 0, .float .f32 0, .float .f32 0, .float .f32 0] 25) := ⟨_, rfl⟩
  have G1 : Hid (Grew w w1) := by rw [hw1]; show Grew w _; (show Below _ _ _; (repeat (first | exact Below.refl _ _ | refine ext_below ?_ (by first | omega | (simp only [size_ext, heap_push, Array.size_push, World.heap_drewN]; omega) | (simp; omega)) _ _ | refine below_draws ?_ _ | refine Below.alloc ?_ (by first | omega | (simp; done) | (simp; omega)) _ | refine Below.setCell ?_ (by first | omega | (simp; done) | (simp; omega)) _ | refine below_then (by assumption) (by first | omega | (simp; done) | (simp; omega)) ?_)))
  have A1 : Hid (FmAt w1 w.heap.size (.slice A xs.length cA) (.slice C ys.length cC) r d s) := Lib.hid (by rw [hw1]; unfold FmAt; simp [go_sem])
  have F1 : Hid (∀ o, w1.frozen? ⟨w.heap.size, o, none⟩ = false) := Lib.hid (by rw [hw1]; exact fun o => by simp [go_sem])
  have R1 : Hid (BoxF w1 (w.heap.size + 1)) := Lib.hid (by rw [hw1]; exact ⟨by unfold FmAt; simp [go_sem], fun o => by simp [go_sem]⟩)
  have Z1 : Hid (w1.heap.size = w.heap.size + 1 + 1) := Lib.hid (by rw [hw1]; simp)
  have HW := Lib.hid hw1.symm
  have NN := Lib.hid (And.intro h1 (And.intro h2 (And.intro h3 h4)))
  have z1 : w.heap.size + 1 < w1.heap.size := by rw [Z1.out]; omega
  have z0 : w.heap.size < w1.heap.size := by omega
  clear h hx hy hs hw1 h1 h2 h3 h4
  go_enter Try.func49, Try.ntmps49
  go_wp2_with fail
  rw [HW.out]
  obtain ⟨p0, p1, p2, p3, p4⟩ := A1.out
  try simp only [List.append_eq, List.cons_append, List.nil_append]
  refine wp_region_any (by kernel_rfl) ?_
  refine wpAny_tail'' [5, 8, 9] [(5, RowNew xs), (8, RowNew ys)] [0, 1, 2, 3, 4, 5, 6] [7, 8, 9] (by kernel_rfl) (by kernel_rfl) (by kernel_rfl) (by kernel_rfl) (by kernel_rfl) (by kernel_rfl) (by kernel_rfl) (by kernel_rfl) (by simp) (by kernel_rfl) (by kernel_rfl) (by kernel_rfl) ?_
  simp only [picks, List.filterMap_cons, List.filterMap_nil, List.getElem?_cons_zero, List.getElem?_cons_succ]
  try go_simp
  repeat (first | (refine wpG_skip rfl ?_; try go_simp) | (refine wpG_want rfl (fun K hK => ?_); first | (refine gG_fbin rfl rfl _ _ _ rfl rfl rfl ?_; intro z hz hzw; go_simp; refine hK _ ?_; clear hK K) | (intro wq hq hp; obtain ⟨hqc, hqf⟩ := bcell hq; go_simp; first | (refine hK _ ?_; clear hK K; try clear hp; try clear hqc hqf; try clear hq; try clear wq) | ((with_reducible refine g_at 79 (args := #[.slice A xs.length cA]) ?_); refine ⟨(c_Clone A _ cA hi xs wq (HX.out wq (grew_trans G1.out hq)) (Nat.le_trans KK.out (Below.size (grew_trans G1.out hq))) (by have := NN.out; omega) (by have := NN.out; omega)).mono fun e w3 ⟨v, he, h, hg⟩ => ⟨v, he, rowNew_of h, hg⟩, ?_⟩; rintro v w3 hg3 ⟨A16, c16, rfl, hfa⟩; refine hK _ ?_; clear hK K; try clear hp; try clear hqc hqf; try clear hq; try clear wq) | ((with_reducible refine g_at 79 (args := #[.slice C ys.length cC]) ?_); refine ⟨(c_Clone C _ cC hi ys wq (HY.out wq (grew_trans G1.out hq)) (Nat.le_trans KK.out (Below.size (grew_trans G1.out hq))) (by have := NN.out; omega) (by have := NN.out; omega)).mono fun e w3 ⟨v, he, h, hg⟩ => ⟨v, he, rowNew_of h, hg⟩, ?_⟩; rintro v w3 hg3 ⟨A19, c19, rfl, hfb⟩; refine hK _ ?_; clear hK K; try clear hp; try clear hqc hqf; try clear hq; try clear wq))))
  refine wpG_nil ?_
  intro wq hq hal hap
  obtain ⟨hqc, hqf⟩ := bcell hq
  have hqs := Below.size hq
  try simp at hqs
  obtain ⟨hr1, hr2, hra⟩ := rows_new hap (d := 5) (d' := 8) (xs := xs) (ys := ys) (by simp) (by simp) (by decide) rfl rfl (by simp [undef]) (by simp [undef])
  change FRow wq _ _ (.slice A16 xs.length c16) xs at hr1
  change FRow wq _ _ (.slice A19 ys.length c19) ys at hr2
  change ∀ k, (Value.slice A16 xs.length c16).ownBlock = some k → (Value.slice A19 ys.length c19).ownBlock ≠ some k at hra
  have Q1 := Lib.hid hr1
  have Q2 := Lib.hid hr2
  have QA := Lib.hid hra
  have HG := Lib.hid hq
  have A2 := Lib.hid (A1.out.grew z0 hq)
  have F2 := Lib.hid (fun o => ((bcell hq).2 w.heap.size o z0).trans (F1.out o))
  have R2 := Lib.hid (R1.out.grew z1 hq)
  have zq : w1.heap.size ≤ wq.heap.size := Below.size hq
  clear hal hap hr1 hr2 hra hqc hqf hfa hfb p0 p1 p2 p3 p4 hq hqs
  obtain ⟨p0, p1, p2, p3, p4⟩ := A2.out
  have pf := F2.out
  obtain ⟨⟨b0, b1, b2, b3, b4⟩, bf⟩ := R2.out
  have n1 : ¬ w.heap.size = w.heap.size + 1 := by omega
  go_wp2_with fail
  have hst := st5_at (st2_off b0 b1 b2 b3 b4 n1 (.slice A16 xs.length c16) (.slice A19 ys.length c19)) (.slice A16 xs.length c16) (.slice A19 ys.length c19) r d s
  have hV := st2_wrote wq w.heap.size (.slice A16 xs.length c16) (.slice A19 ys.length c19)
  have hW := st5_wrote (st2 wq w.heap.size (.slice A16 xs.length c16) (.slice A19 ys.length c19)) (w.heap.size + 1) (.slice A16 xs.length c16) (.slice A19 ys.length c19) r d s
  have hU := hV.size
  have hsz := hW.size
  have hRo : FarmAt (st5 (st2 wq w.heap.size (.slice A16 xs.length c16) (.slice A19 ys.length c19)) (w.heap.size + 1) (.slice A16 xs.length c16) (.slice A19 ys.length c19) r d s) (w.heap.size + 1 + 1) (st5 (st2 wq w.heap.size (.slice A16 xs.length c16) (.slice A19 ys.length c19)) (w.heap.size + 1) (.slice A16 xs.length c16) (.slice A19 ys.length c19) r d s).heap.size (.agg #[.slice A16 xs.length c16, .slice A19 ys.length c19, .float .f32 r, .float .f32 d, .float .f32 s]) xs ys r d s :=
    ⟨_, _, rfl, ((Q1.out.wrote (Nat.le_refl _) hV (.inr (by have := Z1.out; omega))).wrote (by omega) hW (.inr (by have := Z1.out; omega))).mono (by have := Z1.out; omega) (by omega), ((Q2.out.wrote (Nat.le_refl _) hV (.inr (by have := Z1.out; omega))).wrote (by omega) hW (.inr (by have := Z1.out; omega))).mono (by have := Z1.out; omega) (by omega), QA.out⟩
  have hG5 : Grew w (st5 (st2 wq w.heap.size (.slice A16 xs.length c16) (.slice A19 ys.length c19)) (w.heap.size + 1) (.slice A16 xs.length c16) (.slice A19 ys.length c19) r d s) := Wrote.below (Wrote.below (grew_trans G1.out HG.out) hV (by have := Below.size (grew_trans G1.out HG.out); omega) (by omega)) hW (by have := Below.size (grew_trans G1.out HG.out); omega) (by omega)
  show bodyPost _ _ _ _ _ (st5 (st2 wq w.heap.size (.slice A16 xs.length c16) (.slice A19 ys.length c19)) (w.heap.size + 1) (.slice A16 xs.length c16) (.slice A19 ys.length c19) r d s)
  clear hV hW hU hsz p0 p1 p2 p3 p4 pf b0 b1 b2 b3 b4 bf
  generalize st5 (st2 wq w.heap.size (.slice A16 xs.length c16) (.slice A19 ys.length c19)) (w.heap.size + 1) (.slice A16 xs.length c16) (.slice A19 ys.length c19) r d s = w5 at *
  obtain ⟨e0, e1, e2, e3, e4⟩ := hst
  refine bodyPost_ret (v := .agg #[.slice A16 xs.length c16, .slice A19 ys.length c19, .float .f32 r, .float .f32 d, .float .f32 s]) (by simp [results, Try.results49, go_sem, e0, e1, e2, e3, e4]) rfl ?_
  exact ⟨_, rfl, hRo, hG5⟩

set_option maxHeartbeats 4000000 in
theorem c_l06Own (b : Nat) (A C : Option Addr) (cA cC K : Nat) (xs ys : List Nat) (r d s : Nat) (w : World) (hf : FmAt w b (.slice A xs.length cA) (.slice C ys.length cC) r d s) (hx : Fl w K A xs.length xs) (hy : Fl w K C ys.length ys) (hK : K ≤ w.heap.size) (hb : b < w.heap.size) (h1 : 0 < xs.length) (h2 : 0 < ys.length) (h3 : xs.length ≤ 1048576) (h4 : ys.length ≤ 1048576) :
    Calls Try.prog 46 #[.pointer (some ⟨b, 0, none⟩)] w fun e w' => ∃ v', e = .returned v' ∧ FarmAt w' (w.heap.size + 1) w'.heap.size v' xs ys r d s ∧ Grew w w' := by
  have HX := Lib.hid (fun w' h => Slc.grew (g := Value.float .f32) (w' := w') hx hK h)
  have HY := Lib.hid (fun w' h => Slc.grew (g := Value.float .f32) (w' := w') hy hK h)
  obtain ⟨bA, oA, rfl, hbA, _⟩ := hx.2 h1
  obtain ⟨bC, oC, rfl, hbC, _⟩ := hy.2 h2
  obtain ⟨i, hi, hz0, hz1, hz2⟩ := info_parts info_float32
  have HI := Lib.hid hi
  have HI0 := Lib.hid hz0
  have HI1 := Lib.hid hz1
  have HI2 := Lib.hid hz2
  obtain ⟨w1, hw1⟩ : ∃ w1, w1 = w.alloc (.cells #[.slice none 0 0, .slice none 0 0, .float .f32 0, .float .f32 0, .float .f32 0] 25) := ⟨_, rfl⟩
  have G1 : Hid (Grew w w1) := Lib.hid (by rw [hw1]; show Grew w _; (show Below _ _ _; (repeat (first | exact Below.refl _ _ | refine ext_below ?_ (by first | omega | (simp only [size_ext, heap_push, Array.size_push, World.heap_drewN]; omega) | (simp; omega)) _ _ | refine below_draws ?_ _ | refine Below.alloc ?_ (by first | omega | (simp; done) | (simp; omega)) _ | refine Below.setCell ?_ (by first | omega | (simp; done) | (simp; omega)) _ | refine below_then (by assumption) (by first | omega | (simp; done) | (simp; omega)) ?_))))
  have A1 : Hid (FmAt w1 b (.slice (some ⟨bA, oA, none⟩) xs.length cA) (.slice (some ⟨bC, oC, none⟩) ys.length cC) r d s) := Lib.hid (hf.grew hb G1.out)
  have R1 : Hid (BoxF w1 w.heap.size) := Lib.hid (by rw [hw1]; exact ⟨by unfold FmAt; simp [go_sem], fun o => by simp [go_sem]⟩)
  have Z1 : Hid (w1.heap.size = w.heap.size + 1) := Lib.hid (by rw [hw1]; simp)
  have HW := Lib.hid hw1.symm
  have NN := Lib.hid (And.intro h1 (And.intro h2 (And.intro h3 h4)))
  have z1 : w.heap.size < w1.heap.size := by rw [Z1.out]; omega
  have z0 : b < w1.heap.size := by omega
  clear hf hx hy hK hb h1 h2 h3 h4 hi hz0 hz1 hz2 hw1 hbA hbC
  go_enter Try.func46, Try.ntmps46
  go_wp2_with fail
  rw [HW.out]
  obtain ⟨p0, p1, p2, p3, p4⟩ := A1.out
  try simp only [List.append_eq, List.cons_append, List.nil_append]
  refine wp_region_any (by kernel_rfl) ?_
  refine wpAny_tail'' [3] [(3, W2 <| BoxFBy w1.heap.size)] [0, 1, 2, 3, 4, 5, 6, 7, 8, 9, 10, 11, 12, 13] [14] (by kernel_rfl) (by kernel_rfl) (by kernel_rfl) (by kernel_rfl) (by kernel_rfl) (by kernel_rfl) (by kernel_rfl) (by kernel_rfl) (by simp) (by kernel_rfl) (by kernel_rfl) (by kernel_rfl) ?_
  simp only [picks, List.filterMap_cons, List.filterMap_nil, List.getElem?_cons_zero, List.getElem?_cons_succ]
  try go_simp
  repeat (first | (refine wpG_skip rfl ?_; try go_simp) | (refine wpG_want rfl (fun K hK => ?_); first | (refine gG_fbin rfl rfl _ _ _ rfl rfl rfl ?_; intro z hz hzw; go_simp; refine hK _ ?_; clear hK K) | (intro wq hq hp; obtain ⟨hqc, hqf⟩ := bcell hq; go_simp; first | (refine hK _ ?_; clear hK K; try clear hp; try clear hqc hqf; try clear hq; try clear wq) | (refine ⟨boxFBy_new (Below.size hq), ?_⟩; refine hK _ ?_; clear hK K; try clear hp; try clear hqc hqf; try clear hq))))
  refine wpG_nil ?_
  intro wq hq hal hap
  obtain ⟨hqc, hqf⟩ := bcell hq
  have hqs := Below.size hq
  try simp at hqs
  obtain ⟨b5, e5, hb5, hs5, hbox⟩ := BoxFBy.get (hal 3 (by simp)) (by simp [undef]) rfl
  simp at e5
  rw [e5]
  have HG := Lib.hid (grew_trans G1.out hq)
  have B5 := Lib.hid hbox
  have A5 := Lib.hid (A1.out.grew z0 hq)
  have R5 := Lib.hid (R1.out.grew z1 hq)
  have GQ := Lib.hid hq
  have zq : w1.heap.size ≤ wq.heap.size := Below.size hq
  clear hal hap e5 hq hqc hqf hqs hbox p0 p1 p2 p3 p4
  obtain ⟨⟨b0, b1, b2, b3, b4⟩, bf⟩ := B5.out
  obtain ⟨p0, p1, p2, p3, p4⟩ := A5.out
  have hst := Lib.hid (st5_at B5.out.1 (.slice none 0 0) (.slice none 0 0) r d s)
  have hW := Lib.hid (st5_wrote wq b5 (.slice none 0 0) (.slice none 0 0) r d s)
  have hsz5 := hW.out.size
  clear b0 b1 b2 b3 b4 bf
  obtain ⟨⟨b0, b1, b2, b3, b4⟩, bf⟩ := B5.out
  go_upto_region 2 with fail
  change Code.wp _ _ _ _ (st5 wq b5 (.slice none 0 0) (.slice none 0 0) r d s)
  clear b0 b1 b2 b3 b4 p0 p1 p2 p3 p4
  have n5 : ¬ b5 = b := by omega
  have n5' : ¬ b5 = w.heap.size := by omega
  have A6 := Lib.hid (A5.out.keep (hW.out.block b (by omega) (by omega)))
  have R6 := Lib.hid (R5.out.keep (hW.out.block w.heap.size (by omega) (by omega)))
  have G5 : Hid (Grew w (st5 wq b5 (.slice none 0 0) (.slice none 0 0) r d s)) := Lib.hid (Wrote.below HG.out hW.out (by have := Below.size HG.out; omega) (by omega))
  have F5 := Lib.hid (st5_frozen (X := .slice none 0 0) (Y := .slice none 0 0) (r := r) (d := d) (s := s) (b := b5) bf)
  have S5 : b5 < (st5 wq b5 (.slice none 0 0) (.slice none 0 0) r d s).heap.size := by omega
  clear hW B5 A5 R5 GQ A1 R1 HG bf
  generalize st5 wq b5 (.slice none 0 0) (.slice none 0 0) r d s = w5 at *
  have HR := Lib.hid (row_made (g := Value.float .f32) (t := 22) w5 (grw_refl w5))
  have HC := Lib.hid (fun w' hg => fl_cells (HX.out w' (grew_trans G5.out hg)))
  have z5 : b < w5.heap.size := by omega
  have z6 : w.heap.size < w5.heap.size := by omega
  obtain ⟨p0, p1, p2, p3, p4⟩ := A6.out
  obtain ⟨b0, b1, b2, b3, b4⟩ := hst.out
  have bf := F5.out
  go_upto_region 3 with (at_builtin; (refine wpList_append_own _ rfl _ _ 23 rfl w5.heap.size 22 i (.float .f32 0) 1 4 Try.underlying23 HI.out HI0.out HI1.out HI2.out rfl (by decide) (.slice (some ⟨w5.heap.size, 0, none⟩) 0 0) 0 [] rfl HR.out.1.1 ⟨bA, oA, none⟩ xs.length _ (xs.map (Value.float .f32)) rfl (by simp) (HC.out _ HR.out.2) (one_cells xs) (by have := NN.out; unfold maxLen; omega) (by have := NN.out; omega) (by simp) ?_; rintro v2 w2 hown hgr _; have hra := Lib.hid (row_app (xs := []) (ys := xs) HR.out.2 (by simpa using HR.out.1) (by simpa using hown) hgr); clear hown hgr; obtain ⟨A2, n2, c2, rfl⟩ := hra.out.1.sl; have y0 := ((bcell hra.out.2).1 b5 0 S5).trans b0; have y1 := ((bcell hra.out.2).2 b5 0 S5).trans (bf 0); clear b0 b1 b2 b3 b4 bf p0 p1 p2 p3 p4))
  have hV := Lib.hid (Wrote.of_outside (outside_set w2 b5 0 (.slice A2 n2 c2)))
  have A7 := Lib.hid ((A6.out.grew z5 hra.out.2).keep (hV.out.block b (by have := Below.size hra.out.2; omega) (by omega)))
  have R7 := Lib.hid ((R6.out.grew z6 hra.out.2).keep (hV.out.block w.heap.size (by have := Below.size hra.out.2; omega) (by omega)))
  have G7 := Lib.hid (Wrote.below (grew_trans G5.out hra.out.2) hV.out (by have := Below.size (grew_trans G5.out hra.out.2); omega) (by omega))
  have B7 := Lib.hid ((hst.out.grew S5 hra.out.2).set0 (.slice A2 n2 c2))
  have F7 : Hid (∀ o, (w2.setCell ⟨b5, 0, none⟩ (.slice A2 n2 c2)).frozen? ⟨b5, o, none⟩ = false) := Lib.hid (fun o => (frozen_set _ _ _ _ _ _).trans (((bcell hra.out.2).2 b5 o S5).trans (F5.out o)))
  have Q7 := Lib.hid (RowAt.wrote hra.out.1 (Nat.le_refl _) hV.out (.inr (by omega)))
  have S7 : b5 < (w2.setCell ⟨b5, 0, none⟩ (.slice A2 n2 c2)).heap.size := by have h1 := Below.size hra.out.2; have h2 := hV.out.size; omega
  have z7 : w5.heap.size ≤ (w2.setCell ⟨b5, 0, none⟩ (.slice A2 n2 c2)).heap.size := by have h1 := Below.size hra.out.2; have h2 := hV.out.size; omega
  have z8 : w2.heap.size ≤ (w2.setCell ⟨b5, 0, none⟩ (.slice A2 n2 c2)).heap.size := hV.out.size
  clear hra hV y0 y1 HR HC A6 R6 F5 hst
  generalize w2.setCell ⟨b5, 0, none⟩ (.slice A2 n2 c2) = w7 at *
  have HR := Lib.hid (row_made (g := Value.float .f32) (t := 22) w7 (grw_refl w7))
  have HC := Lib.hid (fun w' hg => fl_cells (HY.out w' (grew_trans G7.out hg)))
  have z9 : b < w7.heap.size := by omega
  obtain ⟨p0, p1, p2, p3, p4⟩ := A7.out
  obtain ⟨b0, b1, b2, b3, b4⟩ := B7.out
  have bf := F7.out
  go_upto_region 4 with (at_builtin; (refine wpList_append_own _ rfl _ _ 23 rfl w7.heap.size 22 i (.float .f32 0) 1 4 Try.underlying23 HI.out HI0.out HI1.out HI2.out rfl (by decide) (.slice (some ⟨w7.heap.size, 0, none⟩) 0 0) 0 [] rfl HR.out.1.1 ⟨bC, oC, none⟩ ys.length _ (ys.map (Value.float .f32)) rfl (by simp) (HC.out _ HR.out.2) (one_cells ys) (by have := NN.out; unfold maxLen; omega) (by have := NN.out; omega) (by simp) ?_; rintro v3 w3 hown hgr _; have hra := Lib.hid (row_app (xs := []) (ys := ys) HR.out.2 (by simpa using HR.out.1) (by simpa using hown) hgr); clear hown hgr; obtain ⟨A3, n3, c3, rfl⟩ := hra.out.1.sl; have y0 := ((bcell hra.out.2).1 b5 1 S7).trans b1; have y1 := ((bcell hra.out.2).2 b5 1 S7).trans (bf 1); clear b0 b1 b2 b3 b4 bf p0 p1 p2 p3 p4))
  have hV := Lib.hid (Wrote.of_outside (outside_set w3 b5 1 (.slice A3 n3 c3)))
  have R8 := Lib.hid ((R7.out.grew (by omega) hra.out.2).keep (hV.out.block w.heap.size (by have := Below.size hra.out.2; omega) (by omega)))
  have G8 := Lib.hid (Wrote.below (grew_trans G7.out hra.out.2) hV.out (by have := Below.size (grew_trans G7.out hra.out.2); omega) (by omega))
  have B8 := Lib.hid ((B7.out.grew S7 hra.out.2).set1 (.slice A3 n3 c3))
  have Q8 := Lib.hid (RowAt.wrote hra.out.1 (Nat.le_refl _) hV.out (.inr (by omega)))
  have P8 := Lib.hid (RowAt.wrote (RowAt.grew Q7.out z8 hra.out.2) (by have := Below.size hra.out.2; omega) hV.out (.inr (by omega)))
  have za : w3.heap.size ≤ (w3.setCell ⟨b5, 1, none⟩ (.slice A3 n3 c3)).heap.size := hV.out.size
  have zb : w7.heap.size ≤ w3.heap.size := Below.size hra.out.2
  clear hra hV y0 y1 HR HC A7 R7 F7 B7 Q7
  generalize w3.setCell ⟨b5, 1, none⟩ (.slice A3 n3 c3) = w8 at *
  obtain ⟨p0, p1, p2, p3, p4⟩ := B8.out
  obtain ⟨⟨b0, b1, b2, b3, b4⟩, bf⟩ := R8.out
  have n5'' : ¬ w.heap.size = b5 := by omega
  go_wp2_with fail
  have hst := st5_at R8.out.1 (.slice A2 n2 c2) (.slice A3 n3 c3) r d s
  have hW := st5_wrote w8 w.heap.size (.slice A2 n2 c2) (.slice A3 n3 c3) r d s
  have hsz := hW.size
  have hRo : FarmAt (st5 w8 w.heap.size (.slice A2 n2 c2) (.slice A3 n3 c3) r d s) (w.heap.size + 1) (st5 w8 w.heap.size (.slice A2 n2 c2) (.slice A3 n3 c3) r d s).heap.size (.agg #[.slice A2 n2 c2, .slice A3 n3 c3, .float .f32 r, .float .f32 d, .float .f32 s]) xs ys r d s := by
    have h1 := RowAt.mono (RowAt.wrote P8.out (by omega) hW (.inr (by omega))) (lo' := w.heap.size + 1) (hi' := (st5 w8 w.heap.size (.slice A2 n2 c2) (.slice A3 n3 c3) r d s).heap.size) (by omega) (by omega)
    have h2 := RowAt.mono (RowAt.wrote Q8.out (by omega) hW (.inr (by omega))) (lo' := w.heap.size + 1) (hi' := (st5 w8 w.heap.size (.slice A2 n2 c2) (.slice A3 n3 c3) r d s).heap.size) (by omega) (by omega)
    refine ⟨_, _, rfl, by simpa using h1, by simpa using h2, fun k e1 e2 => ?_⟩
    have := P8.out.2 k e1
    have := (Q8.out.1.lt k e2).1
    omega
  have hG5 : Grew w (st5 w8 w.heap.size (.slice A2 n2 c2) (.slice A3 n3 c3) r d s) := Wrote.below G8.out hW (by have := Below.size G8.out; omega) (by omega)
  show bodyPost _ _ _ _ _ (st5 w8 w.heap.size (.slice A2 n2 c2) (.slice A3 n3 c3) r d s)
  clear hW hsz p0 p1 p2 p3 p4 b0 b1 b2 b3 b4 bf
  generalize st5 w8 w.heap.size (.slice A2 n2 c2) (.slice A3 n3 c3) r d s = w9 at *
  obtain ⟨e0, e1, e2, e3, e4⟩ := hst
  refine bodyPost_ret (v := .agg #[.slice A2 n2 c2, .slice A3 n3 c3, .float .f32 r, .float .f32 d, .float .f32 s]) (by simp [results, Try.results46, go_sem, e0, e1, e2, e3, e4]) rfl ?_
  exact ⟨_, rfl, hRo, hG5⟩

end Go.Proofs.Ytlakmogclcpgdaa

