/-
  ROWS IN A FARM's BOX; a farm that is checked and given back.
-/
import Derived.Test.YtlakmogclcpgdaaBox
import Derived.Test.YtlakmogclcpgdaaValidFm
namespace Go.Proofs.Ytlakmogclcpgdaa
open Go.RowKit Go.Flt
set_option linter.unusedVariables false
set_option maxRecDepth 100000
set_option linter.unusedSimpArgs false

/-- A farm's numbers in its box. -/
def FmBox (w : World) (b r d s : Nat) : Prop := w.cell? ⟨b, 2, none⟩ = some (.float .f32 r) ∧ w.cell? ⟨b, 3, none⟩ = some (.float .f32 d) ∧ w.cell? ⟨b, 4, none⟩ = some (.float .f32 s)

theorem FmBox.keep {w w' : World} {b r d s : Nat} (h : FmBox w b r d s) (e : w'.heap[b]? = w.heap[b]?) : FmBox w' b r d s :=
  ⟨(cell_same e 2).trans h.1, (cell_same e 3).trans h.2.1, (cell_same e 4).trans h.2.2⟩

theorem FmBox.set {w : World} {b r d s : Nat} (h : FmBox w b r d s) (o : Nat) (ho : o < 2) (u : Value) : FmBox (w.setCell ⟨b, o, none⟩ u) b r d s :=
  ⟨(cell_set_other _ _ _ _ _ (by omega)).trans h.1, (cell_set_other _ _ _ _ _ (by omega)).trans h.2.1, (cell_set_other _ _ _ _ _ (by omega)).trans h.2.2⟩

/-- Two rows in a farm's box, just made. -/
theorem mix_boxedF {w0 w : World} {lo : Nat} {S1 S2 : Value} {zs us : List Nat} (r d s : Nat) (hr1 : FRow w lo w.heap.size S1 zs) (hr2 : FRow w lo w.heap.size S2 us) (ap : ∀ k, S1.ownBlock = some k → S2.ownBlock ≠ some k)
    (hl : w0.heap.size ≤ lo) (hlo : lo ≤ w.heap.size) (hg : Grew w0 w) :
    MixAt w0 (w.alloc (.cells #[S1, S2, .float .f32 r, .float .f32 d, .float .f32 s] 25)) lo w.heap.size S1 S2 zs us (zs.map (cl .f32)) (us.map (cl .f32)) ∧
      FmBox (w.alloc (.cells #[S1, S2, .float .f32 r, .float .f32 d, .float .f32 s] 25)) w.heap.size r d s :=
  ⟨{ r1 := RowAt.mono (hr1.alloc _) (Nat.le_refl _) (by simp), r2 := RowAt.mono (hr2.alloc _) (Nat.le_refl _) (by simp), ap := ap
     n1 := fun e => absurd (hr1.2 _ e) (Nat.lt_irrefl _), n2 := fun e => absurd (hr2.2 _ e) (Nat.lt_irrefl _), c0 := by simp, c1 := by simp, f0 := by simp [go_sem], f1 := by simp [go_sem], d1 := rfl, d2 := rfl
     gr := grew_al hg _, hb := by omega, hl := hl, ll := by simp; omega, lt := by simp }, by refine ⟨?_, ?_, ?_⟩ <;> simp⟩

/-- A box, its row turned by an append, stays else as it was. -/
theorem mix_same {w0 wr wq w2 : World} {lo b : Nat} {v1 v2 v : Value} {zs us : List Nat} {D E : List Ieee.Datum} (h : MixAt w0 wr lo b v1 v2 zs us D E) (hq : Grew wr wq) (hgr : wq.grownBy w2 v.ownBlock) (hv : v = v1 ∨ v = v2) : w2.heap[b]? = wr.heap[b]? := by
  have hlt := h.lt
  have hs := Below.size hq
  refine (hgr.block b (by omega) fun e => ?_).trans (hq.block b hlt)
  rcases hv with rfl | rfl
  · exact h.n1 e.symm
  · exact h.n2 e.symm

/-- No farm. -/
def ZFM : Value := .agg #[.slice none 0 0, .slice none 0 0, .float .f32 0, .float .f32 0, .float .f32 0]

theorem farm_nil (w : World) (lo hi : Nat) : FarmAt w lo hi ZFM [] [] 0 0 0 := ⟨_, _, rfl, rowAt_nil _ _ _, rowAt_nil _ _ _, fun k h => by simp [Value.ownBlock] at h⟩

/-- A result's box, no farm in it yet. -/
def BoxF (w : World) (b : Nat) : Prop := FmAt w b (.slice none 0 0) (.slice none 0 0) 0 0 0 ∧ ∀ o, w.frozen? ⟨b, o, none⟩ = false

theorem BoxF.grew {w w' : World} {b : Nat} (h : BoxF w b) (hb : b < w.heap.size) (hg : Grew w w') : BoxF w' b :=
  ⟨h.1.grew hb hg, fun o => ((bcell hg).2 _ _ hb).trans (h.2 o)⟩

def st5 (w : World) (b : Nat) (X Y : Value) (r d s : Nat) : World :=
  ((((w.setCell ⟨b, 0, none⟩ X).setCell ⟨b, 1, none⟩ Y).setCell ⟨b, 2, none⟩ (.float .f32 r)).setCell ⟨b, 3, none⟩ (.float .f32 d)).setCell ⟨b, 4, none⟩ (.float .f32 s)

theorem st5_at {w : World} {b : Nat} {X0 Y0 : Value} {r0 d0 s0 : Nat} (h : FmAt w b X0 Y0 r0 d0 s0) (X Y : Value) (r d s : Nat) : FmAt (st5 w b X Y r d s) b X Y r d s := by
  obtain ⟨h0, h1, h2, h3, h4⟩ := h
  unfold st5 FmAt
  have n : ∀ (w : World) (i j : Nat) (v : Value), i ≠ j → (w.setCell ⟨b, i, none⟩ v).cell? ⟨b, j, none⟩ = w.cell? ⟨b, j, none⟩ := fun w i j v hij => cell_set_other w b i j v hij
  refine ⟨?_, ?_, ?_, ?_, ?_⟩
  · rw [n _ 4 0 _ (by omega), n _ 3 0 _ (by omega), n _ 2 0 _ (by omega), n _ 1 0 _ (by omega)]; exact cell_set_own _ _ _ _ _ h0
  · rw [n _ 4 1 _ (by omega), n _ 3 1 _ (by omega), n _ 2 1 _ (by omega)]; exact cell_set_own _ _ _ _ _ ((n _ 0 1 _ (by omega)).trans h1)
  · rw [n _ 4 2 _ (by omega), n _ 3 2 _ (by omega)]; exact cell_set_own _ _ _ _ _ ((n _ 1 2 _ (by omega)).trans ((n _ 0 2 _ (by omega)).trans h2))
  · rw [n _ 4 3 _ (by omega)]; exact cell_set_own _ _ _ _ _ ((n _ 2 3 _ (by omega)).trans ((n _ 1 3 _ (by omega)).trans ((n _ 0 3 _ (by omega)).trans h3)))
  · exact cell_set_own _ _ _ _ _ ((n _ 3 4 _ (by omega)).trans ((n _ 2 4 _ (by omega)).trans ((n _ 1 4 _ (by omega)).trans ((n _ 0 4 _ (by omega)).trans h4))))

theorem st5_wrote (w : World) (b : Nat) (X Y : Value) (r d s : Nat) : Wrote b (b + 1) w (st5 w b X Y r d s) :=
  (Wrote.of_outside (outside_set _ _ _ _)).trans ((Wrote.of_outside (outside_set _ _ _ _)).trans ((Wrote.of_outside (outside_set _ _ _ _)).trans ((Wrote.of_outside (outside_set _ _ _ _)).trans (Wrote.of_outside (outside_set _ _ _ _)))))

/-- What a farm is given back as: itself where it is valid, else none. -/
def RetGF (v : Value) (ok : Bool) (w : World) (e : Ending) (w' : World) : Prop := e = .returned (.tuple #[if ok then v else ZFM, .bool ok]) ∧ Grew w w'

set_option maxHeartbeats 1000000 in
theorem c_checkedFarm (lo hi : Nat) (v : Value) (xs ys : List Nat) (r d s : Nat) (w : World) (h : FarmAt w lo hi v xs ys r d s) (hs : hi ≤ w.heap.size) :
    Calls Try.prog 43 #[v] w (RetGF v (vFarm xs ys r d s) w) := by
  have HV := Lib.hid (fun w' (hg : Grew w w') => c_implValidFarm' lo hi v xs ys r d s w' (h.grew hs hg) (Nat.le_trans hs (Below.size hg)))
  obtain ⟨A, c, C, c', rfl, hx, hy⟩ := h.parts
  clear h hx hy
  generalize vFarm xs ys r d s = B at HV
  cases B
  all_goals
    go_enter Try.func43, Try.ntmps43
    go_wp2_with fail
    refine (HV.out _ (by (show Below _ _ _; (repeat (first | exact Below.refl _ _ | refine ext_below ?_ (by first | omega | (simp only [size_ext, heap_push, Array.size_push, World.heap_drewN]; omega) | (simp; omega)) _ _ | refine below_draws ?_ _ | refine Below.alloc ?_ (by first | omega | (simp; done) | (simp; omega)) _ | refine Below.setCell ?_ (by first | omega | (simp; done) | (simp; omega)) _ | refine below_then (by assumption) (by first | omega | (simp; done) | (simp; omega)) ?_))))).mono ?_
    rintro e w1 ⟨rfl, hg1⟩
    have G1 := Lib.hid (grew_trans (show Grew w _ by (show Below _ _ _; (repeat (first | exact Below.refl _ _ | refine ext_below ?_ (by first | omega | (simp only [size_ext, heap_push, Array.size_push, World.heap_drewN]; omega) | (simp; omega)) _ _ | refine below_draws ?_ _ | refine Below.alloc ?_ (by first | omega | (simp; done) | (simp; omega)) _ | refine Below.setCell ?_ (by first | omega | (simp; done) | (simp; omega)) _ | refine below_then (by assumption) (by first | omega | (simp; done) | (simp; omega)) ?_)))) hg1)
    obtain ⟨hbc, hbf⟩ := bcell hg1
    have hsz := Below.size hg1
    simp at hsz
    have s1 : w.heap.size < w1.heap.size := by omega
    have s2 : w.heap.size + 1 < w1.heap.size := by omega
    clear hg1
    go_wp2_with fail
  · exact bodyPost_ret (v := .tuple #[ZFM, .bool false]) (by simp [results, Try.results43, go_sem, hbc, s1, s2, ZFM]) rfl ⟨rfl, Outside.below (lo := w.heap.size) (hi := w.heap.size + 1 + 1) G1.out (by repeat (first | (with_reducible exact Outside.refl _ _ _) | (with_reducible refine Outside.trans ?_ (Outside.mono (outside_set _ _ _ _) ?_ ?_); rotate_left; omega; omega))) (Nat.le_refl _)⟩
  · exact bodyPost_ret (v := .tuple #[.agg #[.slice A xs.length c, .slice C ys.length c', .float .f32 r, .float .f32 d, .float .f32 s], .bool true]) (by simp [results, Try.results43, go_sem, hbc, s1, s2]) rfl ⟨rfl, Outside.below (lo := w.heap.size) (hi := w.heap.size + 1 + 1) G1.out (by repeat (first | (with_reducible exact Outside.refl _ _ _) | (with_reducible refine Outside.trans ?_ (Outside.mono (outside_set _ _ _ _) ?_ ?_); rotate_left; omega; omega))) (Nat.le_refl _)⟩

set_option maxHeartbeats 1000000 in
theorem c_l06Give (lo hi : Nat) (v : Value) (xs ys : List Nat) (r d s : Nat) (w : World) (h : FarmAt w lo hi v xs ys r d s) (hs : hi ≤ w.heap.size) (hn : xs.length ≤ 1048576) (hm : ys.length ≤ 1048576) :
    Calls Try.prog 40 #[v] w (RetGF v (vFarm xs ys r d s) w) := by
  obtain ⟨A, c, C, c', rfl, hx, hy⟩ := h.parts
  have HV := Lib.hid (fun w' b hf h => c_l06Is b A C _ c _ c' hi xs ys r d s w' hf (Slc.grew (g := Value.float .f32) (w' := w') hx hs h) (Slc.grew (g := Value.float .f32) (w' := w') hy hs h) (by unfold maxLen; omega) (by unfold maxLen; omega))
  clear h hx hy
  generalize vFarm xs ys r d s = B at HV
  cases B
  all_goals
    go_enter Try.func40, Try.ntmps40
    go_wp2_with fail
    refine (HV.out _ _ (by unfold FmAt; simp) (by (show Below _ _ _; (repeat (first | exact Below.refl _ _ | refine ext_below ?_ (by first | omega | (simp only [size_ext, heap_push, Array.size_push, World.heap_drewN]; omega) | (simp; omega)) _ _ | refine below_draws ?_ _ | refine Below.alloc ?_ (by first | omega | (simp; done) | (simp; omega)) _ | refine Below.setCell ?_ (by first | omega | (simp; done) | (simp; omega)) _ | refine below_then (by assumption) (by first | omega | (simp; done) | (simp; omega)) ?_))))).mono ?_
    rintro e w1 ⟨rfl, nq, rfl⟩
    go_wp2_with fail
  · exact bodyPost_ret (v := .tuple #[ZFM, .bool false]) (by simp [results, Try.results40, go_sem, ZFM]) rfl ⟨rfl, by (show Below _ _ _; (repeat (first | exact Below.refl _ _ | refine ext_below ?_ (by first | omega | (simp only [size_ext, heap_push, Array.size_push, World.heap_drewN]; omega) | (simp; omega)) _ _ | refine below_draws ?_ _ | refine Below.alloc ?_ (by first | omega | (simp; done) | (simp; omega)) _ | refine Below.setCell ?_ (by first | omega | (simp; done) | (simp; omega)) _ | refine below_then (by assumption) (by first | omega | (simp; done) | (simp; omega)) ?_)))⟩
  · exact bodyPost_ret (v := .tuple #[.agg #[.slice A xs.length c, .slice C ys.length c', .float .f32 r, .float .f32 d, .float .f32 s], .bool true]) (by simp [results, Try.results40, go_sem]) rfl ⟨rfl, by (show Below _ _ _; (repeat (first | exact Below.refl _ _ | refine ext_below ?_ (by first | omega | (simp only [size_ext, heap_push, Array.size_push, World.heap_drewN]; omega) | (simp; omega)) _ _ | refine below_draws ?_ _ | refine Below.alloc ?_ (by first | omega | (simp; done) | (simp; omega)) _ | refine Below.setCell ?_ (by first | omega | (simp; done) | (simp; omega)) _ | refine below_then (by assumption) (by first | omega | (simp; done) | (simp; omega)) ?_)))⟩

/-- What is told where all is well; else nothing. -/
def yesL {α : Type} (b : Bool) (l : List α) : List α := if b then l else []
def yesN (b : Bool) (n : Nat) : Nat := if b then n else 0

/-- A coordinate's datum. -/
def nearD (x : Ieee.Datum) : Bool := fromTo x (cl .f32 3351465984) (cl .f32 1203982336)

def vFarmD (D E : List Ieee.Datum) (r d s : Nat) : Bool :=
  decide (1 ≤ D.length) && decide (D.length ≤ 12) && decide (E.length = D.length) && above (cl .f32 r) && above (cl .f32 s) && !flt (cl .f32 1148846080) (cl .f32 r) && fromTo (cl .f32 d) (cl .f32 0) (cl .f32 1056964608) && D.all nearD && E.all nearD

theorem vFarm_D (xs ys : List Nat) (r d s : Nat) : vFarm xs ys r d s = vFarmD (xs.map (cl .f32)) (ys.map (cl .f32)) r d s := by
  unfold vFarm vFarmD
  simp only [List.length_map, List.all_map]
  rfl

end Go.Proofs.Ytlakmogclcpgdaa
