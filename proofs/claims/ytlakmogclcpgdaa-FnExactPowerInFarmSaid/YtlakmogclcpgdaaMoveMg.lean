/-
  CONTRACTS: whether there is a rotor; a place that is moved.
-/
import Derived.Test.YtlakmogclcpgdaaOwnFMg
import Derived.Test.YtlakmogclcpgdaaRowFMg
namespace Go.Proofs.Ytlakmogclcpgdaa
open Go.RowKit Go.Flt
set_option linter.unusedVariables false
set_option maxRecDepth 100000
set_option linter.unusedSimpArgs false

/-- Whether a farm is valid, and has a rotor. -/
def hasR (xs ys : List Nat) (r d s : Nat) (i : Int) : Bool := vFarm xs ys r d s && within i 0 ((xs.length : Int) - 1)

set_option maxHeartbeats 2000000 in
theorem c_l06Has (b : Nat) (A C : Option Addr) (n cA m cC K : Nat) (xs ys : List Nat) (r d s : Nat) (i : Int) (w : World) (hf : FmAt w b (.slice A n cA) (.slice C m cC) r d s) (hx : Fl w K A n xs) (hy : Fl w K C m ys) (hn : n ≤ 1048576) (hm : m ≤ 1048576) :
    Calls Try.prog 50 #[.pointer (some ⟨b, 0, none⟩), .int .i64 i] w fun e w' => e = .returned (.bool (hasR xs ys r d s i)) ∧ ∃ n, w' = w.drewN n := by
  obtain rfl := hx.1
  have HV := Lib.hid (c_l06Is b A C xs.length cA m cC K xs ys r d s)
  have HF := Lib.hid hf
  have HX := Lib.hid hx
  have HY := Lib.hid hy
  have NN := Lib.hid (And.intro hn hm)
  have h1 : wrap64 ((xs.length : Int) - 1) = (xs.length : Int) - 1 := by unfold wrap64; omega
  unfold hasR
  clear hf hx hy hn hm
  generalize vFarm xs ys r d s = V at *
  obtain ⟨p0, p1, p2, p3, p4⟩ := HF.out
  go_enter Try.func50, Try.ntmps50
  go_wp2_with fail
  refine (HV.out _ HF.out HX.out HY.out (by have := NN.out; unfold maxLen; omega) (by have := NN.out; unfold maxLen; omega)).mono ?_
  rintro e w1 ⟨rfl, nq, rfl⟩
  cases V
  · go_wp2_with fail
    go_ret
    exact ⟨rfl, by (first | exact ⟨_, rfl⟩ | exact ⟨0, rfl⟩ | exact ⟨_, World.drewN_drewN _ _ _⟩ | (simp only [World.drewN_drewN]; exact ⟨_, rfl⟩))⟩
  · go_wp2_with (go_at_call 39; refine (c_l00In _ _ _ _).mono ?_; rintro e w' ⟨rfl, nq, rfl⟩)
    go_ret
    exact ⟨rfl, by (first | exact ⟨_, rfl⟩ | exact ⟨0, rfl⟩ | exact ⟨_, World.drewN_drewN _ _ _⟩ | (simp only [World.drewN_drewN]; exact ⟨_, rfl⟩))⟩

set_option maxHeartbeats 2000000 in
theorem c_isRotor (A C : Option Addr) (n cA m cC r d s : Nat) (i : Int) (w : World) (hn : n ≤ 1048576) :
    Calls Try.prog 51 #[.agg #[.slice A n cA, .slice C m cC, .float .f32 r, .float .f32 d, .float .f32 s], .int .i64 i] w fun e w' => e = .returned (.bool (within i 0 ((n : Int) - 1))) ∧ Grew w w' := by
  have h1 : wrap64 ((n : Int) - 1) = (n : Int) - 1 := by unfold wrap64; omega
  clear hn
  go_enter Try.func51, Try.ntmps51
  go_wp2_with (go_at_call 42; refine (c_within _ _ _ _).mono ?_; rintro e w' ⟨rfl, nq, rfl⟩)
  go_ret
  exact ⟨rfl, by (show Below _ _ _; (repeat (first | exact Below.refl _ _ | refine ext_below ?_ (by first | omega | (simp only [size_ext, heap_push, Array.size_push, World.heap_drewN]; omega) | (simp; omega)) _ _ | refine below_draws ?_ _ | refine Below.alloc ?_ (by first | omega | (simp; done) | (simp; omega)) _ | refine Below.setCell ?_ (by first | omega | (simp; done) | (simp; omega)) _ | refine below_then (by assumption) (by first | omega | (simp; done) | (simp; omega)) ?_)))⟩

/-- A value is stored into the second row. -/
theorem mix_set2 {w0 w : World} {lo b : Nat} {v1 v2 : Value} {zs us : List Nat} {D E : List Ieee.Datum} (h : MixAt w0 w lo b v1 v2 zs us D E) (hn : us ≠ []) :
    ∃ b1 cap, v2 = .slice (some ⟨b1, 0, none⟩) us.length cap ∧ b1 < w.heap.size ∧ b1 ≠ b ∧ (∀ i x, us[i]? = some x → w.cell? ⟨b1, i, none⟩ = some (.float .f32 x)) ∧ (∀ i, w.frozen? ⟨b1, i, none⟩ = false) ∧
      ∀ i x, i < us.length → MixAt w0 (w.setCell ⟨b1, i, none⟩ (.float .f32 x)) lo b v1 v2 zs (us.set i x) D (E.set i (cl .f32 x)) := by
  obtain ⟨b1, cap, rfl, hb0, hb1, hc, hf, hs⟩ := h.r2.row hn
  have hne : b1 ≠ b := fun e => h.n2 (by rw [e]; rfl)
  refine ⟨b1, cap, rfl, hb1, hne, hc, hf, fun i x hi => ?_⟩
  obtain ⟨q1, q2⟩ := hs i x hi
  have hbk : (w.setCell ⟨b1, i, none⟩ (.float .f32 x)).heap[b]? = w.heap[b]? := q2.block b (fun e => hne (Option.some.inj e).symm)
  have hsz : (w.setCell ⟨b1, i, none⟩ (.float .f32 x)).heap.size = w.heap.size := by simp [World.setCell]
  exact { r2 := by rw [hsz]; exact q1, r1 := by rw [hsz]; exact h.r1.touch q2 (fun k e e2 => h.ap k e2 (by simpa [Value.ownBlock] using e)), ap := fun k e => by simpa [Value.ownBlock] using h.ap k e, n2 := by simpa [Value.ownBlock] using h.n2, n1 := h.n1,
          c0 := (cell_block hbk 0).1.trans h.c0, c1 := (cell_block hbk 1).1.trans h.c1, f0 := (cell_block hbk 0).2.trans h.f0, f1 := (cell_block hbk 1).2.trans h.f1, d2 := by rw [← h.d2, List.map_set], d1 := h.d1, gr := grew_set h.gr (Nat.le_trans h.hl hb0), hb := h.hb, hl := h.hl, ll := by rw [hsz]; exact h.ll, lt := by rw [hsz]; exact h.lt }

theorem mix_set1' {w0 w : World} {lo b : Nat} {v1 v2 : Value} {zs us : List Nat} {D E : List Ieee.Datum} (h : MixAt w0 w lo b v1 v2 zs us D E) (hn : zs ≠ []) :
    ∃ b1 cap, v1 = .slice (some ⟨b1, 0, none⟩) zs.length cap ∧ b1 < w.heap.size ∧ b1 ≠ b ∧ (∀ i x, zs[i]? = some x → w.cell? ⟨b1, i, none⟩ = some (.float .f32 x)) ∧ (∀ i, w.frozen? ⟨b1, i, none⟩ = false) ∧
      ∀ i x, i < zs.length → MixAt w0 (w.setCell ⟨b1, i, none⟩ (.float .f32 x)) lo b v1 v2 (zs.set i x) us (D.set i (cl .f32 x)) E := by
  obtain ⟨b1, cap, e, h1, h2, h3, h4⟩ := mix_set1 h hn
  exact ⟨b1, cap, e, h1, fun e' => h.n1 (by rw [e, e']; rfl), h2, h3, fun i x hi => h4 0 i x hi⟩

theorem FmBox.other {w : World} {b b' r d s : Nat} (h : FmBox w b r d s) (hn : b' ≠ b) (o : Nat) (u : Value) : FmBox (w.setCell ⟨b', o, none⟩ u) b r d s :=
  h.keep (by simp only [World.setCell, Array.getElem?_modify]; rw [if_neg hn])

def isMove (xs ys : List Nat) (r d s : Nat) (i : Int) (x y : Nat) : Bool := hasR xs ys r d s i && vFarmD ((xs.map (cl .f32)).set i.toNat (cl .f32 x)) ((ys.map (cl .f32)).set i.toNat (cl .f32 y)) r d s

theorem has_parts {xs ys : List Nat} {r d s : Nat} {i : Int} (h : hasR xs ys r d s i = true) : ∃ k : Nat, i = k ∧ k < xs.length ∧ k < ys.length ∧ xs.length ≤ 12 ∧ ys.length = xs.length := by
  unfold hasR vFarm within at h
  simp only [Bool.and_eq_true, decide_eq_true_eq] at h
  refine ⟨i.toNat, by omega, ?_, ?_, by omega, by omega⟩ <;> omega

set_option maxHeartbeats 4000000 in
theorem c_specMove (A C : Option Addr) (cA cC K : Nat) (xs ys : List Nat) (r d s : Nat) (i : Int) (x y : Nat) (w : World) (hx : Fl w K A xs.length xs) (hy : Fl w K C ys.length ys) (hK : K ≤ w.heap.size) (hn : xs.length ≤ 1048576) (hm : ys.length ≤ 1048576) :
    Calls Try.prog 21 #[.agg #[.slice A xs.length cA, .slice C ys.length cC, .float .f32 r, .float .f32 d, .float .f32 s], .int .i64 i, .float .f32 x, .float .f32 y] w
      (RetFm (yesL (isMove xs ys r d s i x y) ((xs.map (cl .f32)).set i.toNat (cl .f32 x))) (yesL (isMove xs ys r d s i x y) ((ys.map (cl .f32)).set i.toNat (cl .f32 y))) (yesN (isMove xs ys r d s i x y) r) (yesN (isMove xs ys r d s i x y) d) (yesN (isMove xs ys r d s i x y) s) (isMove xs ys r d s i x y) w) := by
  have V1 := Lib.hid (fun w' b hf h => c_l06Has b A C _ cA _ cC K xs ys r d s i w' hf (Slc.grew (g := Value.float .f32) (w' := w') hx hK h) (Slc.grew (g := Value.float .f32) (w' := w') hy hK h) hn hm)
  cases k1 : hasR xs ys r d s i
  · have e : isMove xs ys r d s i x y = false := by simp [isMove, k1]
    rw [e]
    rw [k1] at V1
    clear hx hy hK hn hm k1
    go_enter Try.func21, Try.ntmps21
    go_wp2_with fail
    refine (V1.out _ _ (by unfold FmAt; simp [go_sem]) (by (show Below _ _ _; (repeat (first | exact Below.refl _ _ | refine ext_below ?_ (by first | omega | (simp only [size_ext, heap_push, Array.size_push, World.heap_drewN]; omega) | (simp; omega)) _ _ | refine below_draws ?_ _ | refine Below.alloc ?_ (by first | omega | (simp; done) | (simp; omega)) _ | refine Below.setCell ?_ (by first | omega | (simp; done) | (simp; omega)) _ | refine below_then (by assumption) (by first | omega | (simp; done) | (simp; omega)) ?_))))).mono ?_
    rintro e w1 ⟨rfl, nq, rfl⟩
    go_wp2_with fail
    refine bodyPost_ret (v := .tuple #[ZFM, .bool false]) (by simp [results, Try.results21, go_sem, ZFM]) rfl ?_
    exact ⟨_, [], [], rfl, farm_nil _ _ _, rfl, rfl, by (show Below _ _ _; (repeat (first | exact Below.refl _ _ | refine ext_below ?_ (by first | omega | (simp only [size_ext, heap_push, Array.size_push, World.heap_drewN]; omega) | (simp; omega)) _ _ | refine below_draws ?_ _ | refine Below.alloc ?_ (by first | omega | (simp; done) | (simp; omega)) _ | refine Below.setCell ?_ (by first | omega | (simp; done) | (simp; omega)) _ | refine below_then (by assumption) (by first | omega | (simp; done) | (simp; omega)) ?_)))⟩
  · have hk : isMove xs ys r d s i x y = vFarmD ((xs.map (cl .f32)).set i.toNat (cl .f32 x)) ((ys.map (cl .f32)).set i.toNat (cl .f32 y)) r d s := by unfold isMove; rw [k1]; rfl
    rw [hk]
    rw [k1] at V1
    obtain ⟨k, rfl, hkx, hky, h12, hxy⟩ := has_parts k1
    have V2 := Lib.hid (fun w' b hf hb h => c_l06Own b A C cA cC K xs ys r d s w' hf (Slc.grew (g := Value.float .f32) (w' := w') hx hK h) (Slc.grew (g := Value.float .f32) (w' := w') hy hK h) (Nat.le_trans hK (Below.size h)) hb (by omega) (by omega) hn hm)
    have NN := Lib.hid (And.intro hkx (And.intro hky (And.intro hn hm)))
    simp only [Int.toNat_natCast]
    generalize hB : vFarmD ((xs.map (cl .f32)).set k (cl .f32 x)) ((ys.map (cl .f32)).set k (cl .f32 y)) r d s = BB
    generalize hD : yesL BB ((xs.map (cl .f32)).set k (cl .f32 x)) = DD
    generalize hE : yesL BB ((ys.map (cl .f32)).set k (cl .f32 y)) = EE
    generalize h1 : yesN BB r = RR
    generalize h2 : yesN BB d = RD
    generalize h3 : yesN BB s = RS
    have HB := Lib.hid hB
    have HD := Lib.hid hD
    have HE := Lib.hid hE
    have H1 := Lib.hid h1
    have H2 := Lib.hid h2
    have H3 := Lib.hid h3
    clear hB hD hE h1 h2 h3 hk hx hy hK hn hm k1 hkx hky h12 hxy
    go_enter Try.func21, Try.ntmps21
    go_wp2_with fail
    refine (V1.out _ _ (by unfold FmAt; simp [go_sem]) (by (show Below _ _ _; (repeat (first | exact Below.refl _ _ | refine ext_below ?_ (by first | omega | (simp only [size_ext, heap_push, Array.size_push, World.heap_drewN]; omega) | (simp; omega)) _ _ | refine below_draws ?_ _ | refine Below.alloc ?_ (by first | omega | (simp; done) | (simp; omega)) _ | refine Below.setCell ?_ (by first | omega | (simp; done) | (simp; omega)) _ | refine below_then (by assumption) (by first | omega | (simp; done) | (simp; omega)) ?_))))).mono ?_
    rintro e w1 ⟨rfl, nq, hw1⟩
    have G1 : Hid (Grew w w1) := Lib.hid (by rw [hw1]; show Grew w _; (show Below _ _ _; (repeat (first | exact Below.refl _ _ | refine ext_below ?_ (by first | omega | (simp only [size_ext, heap_push, Array.size_push, World.heap_drewN]; omega) | (simp; omega)) _ _ | refine below_draws ?_ _ | refine Below.alloc ?_ (by first | omega | (simp; done) | (simp; omega)) _ | refine Below.setCell ?_ (by first | omega | (simp; done) | (simp; omega)) _ | refine below_then (by assumption) (by first | omega | (simp; done) | (simp; omega)) ?_))))
    have A1 : Hid (FmAt w1 w.heap.size (.slice A xs.length cA) (.slice C ys.length cC) r d s) := Lib.hid (by rw [hw1]; unfold FmAt; simp [go_sem])
    have R1 : Hid (BoxF w1 (w.heap.size + 1)) := Lib.hid (by rw [hw1]; exact ⟨by unfold FmAt; simp [go_sem], fun o => by simp [go_sem]⟩)
    have z1 : w.heap.size + 1 < w1.heap.size := by rw [hw1]; simp
    have z0 : w.heap.size < w1.heap.size := by omega
    clear hw1 V1
    go_wp2_with fail
    refine (V2.out _ _ A1.out z0 G1.out).mono ?_
    rintro e w2 ⟨v, rfl, hf, hg2⟩
    obtain ⟨X, Y, rfl, hx, hy, hp⟩ := hf
    obtain ⟨a1, n1, m1, rfl⟩ := hx.sl
    obtain ⟨a2, n2, m2, rfl⟩ := hy.sl
    have hsz2 : w1.heap.size + 1 ≤ w2.heap.size := by
      obtain ⟨bq, _, _, hq1, hq2, _⟩ := RowAt.row hx (fun e => by have := NN.out.1; rw [e] at this; simp at this)
      omega
    have M0 := Lib.hid (mix_boxedF (w0 := w1) (lo := w1.heap.size + 1) r d s hx hy hp (by omega) hsz2 hg2)
    clear hx hy hp hg2 V2 hsz2
    go_upto_region 4 with fail
    generalize w2.alloc (.cells #[.slice a1 n1 m1, .slice a2 n2 m2, .float .f32 r, .float .f32 d, .float .f32 s] 25) = w3 at *
    generalize w2.heap.size = bx at *
    have i3 : (0 : Int) ≤ (k : Int) := by omega
    have i4 : (k : Int) < (xs.length : Int) := by have := NN.out; omega
    have i5 : (k : Int) < (ys.length : Int) := by have := NN.out; omega
    obtain ⟨b1, q1, e1, hb1, hn1, hc1, hf1, hs1⟩ := mix_set1' M0.out.1 (fun e => by have := NN.out.1; rw [e] at this; simp at this)
    simp only [Value.slice.injEq] at e1
    obtain ⟨rfl, rfl, rfl⟩ := e1
    have hcell := hc1 k (xs.getD k 0) (by have := NN.out; simp [show k < xs.length by omega])
    have hfz := hf1 k
    have M1 := Lib.hid (And.intro (hs1 k x NN.out.1) (M0.out.2.other hn1 k (.float .f32 x)))
    have r0 := M0.out.1.c0
    clear hc1 hf1 hs1 M0 hb1 hn1
    go_upto_region 5 with fail
    clear r0 hcell hfz
    generalize w3.setCell ⟨b1, k, none⟩ (.float .f32 x) = w4 at *
    obtain ⟨b2, q2, e2, hb2, hn2, hc2, hf2, hs2⟩ := mix_set2 M1.out.1 (fun e => by have := NN.out.2.1; rw [e] at this; simp at this)
    simp only [Value.slice.injEq] at e2
    obtain ⟨rfl, rfl, rfl⟩ := e2
    have hcell := hc2 k (ys.getD k 0) (by have := NN.out; simp [show k < ys.length by omega])
    have hfz := hf2 k
    have M2 := Lib.hid (And.intro (hs2 k y NN.out.2.1) (M1.out.2.other hn2 k (.float .f32 y)))
    have r0 := M1.out.1.c1
    clear hc2 hf2 hs2 M1 hb2 hn2
    go_upto_region 6 with fail
    clear r0 hcell hfz
    generalize w4.setCell ⟨b2, k, none⟩ (.float .f32 y) = wr at *
    obtain ⟨a1, n1, m1, ea1⟩ := M2.out.1.r1.sl
    obtain ⟨a2, n2, m2, ea2⟩ := M2.out.1.r2.sl
    rw [ea1, ea2] at M2
    clear ea1 ea2
    have r0 := M2.out.1.c0
    have r1 := M2.out.1.c1
    obtain ⟨q2, q3, q4⟩ := M2.out.2
    go_wp2_with fail
    have hRo : FarmAt wr (w1.heap.size + 1) wr.heap.size (.agg #[.slice a1 n1 m1, .slice a2 n2 m2, .float .f32 r, .float .f32 d, .float .f32 s]) (xs.set k x) (ys.set k y) r d s := ⟨_, _, rfl, M2.out.1.r1, M2.out.1.r2, M2.out.1.ap⟩
    have hGR : Grew w1 wr := M2.out.1.gr
    have hlo : w.heap.size + 1 + 1 ≤ w1.heap.size + 1 := by omega
    have hzs : (xs.set k x).length ≤ 1048576 := by have := NN.out; simp; omega
    have hus : (ys.set k y).length ≤ 1048576 := by have := NN.out; simp; omega
    have d1 := Lib.hid M2.out.1.d1
    have d2 := Lib.hid M2.out.1.d2
    have hbv : vFarm (xs.set k x) (ys.set k y) r d s = BB := by rw [vFarm_D, d1.out, d2.out]; exact HB.out
    clear r0 r1 q2 q3 q4 M2
    generalize hzz : xs.set k x = zs at *
    generalize hyy : ys.set k y = us at *
    clear hzz hyy
    have hG := Lib.hid (grew_trans G1.out hGR)
    refine (c_l06Give _ _ _ _ _ r d s _ hRo (Nat.le_refl _) hzs hus).mono ?_
    rintro e w4 ⟨rfl, hg4⟩
    rw [hbv]
    have hRo4 := Lib.hid (hRo.grew (Nat.le_refl _) hg4)
    have hG4 := Lib.hid (grew_trans hG.out hg4)
    have R4 := Lib.hid ((R1.out.grew z1 hGR).grew (Nat.lt_of_lt_of_le z1 (Below.size hGR)) hg4)
    have hsz4 : wr.heap.size ≤ w4.heap.size := Below.size hg4
    have hw1 : w1.heap.size ≤ wr.heap.size := Below.size hGR
    have z4 : w.heap.size + 1 < w4.heap.size := by omega
    clear hg4 hRo hGR hbv
    obtain ⟨⟨b0, b1, b2, b3, b4⟩, bf⟩ := R4.out
    cases BB
    · simp only [Bool.false_eq_true, if_false, ZFM]
      go_wp2_with fail
      refine bodyPost_ret (v := .tuple #[ZFM, .bool false]) (by simp [results, Try.results21, go_sem, b0, b1, b2, b3, b4, ZFM]) rfl ?_
      have hr1 : (0 : Nat) = RR := H1.out
      have hr2 : (0 : Nat) = RD := H2.out
      have hr3 : (0 : Nat) = RS := H3.out
      rw [← hr1, ← hr2, ← hr3]
      exact ⟨_, [], [], rfl, farm_nil _ _ _, HD.out, HE.out, (by repeat (first | (with_reducible exact hG4.out) | (with_reducible exact grw_refl _) | (with_reducible refine grew_draw _ _ ?_) | (with_reducible refine grew_al ?_ _) | (with_reducible refine grew_set ?_ ?_; rotate_left; omega)))⟩
    · simp only [if_true]
      go_wp2_with fail
      have hst := st5_at R4.out.1 (.slice a1 n1 m1) (.slice a2 n2 m2) r d s
      have hW := st5_wrote w4 (w.heap.size + 1) (.slice a1 n1 m1) (.slice a2 n2 m2) r d s
      obtain ⟨X, Y, he, h1, h2, h3⟩ := hRo4.out
      have hz3 : w.heap.size ≤ w1.heap.size + 1 := by have := Below.size G1.out; omega
      have hG5 : Grew w (st5 w4 (w.heap.size + 1) (.slice a1 n1 m1) (.slice a2 n2 m2) r d s) := Wrote.below hG4.out hW (by have := Below.size hG4.out; omega) (by omega)
      have hsz5 : wr.heap.size ≤ (st5 w4 (w.heap.size + 1) (.slice a1 n1 m1) (.slice a2 n2 m2) r d s).heap.size := Nat.le_trans hsz4 hW.size
      have hRo5 : FarmAt (st5 w4 (w.heap.size + 1) (.slice a1 n1 m1) (.slice a2 n2 m2) r d s) w.heap.size _ (.agg #[.slice a1 n1 m1, .slice a2 n2 m2, .float .f32 r, .float .f32 d, .float .f32 s]) zs us r d s :=
        ⟨X, Y, he, (h1.wrote hsz4 hW (.inr (by omega))).mono hz3 hsz5, (h2.wrote hsz4 hW (.inr (by omega))).mono hz3 hsz5, h3⟩
      show bodyPost _ _ _ _ _ (st5 w4 (w.heap.size + 1) (.slice a1 n1 m1) (.slice a2 n2 m2) r d s)
      generalize (st5 w4 (w.heap.size + 1) (.slice a1 n1 m1) (.slice a2 n2 m2) r d s) = w5 at *
      obtain ⟨e0, e1, e2, e3, e4⟩ := hst
      refine bodyPost_ret (v := .tuple #[.agg #[.slice a1 n1 m1, .slice a2 n2 m2, .float .f32 r, .float .f32 d, .float .f32 s], .bool true]) (by simp [results, Try.results21, go_sem, e0, e1, e2, e3, e4]) rfl ?_
      have hr1 : r = RR := H1.out
      have hr2 : d = RD := H2.out
      have hr3 : s = RS := H3.out
      rw [← hr1, ← hr2, ← hr3]
      exact ⟨_, zs, us, rfl, hRo5, by first | exact d1.out.trans HD.out | exact HD.out, by first | exact d2.out.trans HE.out | exact HE.out, hG5⟩

end Go.Proofs.Ytlakmogclcpgdaa

/-
  CONTRACTS: a place that is added, by the reference.
-/
namespace Go.Proofs.Ytlakmogclcpgdaa
open Go.RowKit Go.Flt
set_option linter.unusedVariables false
set_option maxRecDepth 100000
set_option linter.unusedSimpArgs false

def isAdd (xs ys : List Nat) (r d s : Nat) (x y : Nat) : Bool := vFarm xs ys r d s && vFarmD (xs.map (cl .f32) ++ [cl .f32 x]) (ys.map (cl .f32) ++ [cl .f32 y]) r d s

theorem vFarm_len {xs ys : List Nat} {r d s : Nat} (h : vFarm xs ys r d s = true) : 0 < xs.length ∧ 0 < ys.length ∧ xs.length ≤ 12 ∧ ys.length ≤ 12 := by
  unfold vFarm at h
  simp only [Bool.and_eq_true, decide_eq_true_eq] at h
  omega

set_option maxHeartbeats 4000000 in
theorem c_specAdd (lo hi : Nat) (v : Value) (xs ys : List Nat) (r d s : Nat) (x y : Nat) (w : World) (h : FarmAt w lo hi v xs ys r d s) (hK : hi ≤ w.heap.size) (hn : xs.length ≤ 1048576) (hm : ys.length ≤ 1048576) (fx : fits x) (fy : fits y) :
    Calls Try.prog 18 #[v, .float .f32 x, .float .f32 y] w
      (RetFm (yesL (isAdd xs ys r d s x y) (xs.map (cl .f32) ++ [cl .f32 x])) (yesL (isAdd xs ys r d s x y) (ys.map (cl .f32) ++ [cl .f32 y])) (yesN (isAdd xs ys r d s x y) r) (yesN (isAdd xs ys r d s x y) d) (yesN (isAdd xs ys r d s x y) s) (isAdd xs ys r d s x y) w) := by
  obtain ⟨A, cA, C, cC, rfl, hx, hy⟩ := h.parts
  clear h
  have V1 := Lib.hid (fun w' b hf h => c_l06Is b A C _ cA _ cC hi xs ys r d s w' hf (Slc.grew (g := Value.float .f32) (w' := w') hx hK h) (Slc.grew (g := Value.float .f32) (w' := w') hy hK h) (by unfold maxLen; omega) (by unfold maxLen; omega))
  cases k1 : vFarm xs ys r d s
  · have e : isAdd xs ys r d s x y = false := by simp [isAdd, k1]
    rw [e]
    rw [k1] at V1
    clear hx hy hK hn hm k1
    go_enter Try.func18, Try.ntmps18
    go_wp2_with fail
    refine (V1.out _ _ (by unfold FmAt; simp [go_sem]) (by (show Below _ _ _; (repeat (first | exact Below.refl _ _ | refine ext_below ?_ (by first | omega | (simp only [size_ext, heap_push, Array.size_push, World.heap_drewN]; omega) | (simp; omega)) _ _ | refine below_draws ?_ _ | refine Below.alloc ?_ (by first | omega | (simp; done) | (simp; omega)) _ | refine Below.setCell ?_ (by first | omega | (simp; done) | (simp; omega)) _ | refine below_then (by assumption) (by first | omega | (simp; done) | (simp; omega)) ?_))))).mono ?_
    rintro e w1 ⟨rfl, nq, rfl⟩
    go_wp2_with fail
    refine bodyPost_ret (v := .tuple #[ZFM, .bool false]) (by simp [results, Try.results18, go_sem, ZFM]) rfl ?_
    exact ⟨_, [], [], rfl, farm_nil _ _ _, rfl, rfl, by (show Below _ _ _; (repeat (first | exact Below.refl _ _ | refine ext_below ?_ (by first | omega | (simp only [size_ext, heap_push, Array.size_push, World.heap_drewN]; omega) | (simp; omega)) _ _ | refine below_draws ?_ _ | refine Below.alloc ?_ (by first | omega | (simp; done) | (simp; omega)) _ | refine Below.setCell ?_ (by first | omega | (simp; done) | (simp; omega)) _ | refine below_then (by assumption) (by first | omega | (simp; done) | (simp; omega)) ?_)))⟩
  · have hk : isAdd xs ys r d s x y = vFarmD (xs.map (cl .f32) ++ [cl .f32 x]) (ys.map (cl .f32) ++ [cl .f32 y]) r d s := by unfold isAdd; rw [k1]; rfl
    rw [hk]
    obtain ⟨hkx, hky, h12, h13⟩ := vFarm_len k1
    rw [k1] at V1
    have V2 := Lib.hid (fun w' b hf hb h => c_l06Own b A C cA cC hi xs ys r d s w' hf (Slc.grew (g := Value.float .f32) (w' := w') hx hK h) (Slc.grew (g := Value.float .f32) (w' := w') hy hK h) (Nat.le_trans hK (Below.size h)) hb hkx hky hn hm)
    have NN := Lib.hid (And.intro hkx (And.intro hky (And.intro h12 h13)))
    have FX := Lib.hid (And.intro fx fy)
    generalize hB : vFarmD (xs.map (cl .f32) ++ [cl .f32 x]) (ys.map (cl .f32) ++ [cl .f32 y]) r d s = BB
    generalize hD : yesL BB (xs.map (cl .f32) ++ [cl .f32 x]) = DD
    generalize hE : yesL BB (ys.map (cl .f32) ++ [cl .f32 y]) = EE
    generalize h1 : yesN BB r = RR
    generalize h2 : yesN BB d = RD
    generalize h3 : yesN BB s = RS
    have HB := Lib.hid hB
    have HD := Lib.hid hD
    have HE := Lib.hid hE
    have H1 := Lib.hid h1
    have H2 := Lib.hid h2
    have H3 := Lib.hid h3
    obtain ⟨i, hi, hz0, hz1, hz2⟩ := info_parts info_float32
    have HI := Lib.hid hi
    have HI0 := Lib.hid hz0
    have HI1 := Lib.hid hz1
    have HI2 := Lib.hid hz2
    clear hB hD hE h1 h2 h3 hk hx hy hK hn hm k1 hkx hky h12 h13 fx fy hi hz0 hz1 hz2
    go_enter Try.func18, Try.ntmps18
    go_wp2_with fail
    refine (V1.out _ _ (by unfold FmAt; simp [go_sem]) (by (show Below _ _ _; (repeat (first | exact Below.refl _ _ | refine ext_below ?_ (by first | omega | (simp only [size_ext, heap_push, Array.size_push, World.heap_drewN]; omega) | (simp; omega)) _ _ | refine below_draws ?_ _ | refine Below.alloc ?_ (by first | omega | (simp; done) | (simp; omega)) _ | refine Below.setCell ?_ (by first | omega | (simp; done) | (simp; omega)) _ | refine below_then (by assumption) (by first | omega | (simp; done) | (simp; omega)) ?_))))).mono ?_
    rintro e w1 ⟨rfl, nq, hw1⟩
    have G1 : Hid (Grew w w1) := Lib.hid (by rw [hw1]; show Grew w _; (show Below _ _ _; (repeat (first | exact Below.refl _ _ | refine ext_below ?_ (by first | omega | (simp only [size_ext, heap_push, Array.size_push, World.heap_drewN]; omega) | (simp; omega)) _ _ | refine below_draws ?_ _ | refine Below.alloc ?_ (by first | omega | (simp; done) | (simp; omega)) _ | refine Below.setCell ?_ (by first | omega | (simp; done) | (simp; omega)) _ | refine below_then (by assumption) (by first | omega | (simp; done) | (simp; omega)) ?_))))
    have A1 : Hid (FmAt w1 w.heap.size (.slice A xs.length cA) (.slice C ys.length cC) r d s) := Lib.hid (by rw [hw1]; unfold FmAt; simp [go_sem])
    have R1 : Hid (BoxF w1 (w.heap.size + 1)) := Lib.hid (by rw [hw1]; exact ⟨by unfold FmAt; simp [go_sem], fun o => by simp [go_sem]⟩)
    have z1 : w.heap.size + 1 < w1.heap.size := by rw [hw1]; simp
    have z0 : w.heap.size < w1.heap.size := by omega
    clear hw1 V1
    go_wp2_with fail
    refine (V2.out _ _ A1.out z0 G1.out).mono ?_
    rintro e w2 ⟨v, rfl, hf, hg2⟩
    obtain ⟨X, Y, rfl, hx, hy, hp⟩ := hf
    obtain ⟨a1, n1, m1, rfl⟩ := hx.sl
    obtain ⟨a2, n2, m2, rfl⟩ := hy.sl
    have hsz2 : w1.heap.size + 1 ≤ w2.heap.size := by
      obtain ⟨bq, _, _, hq1, hq2, _⟩ := RowAt.row hx (fun e => by have := NN.out.1; rw [e] at this; simp at this)
      omega
    have M0 := Lib.hid (mix_boxedF (w0 := w1) (lo := w1.heap.size + 1) r d s hx hy hp (by omega) hsz2 hg2)
    clear hx hy hp hg2 V2 hsz2
    go_upto_region 4 with fail
    generalize w2.alloc (.cells #[.slice a1 n1 m1, .slice a2 n2 m2, .float .f32 r, .float .f32 d, .float .f32 s] 25) = w3 at *
    generalize w2.heap.size = bx at *
    have r0 := M0.out.1.c0
    have f0 := M0.out.1.f0
    have zb : bx < w3.heap.size := M0.out.1.lt
    go_upto_region 5 with (at_builtin; refine wpList_append_own_at _ rfl _ _ 23 rfl (w1.heap.size + 1) 22 i (.float .f32 0) 1 4 Try.underlying23 HI.out HI0.out HI1.out HI2.out rfl (by decide) (.slice a1 n1 m1) xs.length _ rfl (RowAt.grew M0.out.1.r1 (Nat.le_refl _) (grew_al (grew_refl w3) _)).1 ⟨_, 0, none⟩ 1 _ [.float .f32 x] rfl rfl (cell_one_new _ _ _) (by simp [Value.oneCell']) (by have := NN.out; unfold maxLen; omega) (by have := NN.out; omega) (by have := M0.out.1.ll; simp; omega) ?_; rintro v4 w4 hown hgr _ hat; have hP := Lib.hid (mix_push1 M0.out.1 (grew_al (grew_refl w3) _) hown hgr hat (rfl : cl .f32 x = _)); have hB := Lib.hid (M0.out.2.keep (mix_same M0.out.1 (grew_al (grew_refl w3) _) hgr (.inl rfl))); clear hown hgr hat; obtain ⟨A9, n9, c9, rfl⟩ := hP.out.1.r1.sl; have c9' := hP.out.2.1; have f9' := hP.out.2.2; clear r0 f0)
    have M1 := Lib.hid (And.intro hP.out.1 (hB.out.set 0 (by omega) (.slice A9 n9 c9)))
    clear hP hB c9' f9' M0 zb
    generalize w4.setCell ⟨bx, 0, none⟩ (.slice A9 n9 c9) = w5 at *
    have r0 := M1.out.1.c1
    have f0 := M1.out.1.f1
    have zb : bx < w5.heap.size := M1.out.1.lt
    go_upto_region 6 with (at_builtin; refine wpList_append_own_at _ rfl _ _ 23 rfl (w1.heap.size + 1) 22 i (.float .f32 0) 1 4 Try.underlying23 HI.out HI0.out HI1.out HI2.out rfl (by decide) (.slice a2 n2 m2) ys.length _ rfl (RowAt.grew M1.out.1.r2 (Nat.le_refl _) (grew_al (grew_refl w5) _)).1 ⟨_, 0, none⟩ 1 _ [.float .f32 y] rfl rfl (cell_one_new _ _ _) (by simp [Value.oneCell']) (by have := NN.out; unfold maxLen; omega) (by have := NN.out; omega) (by have := M1.out.1.ll; simp; omega) ?_; rintro v6 w6 hown hgr _ hat; have hP := Lib.hid (mix_push2 M1.out.1 (grew_al (grew_refl w5) _) hown hgr hat (rfl : cl .f32 y = _)); have hB := Lib.hid (M1.out.2.keep (mix_same M1.out.1 (grew_al (grew_refl w5) _) hgr (.inr rfl))); clear hown hgr hat; obtain ⟨A8, n8, c8, rfl⟩ := hP.out.1.r2.sl; have c9' := hP.out.2.1; have f9' := hP.out.2.2; clear r0 f0)
    have M2 := Lib.hid (And.intro hP.out.1 (hB.out.set 1 (by omega) (.slice A8 n8 c8)))
    clear hP hB c9' f9' M1 zb
    generalize w6.setCell ⟨bx, 1, none⟩ (.slice A8 n8 c8) = wr at *
    have r0 := M2.out.1.c0
    have r1 := M2.out.1.c1
    obtain ⟨q2, q3, q4⟩ := M2.out.2
    go_wp2_with fail
    have hRo : FarmAt wr (w1.heap.size + 1) wr.heap.size (.agg #[.slice A9 n9 c9, .slice A8 n8 c8, .float .f32 r, .float .f32 d, .float .f32 s]) (xs ++ [x]) (ys ++ [y]) r d s := ⟨_, _, rfl, M2.out.1.r1, M2.out.1.r2, M2.out.1.ap⟩
    have hGR : Grew w1 wr := M2.out.1.gr
    have hlo : w.heap.size + 1 + 1 ≤ w1.heap.size + 1 := by omega
    have hzs : (xs ++ [x]).length ≤ 1048576 := by have := NN.out; simp; omega
    have hus : (ys ++ [y]).length ≤ 1048576 := by have := NN.out; simp; omega
    have d1 := Lib.hid M2.out.1.d1
    have d2 := Lib.hid M2.out.1.d2
    have hbv : vFarm (xs ++ [x]) (ys ++ [y]) r d s = BB := by rw [vFarm_D, d1.out, d2.out]; exact HB.out
    clear r0 r1 q2 q3 q4 M2
    generalize hzz : xs ++ [x] = zs at *
    generalize hyy : ys ++ [y] = us at *
    clear hzz hyy
    generalize A9 = a1, n9 = n1, c9 = m1, A8 = a2, n8 = n2, c8 = m2 at *
    have hG := Lib.hid (grew_trans G1.out hGR)
    refine (c_l06Give _ _ _ _ _ r d s _ hRo (Nat.le_refl _) hzs hus).mono ?_
    rintro e w4 ⟨rfl, hg4⟩
    rw [hbv]
    have hRo4 := Lib.hid (hRo.grew (Nat.le_refl _) hg4)
    have hG4 := Lib.hid (grew_trans hG.out hg4)
    have R4 := Lib.hid ((R1.out.grew z1 hGR).grew (Nat.lt_of_lt_of_le z1 (Below.size hGR)) hg4)
    have hsz4 : wr.heap.size ≤ w4.heap.size := Below.size hg4
    have hw1 : w1.heap.size ≤ wr.heap.size := Below.size hGR
    have z4 : w.heap.size + 1 < w4.heap.size := by omega
    clear hg4 hRo hGR hbv
    obtain ⟨⟨b0, b1, b2, b3, b4⟩, bf⟩ := R4.out
    cases BB
    · simp only [Bool.false_eq_true, if_false, ZFM]
      go_wp2_with fail
      refine bodyPost_ret (v := .tuple #[ZFM, .bool false]) (by simp [results, Try.results18, go_sem, b0, b1, b2, b3, b4, ZFM]) rfl ?_
      have hr1 : (0 : Nat) = RR := H1.out
      have hr2 : (0 : Nat) = RD := H2.out
      have hr3 : (0 : Nat) = RS := H3.out
      rw [← hr1, ← hr2, ← hr3]
      exact ⟨_, [], [], rfl, farm_nil _ _ _, HD.out, HE.out, (by repeat (first | (with_reducible exact hG4.out) | (with_reducible exact grw_refl _) | (with_reducible refine grew_draw _ _ ?_) | (with_reducible refine grew_al ?_ _) | (with_reducible refine grew_set ?_ ?_; rotate_left; omega)))⟩
    · simp only [if_true]
      go_wp2_with fail
      have hst := st5_at R4.out.1 (.slice a1 n1 m1) (.slice a2 n2 m2) r d s
      have hW := st5_wrote w4 (w.heap.size + 1) (.slice a1 n1 m1) (.slice a2 n2 m2) r d s
      obtain ⟨X, Y, he, h1, h2, h3⟩ := hRo4.out
      have hz3 : w.heap.size ≤ w1.heap.size + 1 := by have := Below.size G1.out; omega
      have hG5 : Grew w (st5 w4 (w.heap.size + 1) (.slice a1 n1 m1) (.slice a2 n2 m2) r d s) := Wrote.below hG4.out hW (by have := Below.size hG4.out; omega) (by omega)
      have hsz5 : wr.heap.size ≤ (st5 w4 (w.heap.size + 1) (.slice a1 n1 m1) (.slice a2 n2 m2) r d s).heap.size := Nat.le_trans hsz4 hW.size
      have hRo5 : FarmAt (st5 w4 (w.heap.size + 1) (.slice a1 n1 m1) (.slice a2 n2 m2) r d s) w.heap.size _ (.agg #[.slice a1 n1 m1, .slice a2 n2 m2, .float .f32 r, .float .f32 d, .float .f32 s]) zs us r d s :=
        ⟨X, Y, he, (h1.wrote hsz4 hW (.inr (by omega))).mono hz3 hsz5, (h2.wrote hsz4 hW (.inr (by omega))).mono hz3 hsz5, h3⟩
      show bodyPost _ _ _ _ _ (st5 w4 (w.heap.size + 1) (.slice a1 n1 m1) (.slice a2 n2 m2) r d s)
      generalize (st5 w4 (w.heap.size + 1) (.slice a1 n1 m1) (.slice a2 n2 m2) r d s) = w5 at *
      obtain ⟨e0, e1, e2, e3, e4⟩ := hst
      refine bodyPost_ret (v := .tuple #[.agg #[.slice a1 n1 m1, .slice a2 n2 m2, .float .f32 r, .float .f32 d, .float .f32 s], .bool true]) (by simp [results, Try.results18, go_sem, e0, e1, e2, e3, e4]) rfl ?_
      have hr1 : r = RR := H1.out
      have hr2 : d = RD := H2.out
      have hr3 : s = RS := H3.out
      rw [← hr1, ← hr2, ← hr3]
      exact ⟨_, zs, us, rfl, hRo5, by first | exact d1.out.trans HD.out | exact HD.out, by first | exact d2.out.trans HE.out | exact HE.out, hG5⟩

end Go.Proofs.Ytlakmogclcpgdaa

