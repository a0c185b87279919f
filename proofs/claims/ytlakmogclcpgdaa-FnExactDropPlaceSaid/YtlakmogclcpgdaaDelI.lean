/-
  CONTRACTS: a place that is dropped, by the program.
-/
import Derived.Test.YtlakmogclcpgdaaDel
namespace Go.Proofs.Ytlakmogclcpgdaa
open Go.RowKit Go.Flt
set_option linter.unusedVariables false
set_option maxRecDepth 100000
set_option linter.unusedSimpArgs false

def isDrop (xs ys : List Nat) (r d s : Nat) (i : Int) : Bool := hasR xs ys r d s i && vFarmD ((xs.map (cl .f32)).eraseIdx i.toNat) ((ys.map (cl .f32)).eraseIdx i.toNat) r d s

theorem c_DeleteRow' (lo hi : Nat) (v : Value) (xs : List Nat) (k : Nat) (w : World) (h : FRow w lo hi v xs) (hk : k < xs.length) :
    Calls Try.prog 52 #[v, .int .i64 (k : Int), .int .i64 ((k : Int) + 1)] w fun e w' => ∃ v', e = .returned v' ∧ FRow w' lo hi v' (xs.eraseIdx k) ∧ v'.ownBlock = v.ownBlock ∧ Touch v.ownBlock w w' := c_DeleteRow lo hi v xs k w h hk

theorem map_erase (xs : List Nat) (k : Nat) : (xs.eraseIdx k).map (cl .f32) = (xs.map (cl .f32)).eraseIdx k := by
  rw [List.eraseIdx_eq_take_drop_succ, List.eraseIdx_eq_take_drop_succ, List.map_append, List.map_take, List.map_drop]

set_option maxHeartbeats 4000000 in
theorem c_implDrop (lo hi : Nat) (v : Value) (xs ys : List Nat) (r d s : Nat) (i : Int) (w : World) (h : FarmAt w lo hi v xs ys r d s) (hK : hi ≤ w.heap.size) (hn : xs.length ≤ 1048576) (hm : ys.length ≤ 1048576) :
    Calls Try.prog 24 #[v, .int .i64 i] w
      (RetFm (yesL (isDrop xs ys r d s i) ((xs.map (cl .f32)).eraseIdx i.toNat)) (yesL (isDrop xs ys r d s i) ((ys.map (cl .f32)).eraseIdx i.toNat)) (yesN (isDrop xs ys r d s i) r) (yesN (isDrop xs ys r d s i) d) (yesN (isDrop xs ys r d s i) s) (isDrop xs ys r d s i) w) := by
  have V1 := Lib.hid (fun w' (hg : Grew w w') => c_implValidFarm' lo hi v xs ys r d s w' (h.grew hK hg) (Nat.le_trans hK (Below.size hg)))
  have V2 := Lib.hid (fun w' (hg : Grew w w') => c_copyFarm lo hi v xs ys r d s w' (h.grew hK hg) (Nat.le_trans hK (Below.size hg)))
  obtain ⟨A, cA, C, cC, rfl, hx, hy⟩ := h.parts
  have V3 := Lib.hid (fun w' => c_isRotor A C xs.length cA ys.length cC r d s i w' hn)
  clear h hx hy
  cases k1 : hasR xs ys r d s i
  · have e : isDrop xs ys r d s i = false := by simp [isDrop, k1]
    rw [e]
    have k2 := Lib.hid (show (vFarm xs ys r d s && within i 0 ((xs.length : Int) - 1)) = false from k1)
    clear hK hn hm k1 V2 e
    generalize vFarm xs ys r d s = V at *
    generalize within i 0 ((xs.length : Int) - 1) = I at *
    go_enter Try.func24, Try.ntmps24
    go_wp2_with fail
    refine (V1.out _ (by (show Below _ _ _; (repeat (first | exact Below.refl _ _ | refine ext_below ?_ (by first | omega | (simp only [size_ext, heap_push, Array.size_push, World.heap_drewN]; omega) | (simp; omega)) _ _ | refine below_draws ?_ _ | refine Below.alloc ?_ (by first | omega | (simp; done) | (simp; omega)) _ | refine Below.setCell ?_ (by first | omega | (simp; done) | (simp; omega)) _ | refine below_then (by assumption) (by first | omega | (simp; done) | (simp; omega)) ?_))))).mono ?_
    rintro e w1 ⟨rfl, hg1⟩
    have G1 := Lib.hid (grew_trans (show Grew w _ by (show Below _ _ _; (repeat (first | exact Below.refl _ _ | refine ext_below ?_ (by first | omega | (simp only [size_ext, heap_push, Array.size_push, World.heap_drewN]; omega) | (simp; omega)) _ _ | refine below_draws ?_ _ | refine Below.alloc ?_ (by first | omega | (simp; done) | (simp; omega)) _ | refine Below.setCell ?_ (by first | omega | (simp; done) | (simp; omega)) _ | refine below_then (by assumption) (by first | omega | (simp; done) | (simp; omega)) ?_)))) hg1)
    have A1 : Hid (FmAt w1 w.heap.size (.slice A xs.length cA) (.slice C ys.length cC) r d s) := Lib.hid (FmAt.grew (by unfold FmAt; simp [go_sem]) (by simp <;> omega) hg1)
    have R1 : Hid (BoxF w1 (w.heap.size + 1)) := Lib.hid (BoxF.grew ⟨by unfold FmAt; simp [go_sem], fun o => by simp [go_sem]⟩ (by simp) hg1)
    have z1 : w.heap.size + 1 < w1.heap.size := by have := Below.size hg1; simp at this; omega
    have z0 : w.heap.size < w1.heap.size := by omega
    clear hg1 V1
    obtain ⟨p0, p1, p2, p3, p4⟩ := A1.out
    cases V
    · clear p0 p1 p2 p3 p4
      obtain ⟨⟨b0, b1, b2, b3, b4⟩, bf⟩ := R1.out
      go_wp2_with fail
      have hst := st5_at R1.out.1 (.slice none 0 0) (.slice none 0 0) 0 0 0
      have hW := st5_wrote w1 (w.heap.size + 1) (.slice none 0 0) (.slice none 0 0) 0 0 0
      have hG5 : Grew w (st5 w1 (w.heap.size + 1) (.slice none 0 0) (.slice none 0 0) 0 0 0) := Wrote.below G1.out hW (by have := Below.size G1.out; omega) (by omega)
      show bodyPost _ _ _ _ _ (st5 w1 (w.heap.size + 1) (.slice none 0 0) (.slice none 0 0) 0 0 0)
      generalize st5 w1 (w.heap.size + 1) (.slice none 0 0) (.slice none 0 0) 0 0 0 = w5 at *
      obtain ⟨e0, e1, e2, e3, e4⟩ := hst
      refine bodyPost_ret (v := .tuple #[ZFM, .bool false]) (by simp [results, Try.results24, go_sem, e0, e1, e2, e3, e4, ZFM]) rfl ?_
      exact ⟨_, [], [], rfl, farm_nil _ _ _, rfl, rfl, hG5⟩
    · have hI : I = false := by have := k2.out; simpa using this
      subst hI
      go_wp2_with fail
      refine (V3.out _).mono ?_
      rintro e w2 ⟨rfl, hg2⟩
      have R2 := Lib.hid (R1.out.grew z1 hg2)
      have G2 := Lib.hid (grew_trans G1.out hg2)
      clear hg2 V3 p0 p1 p2 p3 p4
      obtain ⟨⟨b0, b1, b2, b3, b4⟩, bf⟩ := R2.out
      go_wp2_with fail
      have hst := st5_at R2.out.1 (.slice none 0 0) (.slice none 0 0) 0 0 0
      have hW := st5_wrote w2 (w.heap.size + 1) (.slice none 0 0) (.slice none 0 0) 0 0 0
      have hG5 : Grew w (st5 w2 (w.heap.size + 1) (.slice none 0 0) (.slice none 0 0) 0 0 0) := Wrote.below G2.out hW (by have := Below.size G2.out; omega) (by omega)
      show bodyPost _ _ _ _ _ (st5 w2 (w.heap.size + 1) (.slice none 0 0) (.slice none 0 0) 0 0 0)
      generalize st5 w2 (w.heap.size + 1) (.slice none 0 0) (.slice none 0 0) 0 0 0 = w5 at *
      obtain ⟨e0, e1, e2, e3, e4⟩ := hst
      refine bodyPost_ret (v := .tuple #[ZFM, .bool false]) (by simp [results, Try.results24, go_sem, e0, e1, e2, e3, e4, ZFM]) rfl ?_
      exact ⟨_, [], [], rfl, farm_nil _ _ _, rfl, rfl, hG5⟩
  · have hk : isDrop xs ys r d s i = vFarmD ((xs.map (cl .f32)).eraseIdx i.toNat) ((ys.map (cl .f32)).eraseIdx i.toNat) r d s := by unfold isDrop; rw [k1]; rfl
    rw [hk]
    obtain ⟨k, rfl, hkx, hky, h12, hxy⟩ := has_parts k1
    have k2 : vFarm xs ys r d s = true ∧ within (k : Int) 0 ((xs.length : Int) - 1) = true := by simpa [hasR] using k1
    rw [k2.1] at V1
    rw [k2.2] at V3
    have V2 := Lib.hid (fun w' (hg : Grew w w') => V2.out w' hg (by omega) (by omega) hn hm)
    have NN := Lib.hid (And.intro hkx (And.intro hky (And.intro hn hm)))
    simp only [Int.toNat_natCast]
    generalize hB : vFarmD ((xs.map (cl .f32)).eraseIdx k) ((ys.map (cl .f32)).eraseIdx k) r d s = BB
    generalize hD : yesL BB ((xs.map (cl .f32)).eraseIdx k) = DD
    generalize hE : yesL BB ((ys.map (cl .f32)).eraseIdx k) = EE
    generalize h1 : yesN BB r = RR
    generalize h2 : yesN BB d = RD
    generalize h3 : yesN BB s = RS
    have HB := Lib.hid hB
    have HD := Lib.hid hD
    have HE := Lib.hid hE
    have H1 := Lib.hid h1
    have H2 := Lib.hid h2
    have H3 := Lib.hid h3
    clear hB hD hE h1 h2 h3 hk hK hn hm k1 hkx hky h12 hxy k2
    go_enter Try.func24, Try.ntmps24
    go_wp2_with fail
    refine (V1.out _ (by (show Below _ _ _; (repeat (first | exact Below.refl _ _ | refine ext_below ?_ (by first | omega | (simp only [size_ext, heap_push, Array.size_push, World.heap_drewN]; omega) | (simp; omega)) _ _ | refine below_draws ?_ _ | refine Below.alloc ?_ (by first | omega | (simp; done) | (simp; omega)) _ | refine Below.setCell ?_ (by first | omega | (simp; done) | (simp; omega)) _ | refine below_then (by assumption) (by first | omega | (simp; done) | (simp; omega)) ?_))))).mono ?_
    rintro e w1 ⟨rfl, hg1⟩
    have G1 := Lib.hid (grew_trans (show Grew w _ by (show Below _ _ _; (repeat (first | exact Below.refl _ _ | refine ext_below ?_ (by first | omega | (simp only [size_ext, heap_push, Array.size_push, World.heap_drewN]; omega) | (simp; omega)) _ _ | refine below_draws ?_ _ | refine Below.alloc ?_ (by first | omega | (simp; done) | (simp; omega)) _ | refine Below.setCell ?_ (by first | omega | (simp; done) | (simp; omega)) _ | refine below_then (by assumption) (by first | omega | (simp; done) | (simp; omega)) ?_)))) hg1)
    have A1 : Hid (FmAt w1 w.heap.size (.slice A xs.length cA) (.slice C ys.length cC) r d s) := Lib.hid (FmAt.grew (by unfold FmAt; simp [go_sem]) (by simp <;> omega) hg1)
    have R1 : Hid (BoxF w1 (w.heap.size + 1)) := Lib.hid (BoxF.grew ⟨by unfold FmAt; simp [go_sem], fun o => by simp [go_sem]⟩ (by simp) hg1)
    have z1 : w.heap.size + 1 < w1.heap.size := by have := Below.size hg1; simp at this; omega
    have z0 : w.heap.size < w1.heap.size := by omega
    clear hg1 V1
    obtain ⟨p0, p1, p2, p3, p4⟩ := A1.out
    go_wp2_with fail
    refine (V3.out _).mono ?_
    rintro e w2 ⟨rfl, hg2⟩
    have R2 := Lib.hid (R1.out.grew z1 hg2)
    have A2 := Lib.hid (A1.out.grew z0 hg2)
    have G2 := Lib.hid (grew_trans G1.out hg2)
    have z2 : w.heap.size + 1 < w2.heap.size := by have := Below.size hg2; omega
    clear hg2 V3 p0 p1 p2 p3 p4
    obtain ⟨p0, p1, p2, p3, p4⟩ := A2.out
    go_wp2_with fail
    refine (V2.out _ G2.out).mono ?_
    rintro e w3 ⟨v, rfl, hf, hg3⟩
    obtain ⟨X, Y, rfl, hx, hy, hp⟩ := hf
    obtain ⟨a1, n1, m1, rfl⟩ := hx.sl
    obtain ⟨a2, n2, m2, rfl⟩ := hy.sl
    have hsz3 : w2.heap.size + 1 + 1 ≤ w3.heap.size := by
      obtain ⟨bq, _, _, hq1, hq2, _⟩ := RowAt.row hx (fun e => by have := NN.out.1; rw [e] at this; simp at this)
      omega
    have M0 := Lib.hid (mix_boxedF (w0 := w2) (lo := w2.heap.size + 1 + 1) r d s hx hy hp (by omega) hsz3 hg3)
    clear hx hy hp hg3 V2 hsz3 p0 p1 p2 p3 p4
    go_upto_region 4 with fail
    generalize w3.alloc (.cells #[.slice a1 n1 m1, .slice a2 n2 m2, .float .f32 r, .float .f32 d, .float .f32 s] 25) = w4 at *
    generalize w3.heap.size = bx at *
    have M1 := Lib.hid M0.out.1.two
    have HW : IntKind.i64.wrap ((k : Int) + 1) = (k : Int) + 1 := by rw [IntKind.wrap_i64]; have := NN.out; omega
    go_cut [] from 8 (fun wc => ∃ v1 v2, MixAt w2 wc (w2.heap.size + 1 + 1) bx v1 v2 (xs.eraseIdx k) (ys.eraseIdx k) ((xs.map (cl .f32)).eraseIdx k) ((ys.map (cl .f32)).eraseIdx k) ∧ FmBox wc bx r d s)
    case first =>
      have r0 := M0.out.1.c0
      have r1 := M0.out.1.c1
      have f0 := M0.out.1.f0
      have f1 := M0.out.1.f1
      have zb : bx < w4.heap.size := M0.out.1.lt
      go_wp2_with fail
      go_region_with (first | (go_at_call 52; refine (c_DeleteRow' _ _ (.slice a1 n1 m1) xs k _ (M1.out.grew (by (show Below _ _ _; (repeat (first | exact Below.refl _ _ | refine ext_below ?_ (by first | omega | (simp only [size_ext, heap_push, Array.size_push, World.heap_drewN]; omega) | (simp; omega)) _ _ | refine below_draws ?_ _ | refine Below.alloc ?_ (by first | omega | (simp; done) | (simp; omega)) _ | refine Below.setCell ?_ (by first | omega | (simp; done) | (simp; omega)) _ | refine below_then (by assumption) (by first | omega | (simp; done) | (simp; omega)) ?_))))).r1 NN.out.1).mono ?_; rintro e w5 ⟨v5, rfl, hrow, hob, hto⟩; have hT := Lib.hid (two_touch1 (M1.out.grew (by (show Below _ _ _; (repeat (first | exact Below.refl _ _ | refine ext_below ?_ (by first | omega | (simp only [size_ext, heap_push, Array.size_push, World.heap_drewN]; omega) | (simp; omega)) _ _ | refine below_draws ?_ _ | refine Below.alloc ?_ (by first | omega | (simp; done) | (simp; omega)) _ | refine Below.setCell ?_ (by first | omega | (simp; done) | (simp; omega)) _ | refine below_then (by assumption) (by first | omega | (simp; done) | (simp; omega)) ?_))))) hrow hob hto); clear M1 hrow hob hto; obtain ⟨A9, n9, c9, rfl⟩ := hT.out.r1.sl; have t0 := (cell_block hT.out.bx 0).1.trans M0.out.1.c0; have t1 := (cell_block hT.out.bx 1).1.trans M0.out.1.c1; have zt := hT.out.lt) | (go_at_call 52; refine (c_DeleteRow' _ _ (.slice a2 n2 m2) ys k _ (hT.out.grew (by (show Below _ _ _; (repeat (first | exact Below.refl _ _ | refine ext_below ?_ (by first | omega | (simp only [size_ext, heap_push, Array.size_push, World.heap_drewN]; omega) | (simp; omega)) _ _ | refine below_draws ?_ _ | refine Below.alloc ?_ (by first | omega | (simp; done) | (simp; omega)) _ | refine Below.setCell ?_ (by first | omega | (simp; done) | (simp; omega)) _ | refine below_then (by assumption) (by first | omega | (simp; done) | (simp; omega)) ?_))))).r2 NN.out.2.1).mono ?_; rintro e w6 ⟨v6, rfl, hrow, hob, hto⟩; have hU := Lib.hid (two_touch1 (hT.out.grew (by (show Below _ _ _; (repeat (first | exact Below.refl _ _ | refine ext_below ?_ (by first | omega | (simp only [size_ext, heap_push, Array.size_push, World.heap_drewN]; omega) | (simp; omega)) _ _ | refine below_draws ?_ _ | refine Below.alloc ?_ (by first | omega | (simp; done) | (simp; omega)) _ | refine Below.setCell ?_ (by first | omega | (simp; done) | (simp; omega)) _ | refine below_then (by assumption) (by first | omega | (simp; done) | (simp; omega)) ?_))))).swap hrow hob hto).swap; clear hT hrow hob hto; obtain ⟨A8, n8, c8, rfl⟩ := hU.out.r2.sl; have y0 := (cell_block hU.out.bx 0).1.trans M0.out.1.c0; have y1 := (cell_block hU.out.bx 1).1.trans M0.out.1.c1; have g0 := (cell_block hU.out.bx 0).2.trans M0.out.1.f0; have g1 := (cell_block hU.out.bx 1).2.trans M0.out.1.f1; have zu := hU.out.lt; clear t0 t1 zt))
      all_goals
        have hM := two_done hU.out M0.out.1.c0 M0.out.1.c1 M0.out.1.f0 M0.out.1.f1
        rw [map_erase, map_erase] at hM
        have hF := ((M0.out.2.keep hU.out.bx).set 0 (by omega) (.slice A9 n9 c9)).set 1 (by omega) (.slice A8 n8 c8)
        have hZ := Lib.hid (And.intro hM hF)
        clear hM hF y0 y1 g0 g1 zu r0 r1 f0 f1 zb
        go_wp2_with fail
        go_meet
        case rel => exact ⟨_, _, hZ.out⟩
    case rest =>
      obtain ⟨v1, v2, M2⟩ := hcut
      have M2 := Lib.hid M2
      clear M0 M1 A1 A2
      obtain ⟨A9, n9, c9, rfl⟩ := M2.out.1.r1.sl
      obtain ⟨A8, n8, c8, rfl⟩ := M2.out.1.r2.sl
      generalize wc = wr at *
      have r0 := M2.out.1.c0
      have r1 := M2.out.1.c1
      obtain ⟨q2, q3, q4⟩ := M2.out.2
      go_wp2_with fail
      have hRo : FarmAt wr (w2.heap.size + 1 + 1) wr.heap.size (.agg #[.slice A9 n9 c9, .slice A8 n8 c8, .float .f32 r, .float .f32 d, .float .f32 s]) (xs.eraseIdx k) (ys.eraseIdx k) r d s := ⟨_, _, rfl, M2.out.1.r1, M2.out.1.r2, M2.out.1.ap⟩
      have hGR : Grew w2 wr := M2.out.1.gr
      have hlo : w.heap.size + 1 + 1 ≤ w2.heap.size + 1 + 1 := by omega
      have hzs : (xs.eraseIdx k).length ≤ 1048576 := by have := NN.out; have := List.length_eraseIdx_le xs k; omega
      have hus : (ys.eraseIdx k).length ≤ 1048576 := by have := NN.out; have := List.length_eraseIdx_le ys k; omega
      have d1 := Lib.hid M2.out.1.d1
      have d2 := Lib.hid M2.out.1.d2
      have hbv : vFarm (xs.eraseIdx k) (ys.eraseIdx k) r d s = BB := by rw [vFarm_D, d1.out, d2.out]; exact HB.out
      clear r0 r1 q2 q3 q4 M2 R1 G1
      have R1 := R2
      have G1 := G2
      clear R2 G2 z1
      have z1 := z2
      generalize hzz : xs.eraseIdx k = zs at *
      generalize hyy : ys.eraseIdx k = us at *
      clear hzz hyy
      generalize A9 = a1, n9 = n1, c9 = m1, A8 = a2, n8 = n2, c8 = m2 at *
      have hG := Lib.hid (grew_trans G1.out hGR)
      refine (c_checkedFarm _ _ _ _ _ r d s _ hRo (Nat.le_refl _)).mono ?_
      rintro e w4 ⟨rfl, hg4⟩
      rw [hbv]
      have hRo4 := Lib.hid (hRo.grew (Nat.le_refl _) hg4)
      have hG4 := Lib.hid (grew_trans hG.out hg4)
      have R4 := Lib.hid ((R1.out.grew z1 hGR).grew (Nat.lt_of_lt_of_le z1 (Below.size hGR)) hg4)
      have hsz4 : wr.heap.size ≤ w4.heap.size := Below.size hg4
      have hw1 : w2.heap.size ≤ wr.heap.size := Below.size hGR
      have z4 : w.heap.size + 1 < w4.heap.size := by omega
      clear hg4 hRo hGR hbv
      obtain ⟨⟨b0, b1, b2, b3, b4⟩, bf⟩ := R4.out
      cases BB
      · simp only [Bool.false_eq_true, if_false, ZFM]
        go_wp2_with fail
        refine bodyPost_ret (v := .tuple #[ZFM, .bool false]) (by simp [results, Try.results24, go_sem, b0, b1, b2, b3, b4, ZFM]) rfl ?_
        have hr1 : (0 : Nat) = RR := H1.out
        have hr2 : (0 : Nat) = RD := H2.out
        have hr3 : (0 : Nat) = RS := H3.out
        rw [← hr1, ← hr2, ← hr3]
        exact ⟨_, [], [], rfl, farm_nil _ _ _, HD.out, HE.out, (by repeat (first | (with_reducible exact hG4.out) | (with_reducible exact grw_refl _) | (with_reducible refine grew_draw _ _ ?_) | (with_reducible refine grew_al ?_ _) | (with_reducible refine grew_set ?_ ?_; rotate_left; omega)))⟩
      · simp only [if_true]
        go_wp2_with fail
        have hst := st5_at R4.out.1 (.slice a1 n1 m1) (.slice a2 n2 m2) r d s
        have hW := st5_wrote w4 (w.heap.size + 1) (.slice a1 n1 m1) (.slice a2 n2 m2) r d s
        obtain ⟨X, Y, he, h1, h2, h3⟩ := hRo4.out
        have hz3 : w.heap.size ≤ w2.heap.size + 1 + 1 := by have := Below.size G1.out; omega
        have hG5 : Grew w (st5 w4 (w.heap.size + 1) (.slice a1 n1 m1) (.slice a2 n2 m2) r d s) := Wrote.below hG4.out hW (by have := Below.size hG4.out; omega) (by omega)
        have hsz5 : wr.heap.size ≤ (st5 w4 (w.heap.size + 1) (.slice a1 n1 m1) (.slice a2 n2 m2) r d s).heap.size := Nat.le_trans hsz4 hW.size
        have hRo5 : FarmAt (st5 w4 (w.heap.size + 1) (.slice a1 n1 m1) (.slice a2 n2 m2) r d s) w.heap.size _ (.agg #[.slice a1 n1 m1, .slice a2 n2 m2, .float .f32 r, .float .f32 d, .float .f32 s]) zs us r d s :=
          ⟨X, Y, he, (h1.wrote hsz4 hW (.inr (by omega))).mono hz3 hsz5, (h2.wrote hsz4 hW (.inr (by omega))).mono hz3 hsz5, h3⟩
        show bodyPost _ _ _ _ _ (st5 w4 (w.heap.size + 1) (.slice a1 n1 m1) (.slice a2 n2 m2) r d s)
        generalize (st5 w4 (w.heap.size + 1) (.slice a1 n1 m1) (.slice a2 n2 m2) r d s) = w5 at *
        obtain ⟨e0, e1, e2, e3, e4⟩ := hst
        refine bodyPost_ret (v := .tuple #[.agg #[.slice a1 n1 m1, .slice a2 n2 m2, .float .f32 r, .float .f32 d, .float .f32 s], .bool true]) (by simp [results, Try.results24, go_sem, e0, e1, e2, e3, e4]) rfl ?_
        have hr1 : r = RR := H1.out
        have hr2 : d = RD := H2.out
        have hr3 : s = RS := H3.out
        rw [← hr1, ← hr2, ← hr3]
        exact ⟨_, zs, us, rfl, hRo5, by first | exact d1.out.trans HD.out | exact HD.out, by first | exact d2.out.trans HE.out | exact HE.out, hG5⟩

end Go.Proofs.Ytlakmogclcpgdaa
