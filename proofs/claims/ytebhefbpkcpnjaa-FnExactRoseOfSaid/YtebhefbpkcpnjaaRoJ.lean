/-
  CONTRACTS: a rose of winds, in the program: all is well.
-/
import Derived.Test.YtebhefbpkcpnjaaRoI
namespace Go.Proofs.Ytebhefbpkcpnjaa
open Go.RowKit Go.Flt
set_option linter.unusedVariables false
set_option maxRecDepth 100000
set_option linter.unusedSimpArgs false

theorem info_f32b : (Try.prog.info? 23).map (fun i => (i.zero, i.size, i.bytes)) = some (some (.float .f32 0), 1, 4) := by kernel_rfl

theorem mk_f32b (n : Nat) (hn : n ≤ 1048576) (w : World) : (Instr.makeSlice 22 (.int .i64 (n : Int)) (.int .i64 (n : Int))).run Try.prog w = .ok (.slice (some ⟨w.heap.size, 0, none⟩) n n) (w.alloc (.cells (List.replicate n (.float .f32 0)).toArray 23)) := by
  obtain ⟨i, hi, hz0, hz1, hz2⟩ := info_parts info_f32b
  exact made 22 23 i (.float .f32 0) Try.underlying22 hi hz0 hz1 rfl (by omega) n hn w

theorem gp1 {α : Type} (a : Array α) (x : α) (i : Nat) (h : i = a.size) : (a.push x)[i]? = some x := by subst h; simp

theorem gp2 {α : Type} (a : Array α) (x : α) (i : Nat) (h : i < a.size) : (a.push x)[i]? = a[i]? := by
  rw [Array.getElem?_push, if_neg (by omega)]

set_option maxHeartbeats 8000000 in
theorem c_iroGood (A C : Option Addr) (n cA m cC K : Nat) (xs ys : List Nat) (c : Nat) (w : World) (hx : Fl w K A n xs) (hy : Fl w K C m ys) (hK : K ≤ w.heap.size) (k1 : roOk xs ys c = true) :
    Calls Try.prog 39 #[.slice A n cA, .slice C m cC, .int .i64 c] w (RetR (if vRoseD (shL xs c) (spL xs ys c) then shL xs c else []) (if vRoseD (shL xs c) (spL xs ys c) then spL xs ys c else []) (vRoseD (shL xs c) (spL xs ys c)) w) := by
  obtain rfl := hx.1
  obtain rfl := hy.1
  have HX := Lib.hid (fun w' h => Slc.grew (g := Value.float .f32) (w' := w') hx hK h)
  have HY := Lib.hid (fun w' h => Slc.grew (g := Value.float .f32) (w' := w') hy hK h)
  have HT := Lib.hid (fun w' (h : Grew w w') (hl : xs.length ≤ maxLen) => c_ContainsFunc5 A cA K xs w' (HX.out w' h) hl)
  rw [allTurn_any] at HT
  obtain ⟨c', hc', hc1, hc2, h1, h2, h3, h4, h5⟩ := roOk_parts k1
  obtain rfl : c' = c := by omega
  have HTR := Lib.hid h3
  rw [h3] at HT
  have NN := Lib.hid (And.intro hc1 (And.intro hc2 (And.intro h2 (And.intro h4 h5))))
  have HW := Lib.hid (fun w' (h : Grew w w') (hl : ys.length ≤ maxLen) => c_areWinds C _ cC K ys w' (HY.out w' h) hl)
  rw [h1] at HW
  have HSC := Lib.hid (show okSec (c' : Int) = true by unfold okSec within; simp; omega)
  have HS := Lib.hid (fun w' => c_isSectors (c' : Int) w')
  rw [HSC.out] at HS
  generalize hB : vRoseD (shL xs c') (spL xs ys c') = BB
  generalize hD : (if BB then shL xs c' else []) = DD
  generalize hE : (if BB then spL xs ys c' else []) = EE
  have HB := Lib.hid hB
  have HD := Lib.hid hD
  have HE := Lib.hid hE
  have KK := Lib.hid hK
  have i1 : ((xs.length : Int) != (ys.length : Int)) = false := by simp; omega
  clear hx hy hB hD hE k1 hK hc1 hc2 h1 h2 h3 h4 h5 hc' HSC
  generalize c' = c at *
  go_enter Try.func39, Try.ntmps39
  go_upto_region 3 with (first | (go_at_call 77; refine (HW.out _ (by (show Below _ _ _; (repeat (first | exact Below.refl _ _ | refine ext_below ?_ (by first | omega | (simp only [size_ext, heap_push, Array.size_push, World.heap_drewN]; omega) | (simp; omega)) _ _ | refine below_draws ?_ _ | refine Below.alloc ?_ (by first | omega | (simp; done) | (simp; omega)) _ | refine Below.setCell ?_ (by first | omega | (simp; done) | (simp; omega)) _ | refine below_then (by assumption) (by first | omega | (simp; done) | (simp; omega)) ?_)))) (by have := NN.out; unfold maxLen; omega)).mono ?_; rintro e w' ⟨rfl, na, rfl⟩) | (go_at_call 80; refine (HT.out _ (by (show Below _ _ _; (repeat (first | exact Below.refl _ _ | refine ext_below ?_ (by first | omega | (simp only [size_ext, heap_push, Array.size_push, World.heap_drewN]; omega) | (simp; omega)) _ _ | refine below_draws ?_ _ | refine Below.alloc ?_ (by first | omega | (simp; done) | (simp; omega)) _ | refine Below.setCell ?_ (by first | omega | (simp; done) | (simp; omega)) _ | refine below_then (by assumption) (by first | omega | (simp; done) | (simp; omega)) ?_)))) (by have := NN.out; unfold maxLen; omega)).mono ?_; rintro e w' ⟨rfl, nb, rfl⟩) | (go_at_call 58; refine (HS.out _).mono ?_; rintro e w' ⟨rfl, nd, rfl⟩))
  generalize hw1 : (w.alloc (.cells #[.slice none 0 0, .slice none 0 0] 34)).drewN (na + nb + nd) = w1
  have hw1 := hw1.symm
  have G1 : Hid (Grew w w1) := by rw [hw1]; show Grew w _; (show Below _ _ _; (repeat (first | exact Below.refl _ _ | refine ext_below ?_ (by first | omega | (simp only [size_ext, heap_push, Array.size_push, World.heap_drewN]; omega) | (simp; omega)) _ _ | refine below_draws ?_ _ | refine Below.alloc ?_ (by first | omega | (simp; done) | (simp; omega)) _ | refine Below.setCell ?_ (by first | omega | (simp; done) | (simp; omega)) _ | refine below_then (by assumption) (by first | omega | (simp; done) | (simp; omega)) ?_)))
  have R1 : Hid (BoxR w1 w.heap.size (.slice none 0 0) (.slice none 0 0)) := by rw [hw1]; refine ⟨⟨?_, ?_⟩, ?_, ?_⟩ <;> simp [go_sem]
  have z1 : w.heap.size < w1.heap.size := by rw [hw1]; simp
  clear hw1 HT HW HS i1
  have HMI := mk_i64b c (by have := NN.out; omega)
  have HMF := mk_f32b c (by have := NN.out; omega)
  go_cut [8, 9, 41] from 35 (fun s8 s9 s41 wc => ∃ bM b1 b2 bb, s8 = .slice (some ⟨bM, 0, none⟩) c c ∧ s9 = .pointer (some ⟨bb, 0, none⟩) ∧ s41 = .agg #[.slice (some ⟨b1, 0, none⟩) c c, .slice (some ⟨b2, 0, none⟩) c c] ∧ Four w1 wc bM b1 b2 bb c (List.replicate c 0) (List.replicate c 0) (List.replicate c 0))
  have hdr : ∀ W : World, W.drew.heap = W.heap := fun _ => rfl
  case first =>
    go_region
    all_goals
      go_wp2_with fail
      go_meet
      case rel =>
        refine ⟨_, _, _, _, rfl, rfl, rfl, ?_⟩
        exact ⟨by unfold Own; simp only [hdr, heap_push]; (repeat (refine (gp2 _ _ _ ?_).trans ?_; focus (simp only [Array.size_push] <;> omega))); refine (gp1 _ _ _ ?_).trans ?_ <;> simp, by unfold Own; simp only [hdr, heap_push]; (repeat (refine (gp2 _ _ _ ?_).trans ?_; focus (simp only [Array.size_push] <;> omega))); refine (gp1 _ _ _ ?_).trans ?_ <;> simp, by unfold Own; simp only [hdr, heap_push]; (repeat (refine (gp2 _ _ _ ?_).trans ?_; focus (simp only [Array.size_push] <;> omega))); refine (gp1 _ _ _ ?_).trans ?_ <;> simp, by refine ⟨?_, ?_⟩ <;> simp [go_sem], by omega, by omega, by omega, by omega, by omega, by omega, by omega, by omega, by omega, by (show Below _ _ _; (repeat (first | exact Below.refl _ _ | refine ext_below ?_ (by first | omega | (simp only [size_ext, heap_push, Array.size_push, World.heap_drewN]; omega) | (simp; omega)) _ _ | refine below_draws ?_ _ | refine Below.alloc ?_ (by first | omega | (simp; done) | (simp; omega)) _ | refine Below.setCell ?_ (by first | omega | (simp; done) | (simp; omega)) _ | refine below_then (by assumption) (by first | omega | (simp; done) | (simp; omega)) ?_)))⟩
  case rest =>
    obtain ⟨bM, b1, b2, bb, rfl, rfl, rfl, hF⟩ := hcut
    clear HMI HMF
    have F0 := Lib.hid hF
    clear hF
    go_wp2_with fail
    go_loopw [44] (fun i wr => ∃ (k : Nat) (us : List Nat), k ≤ xs.length ∧ i = .int .i64 k ∧ Hid (us.map (cl .f32) = suL xs ys c k) ∧ Hid (us.length = c) ∧ Hid (Four w1 wr bM b1 b2 bb c (mnL xs c k) (List.replicate c 0) us)) (fun i _ => xs.length - (intOf i).toNat)
    case atStart =>
      refine ⟨0, List.replicate c 0, Nat.zero_le _, rfl, ?_, ?_, ?_⟩
      · show _ = _
        simp [suL, smF, List.map_const']
      · show _ = _
        simp
      · have e : mnL xs c 0 = List.replicate c 0 := by simp [mnL, cntF, List.map_const']
        show Four _ _ _ _ _ _ _ _ _ _
        rw [e]
        exact F0.out
    case round =>
      obtain ⟨k, us, hk, rfl, hus, hul, hF⟩ := hrel
      have hG : Grew w wr := grew_trans G1.out hF.out.gr
      by_cases hlt : k < xs.length
      · obtain ⟨b, off, rfl, hbK, hcc⟩ := (HX.out wr hG).2 (by omega)
        have hcell := hcc k (xs.getD k 0) (by simp [hlt])
        clear hcc
        have HG := Lib.hid hG
        clear hG
        have i3 : (0 : Int) ≤ (k : Int) := by omega
        have i4 : (k : Int) < (xs.length : Int) := by omega
        have i6 : IntKind.i64.wrap (k : Int) = (k : Int) := by rw [IntKind.wrap_i64]; have := NN.out; omega
        have hq := secK_lt (cl .f32 (xs.getD k 0)) c (by have := NN.out; omega)
        have HMN := Lib.hid (mnL_succ xs c k hq)
        have HSU := Lib.hid (suL_succ xs ys c k hq)
        have HSEC := Lib.hid (fun w => c_impl.sectorOf (xs.getD k 0) c w (by have := NN.out; omega) (by have := NN.out; omega) (by
          have := HTR.out
          unfold allTurn at this
          rw [List.all_eq_true] at this
          exact this _ (getD_mem _ _ _ hlt)))
        have hcn := cnt_le xs c k (secK (cl .f32 (xs.getD k 0)) c)
        have hcM := hF.out.oM.cell (i := secK (cl .f32 (xs.getD k 0)) c) (x := ((cntF xs c k (secK (cl .f32 (xs.getD k 0)) c) : Nat) : Int)) (rng_at _ _ _ hq)
        generalize secK (cl .f32 (xs.getD k 0)) c = q at *
        generalize xs.getD k 0 = x at *
        generalize cntF xs c k q = t at *
        have hfM := hF.out.oM.free q
        have i7 : (0 : Int) ≤ (q : Int) := by omega
        have i8 : (q : Int) < (c : Int) := by omega
        have i9 : IntKind.i64.wrap ((t : Int) + 1) = (t : Int) + 1 := by rw [IntKind.wrap_i64]; have := NN.out; omega
        go_upto_region 9 with (first | (go_at_call 83; refine (HSEC.out _).mono ?_; rintro e w' ⟨rfl, ns, rfl⟩))
        have hF8 := (hF.out.setM q ((t : Int) + 1)).drewN ns
        rw [← HMN.out] at hF8
        generalize (wr.setCell ⟨bM, q, none⟩ (.int .i64 ((t : Int) + 1))).drewN ns = w8 at *
        have F8 := Lib.hid hF8
        have hG8 : Grew w w8 := grew_trans G1.out hF8.gr
        obtain ⟨by', oy, rfl, hbY, hcy⟩ := (HY.out w8 hG8).2 (by have := NN.out; omega)
        have hcelly := hcy k (ys.getD k 0) (by have := NN.out; simp [show k < ys.length by omega])
        clear hcy hF8 hG8 hF hcM hfM hcell
        obtain ⟨x0, x1⟩ := F8.out.bx
        have hul' := hul.out
        have hu := F8.out.o2.cell (i := q) (x := us.getD q 0) (by simp [show q < us.length by omega])
        have hfu := F8.out.o2.free q
        have hsm : cl .f32 (us.getD q 0) = smF xs ys c k q := by
          have := ds_at (cl .f32) us q 0 NaN (by omega)
          rw [← this, hus.out]
          unfold suL
          rw [List.getD_eq_getElem?_getD, rng_at _ _ _ (by omega)]
          rfl
        have i5 : (k : Int) < (ys.length : Int) := by have := NN.out; omega
        have HSM := Lib.hid hsm
        clear hsm
        generalize us.getD q 0 = u at *
        generalize ys.getD k 0 = y at *
        go_region_with (first | (refine upon_fbin rfl _ _ _ _ ?_; intro z n hz hzw))
        all_goals
          have F9 := Lib.hid (F8.out.set2 q z)
          have hzz : cl .f32 z = fop .add .f32 (smF xs ys c k q) (cl .f32 y) := by rw [hz, HSM.out]
          have HZZ := Lib.hid hzz
          have HW := Lib.hid (show wrap64 ((k : Int) + 1) = (k : Int) + 1 by have := NN.out; unfold wrap64; omega)
          clear hz hzz hu hfu x0 x1 hcelly hul'
          go_wp2_with fail
          go_roundw
          case rel =>
            refine ⟨k + 1, us.set q z, by omega, by have e := HW.out; simp [e], ?_, ?_, ?_⟩
            · show (us.set q z).map _ = _
              rw [List.map_set, hus.out, HSU.out, HZZ.out]
            · show (us.set q z).length = c
              simp [hul.out]
            · show Four _ _ _ _ _ _ _ _ _ _
              exact F9.out.drewN _
          case measure =>
            have e := HW.out
            exact meas_less hlt e
      · obtain rfl : k = xs.length := by omega
        have i4 : ¬ (xs.length : Int) < (xs.length : Int) := by omega
        have HG := Lib.hid hG
        clear hG
        go_wp2_with fail
        have hZ0 := spK_zero xs ys c
        have HSP0 := Lib.hid (hus.out.trans hZ0.symm)
        clear hus HX HTR hZ0
        go_loopw [72] (fun i wr => ∃ (k : Nat) (ss us : List Nat), k ≤ c ∧ i = .int .i64 k ∧ Hid (ss.map (cl .f32) = shK xs c k) ∧ Hid (us.map (cl .f32) = spK xs ys c k) ∧ Hid (Four w1 wr bM b1 b2 bb c (mnL xs c xs.length) ss us)) (fun i _ => c - (intOf i).toNat)
        case atStart =>
          refine ⟨0, List.replicate c 0, us, Nat.zero_le _, rfl, ?_, HSP0, hF⟩
          show _ = _
          rw [shK_zero]
          simp
        case round =>
          obtain ⟨k, ss, us, hk, rfl, hss, hus, hF⟩ := hrel
          by_cases hlt : k < c
          · have i3 : (0 : Int) ≤ (k : Int) := by omega
            have i4 : (k : Int) < (c : Int) := by omega
            have i6 : IntKind.i64.wrap (k : Int) = (k : Int) := by rw [IntKind.wrap_i64]; have := NN.out; omega
            have hls : ss.length = c := by have := congrArg List.length hss.out; simpa [shK] using this
            have hlu : us.length = c := by have := congrArg List.length hus.out; simpa [spK] using this
            have HSH := Lib.hid (shK_succ xs c k hlt)
            have HSP := Lib.hid (spK_succ xs ys c k hlt)
            have HSZ := Lib.hid (spK_same xs ys c k)
            have HdS := Lib.hid (show dS xs c k = fop .quo .f32 (cl .f32 (floatOfInt .f32 ((cntF xs c xs.length k : Nat) : Int))) (cl .f32 (floatOfInt .f32 (xs.length : Int))) from rfl)
            have HdV := Lib.hid (show dV xs ys c k = if 0 < cntF xs c xs.length k then fop .quo .f32 (smF xs ys c xs.length k) (cl .f32 (floatOfInt .f32 ((cntF xs c xs.length k : Nat) : Int))) else cl .f32 0 from rfl)
            have hcM := hF.out.oM.cell (i := k) (x := ((cntF xs c xs.length k : Nat) : Int)) (rng_at _ _ _ hlt)
            generalize cntF xs c xs.length k = t at *
            obtain ⟨x0, x1⟩ := hF.out.bx
            have hc1 := hF.out.o1.cell (i := k) (x := ss.getD k 0) (by simp [show k < ss.length by omega])
            have hf1 := hF.out.o1.free k
            generalize ss.getD k 0 = y0 at *
            go_upto_region 15 with (refine upon_fbin rfl _ _ _ _ ?_; intro z n hz hzw)
            have F8 := Lib.hid ((hF.out.set1 k z).drewN n)
            have hz1 : (ss.set k z).map (cl .f32) = shK xs c (k + 1) := by
              rw [List.map_set, hss.out, HSH.out, HdS.out, hz]
            have HZ1 := Lib.hid hz1
            generalize (wr.setCell ⟨b1, k, none⟩ (.float .f32 z)).drewN n = w8 at *
            generalize ss.set k z = ss' at *
            clear hF hss hcM hc1 hf1 x0 x1 hz1 hz hzw hls
            have HW := Lib.hid (show wrap64 ((k : Int) + 1) = (k : Int) + 1 by have := NN.out; unfold wrap64; omega)
            rcases Nat.eq_zero_or_pos t with ht | ht
            · have hus2 := Lib.hid (hus.out.trans (HSZ.out ht).symm)
              subst ht
              clear hus
              go_wp2_with fail
              go_roundw
              case rel => exact ⟨k + 1, ss', us, by omega, by have e := HW.out; simp [e], HZ1, hus2, F8⟩
              case measure =>
                have e := HW.out
                exact meas_less hlt e
            · have hgt : decide ((0 : Int) < (t : Int)) = true := decide_eq_true (by omega)
              have i0 : (0 : Int) < (t : Int) := by omega
              obtain ⟨x0, x1⟩ := F8.out.bx
              have hc2 := F8.out.o2.cell (i := k) (x := us.getD k 0) (by simp [show k < us.length by omega])
              have hf2 := F8.out.o2.free k
              have hsm : cl .f32 (us.getD k 0) = smF xs ys c xs.length k := by
                have := ds_at (cl .f32) us k 0 NaN (by omega)
                rw [← this, hus.out]
                unfold spK
                rw [List.getD_eq_getElem?_getD, rng_at _ _ _ (by omega)]
                simp
              have HSM := Lib.hid hsm
              clear hsm
              have hdv : dV xs ys c k = fop .quo .f32 (smF xs ys c xs.length k) (cl .f32 (floatOfInt .f32 (t : Int))) := by rw [HdV.out, if_pos ht]
              have HDV := Lib.hid hdv
              clear hdv HdV HSZ
              generalize us.getD k 0 = u at *
              go_wp2_with (refine upon_fbin rfl _ _ _ _ ?_; intro z n hz hzw)
              have F9 := Lib.hid (F8.out.set2 k z)
              have hz2 : (us.set k z).map (cl .f32) = spK xs ys c (k + 1) := by
                rw [List.map_set, hus.out, HSP.out, HDV.out, hz, HSM.out]
              have HZ2 := Lib.hid hz2
              clear hz hz2 hc2 hf2 x0 x1
              go_roundw
              case rel => exact ⟨k + 1, ss', us.set k z, by omega, by have e := HW.out; simp [e], HZ1, HZ2, (show Four _ _ _ _ _ _ _ _ _ _ from F9.out.drewN _)⟩
              case measure =>
                have e := HW.out
                exact meas_less hlt e
          · obtain rfl : k = c := by omega
            have i4 : ¬ (k : Int) < (k : Int) := by omega
            obtain ⟨x0, x1⟩ := hF.out.bx
            have hls : ss.length = k := by have := congrArg List.length hss.out; simpa [shK] using this
            have hlu : us.length = k := by have := congrArg List.length hus.out; simpa [spK] using this
            have d1 := Lib.hid (hss.out.trans (shK_end xs k))
            have d2 := Lib.hid (hus.out.trans (spK_end xs ys k))
            have hbv : vRose ss us = BB := by
              rw [← HB.out, ← d1.out, ← d2.out]; rfl
            go_wp2_with fail
            have r1 := hF.out.o1.rowAt (lo := w1.heap.size) (hi := wr.heap.size) hF.out.l1 hF.out.o1.lt (by have := NN.out; unfold maxLen; omega)
            have r2 := hF.out.o2.rowAt (lo := w1.heap.size) (hi := wr.heap.size) hF.out.l2 hF.out.o2.lt (by have := NN.out; unfold maxLen; omega)
            rw [hls] at r1
            rw [hlu] at r2
            have hRo : RoseAt wr w1.heap.size wr.heap.size (.agg #[.slice (some ⟨b1, 0, none⟩) k k, .slice (some ⟨b2, 0, none⟩) k k]) ss us := ⟨_, _, rfl, r1, r2, fun q h1 h2 => hF.out.d3 (by simp [Value.ownBlock] at h1 h2; omega)⟩
            have hGR : Grew w1 wr := hF.out.gr
            have hlo : w1.heap.size ≤ w1.heap.size := Nat.le_refl _
            have hzs : ss.length ≤ 1048576 := by have := NN.out; omega
            have hus : us.length ≤ 1048576 := by have := NN.out; omega
            clear r1 r2 hls hlu x0 x1 hF
            generalize ss = zs at *
            generalize (some (⟨b1, 0, none⟩ : Addr)) = a1 at *
            generalize (some (⟨b2, 0, none⟩ : Addr)) = a2 at *
            have hG := Lib.hid (grew_trans G1.out hGR)
            refine (c_checkedRose _ _ _ _ _ _ hRo (Nat.le_refl _) hzs hus).mono ?_
            rintro e w4 ⟨rfl, hg4⟩
            rw [hbv]
            have hRo4 := Lib.hid (hRo.grew (Nat.le_refl _) hg4)
            have hG4 := Lib.hid (grew_trans hG.out hg4)
            have R4 := Lib.hid ((R1.out.grew z1 hGR).grew (Nat.lt_of_lt_of_le z1 (Below.size hGR)) hg4)
            have hsz4 : wr.heap.size ≤ w4.heap.size := Below.size hg4
            have hw1 : w1.heap.size ≤ wr.heap.size := Below.size hGR
            have z4 : w.heap.size < w4.heap.size := by omega
            clear hg4 hRo hGR hbv
            obtain ⟨⟨b0, b1⟩, b2, b3⟩ := R4.out
            cases BB
            · simp only [Bool.false_eq_true, if_false, ZRO]
              go_wp2_with fail
              refine bodyPost_ret (v := .tuple #[ZRO, .bool false]) (by simp [results, Try.results39, go_sem, b0, b1, ZRO]) rfl ?_
              exact ⟨_, [], [], rfl, rose_nil _ _ _, HD.out, HE.out, (by repeat (first | (with_reducible exact hG4.out) | (with_reducible exact grw_refl _) | (with_reducible refine grew_draw _ _ ?_) | (with_reducible refine grew_al ?_ _) | (with_reducible refine grew_set ?_ ?_; rotate_left; omega)))⟩
            · simp only [if_true]
              go_wp2_with fail
              have e0 := (cell_set_other _ _ 1 0 (.slice a2 k k) (by omega)).trans (cell_set_own _ _ 0 (.slice a1 k k) _ b0)
              have e1 := cell_set_own _ _ 1 (.slice a2 k k) _ ((cell_set_other _ _ 0 1 (.slice a1 k k) (by omega)).trans b1)
              have hW : Wrote (w.heap.size) (w.heap.size + 1) w4 ((w4.setCell ⟨w.heap.size, 0, none⟩ (.slice a1 k k)).setCell ⟨w.heap.size, 1, none⟩ (.slice a2 k k)) := (Wrote.of_outside (outside_set _ _ _ _)).trans (Wrote.of_outside (outside_set _ _ _ _))
              obtain ⟨X, Y, he, h1, h2, h3⟩ := hRo4.out
              have hz3 : w.heap.size ≤ w1.heap.size := by have := Below.size G1.out; omega
              have hG5 : Grew w ((w4.setCell ⟨w.heap.size, 0, none⟩ (.slice a1 k k)).setCell ⟨w.heap.size, 1, none⟩ (.slice a2 k k)) := grew_set (grew_set hG4.out (by omega)) (by omega)
              have hsz5 : wr.heap.size ≤ ((w4.setCell ⟨w.heap.size, 0, none⟩ (.slice a1 k k)).setCell ⟨w.heap.size, 1, none⟩ (.slice a2 k k)).heap.size := Nat.le_trans hsz4 hW.size
              have hRo5 : RoseAt ((w4.setCell ⟨w.heap.size, 0, none⟩ (.slice a1 k k)).setCell ⟨w.heap.size, 1, none⟩ (.slice a2 k k)) w.heap.size _ (.agg #[.slice a1 k k, .slice a2 k k]) zs us :=
                ⟨X, Y, he, (h1.wrote hsz4 hW (.inr (by omega))).mono hz3 hsz5, (h2.wrote hsz4 hW (.inr (by omega))).mono hz3 hsz5, h3⟩
              generalize ((w4.setCell ⟨w.heap.size, 0, none⟩ (.slice a1 k k)).setCell ⟨w.heap.size, 1, none⟩ (.slice a2 k k)) = w5 at *
              refine bodyPost_ret (v := .tuple #[.agg #[.slice a1 k k, .slice a2 k k], .bool true]) (by simp [results, Try.results39, go_sem, e0, e1]) rfl ?_
              exact ⟨_, zs, us, rfl, hRo5, by first | exact d1.out.trans HD.out | exact HD.out, by first | exact d2.out.trans HE.out | exact HE.out, hG5⟩

end Go.Proofs.Ytebhefbpkcpnjaa
