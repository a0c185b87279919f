/-
  CONTRACTS: the power of a disc, in the program.
-/
import Derived.Test.YtebhefbpkcpnjaaDiscS
namespace Go.Proofs.Ytebhefbpkcpnjaa
open Go.RowKit Go.Flt
set_option linter.unusedVariables false
set_option maxRecDepth 100000
set_option linter.unusedSimpArgs false

theorem leF_fge {x y : Ieee.Datum} (hx : isNum x = true) (hy : isNum y = true) (h : leF y x = true) : fge x y = true := by
  obtain ⟨B, p1, p2, _⟩ := low_place x y y
  unfold fge
  rw [leF_num B hy hx p2 p1] at h
  rw [flt_num B hy hx p2 p1, feq_num B hx hy p1 p2]
  simp at *
  omega

theorem fge_leF {x y : Ieee.Datum} (hx : isNum x = true) (hy : isNum y = true) (h : fge x y = true) : leF y x = true := by
  obtain ⟨B, p1, p2, _⟩ := low_place x y y
  unfold fge at h
  rw [leF_num B hy hx p2 p1]
  rw [flt_num B hy hx p2 p1, feq_num B hx hy p1 p2] at h
  simp at *
  omega

/-- Where the whole is a number, each part is well. -/
theorem dp_num {d h v s ht ra np : Nat} (fh : fits h) (fr : fits ra) (hV : vAir d h v s = true) (hr : above (cl .f32 ra) = true) (hh : fin (cl .f32 ht) = true) (hlt : flt (cl .f32 ht) (cl .f32 ra) = false) (h1 : 1 ≤ np) (h2 : np ≤ 64)
    (hD : fin (fop .quo .f32 (dpA d h v s ht ra np np) (dpW np np)) = true) : ∀ k, k < np →
    (least (zkD ht ra (xkD np k)) && fin (uk d h v s ht ra np k)) = true ∧ (least (uk d h v s ht ra np k) && fin (pwr d (uk d h v s ht ra np k))) = true := by
  intro k hk
  rw [fin_eq] at hD
  have hn := num_quo hD
  have hall : ∀ j, j ≤ np → isNum (dpA d h v s ht ra np j) = true → ∀ i, i < j → isNum (pwr d (uk d h v s ht ra np i)) = true := by
    intro j
    induction j with
    | zero => intro _ _ i hi; omega
    | succ j ih =>
      intro hj hn i hi
      obtain ⟨n1, n2⟩ := num_add (show isNum (fop .add .f32 (dpA d h v s ht ra np j) (fop .mul .f32 (wkD (xkD np j)) (pwr d (uk d h v s ht ra np j)))) = true from hn)
      rcases Nat.lt_or_ge i j with h | h
      · exact ih (by omega) n1 i h
      · obtain rfl : i = j := by omega
        exact (num_mul n2).2
  have hp := hall np (Nat.le_refl _) hn k hk
  have hu : isNum (uk d h v s ht ra np k) = true := (num_mul hp).2
  have hz : isNum (zkD ht ra (xkD np k)) = true := spd_num hu
  unfold vAir at hV
  simp only [Bool.and_eq_true] at hV
  obtain ⟨⟨⟨v1, v2⟩, v3⟩, v4⟩ := hV
  unfold above at v2 hr
  unfold least at v3
  unfold fromTo at v4
  rw [Bool.and_eq_true, fin_eq] at v2 v3 hr
  rw [Bool.and_eq_true] at v4
  rw [fin_eq] at hh
  have hs : isNum (cl .f32 s) = true := by
    have := v4
    cases hc : cl .f32 s with
    | number t m i => rfl
    | nan t u => rw [hc] at this; simp [fge, flt, feq, Ieee.Datum.order, cl_zero32] at this
    | infinity t =>
      rw [hc] at this
      exfalso
      revert this
      cases t <;> decide +kernel
  have hx : leF (cl .f32 3212836864) (xkD np k) = true := xk_ge (by omega) (by omega) (by omega) (by omega)
  have z0 : leF (cl .f32 0) (zkD ht ra (xkD np k)) = true := z_ge fr hr.1 hr.2 hh hlt hx (pl_fop _ _ _) hz
  have pz : Go.Flt.place (-149) (zkD ht ra (xkD np k)) := pl_fop _ _ _
  have u0 : leF (cl .f32 0) (uk d h v s ht ra np k) = true :=
    spd_ge fh pz z0 v2.1 v2.2 (fge_leF hs num_zero v4.1) (fge_leF num_one hs (by
      have := v4.2
      unfold fge
      unfold fle at this
      rw [Bool.or_eq_true] at this ⊢
      rcases this with h | h
      · exact .inl h
      · refine .inr ?_
        unfold feq at h ⊢
        rw [order_swap]
        generalize (cl .f32 s).order (cl .f32 1065353216) = o at *
        cases o with
        | none => simp at h
        | some o => cases o <;> simp at h ⊢)) (fge_leF v3.1 num_zero v3.2) hu
  unfold least
  simp only [fin_eq, hz, hu, hp, leF_fge hz num_zero z0, leF_fge hu num_zero u0, Bool.and_self, and_self]

theorem airAt_grew {w w' : World} {b d h v s : Nat} (h' : AirAt w b d h v s) (hb : b < w.heap.size) (hg : Grew w w') : AirAt w' b d h v s := by
  obtain ⟨a0, a1, a2, a3⟩ := h'
  exact ⟨((bcell hg).1 b 0 hb).trans a0, ((bcell hg).1 b 1 hb).trans a1, ((bcell hg).1 b 2 hb).trans a2, ((bcell hg).1 b 3 hb).trans a3⟩

theorem c_airAny (d u : Nat) (w : World) (hd : above (cl .f32 d) = true) : ∃ D b, Calls Try.prog 75 #[.float .f32 d, .float .f32 u] w (RetFB D b (Grew w)) := ⟨_, _, c_AirPower d u w hd⟩

set_option maxHeartbeats 4000000 in
theorem c_implDisc (d h v s ht ra : Nat) (p : Int) (w : World) (fh : fits h) (fr : fits ra) : Calls Try.prog 31 #[.agg #[.float .f32 d, .float .f32 h, .float .f32 v, .float .f32 s], .float .f32 ht, .float .f32 ra, .int .i64 p] w
    (RetFB (num (dpOk d h v s ht ra p) (dpD d h v s ht ra p)) (dpOk d h v s ht ra p && fin (dpD d h v s ht ra p)) (Grew w)) := by
  have HA := Lib.hid (fun w' => c_implValidAir d h v s w')
  have HOK := Lib.hid (show dpOk d h v s ht ra p = (vAir d h v s && above (cl .f32 ra) && fin (cl .f32 ht) && !flt (cl .f32 ht) (cl .f32 ra) && within p 1 64) from rfl)
  have HR0 := Lib.hid (show (!([ra].any fun x => !fin (cl .f32 x) || fle (cl .f32 x) (cl .f32 0))) = above (cl .f32 ra) by simp [above_not])
  have hp : ∀ w cap b, Fl w (b + 1) (some ⟨b, 0, none⟩) [ra].length [ra] → Calls Try.prog 71 #[.slice (some ⟨b, 0, none⟩) 1 cap] w fun e w' => e = .returned (.bool (above (cl .f32 ra))) ∧ ∃ n, w' = w.drewN n := by
    intro w cap b h
    rw [← HR0.out]
    exact c_arePositive _ cap _ _ w h (by simp [maxLen])
  have HP := Lib.hid hp
  clear hp HR0
  have HNUM := Lib.hid (fun np => dp_num (d := d) (h := h) (v := v) (s := s) (ht := ht) (ra := ra) (np := np) fh fr)
  have HSA := Lib.hid (fun z w => c_SpeedAtHeight d h v s z w)
  have HAP := Lib.hid (fun u w hd => c_AirPower d u w hd)
  have HVD := Lib.hid (show vAir d h v s = true → above (cl .f32 d) = true by
    unfold vAir
    simp only [Bool.and_eq_true]
    exact fun h => h.1.1.1)
  generalize hVA : vAir d h v s = VA at *
  cases hok : dpOk d h v s ht ra p
  · have HF := Lib.hid hok
    rw [hok] at HOK
    cases VA
    case' true => cases h1 : above (cl .f32 ra)
    case' true.true => cases h2 : fin (cl .f32 ht)
    case' true.true.true => cases h3 : flt (cl .f32 ht) (cl .f32 ra)
    case' true.true.true.false => cases h4 : within p 1 64
    case true.true.true.false.true => exfalso; have := HOK.out; rw [h1, h2, h3, h4] at this; simp at this
    all_goals
      clear HOK hVA
      go_enter Try.func31, Try.ntmps31
      go_wp2_with (first | (go_at_call 70; refine (HA.out _).mono ?_; rintro e w' ⟨rfl, hgv⟩; obtain ⟨hvc, hvf⟩ := bcell hgv; have hgs := Below.size hgv; simp at hgs) | (go_at_call 71; refine (HP.out _ _ _ (fl_new _ [ra] _ _ _ (by simp) rfl)).mono ?_; rintro e w' ⟨rfl, nq, rfl⟩) | (go_at_call 72; refine (c_IsFinite _ _).mono ?_; rintro e w' ⟨rfl, nq, rfl⟩) | (go_at_call 73; refine (c_within _ _ _ _).mono ?_; rintro e w' ⟨rfl, nq, rfl⟩))
      go_ret2
      exact ⟨_, rfl, by simp [num], fits_zero, by (show Below _ _ _; (repeat (first | exact Below.refl _ _ | refine ext_below ?_ (by first | omega | (simp only [size_ext, heap_push, Array.size_push, World.heap_drewN]; omega) | (simp; omega)) _ _ | refine below_draws ?_ _ | refine Below.alloc ?_ (by first | omega | (simp; done) | (simp; omega)) _ | refine Below.setCell ?_ (by first | omega | (simp; done) | (simp; omega)) _ | refine below_then (by assumption) (by first | omega | (simp; done) | (simp; omega)) ?_)))⟩
  · have hp := HOK.out.symm.trans hok
    simp only [Bool.and_eq_true, Bool.not_eq_true'] at hp
    obtain ⟨⟨⟨⟨rfl, h1⟩, h2⟩, h3⟩, h4⟩ := hp
    have hpn : ∃ np : Nat, p = (np : Int) ∧ 1 ≤ np ∧ np ≤ 64 := by
      unfold within at h4
      simp at h4
      exact ⟨p.toNat, by omega, by omega, by omega⟩
    obtain ⟨np, rfl, hn1, hn2⟩ := hpn
    have HN2 := Lib.hid (fun hD k hk => HNUM.out np rfl h1 h2 h3 hn1 hn2 hD k hk)
    have HVD2 := Lib.hid (HVD.out rfl)
    clear HOK hok hVA HNUM HVD
    have HD := Lib.hid (show dpD d h v s ht ra np = fop .quo .f32 (dpA d h v s ht ra np np) (dpW np np) from rfl)
    rw [show fop .quo .f32 (dpA d h v s ht ra np np) (dpW np np) = dpD d h v s ht ra np from rfl] at HN2
    generalize dpD d h v s ht ra np = DD at *
    go_enter Try.func31, Try.ntmps31
    go_wp2_with (first | (go_at_call 70; refine (HA.out _).mono ?_; rintro e w' ⟨rfl, hgv⟩; obtain ⟨hvc, hvf⟩ := bcell hgv; have hgs := Below.size hgv; simp at hgs; have HGV := Lib.hid hgv; clear hgv) | (go_at_call 71; refine (HP.out _ _ _ (fl_new _ [ra] _ _ _ (by simp) rfl)).mono ?_; rintro e w' ⟨rfl, nq, rfl⟩) | (go_at_call 72; refine (c_IsFinite _ _).mono ?_; rintro e w' ⟨rfl, nq, rfl⟩) | (go_at_call 73; refine (c_within _ _ _ _).mono ?_; rintro e w' ⟨rfl, nq, rfl⟩))
    clear h1 h2 h3 h4 HA
    go_loopw [10, 11, 44] (fun a b i wr => ∃ k y z : Nat, k ≤ np ∧ i = .int .i64 k ∧ a = .float .f32 y ∧ b = .float .f32 z ∧ Hid (cl .f32 y = dpA d h v s ht ra np k) ∧ Hid (cl .f32 z = dpW np k) ∧ Hid (AirAt wr w.heap.size d h v s) ∧ Hid (w.heap.size < wr.heap.size) ∧ Hid (Grew w wr)) (fun _ _ i _ => np - (intOf i).toNat)
    case atStart =>
      refine ⟨0, 0, 0, Nat.zero_le _, rfl, rfl, rfl, rfl, rfl, ?_, ?_, ?_⟩
      · have h0 : AirAt (w.alloc (.cells #[.float .f32 d, .float .f32 h, .float .f32 v, .float .f32 s] 50)) w.heap.size d h v s := by unfold AirAt; simp
        have h1 := airAt_grew h0 (by simp) HGV.out
        exact airAt_drawn (airAt_grew h1 (by omega) (grew_al (grew_refl _) _)) ⟨_, rfl⟩
      · show _ < _
        simp
        omega
      · have hgv := HGV.out
        show Grew _ _
        (show Below _ _ _; (repeat (first | exact Below.refl _ _ | refine ext_below ?_ (by first | omega | (simp only [size_ext, heap_push, Array.size_push, World.heap_drewN]; omega) | (simp; omega)) _ _ | refine below_draws ?_ _ | refine Below.alloc ?_ (by first | omega | (simp; done) | (simp; omega)) _ | refine Below.setCell ?_ (by first | omega | (simp; done) | (simp; omega)) _ | refine below_then (by assumption) (by first | omega | (simp; done) | (simp; omega)) ?_)))
    case round =>
      obtain ⟨k, y0, z0, hk, rfl, rfl, rfl, hy, hz0, hair, hsz, hg⟩ := hrel
      obtain ⟨a0, a1, a2, a3⟩ := hair.out
      have hsz0 := hsz.out
      by_cases hlt : k < np
      · have i3 : (0 : Int) ≤ (k : Int) := by omega
        have i4 : (k : Int) < (np : Int) := by omega
        have j1 : IntKind.i64.wrap (2 * (k : Int)) = 2 * (k : Int) := by rw [IntKind.wrap_i64]; omega
        have j2 : IntKind.i64.wrap (2 * (k : Int) + 1) = 2 * (k : Int) + 1 := by rw [IntKind.wrap_i64]; omega
        have j3 : IntKind.i64.wrap (2 * (k : Int) + 1 - (np : Int)) = 2 * (k : Int) + 1 - (np : Int) := by rw [IntKind.wrap_i64]; omega
        have HDA := Lib.hid (show dpA d h v s ht ra np (k + 1) = fop .add .f32 (dpA d h v s ht ra np k) (fop .mul .f32 (rootD (fop .sub .f32 (cl .f32 1065353216) (fop .mul .f32 (fop .quo .f32 (cl .f32 (floatOfInt .f32 (2 * (k : Int) + 1 - np))) (cl .f32 (floatOfInt .f32 (np : Int)))) (fop .quo .f32 (cl .f32 (floatOfInt .f32 (2 * (k : Int) + 1 - np))) (cl .f32 (floatOfInt .f32 (np : Int))))))) (pwr d (spd v s h (fop .add .f32 (cl .f32 ht) (fop .mul .f32 (cl .f32 ra) (fop .quo .f32 (cl .f32 (floatOfInt .f32 (2 * (k : Int) + 1 - np))) (cl .f32 (floatOfInt .f32 (np : Int))))))))) from rfl)
        have HDW := Lib.hid (show dpW np (k + 1) = fop .add .f32 (dpW np k) (rootD (fop .sub .f32 (cl .f32 1065353216) (fop .mul .f32 (fop .quo .f32 (cl .f32 (floatOfInt .f32 (2 * (k : Int) + 1 - np))) (cl .f32 (floatOfInt .f32 (np : Int)))) (fop .quo .f32 (cl .f32 (floatOfInt .f32 (2 * (k : Int) + 1 - np))) (cl .f32 (floatOfInt .f32 (np : Int))))))) from rfl)
        have HN := Lib.hid (show fin DD = true → (least (fop .add .f32 (cl .f32 ht) (fop .mul .f32 (cl .f32 ra) (fop .quo .f32 (cl .f32 (floatOfInt .f32 (2 * (k : Int) + 1 - np))) (cl .f32 (floatOfInt .f32 (np : Int)))))) && fin (spd v s h (fop .add .f32 (cl .f32 ht) (fop .mul .f32 (cl .f32 ra) (fop .quo .f32 (cl .f32 (floatOfInt .f32 (2 * (k : Int) + 1 - np))) (cl .f32 (floatOfInt .f32 (np : Int)))))))) = true ∧ (least (spd v s h (fop .add .f32 (cl .f32 ht) (fop .mul .f32 (cl .f32 ra) (fop .quo .f32 (cl .f32 (floatOfInt .f32 (2 * (k : Int) + 1 - np))) (cl .f32 (floatOfInt .f32 (np : Int))))))) && fin (pwr d (spd v s h (fop .add .f32 (cl .f32 ht) (fop .mul .f32 (cl .f32 ra) (fop .quo .f32 (cl .f32 (floatOfInt .f32 (2 * (k : Int) + 1 - np))) (cl .f32 (floatOfInt .f32 (np : Int))))))))) = true from fun hD => HN2.out hD k hlt)
        cases hb1 : (least (fop .add .f32 (cl .f32 ht) (fop .mul .f32 (cl .f32 ra) (fop .quo .f32 (cl .f32 (floatOfInt .f32 (2 * (k : Int) + 1 - np))) (cl .f32 (floatOfInt .f32 (np : Int)))))) && fin (spd v s h (fop .add .f32 (cl .f32 ht) (fop .mul .f32 (cl .f32 ra) (fop .quo .f32 (cl .f32 (floatOfInt .f32 (2 * (k : Int) + 1 - np))) (cl .f32 (floatOfInt .f32 (np : Int))))))))
        · have hF : fin DD = false := by
            cases hf : fin DD
            · rfl
            · have := (HN.out hf).1
              rw [hb1] at this
              cases this
          have hsp : ∀ z w, cl .f32 z = (fop .add .f32 (cl .f32 ht) (fop .mul .f32 (cl .f32 ra) (fop .quo .f32 (cl .f32 (floatOfInt .f32 (2 * (k : Int) + 1 - np))) (cl .f32 (floatOfInt .f32 (np : Int)))))) → Calls Try.prog 74 #[.agg #[.float .f32 d, .float .f32 h, .float .f32 v, .float .f32 s], .float .f32 z] w (RetFB (cl .f32 0) false (Grew w)) := by
            intro z w e
            have := HSA.out z w
            rw [e] at this
            unfold num at this
            rw [Bool.true_and, hb1] at this
            exact this
          have HSP := Lib.hid hsp
          have HF := Lib.hid hF
          clear hsp hb1 hF
          go_wp2_with (first | (refine upon_fbin rfl _ _ _ _ ?_; intro z n hz hzw) | (go_at_call 65; refine (c_RootNumber _ _).mono ?_; rintro e w' ⟨r, rfl, hr, hrf, nq, rfl⟩) | (go_at_call 74; refine (HSP.out _ _ (by simp only [*])).mono ?_; rintro e w1 ⟨r1, rfl, hr1, hrf1, hg1⟩; obtain ⟨c0, c1, c2, c3⟩ := airAt_grew (by exact hair.out) (by exact hsz.out) hg1) | (go_at_call 75; obtain ⟨D2, b2, hap⟩ := c_airAny d r1 w1 HVD2.out; refine hap.mono ?_; rintro e w2 ⟨r2, rfl, hr2, hrf2, hg2⟩; clear hap))
          go_ret2
          exact ⟨_, by rw [HF.out]; rfl, by rw [num, HF.out]; rfl, fits_zero, grew_trans (grew_draw _ _ hg.out) (grew_trans hg1 hg2)⟩
        · have hsp : ∀ z w, cl .f32 z = (fop .add .f32 (cl .f32 ht) (fop .mul .f32 (cl .f32 ra) (fop .quo .f32 (cl .f32 (floatOfInt .f32 (2 * (k : Int) + 1 - np))) (cl .f32 (floatOfInt .f32 (np : Int)))))) → Calls Try.prog 74 #[.agg #[.float .f32 d, .float .f32 h, .float .f32 v, .float .f32 s], .float .f32 z] w (RetFB (spd v s h (fop .add .f32 (cl .f32 ht) (fop .mul .f32 (cl .f32 ra) (fop .quo .f32 (cl .f32 (floatOfInt .f32 (2 * (k : Int) + 1 - np))) (cl .f32 (floatOfInt .f32 (np : Int))))))) true (Grew w)) := by
            intro z w e
            have := HSA.out z w
            rw [e] at this
            unfold num at this
            rw [Bool.true_and, hb1] at this
            exact this
          have HSP := Lib.hid hsp
          clear hsp hb1
          cases hb2 : (least (spd v s h (fop .add .f32 (cl .f32 ht) (fop .mul .f32 (cl .f32 ra) (fop .quo .f32 (cl .f32 (floatOfInt .f32 (2 * (k : Int) + 1 - np))) (cl .f32 (floatOfInt .f32 (np : Int))))))) && fin (pwr d (spd v s h (fop .add .f32 (cl .f32 ht) (fop .mul .f32 (cl .f32 ra) (fop .quo .f32 (cl .f32 (floatOfInt .f32 (2 * (k : Int) + 1 - np))) (cl .f32 (floatOfInt .f32 (np : Int)))))))))
          · have hF : fin DD = false := by
              cases hf : fin DD
              · rfl
              · have := (HN.out hf).2
                rw [hb2] at this
                cases this
            have hap : ∀ u w, cl .f32 u = (spd v s h (fop .add .f32 (cl .f32 ht) (fop .mul .f32 (cl .f32 ra) (fop .quo .f32 (cl .f32 (floatOfInt .f32 (2 * (k : Int) + 1 - np))) (cl .f32 (floatOfInt .f32 (np : Int))))))) → Calls Try.prog 75 #[.float .f32 d, .float .f32 u] w (RetFB (cl .f32 0) false (Grew w)) := by
              intro u w e
              have := HAP.out u w HVD2.out
              rw [e] at this
              unfold num at this
              rw [hb2] at this
              exact this
            have HAU := Lib.hid hap
            have HF := Lib.hid hF
            clear hap hb2 hF
            go_wp2_with (first | (refine upon_fbin rfl _ _ _ _ ?_; intro z n hz hzw) | (go_at_call 65; refine (c_RootNumber _ _).mono ?_; rintro e w' ⟨r, rfl, hr, hrf, nq, rfl⟩) | (go_at_call 74; refine (HSP.out _ _ (by simp only [*])).mono ?_; rintro e w1 ⟨r1, rfl, hr1, hrf1, hg1⟩; obtain ⟨c0, c1, c2, c3⟩ := airAt_grew (by exact hair.out) (by exact hsz.out) hg1) | (go_at_call 75; refine (HAU.out _ _ hr1).mono ?_; rintro e w2 ⟨r2, rfl, hr2, hrf2, hg2⟩))
            go_ret2
            exact ⟨_, by rw [HF.out]; rfl, by rw [num, HF.out]; rfl, fits_zero, grew_trans (grew_draw _ _ hg.out) (grew_trans hg1 hg2)⟩
          · have hap : ∀ u w, cl .f32 u = (spd v s h (fop .add .f32 (cl .f32 ht) (fop .mul .f32 (cl .f32 ra) (fop .quo .f32 (cl .f32 (floatOfInt .f32 (2 * (k : Int) + 1 - np))) (cl .f32 (floatOfInt .f32 (np : Int))))))) → Calls Try.prog 75 #[.float .f32 d, .float .f32 u] w (RetFB (pwr d (spd v s h (fop .add .f32 (cl .f32 ht) (fop .mul .f32 (cl .f32 ra) (fop .quo .f32 (cl .f32 (floatOfInt .f32 (2 * (k : Int) + 1 - np))) (cl .f32 (floatOfInt .f32 (np : Int)))))))) true (Grew w)) := by
              intro u w e
              have := HAP.out u w HVD2.out
              rw [e] at this
              unfold num at this
              rw [hb2] at this
              exact this
            have HAU := Lib.hid hap
            clear hap hb2
            go_wp2_with (first | (refine upon_fbin rfl _ _ _ _ ?_; intro z n hz hzw) | (go_at_call 65; refine (c_RootNumber _ _).mono ?_; rintro e w' ⟨r, rfl, hr, hrf, nq, rfl⟩) | (go_at_call 74; refine (HSP.out _ _ (by simp only [*])).mono ?_; rintro e w1 ⟨r1, rfl, hr1, hrf1, hg1⟩; obtain ⟨c0, c1, c2, c3⟩ := airAt_grew (by exact hair.out) (by exact hsz.out) hg1) | (go_at_call 75; refine (HAU.out _ _ hr1).mono ?_; rintro e w2 ⟨r2, rfl, hr2, hrf2, hg2⟩; have hgg := Lib.hid (grew_trans (grew_draw _ _ hg.out) (grew_trans hg1 hg2)); have hai := Lib.hid (airAt_grew (w := wr) hair.out hsz.out (grew_trans (grew_draw _ _ (grew_refl wr)) (grew_trans hg1 hg2))); have hszz := Lib.hid (Nat.lt_of_lt_of_le hsz.out (Below.size (grew_trans (grew_draw _ _ (grew_refl wr)) (grew_trans hg1 hg2)))); clear hg1 hg2))
            go_roundw
            case rel => exact ⟨k + 1, _, _, by omega, by go_num, rfl, rfl, by show cl _ _ = _; rw [HDA.out, ← hy.out]; simp only [*], by show cl _ _ = _; rw [HDW.out, ← hz0.out]; simp only [*], (by show AirAt _ _ _ _ _ _; exact airAt_drawn hai.out ⟨_, rfl⟩), hszz, grew_draw _ _ hgg.out⟩
            case measure => simp [intOf]; omega
      · obtain rfl : k = np := by omega
        have hyo := hy.out
        have hzo := hz0.out
        have i4 : ¬ (k : Int) < (k : Int) := by omega
        go_wp2_with (first | (refine upon_fbin rfl _ _ _ _ ?_; intro z n hz hzw) | (go_at_call 46; refine (c_checked _ _).mono ?_; rintro e w' ⟨rfl, nq, rfl⟩))
        go_ret2
        have e : cl .f32 z = DD := by rw [HD.out, hz, hyo, hzo]
        exact ⟨chkW z, by rw [HD.out, ← hyo, ← hzo]; simp, by rw [cl_chkW, e]; simp [chk, num], fits_chkW hzw, grew_draw _ _ hg.out⟩

end Go.Proofs.Ytebhefbpkcpnjaa
