/-
  CONTRACTS: a rose of winds, in the reference.
-/
import Derived.Test.YtebhefbpkcpnjaaRoJ
namespace Go.Proofs.Ytebhefbpkcpnjaa
open Go.RowKit Go.Flt
set_option linter.unusedVariables false
set_option maxRecDepth 100000
set_option linter.unusedSimpArgs false

theorem c_sroBad (A C : Option Addr) (n cA m cC K : Nat) (xs ys : List Nat) (cn : Int) (w : World) (hx : Fl w K A n xs) (hy : Fl w K C m ys) (hK : K ≤ w.heap.size) (hn : n ≤ 1048576) (hm : m ≤ 1048576) (k1 : (winds ys && decide (xs.length = ys.length) && within cn 1 16) = false) :
    Calls Try.prog 38 #[.slice A n cA, .slice C m cC, .int .i64 cn] w (RetR [] [] false w) := by
  obtain rfl := hx.1
  obtain rfl := hy.1
  have HY := Lib.hid (fun w' h => Slc.grew (g := Value.float .f32) (w' := w') hy hK h)
  have HW := Lib.hid (fun w' (h : Grew w w') => c_l04Winds C _ cC K ys w' (HY.out w' h) hm)
  clear hx hy
  cases h1 : winds ys
  case' true => cases h2 : decide (xs.length = ys.length)
  case' true.true => cases h4 : within cn 1 16
  case true.true.true => exfalso; rw [h1, h2, h4] at k1; cases k1
  case true.false =>
    rw [h1] at HW
    have i1 : ((xs.length : Int) != (ys.length : Int)) = true := by
      have := of_decide_eq_false h2
      simp; omega
    clear k1 h2 hn hm h1
    go_enter Try.func38, Try.ntmps38
    go_wp2_with (first | (go_at_call 63; refine (HW.out _ (by (show Below _ _ _; (repeat (first | exact Below.refl _ _ | refine ext_below ?_ (by first | omega | (simp only [size_ext, heap_push, Array.size_push, World.heap_drewN]; omega) | (simp; omega)) _ _ | refine below_draws ?_ _ | refine Below.alloc ?_ (by first | omega | (simp; done) | (simp; omega)) _ | refine Below.setCell ?_ (by first | omega | (simp; done) | (simp; omega)) _ | refine below_then (by assumption) (by first | omega | (simp; done) | (simp; omega)) ?_))))).mono ?_; rintro e w' ⟨rfl, nq, rfl⟩))
    refine bodyPost_ret (v := .tuple #[ZRO, .bool false]) (by simp [results, Try.results38, go_sem, ZRO]) rfl ?_
    exact ⟨_, [], [], rfl, rose_nil _ _ _, rfl, rfl, by (show Below _ _ _; (repeat (first | exact Below.refl _ _ | refine ext_below ?_ (by first | omega | (simp only [size_ext, heap_push, Array.size_push, World.heap_drewN]; omega) | (simp; omega)) _ _ | refine below_draws ?_ _ | refine Below.alloc ?_ (by first | omega | (simp; done) | (simp; omega)) _ | refine Below.setCell ?_ (by first | omega | (simp; done) | (simp; omega)) _ | refine below_then (by assumption) (by first | omega | (simp; done) | (simp; omega)) ?_)))⟩
  case false =>
    rw [h1] at HW
    clear k1 hn hm h1
    go_enter Try.func38, Try.ntmps38
    go_wp2_with (first | (go_at_call 63; refine (HW.out _ (by (show Below _ _ _; (repeat (first | exact Below.refl _ _ | refine ext_below ?_ (by first | omega | (simp only [size_ext, heap_push, Array.size_push, World.heap_drewN]; omega) | (simp; omega)) _ _ | refine below_draws ?_ _ | refine Below.alloc ?_ (by first | omega | (simp; done) | (simp; omega)) _ | refine Below.setCell ?_ (by first | omega | (simp; done) | (simp; omega)) _ | refine below_then (by assumption) (by first | omega | (simp; done) | (simp; omega)) ?_))))).mono ?_; rintro e w' ⟨rfl, nq, rfl⟩))
    refine bodyPost_ret (v := .tuple #[ZRO, .bool false]) (by simp [results, Try.results38, go_sem, ZRO]) rfl ?_
    exact ⟨_, [], [], rfl, rose_nil _ _ _, rfl, rfl, by (show Below _ _ _; (repeat (first | exact Below.refl _ _ | refine ext_below ?_ (by first | omega | (simp only [size_ext, heap_push, Array.size_push, World.heap_drewN]; omega) | (simp; omega)) _ _ | refine below_draws ?_ _ | refine Below.alloc ?_ (by first | omega | (simp; done) | (simp; omega)) _ | refine Below.setCell ?_ (by first | omega | (simp; done) | (simp; omega)) _ | refine below_then (by assumption) (by first | omega | (simp; done) | (simp; omega)) ?_)))⟩
  all_goals
    rw [h1] at HW
    have i1 : ((xs.length : Int) != (ys.length : Int)) = false := by
      have := of_decide_eq_true h2
      simp; omega
    clear k1 h2 hn hm h1
    go_enter Try.func38, Try.ntmps38
    go_wp2_with (first | (go_at_call 63; refine (HW.out _ (by (show Below _ _ _; (repeat (first | exact Below.refl _ _ | refine ext_below ?_ (by first | omega | (simp only [size_ext, heap_push, Array.size_push, World.heap_drewN]; omega) | (simp; omega)) _ _ | refine below_draws ?_ _ | refine Below.alloc ?_ (by first | omega | (simp; done) | (simp; omega)) _ | refine Below.setCell ?_ (by first | omega | (simp; done) | (simp; omega)) _ | refine below_then (by assumption) (by first | omega | (simp; done) | (simp; omega)) ?_))))).mono ?_; rintro e w' ⟨rfl, nq, rfl⟩) | (go_at_call 57; refine (c_l00In _ _ _ _).mono ?_; rintro e w' ⟨rfl, nq, rfl⟩))
    refine bodyPost_ret (v := .tuple #[ZRO, .bool false]) (by simp [results, Try.results38, go_sem, ZRO]) rfl ?_
    exact ⟨_, [], [], rfl, rose_nil _ _ _, rfl, rfl, by (show Below _ _ _; (repeat (first | exact Below.refl _ _ | refine ext_below ?_ (by first | omega | (simp only [size_ext, heap_push, Array.size_push, World.heap_drewN]; omega) | (simp; omega)) _ _ | refine below_draws ?_ _ | refine Below.alloc ?_ (by first | omega | (simp; done) | (simp; omega)) _ | refine Below.setCell ?_ (by first | omega | (simp; done) | (simp; omega)) _ | refine below_then (by assumption) (by first | omega | (simp; done) | (simp; omega)) ?_)))⟩

theorem cell_oneB (w : World) (x : Value) (t : TypeId) (b : Nat) (h : b = w.heap.size) : ∀ j u, [x][j]? = some u → (w.alloc (.cells #[x] t)).cell? ((⟨b, 0, none⟩ : Addr).add j) = some u := h ▸ cell_one_new w x t

/-- Two rows that stand for themselves. -/
structure Duo (w0 w : World) (bS bM : Nat) (us : List Nat) (ms : List Int) : Prop where
  oS : Own (Value.float .f32) 23 w bS us
  oM : Own (Value.int .i64) 2 w bM ms
  d : bS ≠ bM
  lS : w0.heap.size ≤ bS
  lM : w0.heap.size ≤ bM
  gr : Grew w0 w

theorem Duo.drewN {w0 w : World} {bS bM : Nat} {us : List Nat} {ms : List Int} (h : Duo w0 w bS bM us ms) (n : Nat) : Duo w0 (w.drewN n) bS bM us ms := ⟨h.oS, h.oM, h.d, h.lS, h.lM, grew_draw _ n h.gr⟩

theorem Duo.setS {w0 w : World} {bS bM : Nat} {us : List Nat} {ms : List Int} (h : Duo w0 w bS bM us ms) (q v : Nat) : Duo w0 (w.setCell ⟨bS, q, none⟩ (.float .f32 v)) bS bM (us.set q v) ms :=
  ⟨h.oS.set q v, h.oM.set_other (fun e => h.d e.symm) q _, h.d, h.lS, h.lM, grew_set h.gr h.lS⟩

theorem Duo.setM {w0 w : World} {bS bM : Nat} {us : List Nat} {ms : List Int} (h : Duo w0 w bS bM us ms) (q : Nat) (v : Int) : Duo w0 (w.setCell ⟨bM, q, none⟩ (.int .i64 v)) bS bM us (ms.set q v) :=
  ⟨h.oS.set_other h.d q _, h.oM.set q v, h.d, h.lS, h.lM, grew_set h.gr h.lM⟩

theorem Own.grew' {α : Type} {g : α → Value} {t : TypeId} {w w' : World} {b : Nat} {xs : List α} (h : Own g t w b xs) (hg : Grew w w') : Own g t w' b xs := (hg.block b h.lt).trans h

theorem allTurn_no {xs : List Nat} {k : Nat} (hk : k < xs.length) (h : isTurn (cl .f32 (xs.getD k 0)) = false) : allTurn xs = false := by
  unfold allTurn
  rw [List.all_eq_false]
  exact ⟨_, getD_mem _ _ _ hk, by show ¬ (isTurn (cl .f32 (xs.getD k 0)) = true); rw [h]; decide⟩

theorem allTurn_yes {xs : List Nat} (h : ∀ j, j < xs.length → isTurn (cl .f32 (xs.getD j 0)) = true) : allTurn xs = true := by
  unfold allTurn
  rw [List.all_eq_true]
  intro x hx
  obtain ⟨j, hj, rfl⟩ := List.getElem_of_mem hx
  have := h j hj
  rwa [show xs.getD j 0 = xs[j] by simp [List.getD, List.getElem?_eq_getElem hj]] at this

set_option maxHeartbeats 8000000 in
theorem c_sroMain (A C : Option Addr) (n cA m cC K : Nat) (xs ys : List Nat) (c : Nat) (w : World) (hx : Fl w K A n xs) (hy : Fl w K C m ys) (hK : K ≤ w.heap.size) (h1 : winds ys = true) (h2 : xs.length = ys.length) (hc1 : 1 ≤ c) (hc2 : c ≤ 16) :
    Calls Try.prog 38 #[.slice A n cA, .slice C m cC, .int .i64 c] w (RetR (if (allTurn xs && vRoseD (shL xs c) (spL xs ys c)) then shL xs c else []) (if (allTurn xs && vRoseD (shL xs c) (spL xs ys c)) then spL xs ys c else []) (allTurn xs && vRoseD (shL xs c) (spL xs ys c)) w) := by
  obtain rfl := hx.1
  obtain rfl := hy.1
  have HX := Lib.hid (fun w' h => Slc.grew (g := Value.float .f32) (w' := w') hx hK h)
  have HY := Lib.hid (fun w' h => Slc.grew (g := Value.float .f32) (w' := w') hy hK h)
  have hl : 1 ≤ ys.length ∧ ys.length ≤ 256 := by
    unfold winds at h1
    simp only [Bool.and_eq_true, decide_eq_true_eq] at h1
    exact ⟨h1.1.1, h1.1.2⟩
  have NN := Lib.hid (And.intro hc1 (And.intro hc2 (And.intro h2 (And.intro hl.1 hl.2))))
  have HW := Lib.hid (fun w' (h : Grew w w') => c_l04Winds C _ cC K ys w' (HY.out w' h) (by omega))
  rw [h1] at HW
  have h4 : within (c : Int) 1 16 = true := by unfold within; simp; omega
  generalize hB : (allTurn xs && vRoseD (shL xs c) (spL xs ys c)) = BB
  generalize hD : (if BB then shL xs c else []) = DD
  generalize hE : (if BB then spL xs ys c else []) = EE
  have HB := Lib.hid hB
  have HD := Lib.hid hD
  have HE := Lib.hid hE
  have KK := Lib.hid hK
  have i1 : ((xs.length : Int) != (ys.length : Int)) = false := by simp; omega
  obtain ⟨i, hi, hz0, hz1, hz2⟩ := info_parts info_float32
  have HI := Lib.hid hi
  have HI0 := Lib.hid hz0
  have HI1 := Lib.hid hz1
  have HI2 := Lib.hid hz2
  clear hx hy hB hD hE hK hc1 hc2 h1 h2 hi hz0 hz1 hz2 hl
  go_enter Try.func38, Try.ntmps38
  go_upto_region 3 with (first | (go_at_call 63; refine (HW.out _ (by (show Below _ _ _; (repeat (first | exact Below.refl _ _ | refine ext_below ?_ (by first | omega | (simp only [size_ext, heap_push, Array.size_push, World.heap_drewN]; omega) | (simp; omega)) _ _ | refine below_draws ?_ _ | refine Below.alloc ?_ (by first | omega | (simp; done) | (simp; omega)) _ | refine Below.setCell ?_ (by first | omega | (simp; done) | (simp; omega)) _ | refine below_then (by assumption) (by first | omega | (simp; done) | (simp; omega)) ?_))))).mono ?_; rintro e w' ⟨rfl, na, rfl⟩) | (go_at_call 57; refine (c_l00In _ _ _ _).mono ?_; rintro e w' ⟨rfl, nb, rfl⟩))
  generalize hw1 : (w.alloc (.cells #[.slice none 0 0, .slice none 0 0] 34)).drewN (na + nb) = w1
  have hw1 := hw1.symm
  have G1 : Hid (Grew w w1) := by rw [hw1]; show Grew w _; (show Below _ _ _; (repeat (first | exact Below.refl _ _ | refine ext_below ?_ (by first | omega | (simp only [size_ext, heap_push, Array.size_push, World.heap_drewN]; omega) | (simp; omega)) _ _ | refine below_draws ?_ _ | refine Below.alloc ?_ (by first | omega | (simp; done) | (simp; omega)) _ | refine Below.setCell ?_ (by first | omega | (simp; done) | (simp; omega)) _ | refine below_then (by assumption) (by first | omega | (simp; done) | (simp; omega)) ?_)))
  have R1 : Hid (BoxR w1 w.heap.size (.slice none 0 0) (.slice none 0 0)) := by rw [hw1]; refine ⟨⟨?_, ?_⟩, ?_, ?_⟩ <;> simp [go_sem]
  have z1 : w.heap.size < w1.heap.size := by rw [hw1]; simp
  clear hw1 HW i1 h4
  have HMI := mk_i64b c (by have := NN.out; omega)
  have HMF := mk_f32b c (by have := NN.out; omega)
  go_wp2_with fail
  clear HMI HMF
  have h0 : Duo w1 ((w1.alloc (.cells (Array.replicate c (Value.float .f32 0)) 23)).alloc (.cells (Array.replicate c (Value.int .i64 0)) 2)) w1.heap.size (w1.heap.size + 1) (List.replicate c 0) (mnL xs c 0) := by
    have e : mnL xs c 0 = List.replicate c 0 := by simp [mnL, cntF, List.map_const']
    rw [e]
    refine ⟨?_, ?_, by omega, by omega, by omega, by (show Below _ _ _; (repeat (first | exact Below.refl _ _ | refine ext_below ?_ (by first | omega | (simp only [size_ext, heap_push, Array.size_push, World.heap_drewN]; omega) | (simp; omega)) _ _ | refine below_draws ?_ _ | refine Below.alloc ?_ (by first | omega | (simp; done) | (simp; omega)) _ | refine Below.setCell ?_ (by first | omega | (simp; done) | (simp; omega)) _ | refine below_then (by assumption) (by first | omega | (simp; done) | (simp; omega)) ?_)))⟩
    · unfold Own; simp [heap_push, Array.getElem?_push, Array.getElem_push]
    · unfold Own; simp [heap_push, Array.getElem?_push, Array.getElem_push]
  have H0 := Lib.hid h0
  clear h0
  generalize hbM : w1.heap.size + 1 = bM at *
  generalize hbS : w1.heap.size = bS at *
  go_loopw [10] (fun i wr => ∃ (k : Nat) (us : List Nat), k ≤ xs.length ∧ i = .int .i64 k ∧ Hid (us.map (cl .f32) = suL xs ys c k) ∧ Hid (∀ j, j < k → isTurn (cl .f32 (xs.getD j 0)) = true) ∧ Hid (Duo w1 wr bS bM us (mnL xs c k))) (fun i _ => xs.length - (intOf i).toNat)
  case atStart =>
    refine ⟨0, List.replicate c 0, Nat.zero_le _, rfl, ?_, fun j h => absurd h (by omega), H0⟩
    show _ = _
    simp [suL, smF, List.map_const']
  case round =>
    obtain ⟨k, us, hk, rfl, hus, hall, hF⟩ := hrel
    have hG : Grew w wr := grew_trans G1.out hF.out.gr
    have HG := Lib.hid hG
    by_cases hlt : k < xs.length
    · obtain ⟨b, off, rfl, hbK, hcc⟩ := (HX.out wr hG).2 (by omega)
      have hcell := hcc k (xs.getD k 0) (by simp [hlt])
      clear hcc hG
      have i3 : (0 : Int) ≤ (k : Int) := by omega
      have i4 : (k : Int) < (xs.length : Int) := by omega
      cases ht : isTurn (cl .f32 (xs.getD k 0))
      · have hno := allTurn_no hlt ht
        have hbb : BB = false := by rw [← HB.out, hno]; rfl
        subst hbb
        generalize xs.getD k 0 = x at *
        obtain ⟨⟨r0, r1⟩, r2, r3⟩ := R1.out.grew (by omega) hF.out.gr
        go_wp2_with (go_at_call 78; refine (c_l04Turn _ _).mono ?_; rintro e w' ⟨rfl, nq, rfl⟩)
        refine bodyPost_ret (v := .tuple #[ZRO, .bool false]) (by simp [results, Try.results38, go_sem, r0, r1, ZRO]) rfl ?_
        exact ⟨_, [], [], rfl, rose_nil _ _ _, HD.out, HE.out, (by repeat (first | (with_reducible exact HG.out) | (with_reducible exact grw_refl _) | (with_reducible refine grew_draw _ _ ?_) | (with_reducible refine grew_al ?_ _) | (with_reducible refine grew_set ?_ ?_; rotate_left; omega)))⟩
      · have hq := secK_lt (cl .f32 (xs.getD k 0)) c (by have := NN.out; omega)
        have HMN := Lib.hid (mnL_succ xs c k hq)
        have HSU := Lib.hid (suL_succ xs ys c k hq)
        have HSEC := Lib.hid (fun w => c_spec.l04Sector (xs.getD k 0) c w (by have := NN.out; omega) (by have := NN.out; omega) ht)
        have HALL : Hid (∀ j, j < k + 1 → isTurn (cl .f32 (xs.getD j 0)) = true) := fun j hj => by
          rcases Nat.lt_or_ge j k with h | h
          · exact hall.out j h
          · obtain rfl : j = k := by omega
            exact ht
        have hcn := cnt_le xs c k (secK (cl .f32 (xs.getD k 0)) c)
        have hcM := rng_at (fun i => ((cntF xs c k i : Nat) : Int)) c _ hq
        have hlu : us.length = c := by have := congrArg List.length hus.out; simpa [suL] using this
        have hsm : cl .f32 (us.getD (secK (cl .f32 (xs.getD k 0)) c) 0) = smF xs ys c k (secK (cl .f32 (xs.getD k 0)) c) := by
          have := ds_at (cl .f32) us (secK (cl .f32 (xs.getD k 0)) c) 0 NaN (by omega)
          rw [← this, hus.out]
          unfold suL
          rw [List.getD_eq_getElem?_getD, rng_at _ _ _ hq]
          rfl
        generalize secK (cl .f32 (xs.getD k 0)) c = q at *
        have HSM := Lib.hid hsm
        clear hsm
        generalize xs.getD k 0 = x at *
        generalize cntF xs c k q = t at *
        have i7 : (0 : Int) ≤ (q : Int) := by omega
        have i8 : (q : Int) < (c : Int) := by omega
        have i9 : IntKind.i64.wrap ((t : Int) + 1) = (t : Int) + 1 := by rw [IntKind.wrap_i64]; have := NN.out; omega
        obtain ⟨by', oy, rfl, hbY, hcy⟩ := (HY.out wr HG.out).2 (by have := NN.out; omega)
        have hcelly := hcy k (ys.getD k 0) (by have := NN.out; simp [show k < ys.length by omega])
        have i5 : (k : Int) < (ys.length : Int) := by have := NN.out; omega
        have hu := hF.out.oS.cell (i := q) (x := us.getD q 0) (by simp [show q < us.length by omega])
        have hfu := hF.out.oS.free q
        clear hcy
        generalize us.getD q 0 = u at *
        generalize ys.getD k 0 = y at *
        go_upto_region 11 with (first | (go_at_call 78; refine (c_l04Turn _ _).mono ?_; rintro e w' ⟨rfl, nq, rfl⟩) | (go_at_call 79; refine (HSEC.out _).mono ?_; rintro e w' ⟨rfl, ns, rfl⟩))
        go_region_with (first | (refine upon_fbin rfl _ _ _ _ ?_; intro z n hz hzw))
        all_goals
          have F8 := hF.out.setS q z
          have hzz : cl .f32 z = fop .add .f32 (smF xs ys c k q) (cl .f32 y) := by rw [hz, HSM.out]
          have HZZ := Lib.hid hzz
          have HW := Lib.hid (show wrap64 ((k : Int) + 1) = (k : Int) + 1 by have := NN.out; unfold wrap64; omega)
          clear hz hzz hu hfu hcelly hcell
          generalize wr.setCell ⟨bS, q, none⟩ (.float .f32 z) = w8 at *
          have hc8 := F8.oM.cell (i := q) (x := (t : Int)) hcM
          have hf8 := F8.oM.free q
          have F9 := F8.setM q ((t : Int) + 1)
          rw [← HMN.out] at F9
          have F9 := Lib.hid F9
          clear F8
          go_wp2_with fail
          go_roundw
          case rel =>
            refine ⟨k + 1, us.set q z, by omega, by have e := HW.out; simp [e], ?_, HALL, ?_⟩
            · show (us.set q z).map _ = _
              rw [List.map_set, hus.out, HSU.out, HZZ.out]
            · show Duo _ _ _ _ _ _
              exact F9.out.drewN _
          case measure =>
            have e := HW.out
            exact meas_less hlt e
    · obtain rfl : k = xs.length := by omega
      have i4 : ¬ (xs.length : Int) < (xs.length : Int) := by omega
      have hT := allTurn_yes hall.out
      have HB2 := Lib.hid (show vRoseD (shL xs c) (spL xs ys c) = BB by rw [← HB.out, hT]; rfl)
      have hlu : us.length = c := by have := congrArg List.length hus.out; simpa [suL] using this
      have F1 := Lib.hid hF.out
      clear hG hT hF HB
      go_upto_region 13 with fail
      have G2 := Lib.hid (grew_trans G1.out F1.out.gr)
      have R2 := Lib.hid (R1.out.grew (by omega) F1.out.gr)
      have z2 : w.heap.size < wr.heap.size := by have := Below.size F1.out.gr; omega
      clear R1 G1 z1
      generalize wr = w2 at *
      go_wp2_with fail
      have m1 := row_made (g := Value.float .f32) (t := 23) w2 (grw_refl w2)
      have m2 := row_made (g := Value.float .f32) (t := 23) (w2.alloc (.cells #[] 23)) m1.2
      have M0 := Lib.hid (mix_boxed (w0 := w2) (lo := w2.heap.size) (zs := []) (us := []) (S1 := .slice (some ⟨w2.heap.size, 0, none⟩) 0 0) (S2 := .slice (some ⟨w2.heap.size + 1, 0, none⟩) 0 0) (RowAt.mono (m1.1.alloc (.cells #[] 23)) (Nat.le_refl _) (by simp)) (by have h := m2.1; rw [size_al] at h; exact RowAt.mono h (Nat.le_refl _) (by simp)) (fun k h e => by simp [Value.ownBlock] at h e; omega) (Nat.le_refl _) (by simp <;> omega) m2.2)
      have e2 : ((w2.alloc (.cells #[] 23)).alloc (.cells #[] 23)).heap.size = w2.heap.size + 1 + 1 := by simp
      rw [e2] at M0
      clear m1 m2 e2
      go_loopw [13] (fun i wr => ∃ (k : Nat) (v1 v2 : Value) (zs us' : List Nat), k ≤ c ∧ i = .int .i64 k ∧ Hid (zs.length = k) ∧ Hid (us'.length = k) ∧ Hid (MixAt w2 wr w2.heap.size (w2.heap.size + 1 + 1) v1 v2 zs us' ((List.range k).map (dS xs c)) ((List.range k).map (dV xs ys c)))) (fun i _ => c - (intOf i).toNat)
      case atStart => exact ⟨0, _, _, [], [], Nat.zero_le _, rfl, rfl, rfl, M0⟩
      case round =>
        obtain ⟨k, v1, v2, zs, us', hk, rfl, hzl, hul, hM⟩ := hrel
        by_cases hlt : k < c
        · have i3 : (0 : Int) ≤ (k : Int) := by omega
          have i4 : (k : Int) < (c : Int) := by omega
          have i6 : IntKind.i64.wrap (k : Int) = (k : Int) := by rw [IntKind.wrap_i64]; have := NN.out; omega
          have HWR := Lib.hid (show wrap64 ((k : Int) + 1) = (k : Int) + 1 by have := NN.out; unfold wrap64; omega)
          have HL1 := Lib.hid (show (List.range (k + 1)).map (dS xs c) = (List.range k).map (dS xs c) ++ [dS xs c k] by rw [List.range_succ, List.map_append]; rfl)
          have HL2 := Lib.hid (show (List.range (k + 1)).map (dV xs ys c) = (List.range k).map (dV xs ys c) ++ [dV xs ys c k] by rw [List.range_succ, List.map_append]; rfl)
          have HQ := Lib.hid (show ∀ z, cl .f32 z = fop .quo .f32 (cl .f32 (floatOfInt .f32 ((cntF xs c xs.length k : Nat) : Int))) (cl .f32 (floatOfInt .f32 (xs.length : Int))) → cl .f32 z = dS xs c k from fun z hz => hz)
          have HdV := Lib.hid (show dV xs ys c k = if 0 < cntF xs c xs.length k then fop .quo .f32 (smF xs ys c xs.length k) (cl .f32 (floatOfInt .f32 ((cntF xs c xs.length k : Nat) : Int))) else cl .f32 0 from rfl)
          have hcM0 := rng_at (fun i => ((cntF xs c xs.length i : Nat) : Int)) c _ hlt
          have hsm : cl .f32 (us.getD k 0) = smF xs ys c xs.length k := by
            have := ds_at (cl .f32) us k 0 NaN (by omega)
            rw [← this, hus.out]
            unfold suL
            rw [List.getD_eq_getElem?_getD, rng_at _ _ _ hlt]
            rfl
          have HSM := Lib.hid hsm
          have hcS0 : us[k]? = some (us.getD k 0) := by simp [show k < us.length by omega]
          clear hsm
          generalize cntF xs c xs.length k = t at *
          generalize us.getD k 0 = u at *
          have hcM := (F1.out.oM.grew' hM.out.gr).cell (i := k) (x := (t : Int)) hcM0
          rcases Nat.eq_zero_or_pos t with ht | ht
          · have HDV := Lib.hid (show cl .f32 0 = dV xs ys c k by rw [HdV.out, if_neg (by omega)])
            have hng : decide ((0 : Int) < (t : Int)) = false := decide_eq_false (by omega)
            have i0 : ¬ (0 : Int) < (t : Int) := by omega
            clear ht
            go_upto_region 20 with fail
            clear hcM hng

            have s2 : w2.heap.size + 1 + 1 < wr.heap.size := hM.out.lt
            have s1 : w2.heap.size ≤ wr.heap.size := by omega
            have r0 := hM.out.c0
            have f0 := hM.out.f0
            have hcM := (F1.out.oM.grew' hM.out.gr).cell (i := k) (x := (t : Int)) hcM0
            have s5 := (F1.out.oM.grew' hM.out.gr).lt
            try simp only [List.append_eq, List.cons_append, List.nil_append]
            refine wp_region_any (by kernel_rfl) ?_
            refine wpAny_tail'' [106] [(106, W2 <| OneF wr.heap.size (dS xs c k))] [0, 1, 2, 3, 4, 5, 6, 7, 8, 9, 10, 11] [12, 13, 14] (by kernel_rfl) (by kernel_rfl) (by kernel_rfl) (by kernel_rfl) (by kernel_rfl) (by kernel_rfl) (by kernel_rfl) (by kernel_rfl) (by simp) (by kernel_rfl) (by kernel_rfl) (by kernel_rfl) ?_
            simp only [picks, List.filterMap_cons, List.filterMap_nil, List.getElem?_cons_zero, List.getElem?_cons_succ]
            try go_simp
            repeat (first | (refine wpG_skip rfl ?_; try go_simp) | (refine wpG_want rfl (fun K hK => ?_); first | (refine gG_fbin rfl rfl _ _ _ rfl rfl rfl ?_; intro z hz hzw; go_simp; refine hK _ ?_; clear hK K) | (intro wq hq hp; obtain ⟨hqc, hqf⟩ := bcell hq; go_simp; first | (refine hK _ ?_; clear hK K; try clear hp; try clear hqc hqf; try clear hq; try clear wq) | (refine ⟨oneF_new (Below.size hq) (HQ.out _ (by assumption)) (by assumption), ?_⟩; refine hK _ ?_; clear hK K; try clear hp; try clear hqc hqf; try clear hq))))
            refine wpG_nil ?_
            intro wq hq hal hap
            obtain ⟨hqc, hqf⟩ := bcell hq
            have hqs := Below.size hq
            try simp at hqs
            clear hap
            have h54 := OneF.get (hal 106 (by simp)) (by simp [undef]) rfl
            obtain ⟨b1, r1, e1, hB1, hl1, hcell1, hcl1, hft1⟩ := h54
            simp at e1
            obtain rfl := e1
            have RQ := Lib.hid (hM.out.r1.grew (Nat.le_refl _) hq)
            refine wpList_append_own_at _ rfl _ _ 22 rfl w2.heap.size 23 i (.float .f32 0) 1 4 Try.underlying22 HI.out HI0.out HI1.out HI2.out rfl (by decide) _ _ _ rfl RQ.out.1 ⟨_, 0, none⟩ 1 _ [.float .f32 r1] rfl rfl (one_news hcell1) (by simp [Value.oneCell']) (by have := hzl.out; have := NN.out; unfold maxLen; omega) (by have := hzl.out; have := NN.out; omega) (by omega) ?_
            rintro v' w3 hown hgr _ hat
            have hP := Lib.hid (mix_push1 hM.out hq hown hgr hat hcl1)
            clear hown hgr hat
            obtain ⟨A9, n9, c9, rfl⟩ := hP.out.1.r1.sl
            have c9' := hP.out.2.1
            have f9' := hP.out.2.2
            have c8w := (cell_set_other w3 _ 0 1 _ (by omega)).symm.trans hP.out.1.c1
            have f8w := (frozen_set w3 _ 0 1 _ _).symm.trans hP.out.1.f1
            have hQ := Lib.hid hP.out.1
            simp only [Act.put, List.setIfInBounds_toArray, List.set_cons_zero, List.set_cons_succ]
            clear hcell1 hqc hqf hal RQ r0 f0 hcM
            go_wp2_with (at_builtin; (refine wpList_append_own_at _ rfl (.tmp 110) (.tmp 112) 22 rfl w2.heap.size 23 i (.float .f32 0) 1 4 Try.underlying22 HI.out HI0.out HI1.out HI2.out rfl (by decide) v2 us'.length _ rfl (RowAt.grew hQ.out.r2 (Nat.le_refl _) (grew_al (grew_refl _) _)).1 ⟨_, 0, none⟩ 1 _ [.float .f32 0] rfl rfl (cell_oneB _ _ _ _ (by simp [World.setCell])) (by simp [Value.oneCell']) (by have := hul.out; have := NN.out; unfold maxLen; omega) (by have := hul.out; have := NN.out; omega) (by have := hQ.out.ll; simp at this; simp; omega) ?_; rintro v4 w4 hown hgr _ hat; have hP2 := Lib.hid (mix_push2 hQ.out (grew_al (grew_refl _) _) hown hgr hat HDV.out); clear hown hgr hat; obtain ⟨A8, n8, c8, rfl⟩ := hP2.out.1.r2.sl; have c8' := hP2.out.2.1; have f8' := hP2.out.2.2))
            have hM4 := Lib.hid hP2.out.1
            rw [← HL1.out, ← HL2.out] at hM4
            go_roundw
            case rel => exact ⟨k + 1, _, _, zs ++ [_], us' ++ [_], by omega, by have e := HWR.out; simp [e], by show (zs ++ [_]).length = _; simp [hzl.out], by show (us' ++ [_]).length = _; simp [hul.out], hM4⟩
            case measure =>
              have e := HWR.out
              exact meas_less hlt e
          · have hcS := (F1.out.oS.grew' hM.out.gr).cell (i := k) (x := u) hcS0
            have hgt : decide ((0 : Int) < (t : Int)) = true := decide_eq_true (by omega)
            have i0 : (0 : Int) < (t : Int) := by omega
            go_wp2_with fail
            try simp only [List.append_eq, List.cons_append, List.nil_append]
            refine wp_region_drawnC (by kernel_rfl) (by kernel_rfl) ?_
            repeat (first | (refine wpFree_skip rfl ?_; try go_simp) | (refine wpFree_want rfl (fun K hK => ?_); first | (refine free_fbin drawn_draw rfl rfl _ _ _ rfl rfl ?_; intro z hz hzw; go_simp; refine hK _ ?_; clear hK K) | (intro wq hq; obtain ⟨hqc, hqf, hqh⟩ := drawn_cells hq; go_simp; first | (refine hK _ ?_; clear hK K; try clear hqc hqf; try clear hqh; try clear hq; try clear wq) | fail)))
            refine wpFree_nil ?_
            intro wq hq
            obtain ⟨nq, rfl⟩ := hq
            go_upto_region 20 with fail
            obtain ⟨sp, hsp⟩ : ∃ sp, sp = z := ⟨z, rfl⟩
            subst hsp
            have HDV2 := Lib.hid (show cl .f32 sp = dV xs ys c k by rw [HdV.out, if_pos ht, hz, HSM.out])
            have hM2 := Lib.hid (hM.out.drewN nq)
            clear hcM hcS hgt hz
            generalize wr.drewN nq = wr2 at *
            have s2 : w2.heap.size + 1 + 1 < wr2.heap.size := hM2.out.lt
            have s1 : w2.heap.size ≤ wr2.heap.size := by omega
            have r0 := hM2.out.c0
            have f0 := hM2.out.f0
            have hcM := (F1.out.oM.grew' hM2.out.gr).cell (i := k) (x := (t : Int)) hcM0
            have s5 := (F1.out.oM.grew' hM2.out.gr).lt
            try simp only [List.append_eq, List.cons_append, List.nil_append]
            refine wp_region_any (by kernel_rfl) ?_
            refine wpAny_tail'' [106] [(106, W2 <| OneF wr2.heap.size (dS xs c k))] [0, 1, 2, 3, 4, 5, 6, 7, 8, 9, 10, 11] [12, 13, 14] (by kernel_rfl) (by kernel_rfl) (by kernel_rfl) (by kernel_rfl) (by kernel_rfl) (by kernel_rfl) (by kernel_rfl) (by kernel_rfl) (by simp) (by kernel_rfl) (by kernel_rfl) (by kernel_rfl) ?_
            simp only [picks, List.filterMap_cons, List.filterMap_nil, List.getElem?_cons_zero, List.getElem?_cons_succ]
            try go_simp
            repeat (first | (refine wpG_skip rfl ?_; try go_simp) | (refine wpG_want rfl (fun K hK => ?_); first | (refine gG_fbin rfl rfl _ _ _ rfl rfl rfl ?_; intro z hz hzw; go_simp; refine hK _ ?_; clear hK K) | (intro wq hq hp; obtain ⟨hqc, hqf⟩ := bcell hq; go_simp; first | (refine hK _ ?_; clear hK K; try clear hp; try clear hqc hqf; try clear hq; try clear wq) | (refine ⟨oneF_new (Below.size hq) (HQ.out _ (by assumption)) (by assumption), ?_⟩; refine hK _ ?_; clear hK K; try clear hp; try clear hqc hqf; try clear hq))))
            refine wpG_nil ?_
            intro wq hq hal hap
            obtain ⟨hqc, hqf⟩ := bcell hq
            have hqs := Below.size hq
            try simp at hqs
            clear hap
            have h54 := OneF.get (hal 106 (by simp)) (by simp [undef]) rfl
            obtain ⟨b1, r1, e1, hB1, hl1, hcell1, hcl1, hft1⟩ := h54
            simp at e1
            obtain rfl := e1
            have RQ := Lib.hid (hM2.out.r1.grew (Nat.le_refl _) hq)
            refine wpList_append_own_at _ rfl _ _ 22 rfl w2.heap.size 23 i (.float .f32 0) 1 4 Try.underlying22 HI.out HI0.out HI1.out HI2.out rfl (by decide) _ _ _ rfl RQ.out.1 ⟨_, 0, none⟩ 1 _ [.float .f32 r1] rfl rfl (one_news hcell1) (by simp [Value.oneCell']) (by have := hzl.out; have := NN.out; unfold maxLen; omega) (by have := hzl.out; have := NN.out; omega) (by omega) ?_
            rintro v' w3 hown hgr _ hat
            have hP := Lib.hid (mix_push1 hM2.out hq hown hgr hat hcl1)
            clear hown hgr hat
            obtain ⟨A9, n9, c9, rfl⟩ := hP.out.1.r1.sl
            have c9' := hP.out.2.1
            have f9' := hP.out.2.2
            have c8w := (cell_set_other w3 _ 0 1 _ (by omega)).symm.trans hP.out.1.c1
            have f8w := (frozen_set w3 _ 0 1 _ _).symm.trans hP.out.1.f1
            have hQ := Lib.hid hP.out.1
            simp only [Act.put, List.setIfInBounds_toArray, List.set_cons_zero, List.set_cons_succ]
            clear hcell1 hqc hqf hal RQ r0 f0 hcM
            go_wp2_with (at_builtin; (refine wpList_append_own_at _ rfl (.tmp 110) (.tmp 112) 22 rfl w2.heap.size 23 i (.float .f32 0) 1 4 Try.underlying22 HI.out HI0.out HI1.out HI2.out rfl (by decide) v2 us'.length _ rfl (RowAt.grew hQ.out.r2 (Nat.le_refl _) (grew_al (grew_refl _) _)).1 ⟨_, 0, none⟩ 1 _ [.float .f32 sp] rfl rfl (cell_oneB _ _ _ _ (by simp [World.setCell])) (by simp [Value.oneCell']) (by have := hul.out; have := NN.out; unfold maxLen; omega) (by have := hul.out; have := NN.out; omega) (by have := hQ.out.ll; simp at this; simp; omega) ?_; rintro v4 w4 hown hgr _ hat; have hP2 := Lib.hid (mix_push2 hQ.out (grew_al (grew_refl _) _) hown hgr hat HDV2.out); clear hown hgr hat; obtain ⟨A8, n8, c8, rfl⟩ := hP2.out.1.r2.sl; have c8' := hP2.out.2.1; have f8' := hP2.out.2.2))
            have hM4 := Lib.hid hP2.out.1
            rw [← HL1.out, ← HL2.out] at hM4
            go_roundw
            case rel => exact ⟨k + 1, _, _, zs ++ [_], us' ++ [_], by omega, by have e := HWR.out; simp [e], by show (zs ++ [_]).length = _; simp [hzl.out], by show (us' ++ [_]).length = _; simp [hul.out], hM4⟩
            case measure =>
              have e := HWR.out
              exact meas_less hlt e
        · obtain rfl : k = c := by omega
          have i4 : ¬ (k : Int) < (k : Int) := by omega
          have s2 : w2.heap.size + 1 + 1 < wr.heap.size := hM.out.lt
          have r0 := hM.out.c0
          have r1 := hM.out.c1
          go_wp2_with fail
          have hzs : zs.length ≤ 1048576 := by have := NN.out; have := hzl.out; omega
          have hus : us'.length ≤ 1048576 := by have := NN.out; have := hul.out; omega
          have hbv : vRose zs us' = BB := by rw [← HB2.out]; unfold shL spL; rw [← hM.out.d1, ← hM.out.d2]; rfl
          have d1 := Lib.hid hM.out.d1
          have d2 := Lib.hid hM.out.d2
          have R1 := R2
          have G1 := G2
          have z1 := z2
          clear r0 r1 R2 G2
          have hRo : RoseAt wr w2.heap.size wr.heap.size (.agg #[_, _]) zs us' := ⟨_, _, rfl, hM.out.r1, hM.out.r2, hM.out.ap⟩
          have hGR : Grew w2 wr := hM.out.gr
          obtain ⟨a1, n1, m1, ea1⟩ := hM.out.r1.sl
          obtain ⟨a2, n2, m2, ea2⟩ := hM.out.r2.sl
          simp only [ea1, ea2] at hRo ⊢
          have hlo : w2.heap.size ≤ w2.heap.size := hM.out.hl
          clear hM ea1 ea2
          have hG := Lib.hid (grew_trans G1.out hGR)
          refine (c_l04Give _ _ _ _ _ _ hRo (Nat.le_refl _)).mono ?_
          rintro e w4 ⟨rfl, hg4⟩
          rw [hbv]
          have hRo4 := Lib.hid (hRo.grew (Nat.le_refl _) hg4)
          have hG4 := Lib.hid (grew_trans hG.out hg4)
          have R4 := Lib.hid ((R1.out.grew z1 hGR).grew (Nat.lt_of_lt_of_le z1 (Below.size hGR)) hg4)
          have hsz4 : wr.heap.size ≤ w4.heap.size := Below.size hg4
          have hw1 : w2.heap.size ≤ wr.heap.size := Below.size hGR
          have z4 : w.heap.size < w4.heap.size := by omega
          clear hg4 hRo hGR hbv
          obtain ⟨⟨b0, b1⟩, b2, b3⟩ := R4.out
          cases BB
          · simp only [Bool.false_eq_true, if_false, ZRO]
            go_wp2_with fail
            refine bodyPost_ret (v := .tuple #[ZRO, .bool false]) (by simp [results, Try.results38, go_sem, b0, b1, ZRO]) rfl ?_
            exact ⟨_, [], [], rfl, rose_nil _ _ _, HD.out, HE.out, (by repeat (first | (with_reducible exact hG4.out) | (with_reducible exact grw_refl _) | (with_reducible refine grew_draw _ _ ?_) | (with_reducible refine grew_al ?_ _) | (with_reducible refine grew_set ?_ ?_; rotate_left; omega)))⟩
          · simp only [if_true]
            go_wp2_with fail
            have e0 := (cell_set_other _ _ 1 0 (.slice a2 n2 m2) (by omega)).trans (cell_set_own _ _ 0 (.slice a1 n1 m1) _ b0)
            have e1 := cell_set_own _ _ 1 (.slice a2 n2 m2) _ ((cell_set_other _ _ 0 1 (.slice a1 n1 m1) (by omega)).trans b1)
            have hW : Wrote (w.heap.size) (w.heap.size + 1) w4 ((w4.setCell ⟨w.heap.size, 0, none⟩ (.slice a1 n1 m1)).setCell ⟨w.heap.size, 1, none⟩ (.slice a2 n2 m2)) := (Wrote.of_outside (outside_set _ _ _ _)).trans (Wrote.of_outside (outside_set _ _ _ _))
            obtain ⟨X, Y, he, h1, h2, h3⟩ := hRo4.out
            have hz3 : w.heap.size ≤ w2.heap.size := by have := Below.size G1.out; omega
            have hG5 : Grew w ((w4.setCell ⟨w.heap.size, 0, none⟩ (.slice a1 n1 m1)).setCell ⟨w.heap.size, 1, none⟩ (.slice a2 n2 m2)) := grew_set (grew_set hG4.out (by omega)) (by omega)
            have hsz5 : wr.heap.size ≤ ((w4.setCell ⟨w.heap.size, 0, none⟩ (.slice a1 n1 m1)).setCell ⟨w.heap.size, 1, none⟩ (.slice a2 n2 m2)).heap.size := Nat.le_trans hsz4 hW.size
            have hRo5 : RoseAt ((w4.setCell ⟨w.heap.size, 0, none⟩ (.slice a1 n1 m1)).setCell ⟨w.heap.size, 1, none⟩ (.slice a2 n2 m2)) w.heap.size _ (.agg #[.slice a1 n1 m1, .slice a2 n2 m2]) zs us' :=
              ⟨X, Y, he, (h1.wrote hsz4 hW (.inr (by omega))).mono hz3 hsz5, (h2.wrote hsz4 hW (.inr (by omega))).mono hz3 hsz5, h3⟩
            generalize ((w4.setCell ⟨w.heap.size, 0, none⟩ (.slice a1 n1 m1)).setCell ⟨w.heap.size, 1, none⟩ (.slice a2 n2 m2)) = w5 at *
            refine bodyPost_ret (v := .tuple #[.agg #[.slice a1 n1 m1, .slice a2 n2 m2], .bool true]) (by simp [results, Try.results38, go_sem, e0, e1]) rfl ?_
            exact ⟨_, zs, us', rfl, hRo5, by first | exact d1.out.trans HD.out | exact HD.out, by first | exact d2.out.trans HE.out | exact HE.out, hG5⟩

end Go.Proofs.Ytebhefbpkcpnjaa
